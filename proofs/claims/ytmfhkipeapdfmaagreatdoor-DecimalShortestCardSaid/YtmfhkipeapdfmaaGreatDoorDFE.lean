import Derived.Test.YtmfhkipeapdfmaaGreatDoorDQ6
import Derived.Test.YtmfhkipeapdfmaaGreatDoorFX
namespace Go.Q
open Go
set_option maxRecDepth 10000
set_option maxHeartbeats 2000000
noncomputable instance:Fc float.shape:=⟨fun x k=>float.shape.rec (motive:=fun _=>_) (fun a b=>Fc.fc a fun a=>Fc.fc b fun b=>k ⟨a,b⟩) x,fun x k=>by cases x; simp only [Fc.eq]⟩
noncomputable instance:Fc float.number:=⟨fun x k=>float.number.rec (motive:=fun _=>_) (fun a b c d=>Fc.fc a fun a=>Fc.fc b fun b=>Fc.fc c fun c=>Fc.fc d fun d=>k ⟨a,b,c,d⟩) x,fun x k=>by cases x; simp only [Fc.eq]⟩
noncomputable instance:Fc float.exact:=⟨fun x k=>float.exact.rec (motive:=fun _=>_) (fun a b c d=>Fc.fc a fun a=>Fc.fc b fun b=>Fc.fc c fun c=>Fc.fc d fun d=>k ⟨a,b,c,d⟩) x,fun x k=>by cases x; simp only [Fc.eq]⟩
noncomputable instance:Fc decimal.parsed:=⟨fun x k=>decimal.parsed.rec (motive:=fun _=>_) (fun a b c d=>Fc.fc a fun a=>Fc.fc b fun b=>Fc.fc c fun c=>Fc.fc d fun d=>k ⟨a,b,c,d⟩) x,fun x k=>by cases x; simp only [Fc.eq]⟩
def Strs.TrimLeft.c (s t:ByteArray):Option ByteArray:=chkD (t = ⟨#[48]⟩) (some (B (Lib.trimLeftB (L s) 48)))
theorem Strs.TrimLeft.c_le (s t:ByteArray):Le (Strs.TrimLeft.c s t) (Strs.TrimLeft s t):=Le.chk (Le.refl _)
def Strs.TrimRight.c (s t:ByteArray):Option ByteArray:=chkD (s.size ≤ 9223372036854775807 ∧ t = ⟨#[48]⟩) (some (B (Lib.trimRightB (L s) 48)))
theorem Strs.TrimRight.c_le (s t:ByteArray):Le (Strs.TrimRight.c s t) (Strs.TrimRight s t):=Le.chk (Le.refl _)
def Strs.Repeat.c (s:ByteArray) (c:Int):Option ByteArray:=chkD (0 ≤ c ∧ c ≤ 9223372036854775807 ∧ s.size * c.toNat ≤ 140737488355328) (some (B (Lib.repeatL (L s) c.toNat)))
theorem Strs.Repeat.c_le (s:ByteArray) (c:Int):Le (Strs.Repeat.c s c) (Strs.Repeat s c):=Le.chk (Le.refl _)
def Strs.Contains.c (s t:ByteArray):Option Bool:=chkD (s.size < 4294967281) (some (Lib.contains (L s) (L t)))
theorem Strs.Contains.c_le (s t:ByteArray):Le (Strs.Contains.c s t) (Strs.Contains s t):=Le.chk (Le.refl _)
def Strconv.Atoi.c (s:ByteArray):Option (Int × Unit):=chkD (s.size ≤ 9223372036854775806) (match Lib.atoiAll (L s) with | .ok v=>some (v,()) | _=>none)
theorem Strconv.Atoi.c_le (s:ByteArray):Le (Strconv.Atoi.c s) (Strconv.Atoi s):=Le.chk (Le.refl _)
def dsF:Nat → Nat → BS
  | 0,_=>[]
  | f + 1,n=>if n = 0 then [] else dsF f (n / 10) ++ [dc (n % 10)]
theorem dsF_eq:∀ f n,n < 10 ^ f → dsF f n = ds n
  | 0,n,h=>by
    obtain rfl:n = 0:=by simpa using h
    rw [ds_zero]; rfl
  | f + 1,n,h=>by
    unfold dsF
    by_cases h0:n = 0
    · rw [if_pos h0,h0,ds_zero]
    · rw [if_neg h0,dsF_eq f (n / 10) (by rw [Nat.pow_succ] at h; omega),← ds_pos (by omega)]
def Strconv.Itoa.c (n:Int):Option ByteArray:=chkD (0 < n ∧ n.toNat < 10 ^ 18) (some (B (dsF 18 n.toNat)))
theorem Strconv.Itoa.c_le (n:Int):Le (Strconv.Itoa.c n) (Strconv.Itoa n):=by
  intro r e
  unfold Strconv.Itoa.c chkD at e
  by_cases hc:0 < n ∧ n.toNat < 10 ^ 18
  · rw [decide_eq_true hc] at e
    obtain ⟨m,rfl⟩:∃ m:Nat,n = m:=⟨n.toNat,by omega⟩
    rw [Int.toNat_natCast] at hc e
    have h1:m < 1000000000000000000:=hc.2
    rw [Itoa_eq (by omega),itoa_ds (by omega),← dsF_eq 18 m hc.2]; exact e
  · rw [decide_eq_false hc] at e; cases e
def vlG:List Int → Nat
  | []=>0
  | x :: r=>x.toNat + 1000000000 * vlG r
def cnG:List Int → Bool
  | []=>true
  | [x]=>decide (0 < x) && decide (x < 1000000000)
  | x :: r=>decide (0 ≤ x) && decide (x < 1000000000) && cnG r
theorem vlG_eq:∀ l,cnG l = true → G (vlG l) = l ∧ (l ≠ [] → 0 < vlG l)
  | [],_=>⟨dgB_zero _,fun h=>absurd rfl h⟩
  | x :: r,h=>by
    have hx:0 ≤ x ∧ x < 1000000000 ∧ cnG r = true ∧ (r = [] → 0 < x):=by
      cases r with
      | nil=>simp only [cnG,Bool.and_eq_true,decide_eq_true_eq] at h; exact ⟨by omega,h.2,rfl,fun _=>h.1⟩
      | cons y s=>simp only [cnG,Bool.and_eq_true,decide_eq_true_eq] at h; exact ⟨h.1.1,h.1.2,h.2,fun h0=>by cases h0⟩
    obtain ⟨h1,h2⟩:=vlG_eq r hx.2.2.1
    have hpos:0 < vlG (x :: r):=by
      show 0 < x.toNat + 1000000000 * vlG r
      by_cases hr:r = []
      · have:=hx.2.2.2 hr; omega
      · have:=h2 hr; omega
    refine ⟨?_,fun _=>hpos⟩
    unfold G
    rw [dgB_cons h9 hpos]
    have e1:vlG (x :: r) % 1000000000 = x.toNat:=by show (x.toNat + 1000000000 * vlG r) % 1000000000 = _; omega
    have e2:vlG (x :: r) / 1000000000 = vlG r:=by show (x.toNat + 1000000000 * vlG r) / 1000000000 = _; omega
    rw [e1,e2,show ((x.toNat:Nat):Int) = x by omega]
    exact congrArg _ h1
def Dec.big.digits.c (l:List Int):Option ByteArray:=chkD (cnG l = true ∧ l.length ≤ 100000 ∧ vlG l < 10 ^ 200) (some (B (dsF 200 (vlG l))))
theorem Dec.big.digits.c_le (l:List Int):Le (Dec.big.digits.c l) (Dec.big.digits l):=by
  intro r e
  unfold Dec.big.digits.c chkD at e
  by_cases hc:cnG l = true ∧ l.length ≤ 100000 ∧ vlG l < 10 ^ 200
  · rw [decide_eq_true hc] at e
    obtain ⟨h1,_⟩:=vlG_eq l hc.1
    have hl:lnB 1000000000 (vlG l) ≤ 100000:=by
      have:(G (vlG l)).length = lnB 1000000000 (vlG l):=dgB_len _ _
      rw [h1] at this; omega
    have:=digits_eq hl
    rw [h1] at this
    rw [this,← dsF_eq 200 _ hc.2.2]; exact e
  · rw [decide_eq_false hc] at e; cases e
def Bits.Len64.c (x:Int):Option Int:=chkD (0 ≤ x ∧ x ≤ 18446744073709551615) (some (Lib.bitLen x.toNat))
theorem Bits.Len64.c_le (x:Int):Le (Bits.Len64.c x) (Bits.Len64 x):=Le.chk (Le.refl _)
def Bits.TrailingZeros64.c (x:Int):Option Int:=chkD (0 ≤ x ∧ x ≤ 18446744073709551615) (some (Lib.ctz 64 x.toNat))
theorem Bits.TrailingZeros64.c_le (x:Int):Le (Bits.TrailingZeros64.c x) (Bits.TrailingZeros64 x):=Le.chk (Le.refl _)
noncomputable def Flt.of.c (a:Int):Option (float.shape × Bool) :=
 letkF (a == (2:Int)) fun b =>
 bif b then
 some ((⟨11,5⟩:float.shape),true)
 else
 letkF (a == (4:Int)) fun c =>
 bif c then
 some ((⟨24,8⟩:float.shape),true)
 else
 letkF (a == (8:Int)) fun d =>
 bif d then
 some ((⟨53,11⟩:float.shape),true)
 else
 some ((⟨0,0⟩:float.shape),false)
theorem Flt.of.c_le (a:Int):Le (Flt.of.c a) (Flt.of a):=by
 unfold Flt.of.c Flt.of
 with_reducible repeat' first | refine Le.letkF rfl fun z=>?_ | refine Le.bif ?_ ?_ | exact Le.refl _
noncomputable def Flt.shape.top.c (a:float.shape):Option Int :=
 chkD (0 ≤ a.w) <|
 letkF (IntKind.u64.wrap ((1:Int) * 2 ^ (min a.w.toNat (IntKind.u64).bits))) fun b =>
 letkF (IntKind.u64.wrap (b - (1:Int))) fun c =>
 some c
theorem Flt.shape.top.c_le (a:float.shape):Le (Flt.shape.top.c a) (Flt.shape.top a):=by
 unfold Flt.shape.top.c Flt.shape.top
 with_reducible repeat' first | refine Le.letkF rfl fun z=>?_ | refine Le.chk ?_ | exact Le.refl _
noncomputable def Flt.shape.bias.c (a:float.shape):Option Int :=
 letkF (IntKind.i64.wrap (a.w - (1:Int))) fun b =>
 chkD (0 ≤ b) <|
 letkF (IntKind.i64.wrap ((1:Int) * 2 ^ (min b.toNat (IntKind.i64).bits))) fun c =>
 letkF (IntKind.i64.wrap (c - (1:Int))) fun d =>
 some d
theorem Flt.shape.bias.c_le (a:float.shape):Le (Flt.shape.bias.c a) (Flt.shape.bias a):=by
 unfold Flt.shape.bias.c Flt.shape.bias
 with_reducible repeat' first | refine Le.letkF rfl fun z=>?_ | refine Le.chk ?_ | exact Le.refl _
noncomputable def Flt.shape.least.c (a:float.shape):Option Int :=
 bindF (Flt.shape.bias.c (⟨a.p,a.w⟩:float.shape)) fun b =>
 letkF (IntKind.i64.wrap ((2:Int) - b)) fun c =>
 letkF (IntKind.i64.wrap (c - a.p)) fun d =>
 some d
theorem Flt.shape.least.c_le (a:float.shape):Le (Flt.shape.least.c a) (Flt.shape.least a):=by
 unfold Flt.shape.least.c Flt.shape.least
 with_reducible repeat' first | refine Le.letkF rfl fun z=>?_ | exact Flt.shape.bias.c_le .. | refine Le.bindF ?_ fun z=>?_ | exact Le.refl _
noncomputable def Flt.shape.read.j2.c (a:Int) (b:Int) (c:Int) (d:Int) (e:Int) (f:Int) (g:Int) (h:Int) (i:Int) (j:Int) (k:Int) (l:Int) (m:Bool):Option (float.number × Bool) :=
 bif m then
 some ((⟨0,j,k,l⟩:float.number),true)
 else
 letkF (a == (0:Int)) fun n =>
 bif n then
 bindF (Flt.shape.least.c (⟨c,d⟩:float.shape)) fun o =>
 some ((⟨1,j,b,o⟩:float.number),true)
 else
 letkF (IntKind.i64.wrap (c - (1:Int))) fun p =>
 chkD (0 ≤ p) <|
 letkF (IntKind.u64.wrap ((1:Int) * 2 ^ (min p.toNat (IntKind.u64).bits))) fun q =>
 letkF (IntKind.u64.wrap (BitVec.ofInt (IntKind.u64).bits b ||| BitVec.ofInt (IntKind.u64).bits q).toNat) fun r =>
 letkF (IntKind.i64.wrap a) fun s =>
 bindF (Flt.shape.bias.c (⟨c,d⟩:float.shape)) fun t =>
 letkF (IntKind.i64.wrap (s - t)) fun u =>
 letkF (IntKind.i64.wrap (u - c)) fun v =>
 letkF (IntKind.i64.wrap (v + (1:Int))) fun w =>
 some ((⟨1,j,r,w⟩:float.number),true)
theorem Flt.shape.read.j2.c_le (a:Int) (b:Int) (c:Int) (d:Int) (e:Int) (f:Int) (g:Int) (h:Int) (i:Int) (j:Int) (k:Int) (l:Int) (m:Bool):Le (Flt.shape.read.j2.c a b c d e f g h i j k l m) (Flt.shape.read.j2 a b c d e f g h i j k l m):=by
 unfold Flt.shape.read.j2.c Flt.shape.read.j2
 with_reducible repeat' first | refine Le.letkF rfl fun z=>?_ | refine Le.chk ?_ | refine Le.bif ?_ ?_ | exact Flt.shape.bias.c_le .. | exact Flt.shape.least.c_le .. | refine Le.bindF ?_ fun z=>?_ | exact Le.refl _
noncomputable def Flt.shape.read.j1.c (a:Int) (b:Int) (c:Int) (d:Int) (e:Int) (f:Int) (g:Int) (h:Int) (i:Int) (j:Int) (k:Int) (l:Int) (m:Bool):Option (float.number × Bool) :=
 bif m then
 some ((⟨2,j,k,l⟩:float.number),true)
 else
 bindF (Flt.shape.top.c (⟨c,d⟩:float.shape)) fun n =>
 letkF (a == n) fun o =>
 bif o then
 some ((⟨3,j,k,l⟩:float.number),true)
 else
 letkF (a == (0:Int)) fun p =>
 bif p then
 letkF (b == (0:Int)) fun q =>
 Flt.shape.read.j2.c a b c d e f g h i j k l q
 else
 Flt.shape.read.j2.c a b c d e f g h i j k l false
theorem Flt.shape.read.j1.c_le (a:Int) (b:Int) (c:Int) (d:Int) (e:Int) (f:Int) (g:Int) (h:Int) (i:Int) (j:Int) (k:Int) (l:Int) (m:Bool):Le (Flt.shape.read.j1.c a b c d e f g h i j k l m) (Flt.shape.read.j1 a b c d e f g h i j k l m):=by
 unfold Flt.shape.read.j1.c Flt.shape.read.j1
 with_reducible repeat' first | refine Le.letkF rfl fun z=>?_ | refine Le.bif ?_ ?_ | exact Flt.shape.top.c_le .. | exact Flt.shape.read.j2.c_le .. | refine Le.bindF ?_ fun z=>?_ | exact Le.refl _
noncomputable def Flt.shape.read.j0.c (a:Int) (b:Int) (c:Int) (d:Int) (e:Int) (f:Int) (g:Int) (h:Int):Option (float.number × Bool) :=
 letkF (IntKind.i64.wrap (b - (1:Int))) fun i =>
 chkD (0 ≤ i) <|
 letkF ((IntKind.u64,a.fdiv (2 ^ (min i.toNat (IntKind.u64).bits))).2) fun j =>
 letkF (IntKind.u64.wrap (BitVec.ofInt (IntKind.u64).bits j &&& BitVec.ofInt (IntKind.u64).bits (1:Int)).toNat) fun k =>
 letkF (IntKind.i64.wrap k) fun l =>
 letkF (IntKind.i64.wrap (c - (1:Int))) fun m =>
 chkD (0 ≤ m) <|
 letkF ((IntKind.u64,a.fdiv (2 ^ (min m.toNat (IntKind.u64).bits))).2) fun n =>
 bindF (Flt.shape.top.c (⟨c,d⟩:float.shape)) fun o =>
 letkF (IntKind.u64.wrap (BitVec.ofInt (IntKind.u64).bits n &&& BitVec.ofInt (IntKind.u64).bits o).toNat) fun p =>
 letkF (IntKind.i64.wrap (c - (1:Int))) fun q =>
 chkD (0 ≤ q) <|
 letkF (IntKind.u64.wrap ((1:Int) * 2 ^ (min q.toNat (IntKind.u64).bits))) fun r =>
 letkF (IntKind.u64.wrap (r - (1:Int))) fun s =>
 letkF (IntKind.u64.wrap (BitVec.ofInt (IntKind.u64).bits a &&& BitVec.ofInt (IntKind.u64).bits s).toNat) fun t =>
 bindF (Flt.shape.top.c (⟨c,d⟩:float.shape)) fun u =>
 letkF (p == u) fun v =>
 bif v then
 letkF (t == (0:Int)) fun w =>
 Flt.shape.read.j1.c p t c d e f g h 0 l 0 0 w
 else
 Flt.shape.read.j1.c p t c d e f g h 0 l 0 0 false
theorem Flt.shape.read.j0.c_le (a:Int) (b:Int) (c:Int) (d:Int) (e:Int) (f:Int) (g:Int) (h:Int):Le (Flt.shape.read.j0.c a b c d e f g h) (Flt.shape.read.j0 a b c d e f g h):=by
 unfold Flt.shape.read.j0.c Flt.shape.read.j0
 with_reducible repeat' first | refine Le.letkF rfl fun z=>?_ | refine Le.chk ?_ | refine Le.bif ?_ ?_ | exact Flt.shape.top.c_le .. | exact Flt.shape.read.j1.c_le .. | refine Le.bindF ?_ fun z=>?_ | exact Le.refl _
noncomputable def Flt.shape.read.j3.c (a:float.shape) (b:Int) (c:Int) (d:Bool):Option (float.number × Bool) :=
 bif d then
 some ((⟨0,0,0,0⟩:float.number),false)
 else
 Flt.shape.read.j0.c b c a.p a.w 0 0 0 0
theorem Flt.shape.read.j3.c_le (a:float.shape) (b:Int) (c:Int) (d:Bool):Le (Flt.shape.read.j3.c a b c d) (Flt.shape.read.j3 a b c d):=by
 unfold Flt.shape.read.j3.c Flt.shape.read.j3
 with_reducible repeat' first | refine Le.bif ?_ ?_ | exact Flt.shape.read.j0.c_le .. | exact Le.refl _
noncomputable def Flt.shape.read.c (a:float.shape) (b:Int):Option (float.number × Bool) :=
 letkF (IntKind.u64.wrap b) fun c =>
 letkF (IntKind.i64.wrap (a.p + a.w)) fun d =>
 letkF (decide (d < (64:Int))) fun e =>
 bif e then
 chkD (0 ≤ d) <|
 letkF ((IntKind.u64,c.fdiv (2 ^ (min d.toNat (IntKind.u64).bits))).2) fun f =>
 letkF (f != (0:Int)) fun g =>
 Flt.shape.read.j3.c a c d g
 else
 Flt.shape.read.j3.c a c d false
theorem Flt.shape.read.c_le (a:float.shape) (b:Int):Le (Flt.shape.read.c a b) (Flt.shape.read a b):=by
 unfold Flt.shape.read.c Flt.shape.read
 with_reducible repeat' first | refine Le.letkF rfl fun z=>?_ | refine Le.chk ?_ | refine Le.bif ?_ ?_ | exact Flt.shape.read.j3.c_le .. | exact Le.refl _
noncomputable def Flt.Valid.c (a:Int) (b:Int):Option Bool :=
 bindF (Flt.of.c a) fun (c,d) =>
 letkF (!d) fun e =>
 bif e then
 some false
 else
 bindF (Flt.shape.read.c (⟨c.p,c.w⟩:float.shape) b) fun (f,g) =>
 some g
theorem Flt.Valid.c_le (a:Int) (b:Int):Le (Flt.Valid.c a b) (Flt.Valid a b):=by
 unfold Flt.Valid.c Flt.Valid
 with_reducible repeat' first | refine Le.letkF rfl fun z=>?_ | refine Le.bif ?_ ?_ | exact Flt.of.c_le .. | exact Flt.shape.read.c_le .. | refine Le.bindF ?_ fun z=>?_ | exact Le.refl _ | (rcases z with ⟨_,_⟩; dsimp only)
noncomputable def Dec.isKind.c (a:Int) (b:Int):Option Bool :=
 bindF (Flt.Valid.c a 0) fun c =>
 bif c then
 letkF (decide (b ≥ (0:Int))) fun d =>
 bif d then
 letkF (decide (b ≤ (3:Int))) fun e =>
 some e
 else
 some false
 else
 some false
theorem Dec.isKind.c_le (a:Int) (b:Int):Le (Dec.isKind.c a b) (Dec.isKind a b):=by
 unfold Dec.isKind.c Dec.isKind
 with_reducible repeat' first | refine Le.letkF rfl fun z=>?_ | refine Le.bif ?_ ?_ | exact Flt.Valid.c_le .. | refine Le.bindF ?_ fun z=>?_ | exact Le.refl _
noncomputable def Dec.digitsOf.s0.c (a:ByteArray) (b:Int):Option (Int ⊕ ByteArray) :=
 letkF ((a.size:Int)) fun c =>
 letkF (decide (b < c)) fun d =>
 bif d then
 chkD (0 ≤ b ∧ b < (a.size:Int)) <|
 letkF (bt a b) fun e =>
 letkF (decide (e ≥ (48:Int))) fun f =>
 bif f then
 chkD (0 ≤ b ∧ b < (a.size:Int)) <|
 letkF (bt a b) fun g =>
 letkF (decide (g ≤ (57:Int))) fun h =>
 bif h then
 letkF (IntKind.i64.wrap (b + (1:Int))) fun i =>
 some (.inl i)
 else
 ((
 chkD (0 ≤ b ∧ b ≤ (a.size:Int)) <|
 letkF (a.extract 0 b.toNat) fun j =>
 some j)).map .inr
 else
 ((
 chkD (0 ≤ b ∧ b ≤ (a.size:Int)) <|
 letkF (a.extract 0 b.toNat) fun k =>
 some k)).map .inr
 else
 ((
 chkD (0 ≤ b ∧ b ≤ (a.size:Int)) <|
 letkF (a.extract 0 b.toNat) fun l =>
 some l)).map .inr
theorem Dec.digitsOf.s0.c_le (a:ByteArray) (b:Int):Le (Dec.digitsOf.s0.c a b) (Dec.digitsOf.s0 a b):=by
 unfold Dec.digitsOf.s0.c Dec.digitsOf.s0
 with_reducible repeat' first | refine Le.letkF rfl fun z=>?_ | refine Le.chk ?_ | refine Le.bif ?_ ?_ | refine Le.map ?_ | exact Le.refl _
noncomputable def Dec.digitsOf.l0.c (a:ByteArray) (b:Int):Option ByteArray:=iterO (fun v:Int=>Dec.digitsOf.s0.c a v) 3000 b
theorem Dec.digitsOf.l0.c_le (a:ByteArray) (b:Int):Le (Dec.digitsOf.l0.c a b) (Dec.digitsOf.l0 a b):=by
 unfold Dec.digitsOf.l0.c Dec.digitsOf.l0
 with_reducible repeat' first | refine Le.loop fun s=>?_ | exact Dec.digitsOf.s0.c_le .. | exact Le.refl _
noncomputable def Dec.digitsOf.c (a:ByteArray):Option ByteArray :=
 Dec.digitsOf.l0.c a 0
theorem Dec.digitsOf.c_le (a:ByteArray):Le (Dec.digitsOf.c a) (Dec.digitsOf a):=by
 unfold Dec.digitsOf.c Dec.digitsOf
 with_reducible repeat' first | exact Dec.digitsOf.l0.c_le .. | exact Le.refl _
noncomputable def Slite.HasPrefix.c (a:ByteArray) (b:ByteArray):Option Bool :=
 letkF ((a.size:Int)) fun c =>
 letkF ((b.size:Int)) fun d =>
 letkF (decide (c ≥ d)) fun e =>
 bif e then
 letkF ((b.size:Int)) fun f =>
 chkD (0 ≤ f ∧ f ≤ (a.size:Int)) <|
 letkF (a.extract 0 f.toNat) fun g =>
 letkF (g.data.toList == b.data.toList) fun h =>
 some h
 else
 some false
theorem Slite.HasPrefix.c_le (a:ByteArray) (b:ByteArray):Le (Slite.HasPrefix.c a b) (Slite.HasPrefix a b):=by
 unfold Slite.HasPrefix.c Slite.HasPrefix
 with_reducible repeat' first | refine Le.letkF (by first | rfl | simp only [Lib.toList_data]) fun z=>?_ | refine Le.chk ?_ | refine Le.bif ?_ ?_ | exact Le.refl _
noncomputable def Strs.HasPrefix.c (a:ByteArray) (b:ByteArray):Option Bool :=
 bindF (Slite.HasPrefix.c a b) fun c =>
 some c
theorem Strs.HasPrefix.c_le (a:ByteArray) (b:ByteArray):Le (Strs.HasPrefix.c a b) (Strs.HasPrefix a b):=by
 unfold Strs.HasPrefix.c Strs.HasPrefix
 with_reducible repeat' first | exact Slite.HasPrefix.c_le .. | refine Le.bindF ?_ fun z=>?_ | exact Le.refl _
noncomputable def Dec.parse.j6.c (a:Int) (b:ByteArray) (c:ByteArray) (d:Int) (e:Int):Option (decimal.parsed × Bool) :=
 letkF (IntKind.i64.wrap (d + e)) fun f =>
 some ((⟨a,b,c,f⟩:decimal.parsed),true)
theorem Dec.parse.j6.c_le (a:Int) (b:ByteArray) (c:ByteArray) (d:Int) (e:Int):Le (Dec.parse.j6.c a b c d e) (Dec.parse.j6 a b c d e):=by
 unfold Dec.parse.j6.c Dec.parse.j6
 with_reducible repeat' first | refine Le.letkF rfl fun z=>?_ | exact Le.refl _
noncomputable def Dec.parse.j5.c (a:ByteArray) (b:Int) (c:ByteArray) (d:ByteArray) (e:Int) (f:Bool):Option (decimal.parsed × Bool) :=
 bindF (Strconv.Atoi.c a) fun (g,h) =>
 bif f then
 letkF (IntKind.i64.wrap (0 - g)) fun i =>
 Dec.parse.j6.c b c d e i
 else
 Dec.parse.j6.c b c d e g
theorem Dec.parse.j5.c_le (a:ByteArray) (b:Int) (c:ByteArray) (d:ByteArray) (e:Int) (f:Bool):Le (Dec.parse.j5.c a b c d e f) (Dec.parse.j5 a b c d e f):=by
 unfold Dec.parse.j5.c Dec.parse.j5
 with_reducible repeat' first | refine Le.letkF rfl fun z=>?_ | refine Le.bif ?_ ?_ | exact Dec.parse.j6.c_le .. | exact Strconv.Atoi.c_le .. | refine Le.bindF ?_ fun z=>?_ | exact Le.refl _ | (rcases z with ⟨_,_⟩; dsimp only)
noncomputable def Dec.parse.j7.c (a:ByteArray) (b:Int) (c:ByteArray) (d:ByteArray) (e:Int) (f:Bool) (g:Bool):Option (decimal.parsed × Bool) :=
 bif g then
 some ((⟨b,c,d,e⟩:decimal.parsed),false)
 else
 Dec.parse.j5.c a b c d e f
theorem Dec.parse.j7.c_le (a:ByteArray) (b:Int) (c:ByteArray) (d:ByteArray) (e:Int) (f:Bool) (g:Bool):Le (Dec.parse.j7.c a b c d e f g) (Dec.parse.j7 a b c d e f g):=by
 unfold Dec.parse.j7.c Dec.parse.j7
 with_reducible repeat' first | refine Le.bif ?_ ?_ | exact Dec.parse.j5.c_le .. | exact Le.refl _
noncomputable def Dec.parse.j4.c (a:ByteArray) (b:Int) (c:ByteArray) (d:ByteArray) (e:Int) (f:Bool):Option (decimal.parsed × Bool) :=
 letkF (a.data.toList == (⟨#[]⟩:ByteArray).data.toList) fun g =>
 bif g then
 Dec.parse.j7.c a b c d e f true
 else
 letkF ((a.size:Int)) fun h =>
 letkF (decide (h > (4:Int))) fun i =>
 bif i then
 Dec.parse.j7.c a b c d e f true
 else
 bindF (Dec.digitsOf.c a) fun j =>
 letkF (!(j.data.toList == a.data.toList)) fun k =>
 Dec.parse.j7.c a b c d e f k
theorem Dec.parse.j4.c_le (a:ByteArray) (b:Int) (c:ByteArray) (d:ByteArray) (e:Int) (f:Bool):Le (Dec.parse.j4.c a b c d e f) (Dec.parse.j4 a b c d e f):=by
 unfold Dec.parse.j4.c Dec.parse.j4
 with_reducible repeat' first | refine Le.letkF (by first | rfl | simp only [Lib.toList_data]) fun z=>?_ | refine Le.bif ?_ ?_ | exact Dec.digitsOf.c_le .. | exact Dec.parse.j7.c_le .. | refine Le.bindF ?_ fun z=>?_ | exact Le.refl _
noncomputable def Dec.parse.j3.c (a:ByteArray) (b:Int) (c:ByteArray) (d:ByteArray) (e:Int):Option (decimal.parsed × Bool) :=
 letkF (a.data.toList == (⟨#[]⟩:ByteArray).data.toList) fun f =>
 bif f then
 some ((⟨b,c,d,e⟩:decimal.parsed),true)
 else
 chkD (0 ≤ (1:Int) ∧ (1:Int) ≤ (a.size:Int)) <|
 letkF (a.extract 0 ((1:Int).toNat)) fun g =>
 bindF (Strs.Contains.c ⟨#[101,69,100,68]⟩ g) fun h =>
 letkF (!h) fun i =>
 bif i then
 some ((⟨b,c,d,e⟩:decimal.parsed),false)
 else
 chkD (0 ≤ (1:Int) ∧ (1:Int) ≤ (a.size:Int)) <|
 letkF (a.extract (1:Int).toNat a.size) fun j =>
 bindF (Strs.HasPrefix.c j ⟨#[45]⟩) fun k =>
 bif k then
 chkD (0 ≤ (1:Int) ∧ (1:Int) ≤ (j.size:Int)) <|
 letkF (j.extract (1:Int).toNat j.size) fun l =>
 Dec.parse.j4.c l b c d e true
 else
 bindF (Strs.HasPrefix.c j ⟨#[43]⟩) fun m =>
 bif m then
 chkD (0 ≤ (1:Int) ∧ (1:Int) ≤ (j.size:Int)) <|
 letkF (j.extract (1:Int).toNat j.size) fun n =>
 Dec.parse.j4.c n b c d e false
 else
 Dec.parse.j4.c j b c d e false
theorem Dec.parse.j3.c_le (a:ByteArray) (b:Int) (c:ByteArray) (d:ByteArray) (e:Int):Le (Dec.parse.j3.c a b c d e) (Dec.parse.j3 a b c d e):=by
 unfold Dec.parse.j3.c Dec.parse.j3
 with_reducible repeat' first | refine Le.letkF (by first | rfl | simp only [Lib.toList_data]) fun z=>?_ | refine Le.chk ?_ | refine Le.bif ?_ ?_ | exact Strs.HasPrefix.c_le .. | exact Dec.parse.j4.c_le .. | exact Strs.Contains.c_le .. | refine Le.bindF ?_ fun z=>?_ | exact Le.refl _
noncomputable def Dec.parse.j8.c (a:ByteArray) (b:Int) (c:ByteArray) (d:ByteArray) (e:Int) (f:Bool):Option (decimal.parsed × Bool) :=
 bif f then
 some ((⟨b,c,d,e⟩:decimal.parsed),false)
 else
 Dec.parse.j3.c a b c d e
theorem Dec.parse.j8.c_le (a:ByteArray) (b:Int) (c:ByteArray) (d:ByteArray) (e:Int) (f:Bool):Le (Dec.parse.j8.c a b c d e f) (Dec.parse.j8 a b c d e f):=by
 unfold Dec.parse.j8.c Dec.parse.j8
 with_reducible repeat' first | refine Le.bif ?_ ?_ | exact Dec.parse.j3.c_le .. | exact Le.refl _
noncomputable def Dec.parse.j2.c (a:ByteArray) (b:ByteArray) (c:Int) (d:ByteArray) (e:ByteArray) (f:Int) (g:ByteArray):Option (decimal.parsed × Bool) :=
 chkD (((a.size + g.size:Nat):Int) ≤ 9223372036854775807) <|
 letkF (a ++ g) fun h =>
 letkF ((a.size:Int)) fun i =>
 letkF (h.data.toList == (⟨#[]⟩:ByteArray).data.toList) fun j =>
 bif j then
 Dec.parse.j8.c b c d h i true
 else
 letkF ((h.size:Int)) fun k =>
 letkF (decide (k > (60:Int))) fun l =>
 Dec.parse.j8.c b c d h i l
theorem Dec.parse.j2.c_le (a:ByteArray) (b:ByteArray) (c:Int) (d:ByteArray) (e:ByteArray) (f:Int) (g:ByteArray):Le (Dec.parse.j2.c a b c d e f g) (Dec.parse.j2 a b c d e f g):=by
 unfold Dec.parse.j2.c Dec.parse.j2
 with_reducible repeat' first | refine Le.letkF (by first | rfl | simp only [Lib.toList_data]) fun z=>?_ | refine Le.chk ?_ | refine Le.bif ?_ ?_ | exact Dec.parse.j8.c_le .. | exact Le.refl _
noncomputable def Dec.parse.j1.c (a:ByteArray) (b:Int) (c:ByteArray) (d:ByteArray) (e:Int):Option (decimal.parsed × Bool) :=
 bindF (Dec.digitsOf.c a) fun f =>
 letkF ((f.size:Int)) fun g =>
 chkD (0 ≤ g ∧ g ≤ (a.size:Int)) <|
 letkF (a.extract g.toNat a.size) fun h =>
 bindF (Strs.HasPrefix.c h ⟨#[46]⟩) fun i =>
 bif i then
 chkD (0 ≤ (1:Int) ∧ (1:Int) ≤ (h.size:Int)) <|
 letkF (h.extract (1:Int).toNat h.size) fun j =>
 bindF (Dec.digitsOf.c j) fun k =>
 letkF ((k.size:Int)) fun l =>
 letkF (IntKind.i64.wrap ((1:Int) + l)) fun m =>
 chkD (0 ≤ m ∧ m ≤ (h.size:Int)) <|
 letkF (h.extract m.toNat h.size) fun n =>
 Dec.parse.j2.c f n b c d e k
 else
 Dec.parse.j2.c f h b c d e (⟨#[]⟩)
theorem Dec.parse.j1.c_le (a:ByteArray) (b:Int) (c:ByteArray) (d:ByteArray) (e:Int):Le (Dec.parse.j1.c a b c d e) (Dec.parse.j1 a b c d e):=by
 unfold Dec.parse.j1.c Dec.parse.j1
 with_reducible repeat' first | refine Le.letkF rfl fun z=>?_ | refine Le.chk ?_ | refine Le.bif ?_ ?_ | exact Dec.digitsOf.c_le .. | exact Strs.HasPrefix.c_le .. | exact Dec.parse.j2.c_le .. | refine Le.bindF ?_ fun z=>?_ | exact Le.refl _
noncomputable def Dec.parse.j9.c (a:ByteArray) (b:Int) (c:ByteArray) (d:ByteArray) (e:Int) (f:Bool):Option (decimal.parsed × Bool) :=
 bif f then
 some ((⟨b,a,d,e⟩:decimal.parsed),true)
 else
 Dec.parse.j1.c a b c d e
theorem Dec.parse.j9.c_le (a:ByteArray) (b:Int) (c:ByteArray) (d:ByteArray) (e:Int) (f:Bool):Le (Dec.parse.j9.c a b c d e f) (Dec.parse.j9 a b c d e f):=by
 unfold Dec.parse.j9.c Dec.parse.j9
 with_reducible repeat' first | refine Le.bif ?_ ?_ | exact Dec.parse.j1.c_le .. | exact Le.refl _
noncomputable def Dec.parse.j0.c (a:ByteArray) (b:Int) (c:ByteArray) (d:ByteArray) (e:Int):Option (decimal.parsed × Bool) :=
 letkF (a.data.toList == (⟨#[105,110,102]⟩:ByteArray).data.toList) fun f =>
 bif f then
 Dec.parse.j9.c a b c d e true
 else
 letkF (a.data.toList == (⟨#[110,97,110]⟩:ByteArray).data.toList) fun g =>
 Dec.parse.j9.c a b c d e g
theorem Dec.parse.j0.c_le (a:ByteArray) (b:Int) (c:ByteArray) (d:ByteArray) (e:Int):Le (Dec.parse.j0.c a b c d e) (Dec.parse.j0 a b c d e):=by
 unfold Dec.parse.j0.c Dec.parse.j0
 with_reducible repeat' first | refine Le.letkF (by first | rfl | simp only [Lib.toList_data]) fun z=>?_ | refine Le.bif ?_ ?_ | exact Dec.parse.j9.c_le .. | exact Le.refl _
noncomputable def Dec.parse.j10.c (a:ByteArray) (b:Bool):Option (decimal.parsed × Bool) :=
 bif b then
 chkD (0 ≤ (0:Int) ∧ (0:Int) < (a.size:Int)) <|
 letkF (bt a (0:Int)) fun c =>
 letkF (c == (45:Int)) fun d =>
 bif d then
 chkD (0 ≤ (1:Int) ∧ (1:Int) ≤ (a.size:Int)) <|
 letkF (a.extract (1:Int).toNat a.size) fun e =>
 Dec.parse.j0.c e 1 (⟨#[]⟩) (⟨#[]⟩) 0
 else
 chkD (0 ≤ (1:Int) ∧ (1:Int) ≤ (a.size:Int)) <|
 letkF (a.extract (1:Int).toNat a.size) fun f =>
 Dec.parse.j0.c f 0 (⟨#[]⟩) (⟨#[]⟩) 0
 else
 Dec.parse.j0.c a 0 (⟨#[]⟩) (⟨#[]⟩) 0
theorem Dec.parse.j10.c_le (a:ByteArray) (b:Bool):Le (Dec.parse.j10.c a b) (Dec.parse.j10 a b):=by
 unfold Dec.parse.j10.c Dec.parse.j10
 with_reducible repeat' first | refine Le.letkF rfl fun z=>?_ | refine Le.chk ?_ | refine Le.bif ?_ ?_ | exact Dec.parse.j0.c_le .. | exact Le.refl _
noncomputable def Dec.parse.c (a:ByteArray):Option (decimal.parsed × Bool) :=
 letkF (!(a.data.toList == (⟨#[]⟩:ByteArray).data.toList)) fun b =>
 bif b then
 chkD (0 ≤ (0:Int) ∧ (0:Int) < (a.size:Int)) <|
 letkF (bt a (0:Int)) fun c =>
 letkF (c == (45:Int)) fun d =>
 bif d then
 Dec.parse.j10.c a true
 else
 chkD (0 ≤ (0:Int) ∧ (0:Int) < (a.size:Int)) <|
 letkF (bt a (0:Int)) fun e =>
 letkF (e == (43:Int)) fun f =>
 Dec.parse.j10.c a f
 else
 Dec.parse.j10.c a false
theorem Dec.parse.c_le (a:ByteArray):Le (Dec.parse.c a) (Dec.parse a):=by
 unfold Dec.parse.c Dec.parse
 with_reducible repeat' first | refine Le.letkF (by first | rfl | simp only [Lib.toList_data]) fun z=>?_ | refine Le.chk ?_ | refine Le.bif ?_ ?_ | exact Dec.parse.j10.c_le .. | exact Le.refl _
noncomputable def Flt.shape.pack.c (a:float.shape) (b:Int) (c:Int) (d:Int):Option Int :=
 letkF (IntKind.u64.wrap b) fun e =>
 letkF (IntKind.i64.wrap (a.p + a.w)) fun f =>
 letkF (IntKind.i64.wrap (f - (1:Int))) fun g =>
 chkD (0 ≤ g) <|
 letkF (IntKind.u64.wrap (e * 2 ^ (min g.toNat (IntKind.u64).bits))) fun h =>
 letkF (IntKind.i64.wrap (a.p - (1:Int))) fun i =>
 chkD (0 ≤ i) <|
 letkF (IntKind.u64.wrap (c * 2 ^ (min i.toNat (IntKind.u64).bits))) fun j =>
 letkF (IntKind.u64.wrap (BitVec.ofInt (IntKind.u64).bits h ||| BitVec.ofInt (IntKind.u64).bits j).toNat) fun k =>
 letkF (IntKind.u64.wrap (BitVec.ofInt (IntKind.u64).bits k ||| BitVec.ofInt (IntKind.u64).bits d).toNat) fun l =>
 letkF (IntKind.i64.wrap l) fun m =>
 some m
theorem Flt.shape.pack.c_le (a:float.shape) (b:Int) (c:Int) (d:Int):Le (Flt.shape.pack.c a b c d) (Flt.shape.pack a b c d):=by
 unfold Flt.shape.pack.c Flt.shape.pack
 with_reducible repeat' first | refine Le.letkF rfl fun z=>?_ | refine Le.chk ?_ | exact Le.refl _
noncomputable def Flt.shape.zero.c (a:float.shape) (b:Int):Option Int :=
 bindF (Flt.shape.pack.c (⟨a.p,a.w⟩:float.shape) b 0 0) fun c =>
 some c
theorem Flt.shape.zero.c_le (a:float.shape) (b:Int):Le (Flt.shape.zero.c a b) (Flt.shape.zero a b):=by
 unfold Flt.shape.zero.c Flt.shape.zero
 with_reducible repeat' first | exact Flt.shape.pack.c_le .. | refine Le.bindF ?_ fun z=>?_ | exact Le.refl _
noncomputable def Flt.exact.long.c (a:float.exact):Option Int :=
 letkF (a.hi != (0:Int)) fun b =>
 bif b then
 bindF (Bits.Len64.c a.hi) fun c =>
 letkF (IntKind.i64.wrap ((64:Int) + c)) fun d =>
 some d
 else
 bindF (Bits.Len64.c a.lo) fun e =>
 some e
theorem Flt.exact.long.c_le (a:float.exact):Le (Flt.exact.long.c a) (Flt.exact.long a):=by
 unfold Flt.exact.long.c Flt.exact.long
 with_reducible repeat' first | refine Le.letkF rfl fun z=>?_ | refine Le.bif ?_ ?_ | exact Bits.Len64.c_le .. | refine Le.bindF ?_ fun z=>?_ | exact Le.refl _
noncomputable def Flt.exact.right.j2.c (a:Int) (b:Bool) (c:Bool) (d:Bool):Option (Int × Int) :=
 bif d then
 some (a,3)
 else
 bif b then
 some (a,2)
 else
 bif c then
 some (a,1)
 else
 some (a,0)
theorem Flt.exact.right.j2.c_le (a:Int) (b:Bool) (c:Bool) (d:Bool):Le (Flt.exact.right.j2.c a b c d) (Flt.exact.right.j2 a b c d):=by
 unfold Flt.exact.right.j2.c Flt.exact.right.j2
 with_reducible repeat' first | refine Le.bif ?_ ?_ | exact Le.refl _
noncomputable def Flt.exact.right.j1.c (a:Int) (b:Bool) (c:Bool):Option (Int × Int) :=
 bif b then
 Flt.exact.right.j2.c a true c c
 else
 Flt.exact.right.j2.c a false c false
theorem Flt.exact.right.j1.c_le (a:Int) (b:Bool) (c:Bool):Le (Flt.exact.right.j1.c a b c) (Flt.exact.right.j1 a b c):=by
 unfold Flt.exact.right.j1.c Flt.exact.right.j1
 with_reducible repeat' first | refine Le.bif ?_ ?_ | exact Flt.exact.right.j2.c_le .. | exact Le.refl _
noncomputable def Flt.exact.right.j0.c (a:Int) (b:Int) (c:Bool) (d:Bool):Option (Int × Int) :=
 letkF (decide (a > (0:Int))) fun e =>
 bif e then
 Flt.exact.right.j1.c b false true
 else
 Flt.exact.right.j1.c b c d
theorem Flt.exact.right.j0.c_le (a:Int) (b:Int) (c:Bool) (d:Bool):Le (Flt.exact.right.j0.c a b c d) (Flt.exact.right.j0 a b c d):=by
 unfold Flt.exact.right.j0.c Flt.exact.right.j0
 with_reducible repeat' first | refine Le.letkF rfl fun z=>?_ | refine Le.bif ?_ ?_ | exact Flt.exact.right.j1.c_le .. | exact Le.refl _
noncomputable def Flt.exact.right.j4.c (a:Int) (b:Int) (c:Int) (d:Bool):Option ((Int × Int × Int × Bool × Bool) ⊕ (Int × Int)) :=
 letkF (IntKind.u64.wrap (BitVec.ofInt (IntKind.u64).bits c &&& BitVec.ofInt (IntKind.u64).bits (1:Int)).toNat) fun e =>
 letkF (e == (1:Int)) fun f =>
 chkD (0 ≤ (1:Int)) <|
 letkF ((IntKind.u64,c.fdiv (2 ^ (min (1:Int).toNat (IntKind.u64).bits))).2) fun g =>
 chkD (0 ≤ (63:Int)) <|
 letkF (IntKind.u64.wrap (b * 2 ^ (min (63:Int).toNat (IntKind.u64).bits))) fun h =>
 letkF (IntKind.u64.wrap (BitVec.ofInt (IntKind.u64).bits g ||| BitVec.ofInt (IntKind.u64).bits h).toNat) fun i =>
 chkD (0 ≤ (1:Int)) <|
 letkF ((IntKind.u64,b.fdiv (2 ^ (min (1:Int).toNat (IntKind.u64).bits))).2) fun j =>
 letkF (IntKind.i64.wrap (a - (1:Int))) fun k =>
 some (.inl (k,j,i,f,d))
theorem Flt.exact.right.j4.c_le (a:Int) (b:Int) (c:Int) (d:Bool):Le (Flt.exact.right.j4.c a b c d) (Flt.exact.right.j4 a b c d):=by
 unfold Flt.exact.right.j4.c Flt.exact.right.j4
 with_reducible repeat' first | refine Le.letkF rfl fun z=>?_ | refine Le.chk ?_ | exact Le.refl _
noncomputable def Flt.exact.right.j3.c (a:Int) (b:Int) (c:Int) (d:Bool) (e:Bool):Option ((Int × Int × Int × Bool × Bool) ⊕ (Int × Int)) :=
 bif e then
 Flt.exact.right.j4.c a b c true
 else
 Flt.exact.right.j4.c a b c d
theorem Flt.exact.right.j3.c_le (a:Int) (b:Int) (c:Int) (d:Bool) (e:Bool):Le (Flt.exact.right.j3.c a b c d e) (Flt.exact.right.j3 a b c d e):=by
 unfold Flt.exact.right.j3.c Flt.exact.right.j3
 with_reducible repeat' first | refine Le.bif ?_ ?_ | exact Flt.exact.right.j4.c_le .. | exact Le.refl _
noncomputable def Flt.exact.right.s0.c (a:Int) (b:Int) (c:Int) (d:Bool) (e:Bool):Option ((Int × Int × Int × Bool × Bool) ⊕ (Int × Int)) :=
 letkF (decide (a > (0:Int))) fun f =>
 bif f then
 letkF (b != (0:Int)) fun g =>
 bif g then
 Flt.exact.right.j3.c a b c d e
 else
 letkF (c != (0:Int)) fun h =>
 bif h then
 Flt.exact.right.j3.c a b c d e
 else
 bif d then
 Flt.exact.right.j3.c a b c true e
 else
 (Flt.exact.right.j0.c a c false e).map .inr
 else
 (Flt.exact.right.j0.c a c d e).map .inr
theorem Flt.exact.right.s0.c_le (a:Int) (b:Int) (c:Int) (d:Bool) (e:Bool):Le (Flt.exact.right.s0.c a b c d e) (Flt.exact.right.s0 a b c d e):=by
 unfold Flt.exact.right.s0.c Flt.exact.right.s0
 with_reducible repeat' first | refine Le.letkF rfl fun z=>?_ | refine Le.bif ?_ ?_ | refine Le.map ?_ | exact Flt.exact.right.j0.c_le .. | exact Flt.exact.right.j3.c_le .. | exact Le.refl _
noncomputable def Flt.exact.right.l0.c (a:Int) (b:Int) (c:Int) (d:Bool) (e:Bool):Option (Int × Int):=iterO (fun v:Int × Int × Int × Bool × Bool=>Flt.exact.right.s0.c v.1 v.2.1 v.2.2.1 v.2.2.2.1 v.2.2.2.2) 3000 (a,b,c,d,e)
theorem Flt.exact.right.l0.c_le (a:Int) (b:Int) (c:Int) (d:Bool) (e:Bool):Le (Flt.exact.right.l0.c a b c d e) (Flt.exact.right.l0 a b c d e):=by
 unfold Flt.exact.right.l0.c Flt.exact.right.l0
 with_reducible repeat' first | refine Le.loop fun s=>?_ | exact Flt.exact.right.s0.c_le .. | exact Le.refl _
noncomputable def Flt.exact.right.c (a:float.exact) (b:Int):Option (Int × Int) :=
 Flt.exact.right.l0.c b a.hi a.lo false a.more
theorem Flt.exact.right.c_le (a:float.exact) (b:Int):Le (Flt.exact.right.c a b) (Flt.exact.right a b):=by
 unfold Flt.exact.right.c Flt.exact.right
 with_reducible repeat' first | exact Flt.exact.right.l0.c_le .. | exact Le.refl _
noncomputable def Flt.away.c (a:Int) (b:Int) (c:Bool) (d:Int):Option Bool :=
 letkF (a == (0:Int)) fun e =>
 bif e then
 letkF (d == (3:Int)) fun f =>
 bif f then
 some true
 else
 letkF (d == (2:Int)) fun g =>
 bif g then
 some c
 else
 some false
 else
 letkF (a == (2:Int)) fun h =>
 bif h then
 letkF (decide (d > (0:Int))) fun i =>
 bif i then
 letkF (b == (1:Int)) fun j =>
 some j
 else
 some false
 else
 letkF (a == (3:Int)) fun k =>
 bif k then
 letkF (decide (d > (0:Int))) fun l =>
 bif l then
 letkF (b == (0:Int)) fun m =>
 some m
 else
 some false
 else
 some false
theorem Flt.away.c_le (a:Int) (b:Int) (c:Bool) (d:Int):Le (Flt.away.c a b c d) (Flt.away a b c d):=by
 unfold Flt.away.c Flt.away
 with_reducible repeat' first | refine Le.letkF rfl fun z=>?_ | refine Le.bif ?_ ?_ | exact Le.refl _
noncomputable def Flt.shape.greatest.c (a:float.shape) (b:Int):Option Int :=
 bindF (Flt.shape.top.c (⟨a.p,a.w⟩:float.shape)) fun c =>
 letkF (IntKind.u64.wrap (c - (1:Int))) fun d =>
 letkF (IntKind.i64.wrap (a.p - (1:Int))) fun e =>
 chkD (0 ≤ e) <|
 letkF (IntKind.u64.wrap ((1:Int) * 2 ^ (min e.toNat (IntKind.u64).bits))) fun f =>
 letkF (IntKind.u64.wrap (f - (1:Int))) fun g =>
 bindF (Flt.shape.pack.c (⟨a.p,a.w⟩:float.shape) b d g) fun h =>
 some h
theorem Flt.shape.greatest.c_le (a:float.shape) (b:Int):Le (Flt.shape.greatest.c a b) (Flt.shape.greatest a b):=by
 unfold Flt.shape.greatest.c Flt.shape.greatest
 with_reducible repeat' first | refine Le.letkF rfl fun z=>?_ | refine Le.chk ?_ | exact Flt.shape.top.c_le .. | exact Flt.shape.pack.c_le .. | refine Le.bindF ?_ fun z=>?_ | exact Le.refl _
noncomputable def Flt.shape.infinite.c (a:float.shape) (b:Int):Option Int :=
 bindF (Flt.shape.top.c (⟨a.p,a.w⟩:float.shape)) fun c =>
 bindF (Flt.shape.pack.c (⟨a.p,a.w⟩:float.shape) b c 0) fun d =>
 some d
theorem Flt.shape.infinite.c_le (a:float.shape) (b:Int):Le (Flt.shape.infinite.c a b) (Flt.shape.infinite a b):=by
 unfold Flt.shape.infinite.c Flt.shape.infinite
 with_reducible repeat' first | exact Flt.shape.top.c_le .. | exact Flt.shape.pack.c_le .. | refine Le.bindF ?_ fun z=>?_ | exact Le.refl _
noncomputable def Flt.shape.round.j4.c (a:Int) (b:Int) (c:Int) (d:Bool):Option (Int × Int) :=
 bif d then
 bindF (Flt.shape.greatest.c (⟨b,c⟩:float.shape) a) fun e =>
 some (e,20)
 else
 bindF (Flt.shape.infinite.c (⟨b,c⟩:float.shape) a) fun f =>
 some (f,20)
theorem Flt.shape.round.j4.c_le (a:Int) (b:Int) (c:Int) (d:Bool):Le (Flt.shape.round.j4.c a b c d) (Flt.shape.round.j4 a b c d):=by
 unfold Flt.shape.round.j4.c Flt.shape.round.j4
 with_reducible repeat' first | refine Le.bif ?_ ?_ | exact Flt.shape.greatest.c_le .. | exact Flt.shape.infinite.c_le .. | refine Le.bindF ?_ fun z=>?_ | exact Le.refl _
noncomputable def Flt.shape.round.j3.c (a:Int) (b:Int) (c:Int) (d:Int) (e:Int) (f:Int) (g:Int):Option (Int × Int) :=
 letkF (IntKind.i64.wrap (d - (1:Int))) fun h =>
 chkD (0 ≤ h) <|
 letkF (IntKind.u64.wrap ((1:Int) * 2 ^ (min h.toNat (IntKind.u64).bits))) fun i =>
 letkF (decide (g < i)) fun j =>
 bif j then
 bindF (Flt.shape.pack.c (⟨d,e⟩:float.shape) b 0 g) fun k =>
 some (k,c)
 else
 letkF (IntKind.i64.wrap (f + d)) fun l =>
 letkF (IntKind.i64.wrap (l - (1:Int))) fun m =>
 bindF (Flt.shape.bias.c (⟨d,e⟩:float.shape)) fun n =>
 letkF (IntKind.i64.wrap (m + n)) fun o =>
 bindF (Flt.shape.top.c (⟨d,e⟩:float.shape)) fun p =>
 letkF (IntKind.i64.wrap p) fun q =>
 letkF (decide (o < q)) fun r =>
 bif r then
 letkF (IntKind.u64.wrap o) fun s =>
 letkF (IntKind.i64.wrap (d - (1:Int))) fun t =>
 chkD (0 ≤ t) <|
 letkF (IntKind.u64.wrap ((1:Int) * 2 ^ (min t.toNat (IntKind.u64).bits))) fun u =>
 letkF (IntKind.u64.wrap (u - (1:Int))) fun v =>
 letkF (IntKind.u64.wrap (BitVec.ofInt (IntKind.u64).bits g &&& BitVec.ofInt (IntKind.u64).bits v).toNat) fun w =>
 bindF (Flt.shape.pack.c (⟨d,e⟩:float.shape) b s w) fun x =>
 some (x,c)
 else
 letkF (a == (1:Int)) fun y =>
 bif y then
 Flt.shape.round.j4.c b d e true
 else
 letkF (a == (2:Int)) fun aa =>
 bif aa then
 letkF (b == (0:Int)) fun ab =>
 bif ab then
 Flt.shape.round.j4.c b d e true
 else
 letkF (a == (3:Int)) fun ac =>
 bif ac then
 letkF (b == (1:Int)) fun ad =>
 Flt.shape.round.j4.c b d e ad
 else
 Flt.shape.round.j4.c b d e false
 else
 letkF (a == (3:Int)) fun ae =>
 bif ae then
 letkF (b == (1:Int)) fun af =>
 Flt.shape.round.j4.c b d e af
 else
 Flt.shape.round.j4.c b d e false
theorem Flt.shape.round.j3.c_le (a:Int) (b:Int) (c:Int) (d:Int) (e:Int) (f:Int) (g:Int):Le (Flt.shape.round.j3.c a b c d e f g) (Flt.shape.round.j3 a b c d e f g):=by
 unfold Flt.shape.round.j3.c Flt.shape.round.j3
 with_reducible repeat' first | refine Le.letkF rfl fun z=>?_ | refine Le.chk ?_ | refine Le.bif ?_ ?_ | exact Flt.shape.top.c_le .. | exact Flt.shape.bias.c_le .. | exact Flt.shape.pack.c_le .. | exact Flt.shape.round.j4.c_le .. | refine Le.bindF ?_ fun z=>?_ | exact Le.refl _
noncomputable def Flt.shape.round.j2.c (a:Int) (b:Int) (c:Int) (d:Int) (e:Int) (f:Int) (g:Int):Option (Int × Int) :=
 chkD (0 ≤ e) <|
 letkF (IntKind.u64.wrap ((1:Int) * 2 ^ (min e.toNat (IntKind.u64).bits))) fun h =>
 letkF (g == h) fun i =>
 bif i then
 chkD (0 ≤ (1:Int)) <|
 letkF ((IntKind.u64,g.fdiv (2 ^ (min (1:Int).toNat (IntKind.u64).bits))).2) fun j =>
 letkF (IntKind.i64.wrap (c + (1:Int))) fun k =>
 Flt.shape.round.j3.c a b d e f k j
 else
 Flt.shape.round.j3.c a b d e f c g
theorem Flt.shape.round.j2.c_le (a:Int) (b:Int) (c:Int) (d:Int) (e:Int) (f:Int) (g:Int):Le (Flt.shape.round.j2.c a b c d e f g) (Flt.shape.round.j2 a b c d e f g):=by
 unfold Flt.shape.round.j2.c Flt.shape.round.j2
 with_reducible repeat' first | refine Le.letkF rfl fun z=>?_ | refine Le.chk ?_ | refine Le.bif ?_ ?_ | exact Flt.shape.round.j3.c_le .. | exact Le.refl _
noncomputable def Flt.shape.round.j1.c (a:Int) (b:Int) (c:Int) (d:Int) (e:Int) (f:Int) (g:Int) (h:Int):Option (Int × Int) :=
 letkF (IntKind.u64.wrap (BitVec.ofInt (IntKind.u64).bits d &&& BitVec.ofInt (IntKind.u64).bits (1:Int)).toNat) fun i =>
 letkF (i == (1:Int)) fun j =>
 bindF (Flt.away.c a b j e) fun k =>
 bif k then
 letkF (IntKind.u64.wrap (d + (1:Int))) fun l =>
 Flt.shape.round.j2.c a b c h f g l
 else
 Flt.shape.round.j2.c a b c h f g d
theorem Flt.shape.round.j1.c_le (a:Int) (b:Int) (c:Int) (d:Int) (e:Int) (f:Int) (g:Int) (h:Int):Le (Flt.shape.round.j1.c a b c d e f g h) (Flt.shape.round.j1 a b c d e f g h):=by
 unfold Flt.shape.round.j1.c Flt.shape.round.j1
 with_reducible repeat' first | refine Le.letkF rfl fun z=>?_ | refine Le.bif ?_ ?_ | exact Flt.away.c_le .. | exact Flt.shape.round.j2.c_le .. | refine Le.bindF ?_ fun z=>?_ | exact Le.refl _
noncomputable def Flt.shape.round.j0.c (a:Int) (b:Int) (c:Int) (d:Int) (e:Int) (f:Int) (g:Int) (h:Int):Option (Int × Int) :=
 letkF (decide (h > (0:Int))) fun i =>
 bif i then
 bindF (Flt.shape.least.c (⟨e,f⟩:float.shape)) fun j =>
 letkF (IntKind.i64.wrap (j + e)) fun k =>
 letkF (IntKind.i64.wrap (k - (1:Int))) fun l =>
 letkF (decide (c < l)) fun m =>
 bif m then
 letkF (IntKind.i64.wrap (BitVec.ofInt (IntKind.i64).bits (16:Int) ||| BitVec.ofInt (IntKind.i64).bits (8:Int)).toNat) fun n =>
 Flt.shape.round.j1.c a b d g h e f n
 else
 Flt.shape.round.j1.c a b d g h e f 16
 else
 Flt.shape.round.j1.c a b d g h e f 0
theorem Flt.shape.round.j0.c_le (a:Int) (b:Int) (c:Int) (d:Int) (e:Int) (f:Int) (g:Int) (h:Int):Le (Flt.shape.round.j0.c a b c d e f g h) (Flt.shape.round.j0 a b c d e f g h):=by
 unfold Flt.shape.round.j0.c Flt.shape.round.j0
 with_reducible repeat' first | refine Le.letkF rfl fun z=>?_ | refine Le.bif ?_ ?_ | exact Flt.shape.least.c_le .. | exact Flt.shape.round.j1.c_le .. | refine Le.bindF ?_ fun z=>?_ | exact Le.refl _
noncomputable def Flt.shape.round.c (a:float.shape) (b:Int) (c:Int) (d:float.exact):Option (Int × Int) :=
 bindF (Flt.exact.long.c (⟨d.hi,d.lo,d.e,d.more⟩:float.exact)) fun e =>
 letkF (IntKind.i64.wrap (d.e + e)) fun f =>
 letkF (IntKind.i64.wrap (f - (1:Int))) fun g =>
 letkF (IntKind.i64.wrap (g - a.p)) fun h =>
 letkF (IntKind.i64.wrap (h + (1:Int))) fun i =>
 bindF (Flt.shape.least.c (⟨a.p,a.w⟩:float.shape)) fun j =>
 letkF (if j > i then j else i) fun k =>
 letkF (decide (k ≤ d.e)) fun l =>
 bif l then
 letkF (IntKind.i64.wrap (d.e - k)) fun m =>
 chkD (0 ≤ m) <|
 letkF (IntKind.u64.wrap (d.lo * 2 ^ (min m.toNat (IntKind.u64).bits))) fun n =>
 Flt.shape.round.j0.c b c g k a.p a.w n 0
 else
 letkF (IntKind.i64.wrap (k - d.e)) fun o =>
 bindF (Flt.exact.right.c (⟨d.hi,d.lo,d.e,d.more⟩:float.exact) o) fun (p,q) =>
 Flt.shape.round.j0.c b c g k a.p a.w p q
theorem Flt.shape.round.c_le (a:float.shape) (b:Int) (c:Int) (d:float.exact):Le (Flt.shape.round.c a b c d) (Flt.shape.round a b c d):=by
 unfold Flt.shape.round.c Flt.shape.round
 with_reducible repeat' first | refine Le.letkF rfl fun z=>?_ | refine Le.chk ?_ | refine Le.bif ?_ ?_ | exact Flt.shape.least.c_le .. | exact Flt.exact.long.c_le .. | exact Flt.exact.right.c_le .. | exact Flt.shape.round.j0.c_le .. | refine Le.bindF ?_ fun z=>?_ | exact Le.refl _ | (rcases z with ⟨_,_⟩; dsimp only)
noncomputable def Flt.Make.j0.c (a:Int) (b:Int) (c:Int) (d:Int) (e:float.shape):Option (Int × Int × Int) :=
 letkF (c == (0:Int)) fun f =>
 bif f then
 bindF (Flt.shape.zero.c (⟨e.p,e.w⟩:float.shape) b) fun g =>
 some (g,0,0)
 else
 letkF (IntKind.u64.wrap c) fun h =>
 bindF (Flt.shape.round.c (⟨e.p,e.w⟩:float.shape) a b (⟨0,h,d,false⟩:float.exact)) fun (i,j) =>
 some (i,j,0)
theorem Flt.Make.j0.c_le (a:Int) (b:Int) (c:Int) (d:Int) (e:float.shape):Le (Flt.Make.j0.c a b c d e) (Flt.Make.j0 a b c d e):=by
 unfold Flt.Make.j0.c Flt.Make.j0
 with_reducible repeat' first | refine Le.letkF rfl fun z=>?_ | refine Le.bif ?_ ?_ | exact Flt.shape.zero.c_le .. | exact Flt.shape.round.c_le .. | refine Le.bindF ?_ fun z=>?_ | exact Le.refl _ | (rcases z with ⟨_,_⟩; dsimp only)
noncomputable def Flt.Make.c (a:Int) (b:Int) (c:Int) (d:Int) (e:Int):Option (Int × Int × Int) :=
 bindF (Flt.of.c a) fun (f,g) =>
 letkF (!g) fun h =>
 bif h then
 some (0,0,2)
 else
 letkF (decide (b < (0:Int))) fun i =>
 bif i then
 some (0,0,2)
 else
 letkF (decide (b ≥ (4:Int))) fun j =>
 bif j then
 some (0,0,2)
 else
 letkF (decide (c < (0:Int))) fun k =>
 bif k then
 some (0,0,2)
 else
 letkF (decide (c > (1:Int))) fun l =>
 bif l then
 some (0,0,2)
 else
 letkF (decide (d < (0:Int))) fun m =>
 bif m then
 some (0,0,2)
 else
 letkF (decide (e < ((-2000):Int))) fun n =>
 bif n then
 some (0,0,2)
 else
 letkF (decide (e > (2000:Int))) fun o =>
 bif o then
 some (0,0,2)
 else
 Flt.Make.j0.c b c d e f
theorem Flt.Make.c_le (a:Int) (b:Int) (c:Int) (d:Int) (e:Int):Le (Flt.Make.c a b c d e) (Flt.Make a b c d e):=by
 unfold Flt.Make.c Flt.Make
 with_reducible repeat' first | refine Le.letkF rfl fun z=>?_ | refine Le.bif ?_ ?_ | exact Flt.of.c_le .. | exact Flt.Make.j0.c_le .. | refine Le.bindF ?_ fun z=>?_ | exact Le.refl _ | (rcases z with ⟨_,_⟩; dsimp only)
noncomputable def Flt.two.j0.c (a:Int) (b:Int) (c:Int) (d:Int) (e:Int) (f:Int) (g:Int) (h:Int) (i:Int) (j:Int) (k:Int) (l:Int):Option (float.shape × float.number × float.number × Bool) :=
 bindF (Flt.shape.read.c (⟨c,d⟩:float.shape) a) fun (m,n) =>
 bindF (Flt.shape.read.c (⟨c,d⟩:float.shape) b) fun (o,p) =>
 bif n then
 some ((⟨c,d⟩:float.shape),(⟨m.class_,m.sign,m.m,m.e⟩:float.number),(⟨o.class_,o.sign,o.m,o.e⟩:float.number),p)
 else
 some ((⟨c,d⟩:float.shape),(⟨m.class_,m.sign,m.m,m.e⟩:float.number),(⟨o.class_,o.sign,o.m,o.e⟩:float.number),false)
theorem Flt.two.j0.c_le (a:Int) (b:Int) (c:Int) (d:Int) (e:Int) (f:Int) (g:Int) (h:Int) (i:Int) (j:Int) (k:Int) (l:Int):Le (Flt.two.j0.c a b c d e f g h i j k l) (Flt.two.j0 a b c d e f g h i j k l):=by
 unfold Flt.two.j0.c Flt.two.j0
 with_reducible repeat' first | refine Le.bif ?_ ?_ | exact Flt.shape.read.c_le .. | refine Le.bindF ?_ fun z=>?_ | exact Le.refl _ | (rcases z with ⟨_,_⟩; dsimp only)
noncomputable def Flt.two.j1.c (a:Int) (b:Int) (c:float.shape) (d:Bool):Option (float.shape × float.number × float.number × Bool) :=
 bif d then
 some ((⟨c.p,c.w⟩:float.shape),(⟨0,0,0,0⟩:float.number),(⟨0,0,0,0⟩:float.number),false)
 else
 Flt.two.j0.c a b c.p c.w 0 0 0 0 0 0 0 0
theorem Flt.two.j1.c_le (a:Int) (b:Int) (c:float.shape) (d:Bool):Le (Flt.two.j1.c a b c d) (Flt.two.j1 a b c d):=by
 unfold Flt.two.j1.c Flt.two.j1
 with_reducible repeat' first | refine Le.bif ?_ ?_ | exact Flt.two.j0.c_le .. | exact Le.refl _
noncomputable def Flt.two.c (a:Int) (b:Int) (c:Int) (d:Int):Option (float.shape × float.number × float.number × Bool) :=
 bindF (Flt.of.c a) fun (e,f) =>
 letkF (!f) fun g =>
 bif g then
 Flt.two.j1.c c d e true
 else
 letkF (decide (b < (0:Int))) fun h =>
 bif h then
 Flt.two.j1.c c d e true
 else
 letkF (decide (b ≥ (4:Int))) fun i =>
 Flt.two.j1.c c d e i
theorem Flt.two.c_le (a:Int) (b:Int) (c:Int) (d:Int):Le (Flt.two.c a b c d) (Flt.two a b c d):=by
 unfold Flt.two.c Flt.two
 with_reducible repeat' first | refine Le.letkF rfl fun z=>?_ | refine Le.bif ?_ ?_ | exact Flt.of.c_le .. | exact Flt.two.j1.c_le .. | refine Le.bindF ?_ fun z=>?_ | exact Le.refl _ | (rcases z with ⟨_,_⟩; dsimp only)
noncomputable def Flt.Sub.c (a:Int) (b:Int) (c:Int) (d:Int):Option (Int × Int × Int):=none
theorem Flt.Sub.c_le (a:Int) (b:Int) (c:Int) (d:Int):Le (Flt.Sub.c a b c d) (Flt.Sub a b c d):=Le.none _
noncomputable def Dec.word.c (a:Int) (b:decimal.parsed):Option Int :=
 bindF (Flt.Make.c a 0 b.sign 1 2000) fun (c,d,e) =>
 letkF (b.word.data.toList == (⟨#[110,97,110]⟩:ByteArray).data.toList) fun f =>
 bif f then
 bindF (Flt.Sub.c a 0 c c) fun (g,h,i) =>
 some g
 else
 some c
theorem Dec.word.c_le (a:Int) (b:decimal.parsed):Le (Dec.word.c a b) (Dec.word a b):=by
 unfold Dec.word.c Dec.word
 with_reducible repeat' first | refine Le.letkF (by first | rfl | simp only [Lib.toList_data]) fun z=>?_ | refine Le.bif ?_ ?_ | exact Flt.Make.c_le .. | exact Flt.Sub.c_le .. | refine Le.bindF ?_ fun z=>?_ | exact Le.refl _ | (rcases z with ⟨_,_⟩; dsimp only)
noncomputable def Dec.big.trim.j0.c (a:List Int):Option (((List Int)) ⊕ ((List Int))) :=
 letkF ((a.length:Int)) fun b =>
 letkF (IntKind.i64.wrap (b - (1:Int))) fun c =>
 chkD (0 ≤ c ∧ c ≤ (a.length:Int)) <|
 letkF ((a.drop 0).take (c.toNat - 0)) fun d =>
 some (.inl d)
theorem Dec.big.trim.j0.c_le (a:List Int):Le (Dec.big.trim.j0.c a) (Dec.big.trim.j0 a):=by
 unfold Dec.big.trim.j0.c Dec.big.trim.j0
 with_reducible repeat' first | refine Le.letkF rfl fun z=>?_ | refine Le.chk ?_ | exact Le.refl _
noncomputable def Dec.big.trim.s0.c (a:List Int):Option (((List Int)) ⊕ ((List Int))) :=
 letkF ((a.length:Int)) fun b =>
 letkF (decide (b > (0:Int))) fun c =>
 bif c then
 letkF ((a.length:Int)) fun d =>
 letkF (IntKind.i64.wrap (d - (1:Int))) fun e =>
 chkD (0 ≤ e) <|
 bindF (a[e.toNat]?) fun f =>
 letkF (f == (0:Int)) fun g =>
 bif g then
 Dec.big.trim.j0.c a
 else
 some (.inr a)
 else
 some (.inr a)
theorem Dec.big.trim.s0.c_le (a:List Int):Le (Dec.big.trim.s0.c a) (Dec.big.trim.s0 a):=by
 unfold Dec.big.trim.s0.c Dec.big.trim.s0
 with_reducible repeat' first | refine Le.letkF rfl fun z=>?_ | refine Le.chk ?_ | refine Le.bif ?_ ?_ | exact Dec.big.trim.j0.c_le .. | refine Le.bindF ?_ fun z=>?_ | exact Le.refl _
noncomputable def Dec.big.trim.l0.c (a:List Int):Option ((List Int)):=iterO (fun v:(List Int)=>Dec.big.trim.s0.c v) 3000 a
theorem Dec.big.trim.l0.c_le (a:List Int):Le (Dec.big.trim.l0.c a) (Dec.big.trim.l0 a):=by
 unfold Dec.big.trim.l0.c Dec.big.trim.l0
 with_reducible repeat' first | refine Le.loop fun s=>?_ | exact Dec.big.trim.s0.c_le .. | exact Le.refl _
noncomputable def Dec.big.trim.c (a:List Int):Option ((List Int)) :=
 Dec.big.trim.l0.c a
theorem Dec.big.trim.c_le (a:List Int):Le (Dec.big.trim.c a) (Dec.big.trim a):=by
 unfold Dec.big.trim.c Dec.big.trim
 with_reducible repeat' first | exact Dec.big.trim.l0.c_le .. | exact Le.refl _
noncomputable def Dec.whole.s0.c (a:ByteArray) (b:List Int) (c:Int):Option (((List Int) × Int) ⊕ ((List Int))) :=
 letkF (decide (c > (0:Int))) fun d =>
 bif d then
 letkF (IntKind.i64.wrap (c - (9:Int))) fun e =>
 letkF (if e > 0 then e else 0) fun f =>
 chkD (0 ≤ f ∧ f ≤ c ∧ c ≤ (a.size:Int)) <|
 letkF (a.extract f.toNat c.toNat) fun g =>
 bindF (Strconv.Atoi.c g) fun (h,i) =>
 chkD ((b.length + ([h]).length) * 8 ≤ 140737488355328) <|
 letkF (b ++ ([h])) fun j =>
 letkF (IntKind.i64.wrap (c - (9:Int))) fun k =>
 some (.inl (j,k))
 else
 ((
 bindF (Dec.big.trim.c b) fun l =>
 some l)).map .inr
theorem Dec.whole.s0.c_le (a:ByteArray) (b:List Int) (c:Int):Le (Dec.whole.s0.c a b c) (Dec.whole.s0 a b c):=by
 unfold Dec.whole.s0.c Dec.whole.s0
 with_reducible repeat' first | refine Le.letkF rfl fun z=>?_ | refine Le.chk ?_ | refine Le.bif ?_ ?_ | refine Le.map ?_ | exact Dec.big.trim.c_le .. | exact Strconv.Atoi.c_le .. | refine Le.bindF ?_ fun z=>?_ | exact Le.refl _ | (rcases z with ⟨_,_⟩; dsimp only)
noncomputable def Dec.whole.l0.c (a:ByteArray) (b:List Int) (c:Int):Option ((List Int)):=iterO (fun v:(List Int) × Int=>Dec.whole.s0.c a v.1 v.2) 3000 (b,c)
theorem Dec.whole.l0.c_le (a:ByteArray) (b:List Int) (c:Int):Le (Dec.whole.l0.c a b c) (Dec.whole.l0 a b c):=by
 unfold Dec.whole.l0.c Dec.whole.l0
 with_reducible repeat' first | refine Le.loop fun s=>?_ | exact Dec.whole.s0.c_le .. | exact Le.refl _
noncomputable def Dec.whole.c (a:ByteArray):Option ((List Int)) :=
 letkF ((a.size:Int)) fun b =>
 Dec.whole.l0.c a ([]) b
theorem Dec.whole.c_le (a:ByteArray):Le (Dec.whole.c a) (Dec.whole a):=by
 unfold Dec.whole.c Dec.whole
 with_reducible repeat' first | refine Le.letkF rfl fun z=>?_ | exact Dec.whole.l0.c_le .. | exact Le.refl _
noncomputable def Dec.big.times.s1.c (a:List Int) (b:Int):Option (((List Int) × Int) ⊕ ((List Int))) :=
 letkF (decide (b > (0:Int))) fun c =>
 bif c then
 chkD ((1000000000:Int) ≠ 0) <|
 letkF (b.tmod (1000000000:Int)) fun d =>
 chkD ((a.length + ([d]).length) * 8 ≤ 140737488355328) <|
 letkF (a ++ ([d])) fun e =>
 chkD ((1000000000:Int) ≠ 0) <|
 letkF (IntKind.i64.wrap (b.tdiv (1000000000:Int))) fun f =>
 some (.inl (e,f))
 else
 ((
 bindF (Dec.big.trim.c a) fun g =>
 some g)).map .inr
theorem Dec.big.times.s1.c_le (a:List Int) (b:Int):Le (Dec.big.times.s1.c a b) (Dec.big.times.s1 a b):=by
 unfold Dec.big.times.s1.c Dec.big.times.s1
 with_reducible repeat' first | refine Le.letkF rfl fun z=>?_ | refine Le.chk ?_ | refine Le.bif ?_ ?_ | refine Le.map ?_ | exact Dec.big.trim.c_le .. | refine Le.bindF ?_ fun z=>?_ | exact Le.refl _
noncomputable def Dec.big.times.l1.c (a:List Int) (b:Int):Option ((List Int)):=iterO (fun v:(List Int) × Int=>Dec.big.times.s1.c v.1 v.2) 3000 (a,b)
theorem Dec.big.times.l1.c_le (a:List Int) (b:Int):Le (Dec.big.times.l1.c a b) (Dec.big.times.l1 a b):=by
 unfold Dec.big.times.l1.c Dec.big.times.l1
 with_reducible repeat' first | refine Le.loop fun s=>?_ | exact Dec.big.times.s1.c_le .. | exact Le.refl _
noncomputable def Dec.big.times.s0.c (a:List Int) (b:Int) (c:Int) (d:List Int) (e:Int) (f:Int):Option (((List Int) × Int × Int) ⊕ ((List Int))) :=
 letkF (decide (f < c)) fun g =>
 bif g then
 chkD (0 ≤ f) <|
 bindF (a[f.toNat]?) fun h =>
 letkF (IntKind.i64.wrap (h * b)) fun i =>
 letkF (IntKind.i64.wrap (i + e)) fun j =>
 chkD ((1000000000:Int) ≠ 0) <|
 letkF (j.tmod (1000000000:Int)) fun k =>
 chkD ((d.length + ([k]).length) * 8 ≤ 140737488355328) <|
 letkF (d ++ ([k])) fun l =>
 chkD ((1000000000:Int) ≠ 0) <|
 letkF (IntKind.i64.wrap (j.tdiv (1000000000:Int))) fun m =>
 letkF (IntKind.i64.wrap (f + (1:Int))) fun n =>
 some (.inl (l,m,n))
 else
 (Dec.big.times.l1.c d e).map .inr
theorem Dec.big.times.s0.c_le (a:List Int) (b:Int) (c:Int) (d:List Int) (e:Int) (f:Int):Le (Dec.big.times.s0.c a b c d e f) (Dec.big.times.s0 a b c d e f):=by
 unfold Dec.big.times.s0.c Dec.big.times.s0
 with_reducible repeat' first | refine Le.letkF rfl fun z=>?_ | refine Le.chk ?_ | refine Le.bif ?_ ?_ | refine Le.map ?_ | exact Dec.big.times.l1.c_le .. | refine Le.bindF ?_ fun z=>?_ | exact Le.refl _
noncomputable def Dec.big.times.l0.c (a:List Int) (b:Int) (c:Int) (d:List Int) (e:Int) (f:Int):Option ((List Int)):=iterO (fun v:(List Int) × Int × Int=>Dec.big.times.s0.c a b c v.1 v.2.1 v.2.2) 3000 (d,e,f)
theorem Dec.big.times.l0.c_le (a:List Int) (b:Int) (c:Int) (d:List Int) (e:Int) (f:Int):Le (Dec.big.times.l0.c a b c d e f) (Dec.big.times.l0 a b c d e f):=by
 unfold Dec.big.times.l0.c Dec.big.times.l0
 with_reducible repeat' first | refine Le.loop fun s=>?_ | exact Dec.big.times.s0.c_le .. | exact Le.refl _
noncomputable def Dec.big.times.c (a:List Int) (b:Int):Option ((List Int)) :=
 letkF ((a.length:Int)) fun c =>
 Dec.big.times.l0.c a b c ([]) 0 0
theorem Dec.big.times.c_le (a:List Int) (b:Int):Le (Dec.big.times.c a b) (Dec.big.times a b):=by
 unfold Dec.big.times.c Dec.big.times
 with_reducible repeat' first | refine Le.letkF rfl fun z=>?_ | exact Dec.big.times.l0.c_le .. | exact Le.refl _
noncomputable def Dec.big.power.s2.c (a:Int) (b:List Int) (c:Int):Option (((List Int) × Int) ⊕ ((List Int))) :=
 letkF (decide (c > (0:Int))) fun d =>
 bif d then
 bindF (Dec.big.times.c b a) fun e =>
 letkF (IntKind.i64.wrap (c - (1:Int))) fun f =>
 some (.inl (e,f))
 else
 some (.inr b)
theorem Dec.big.power.s2.c_le (a:Int) (b:List Int) (c:Int):Le (Dec.big.power.s2.c a b c) (Dec.big.power.s2 a b c):=by
 unfold Dec.big.power.s2.c Dec.big.power.s2
 with_reducible repeat' first | refine Le.letkF rfl fun z=>?_ | refine Le.bif ?_ ?_ | exact Dec.big.times.c_le .. | refine Le.bindF ?_ fun z=>?_ | exact Le.refl _
noncomputable def Dec.big.power.l2.c (a:Int) (b:List Int) (c:Int):Option ((List Int)):=iterO (fun v:(List Int) × Int=>Dec.big.power.s2.c a v.1 v.2) 3000 (b,c)
theorem Dec.big.power.l2.c_le (a:Int) (b:List Int) (c:Int):Le (Dec.big.power.l2.c a b c) (Dec.big.power.l2 a b c):=by
 unfold Dec.big.power.l2.c Dec.big.power.l2
 with_reducible repeat' first | refine Le.loop fun s=>?_ | exact Dec.big.power.s2.c_le .. | exact Le.refl _
noncomputable def Dec.big.power.s1.c (a:Int) (b:Int) (c:List Int) (d:Int):Option (((List Int) × Int) ⊕ ((List Int))) :=
 letkF (decide (d ≥ (8:Int))) fun e =>
 bif e then
 bindF (Dec.big.times.c c b) fun f =>
 letkF (IntKind.i64.wrap (d - (8:Int))) fun g =>
 some (.inl (f,g))
 else
 (Dec.big.power.l2.c a c d).map .inr
theorem Dec.big.power.s1.c_le (a:Int) (b:Int) (c:List Int) (d:Int):Le (Dec.big.power.s1.c a b c d) (Dec.big.power.s1 a b c d):=by
 unfold Dec.big.power.s1.c Dec.big.power.s1
 with_reducible repeat' first | refine Le.letkF rfl fun z=>?_ | refine Le.bif ?_ ?_ | refine Le.map ?_ | exact Dec.big.times.c_le .. | exact Dec.big.power.l2.c_le .. | refine Le.bindF ?_ fun z=>?_ | exact Le.refl _
noncomputable def Dec.big.power.l1.c (a:Int) (b:Int) (c:List Int) (d:Int):Option ((List Int)):=iterO (fun v:(List Int) × Int=>Dec.big.power.s1.c a b v.1 v.2) 3000 (c,d)
theorem Dec.big.power.l1.c_le (a:Int) (b:Int) (c:List Int) (d:Int):Le (Dec.big.power.l1.c a b c d) (Dec.big.power.l1 a b c d):=by
 unfold Dec.big.power.l1.c Dec.big.power.l1
 with_reducible repeat' first | refine Le.loop fun s=>?_ | exact Dec.big.power.s1.c_le .. | exact Le.refl _
noncomputable def Dec.big.power.s0.c (a:List Int) (b:Int) (c:Int) (d:Int) (e:Int):Option ((Int × Int) ⊕ ((List Int))) :=
 letkF (decide (e < (8:Int))) fun f =>
 bif f then
 letkF (IntKind.i64.wrap (d * b)) fun g =>
 letkF (IntKind.i64.wrap (e + (1:Int))) fun h =>
 some (.inl (g,h))
 else
 (Dec.big.power.l1.c b d a c).map .inr
theorem Dec.big.power.s0.c_le (a:List Int) (b:Int) (c:Int) (d:Int) (e:Int):Le (Dec.big.power.s0.c a b c d e) (Dec.big.power.s0 a b c d e):=by
 unfold Dec.big.power.s0.c Dec.big.power.s0
 with_reducible repeat' first | refine Le.letkF rfl fun z=>?_ | refine Le.bif ?_ ?_ | refine Le.map ?_ | exact Dec.big.power.l1.c_le .. | exact Le.refl _
noncomputable def Dec.big.power.l0.c (a:List Int) (b:Int) (c:Int) (d:Int) (e:Int):Option ((List Int)):=iterO (fun v:Int × Int=>Dec.big.power.s0.c a b c v.1 v.2) 3000 (d,e)
theorem Dec.big.power.l0.c_le (a:List Int) (b:Int) (c:Int) (d:Int) (e:Int):Le (Dec.big.power.l0.c a b c d e) (Dec.big.power.l0 a b c d e):=by
 unfold Dec.big.power.l0.c Dec.big.power.l0
 with_reducible repeat' first | refine Le.loop fun s=>?_ | exact Dec.big.power.s0.c_le .. | exact Le.refl _
noncomputable def Dec.big.power.c (a:List Int) (b:Int) (c:Int):Option ((List Int)) :=
 Dec.big.power.l0.c a b c 1 0
theorem Dec.big.power.c_le (a:List Int) (b:Int) (c:Int):Le (Dec.big.power.c a b c) (Dec.big.power a b c):=by
 unfold Dec.big.power.c Dec.big.power
 with_reducible repeat' first | exact Dec.big.power.l0.c_le .. | exact Le.refl _
noncomputable def Dec.big.compare.s0.c (a:List Int) (b:List Int) (c:Int):Option (Int ⊕ Int) :=
 letkF (decide (c ≥ (0:Int))) fun d =>
 bif d then
 chkD (0 ≤ c) <|
 bindF (a[c.toNat]?) fun e =>
 chkD (0 ≤ c) <|
 bindF (b[c.toNat]?) fun f =>
 letkF (e != f) fun g =>
 bif g then
 chkD (0 ≤ c) <|
 bindF (a[c.toNat]?) fun h =>
 chkD (0 ≤ c) <|
 bindF (b[c.toNat]?) fun i =>
 letkF (IntKind.i64.wrap (h - i)) fun j =>
 some (.inr j)
 else
 letkF (IntKind.i64.wrap (c - (1:Int))) fun k =>
 some (.inl k)
 else
 some (.inr 0)
theorem Dec.big.compare.s0.c_le (a:List Int) (b:List Int) (c:Int):Le (Dec.big.compare.s0.c a b c) (Dec.big.compare.s0 a b c):=by
 unfold Dec.big.compare.s0.c Dec.big.compare.s0
 with_reducible repeat' first | refine Le.letkF rfl fun z=>?_ | refine Le.chk ?_ | refine Le.bif ?_ ?_ | refine Le.bindF ?_ fun z=>?_ | exact Le.refl _
noncomputable def Dec.big.compare.l0.c (a:List Int) (b:List Int) (c:Int):Option Int:=iterO (fun v:Int=>Dec.big.compare.s0.c a b v) 3000 c
theorem Dec.big.compare.l0.c_le (a:List Int) (b:List Int) (c:Int):Le (Dec.big.compare.l0.c a b c) (Dec.big.compare.l0 a b c):=by
 unfold Dec.big.compare.l0.c Dec.big.compare.l0
 with_reducible repeat' first | refine Le.loop fun s=>?_ | exact Dec.big.compare.s0.c_le .. | exact Le.refl _
noncomputable def Dec.big.compare.c (a:List Int) (b:List Int):Option Int :=
 letkF ((a.length:Int)) fun c =>
 letkF ((b.length:Int)) fun d =>
 letkF (c != d) fun e =>
 bif e then
 letkF ((a.length:Int)) fun f =>
 letkF ((b.length:Int)) fun g =>
 letkF (IntKind.i64.wrap (f - g)) fun h =>
 some h
 else
 letkF ((a.length:Int)) fun i =>
 letkF (IntKind.i64.wrap (i - (1:Int))) fun j =>
 Dec.big.compare.l0.c a b j
theorem Dec.big.compare.c_le (a:List Int) (b:List Int):Le (Dec.big.compare.c a b) (Dec.big.compare a b):=by
 unfold Dec.big.compare.c Dec.big.compare
 with_reducible repeat' first | refine Le.letkF rfl fun z=>?_ | refine Le.bif ?_ ?_ | exact Dec.big.compare.l0.c_le .. | exact Le.refl _
noncomputable def Dec.big.less.j0.c (a:List Int) (b:List Int) (c:Int) (d:Int) (e:List Int) (f:Int):Option (((List Int) × Int × Int) ⊕ ((List Int))) :=
 letkF (decide (f < (0:Int))) fun g =>
 bif g then
 letkF (IntKind.i64.wrap (f + (1000000000:Int))) fun h =>
 chkD ((e.length + ([h]).length) * 8 ≤ 140737488355328) <|
 letkF (e ++ ([h])) fun i =>
 letkF (IntKind.i64.wrap (d + (1:Int))) fun j =>
 some (.inl (i,1,j))
 else
 chkD ((e.length + ([f]).length) * 8 ≤ 140737488355328) <|
 letkF (e ++ ([f])) fun k =>
 letkF (IntKind.i64.wrap (d + (1:Int))) fun l =>
 some (.inl (k,0,l))
theorem Dec.big.less.j0.c_le (a:List Int) (b:List Int) (c:Int) (d:Int) (e:List Int) (f:Int):Le (Dec.big.less.j0.c a b c d e f) (Dec.big.less.j0 a b c d e f):=by
 unfold Dec.big.less.j0.c Dec.big.less.j0
 with_reducible repeat' first | refine Le.letkF rfl fun z=>?_ | refine Le.chk ?_ | refine Le.bif ?_ ?_ | exact Le.refl _
noncomputable def Dec.big.less.s0.c (a:List Int) (b:List Int) (c:Int) (d:List Int) (e:Int) (f:Int):Option (((List Int) × Int × Int) ⊕ ((List Int))) :=
 letkF (decide (f < c)) fun g =>
 bif g then
 chkD (0 ≤ f) <|
 bindF (a[f.toNat]?) fun h =>
 letkF (IntKind.i64.wrap (h - e)) fun i =>
 letkF ((b.length:Int)) fun j =>
 letkF (decide (f < j)) fun k =>
 bif k then
 chkD (0 ≤ f) <|
 bindF (b[f.toNat]?) fun l =>
 letkF (IntKind.i64.wrap (i - l)) fun m =>
 Dec.big.less.j0.c a b c f d m
 else
 Dec.big.less.j0.c a b c f d i
 else
 ((
 bindF (Dec.big.trim.c d) fun n =>
 some n)).map .inr
theorem Dec.big.less.s0.c_le (a:List Int) (b:List Int) (c:Int) (d:List Int) (e:Int) (f:Int):Le (Dec.big.less.s0.c a b c d e f) (Dec.big.less.s0 a b c d e f):=by
 unfold Dec.big.less.s0.c Dec.big.less.s0
 with_reducible repeat' first | refine Le.letkF rfl fun z=>?_ | refine Le.chk ?_ | refine Le.bif ?_ ?_ | refine Le.map ?_ | exact Dec.big.trim.c_le .. | exact Dec.big.less.j0.c_le .. | refine Le.bindF ?_ fun z=>?_ | exact Le.refl _
noncomputable def Dec.big.less.l0.c (a:List Int) (b:List Int) (c:Int) (d:List Int) (e:Int) (f:Int):Option ((List Int)):=iterO (fun v:(List Int) × Int × Int=>Dec.big.less.s0.c a b c v.1 v.2.1 v.2.2) 3000 (d,e,f)
theorem Dec.big.less.l0.c_le (a:List Int) (b:List Int) (c:Int) (d:List Int) (e:Int) (f:Int):Le (Dec.big.less.l0.c a b c d e f) (Dec.big.less.l0 a b c d e f):=by
 unfold Dec.big.less.l0.c Dec.big.less.l0
 with_reducible repeat' first | refine Le.loop fun s=>?_ | exact Dec.big.less.s0.c_le .. | exact Le.refl _
noncomputable def Dec.big.less.c (a:List Int) (b:List Int):Option ((List Int)) :=
 letkF ((a.length:Int)) fun c =>
 Dec.big.less.l0.c a b c ([]) 0 0
theorem Dec.big.less.c_le (a:List Int) (b:List Int):Le (Dec.big.less.c a b) (Dec.big.less a b):=by
 unfold Dec.big.less.c Dec.big.less
 with_reducible repeat' first | refine Le.letkF rfl fun z=>?_ | exact Dec.big.less.l0.c_le .. | exact Le.refl _
noncomputable def Dec.quotient.s2.c (a:List Int) (b:Int) (c:List Int) (d:Int) (i8:Int):Option (((List Int) × Int × Int) ⊕ (Int × Int × Bool)) :=
 letkF (decide (i8 ≥ (0:Int))) fun e =>
 bif e then
 bindF (Dec.big.power.c a 2 i8) fun f =>
 bindF (Dec.big.compare.c c f) fun g =>
 letkF (decide (g ≥ (0:Int))) fun h =>
 bif h then
 bindF (Dec.big.less.c c f) fun i =>
 chkD (0 ≤ i8) <|
 letkF (IntKind.i64.wrap ((1:Int) * 2 ^ (min i8.toNat (IntKind.i64).bits))) fun j =>
 letkF (IntKind.i64.wrap (BitVec.ofInt (IntKind.i64).bits d ||| BitVec.ofInt (IntKind.i64).bits j).toNat) fun k =>
 letkF (IntKind.i64.wrap (i8 - (1:Int))) fun l =>
 some (.inl (i,k,l))
 else
 letkF (IntKind.i64.wrap (i8 - (1:Int))) fun m =>
 some (.inl (c,d,m))
 else
 ((
 letkF ((c.length:Int)) fun n =>
 letkF (decide (n > (0:Int))) fun o =>
 some (d,b,o))).map .inr
theorem Dec.quotient.s2.c_le (a:List Int) (b:Int) (c:List Int) (d:Int) (i8:Int):Le (Dec.quotient.s2.c a b c d i8) (Dec.quotient.s2 a b c d i8):=by
 unfold Dec.quotient.s2.c Dec.quotient.s2
 with_reducible repeat' first | refine Le.letkF rfl fun z=>?_ | refine Le.chk ?_ | refine Le.bif ?_ ?_ | refine Le.map ?_ | exact Dec.big.power.c_le .. | exact Dec.big.compare.c_le .. | exact Dec.big.less.c_le .. | refine Le.bindF ?_ fun z=>?_ | exact Le.refl _
noncomputable def Dec.quotient.l2.c (a:List Int) (b:Int) (c:List Int) (d:Int) (i8:Int):Option (Int × Int × Bool):=iterO (fun v:(List Int) × Int × Int=>Dec.quotient.s2.c a b v.1 v.2.1 v.2.2) 3000 (c,d,i8)
theorem Dec.quotient.l2.c_le (a:List Int) (b:Int) (c:List Int) (d:Int) (i8:Int):Le (Dec.quotient.l2.c a b c d i8) (Dec.quotient.l2 a b c d i8):=by
 unfold Dec.quotient.l2.c Dec.quotient.l2
 with_reducible repeat' first | refine Le.loop fun s=>?_ | exact Dec.quotient.s2.c_le .. | exact Le.refl _
noncomputable def Dec.quotient.s1.c (a:List Int) (b:List Int) (c:Int) (d:List Int):Option (((List Int) × Int × (List Int)) ⊕ (Int × Int × Bool)) :=
 bindF (Dec.big.times.c d 4) fun e =>
 bindF (Dec.big.compare.c a e) fun f =>
 letkF (decide (f ≥ (0:Int))) fun g =>
 bif g then
 bindF (Dec.big.times.c b 2) fun h =>
 bindF (Dec.big.times.c d 2) fun i =>
 letkF (IntKind.i64.wrap (c + (1:Int))) fun j =>
 some (.inl (h,j,i))
 else
 (Dec.quotient.l2.c b c a 0 61).map .inr
theorem Dec.quotient.s1.c_le (a:List Int) (b:List Int) (c:Int) (d:List Int):Le (Dec.quotient.s1.c a b c d) (Dec.quotient.s1 a b c d):=by
 unfold Dec.quotient.s1.c Dec.quotient.s1
 with_reducible repeat' first | refine Le.letkF rfl fun z=>?_ | refine Le.bif ?_ ?_ | refine Le.map ?_ | exact Dec.big.times.c_le .. | exact Dec.big.compare.c_le .. | exact Dec.quotient.l2.c_le .. | refine Le.bindF ?_ fun z=>?_ | exact Le.refl _
noncomputable def Dec.quotient.l1.c (a:List Int) (b:List Int) (c:Int) (d:List Int):Option (Int × Int × Bool):=iterO (fun v:(List Int) × Int × (List Int)=>Dec.quotient.s1.c a v.1 v.2.1 v.2.2) 3000 (b,c,d)
theorem Dec.quotient.l1.c_le (a:List Int) (b:List Int) (c:Int) (d:List Int):Le (Dec.quotient.l1.c a b c d) (Dec.quotient.l1 a b c d):=by
 unfold Dec.quotient.l1.c Dec.quotient.l1
 with_reducible repeat' first | refine Le.loop fun s=>?_ | exact Dec.quotient.s1.c_le .. | exact Le.refl _
noncomputable def Dec.quotient.s0.c (a:List Int) (b:(List Int)) (c:List Int) (d:Int):Option (((List Int) × Int) ⊕ (Int × Int × Bool)) :=
 bindF (Dec.big.compare.c c b) fun e =>
 letkF (decide (e < (0:Int))) fun f =>
 bif f then
 bindF (Dec.big.times.c c 2) fun g =>
 letkF (IntKind.i64.wrap (d - (1:Int))) fun h =>
 some (.inl (g,h))
 else
 (Dec.quotient.l1.c c a d b).map .inr
theorem Dec.quotient.s0.c_le (a:List Int) (b:(List Int)) (c:List Int) (d:Int):Le (Dec.quotient.s0.c a b c d) (Dec.quotient.s0 a b c d):=by
 unfold Dec.quotient.s0.c Dec.quotient.s0
 with_reducible repeat' first | refine Le.letkF rfl fun z=>?_ | refine Le.bif ?_ ?_ | refine Le.map ?_ | exact Dec.big.times.c_le .. | exact Dec.big.compare.c_le .. | exact Dec.quotient.l1.c_le .. | refine Le.bindF ?_ fun z=>?_ | exact Le.refl _
noncomputable def Dec.quotient.l0.c (a:List Int) (b:(List Int)) (c:List Int) (d:Int):Option (Int × Int × Bool):=iterO (fun v:(List Int) × Int=>Dec.quotient.s0.c a b v.1 v.2) 3000 (c,d)
theorem Dec.quotient.l0.c_le (a:List Int) (b:(List Int)) (c:List Int) (d:Int):Le (Dec.quotient.l0.c a b c d) (Dec.quotient.l0 a b c d):=by
 unfold Dec.quotient.l0.c Dec.quotient.l0
 with_reducible repeat' first | refine Le.loop fun s=>?_ | exact Dec.quotient.s0.c_le .. | exact Le.refl _
noncomputable def Dec.quotient.c (a:List Int) (b:List Int):Option (Int × Int × Bool) :=
 bindF (Dec.big.power.c b 2 60) fun c =>
 Dec.quotient.l0.c b c a 0
theorem Dec.quotient.c_le (a:List Int) (b:List Int):Le (Dec.quotient.c a b) (Dec.quotient a b):=by
 unfold Dec.quotient.c Dec.quotient
 with_reducible repeat' first | exact Dec.big.power.c_le .. | exact Dec.quotient.l0.c_le .. | refine Le.bindF ?_ fun z=>?_ | exact Le.refl _
noncomputable def Dec.round.j0.c (a:Int) (b:Int) (c:Int) (d:List Int) (e:List Int):Option (Int × Int × Int) :=
 bindF (Dec.quotient.c d e) fun (f,g,h) =>
 letkF (IntKind.i64.wrap (f * (2:Int))) fun i =>
 bif h then
 letkF (IntKind.i64.wrap (i + (1:Int))) fun j =>
 letkF (IntKind.i64.wrap (g - (1:Int))) fun k =>
 bindF (Flt.Make.c a b c j k) fun (l,m,n) =>
 some (l,m,n)
 else
 letkF (IntKind.i64.wrap (g - (1:Int))) fun o =>
 bindF (Flt.Make.c a b c i o) fun (p,q,r) =>
 some (p,q,r)
theorem Dec.round.j0.c_le (a:Int) (b:Int) (c:Int) (d:List Int) (e:List Int):Le (Dec.round.j0.c a b c d e) (Dec.round.j0 a b c d e):=by
 unfold Dec.round.j0.c Dec.round.j0
 with_reducible repeat' first | refine Le.letkF rfl fun z=>?_ | refine Le.bif ?_ ?_ | exact Flt.Make.c_le .. | exact Dec.quotient.c_le .. | refine Le.bindF ?_ fun z=>?_ | exact Le.refl _ | (rcases z with ⟨_,_⟩; dsimp only)
noncomputable def Dec.round.c (a:Int) (b:Int) (c:Int) (d:ByteArray) (e:Int):Option (Int × Int × Int) :=
 bindF (Strs.TrimLeft.c d ⟨#[48]⟩) fun f =>
 letkF ((d.size:Int)) fun g =>
 letkF ((f.size:Int)) fun h =>
 letkF (IntKind.i64.wrap (g - h)) fun i =>
 letkF (IntKind.i64.wrap (e - i)) fun j =>
 letkF (f.data.toList == (⟨#[]⟩:ByteArray).data.toList) fun k =>
 bif k then
 bindF (Flt.Make.c a b c 0 0) fun (l,m,n) =>
 some (l,m,n)
 else
 letkF (decide (j > (400:Int))) fun o =>
 bif o then
 bindF (Flt.Make.c a b c 1 2000) fun (p,q,r) =>
 some (p,q,r)
 else
 letkF (decide (j < ((-400):Int))) fun s =>
 bif s then
 bindF (Flt.Make.c a b c 1 (-2000)) fun (t,u,v) =>
 some (t,u,v)
 else
 bindF (Dec.whole.c f) fun w =>
 letkF ((f.size:Int)) fun x =>
 letkF (IntKind.i64.wrap (j - x)) fun y =>
 letkF (decide (y ≥ (0:Int))) fun aa =>
 bif aa then
 bindF (Dec.big.power.c w 10 y) fun ab =>
 Dec.round.j0.c a b c ab ([1])
 else
 letkF (IntKind.i64.wrap (0 - y)) fun ac =>
 bindF (Dec.big.power.c ([1]) 10 ac) fun ad =>
 Dec.round.j0.c a b c w ad
theorem Dec.round.c_le (a:Int) (b:Int) (c:Int) (d:ByteArray) (e:Int):Le (Dec.round.c a b c d e) (Dec.round a b c d e):=by
 unfold Dec.round.c Dec.round
 with_reducible repeat' first | refine Le.letkF (by first | rfl | simp only [Lib.toList_data]) fun z=>?_ | refine Le.bif ?_ ?_ | exact Flt.Make.c_le .. | exact Dec.whole.c_le .. | exact Dec.big.power.c_le .. | exact Dec.round.j0.c_le .. | exact Strs.TrimLeft.c_le .. | refine Le.bindF ?_ fun z=>?_ | exact Le.refl _ | (rcases z with ⟨_,_⟩; dsimp only)
noncomputable def Dec.Read.c (a:ByteArray) (b:Int) (c:Int):Option (Int × Int × Int) :=
 bindF (Dec.isKind.c b c) fun d =>
 letkF (!d) fun e =>
 bif e then
 some (0,0,2)
 else
 bindF (Dec.parse.c a) fun (f,g) =>
 letkF (!g) fun h =>
 bif h then
 some (0,0,3)
 else
 letkF (!(f.word.data.toList == (⟨#[]⟩:ByteArray).data.toList)) fun i =>
 bif i then
 bindF (Dec.word.c b (⟨f.sign,f.word,f.digits,f.x⟩:decimal.parsed)) fun j =>
 some (j,0,0)
 else
 bindF (Dec.round.c b c f.sign f.digits f.x) fun (k,l,m) =>
 some (k,l,m)
theorem Dec.Read.c_le (a:ByteArray) (b:Int) (c:Int):Le (Dec.Read.c a b c) (Dec.Read a b c):=by
 unfold Dec.Read.c Dec.Read
 with_reducible repeat' first | refine Le.letkF (by first | rfl | simp only [Lib.toList_data]) fun z=>?_ | refine Le.bif ?_ ?_ | exact Dec.isKind.c_le .. | exact Dec.parse.c_le .. | exact Dec.word.c_le .. | exact Dec.round.c_le .. | refine Le.bindF ?_ fun z=>?_ | exact Le.refl _ | (rcases z with ⟨_,_⟩; dsimp only)
noncomputable def Flt.Class.c (a:Int) (b:Int):Option ByteArray :=
 bindF (Flt.two.c a 0 b b) fun (c,d,e,f) =>
 letkF (!f) fun g =>
 bif g then
 some ⟨#[]⟩
 else
 letkF (d.class_ == (0:Int)) fun h =>
 bif h then
 some ⟨#[122,101,114,111]⟩
 else
 letkF (d.class_ == (2:Int)) fun i =>
 bif i then
 some ⟨#[105,110,102,105,110,105,116,101]⟩
 else
 letkF (d.class_ == (3:Int)) fun j =>
 bif j then
 some ⟨#[110,111,110,101]⟩
 else
 letkF (IntKind.i64.wrap (c.p - (1:Int))) fun k =>
 chkD (0 ≤ k) <|
 letkF (IntKind.u64.wrap ((1:Int) * 2 ^ (min k.toNat (IntKind.u64).bits))) fun l =>
 letkF (decide (d.m < l)) fun m =>
 bif m then
 some ⟨#[108,101,97,115,116]⟩
 else
 some ⟨#[110,111,114,109,97,108]⟩
theorem Flt.Class.c_le (a:Int) (b:Int):Le (Flt.Class.c a b) (Flt.Class a b):=by
 unfold Flt.Class.c Flt.Class
 with_reducible repeat' first | refine Le.letkF rfl fun z=>?_ | refine Le.chk ?_ | refine Le.bif ?_ ?_ | exact Flt.two.c_le .. | refine Le.bindF ?_ fun z=>?_ | exact Le.refl _ | (rcases z with ⟨_,_⟩; dsimp only)
noncomputable def Flt.shape.place.c (a:float.shape) (b:Int):Option Int :=
 letkF (IntKind.u64.wrap b) fun c =>
 letkF (IntKind.i64.wrap (a.p + a.w)) fun d =>
 letkF (IntKind.i64.wrap (d - (1:Int))) fun e =>
 chkD (0 ≤ e) <|
 letkF (IntKind.u64.wrap ((1:Int) * 2 ^ (min e.toNat (IntKind.u64).bits))) fun f =>
 letkF (IntKind.u64.wrap (f - (1:Int))) fun g =>
 letkF (IntKind.u64.wrap (BitVec.ofInt (IntKind.u64).bits c &&& BitVec.ofInt (IntKind.u64).bits g).toNat) fun h =>
 letkF (IntKind.i64.wrap h) fun i =>
 letkF (IntKind.u64.wrap b) fun j =>
 letkF (IntKind.i64.wrap (a.p + a.w)) fun k =>
 letkF (IntKind.i64.wrap (k - (1:Int))) fun l =>
 chkD (0 ≤ l) <|
 letkF ((IntKind.u64,j.fdiv (2 ^ (min l.toNat (IntKind.u64).bits))).2) fun m =>
 letkF (IntKind.u64.wrap (BitVec.ofInt (IntKind.u64).bits m &&& BitVec.ofInt (IntKind.u64).bits (1:Int)).toNat) fun n =>
 letkF (n == (1:Int)) fun o =>
 bif o then
 letkF (IntKind.i64.wrap (0 - i)) fun p =>
 some p
 else
 some i
theorem Flt.shape.place.c_le (a:float.shape) (b:Int):Le (Flt.shape.place.c a b) (Flt.shape.place a b):=by
 unfold Flt.shape.place.c Flt.shape.place
 with_reducible repeat' first | refine Le.letkF rfl fun z=>?_ | refine Le.chk ?_ | refine Le.bif ?_ ?_ | exact Le.refl _
noncomputable def Flt.Compare.j0.c (a:Int) (b:Int) (c:float.shape):Option (Int × Int) :=
 bindF (Flt.shape.place.c (⟨c.p,c.w⟩:float.shape) a) fun d =>
 bindF (Flt.shape.place.c (⟨c.p,c.w⟩:float.shape) b) fun e =>
 letkF (decide (d < e)) fun f =>
 bif f then
 some ((-1),0)
 else
 letkF (decide (d > e)) fun g =>
 bif g then
 some (1,0)
 else
 some (0,0)
theorem Flt.Compare.j0.c_le (a:Int) (b:Int) (c:float.shape):Le (Flt.Compare.j0.c a b c) (Flt.Compare.j0 a b c):=by
 unfold Flt.Compare.j0.c Flt.Compare.j0
 with_reducible repeat' first | refine Le.letkF rfl fun z=>?_ | refine Le.bif ?_ ?_ | exact Flt.shape.place.c_le .. | refine Le.bindF ?_ fun z=>?_ | exact Le.refl _
noncomputable def Flt.Compare.j1.c (a:Int) (b:Int) (c:float.shape) (d:float.number) (e:float.number) (f:Bool):Option (Int × Int) :=
 bif f then
 some (2,0)
 else
 letkF (d.class_ == (0:Int)) fun g =>
 bif g then
 letkF (e.class_ == (0:Int)) fun h =>
 bif h then
 some (0,0)
 else
 Flt.Compare.j0.c a b c
 else
 Flt.Compare.j0.c a b c
theorem Flt.Compare.j1.c_le (a:Int) (b:Int) (c:float.shape) (d:float.number) (e:float.number) (f:Bool):Le (Flt.Compare.j1.c a b c d e f) (Flt.Compare.j1 a b c d e f):=by
 unfold Flt.Compare.j1.c Flt.Compare.j1
 with_reducible repeat' first | refine Le.letkF rfl fun z=>?_ | refine Le.bif ?_ ?_ | exact Flt.Compare.j0.c_le .. | exact Le.refl _
noncomputable def Flt.Compare.c (a:Int) (b:Int) (c:Int):Option (Int × Int) :=
 bindF (Flt.two.c a 0 b c) fun (d,e,f,g) =>
 letkF (!g) fun h =>
 bif h then
 some (0,2)
 else
 letkF (e.class_ == (3:Int)) fun i =>
 bif i then
 Flt.Compare.j1.c b c d e f true
 else
 letkF (f.class_ == (3:Int)) fun j =>
 Flt.Compare.j1.c b c d e f j
theorem Flt.Compare.c_le (a:Int) (b:Int) (c:Int):Le (Flt.Compare.c a b c) (Flt.Compare a b c):=by
 unfold Flt.Compare.c Flt.Compare
 with_reducible repeat' first | refine Le.letkF rfl fun z=>?_ | refine Le.bif ?_ ?_ | exact Flt.two.c_le .. | exact Flt.Compare.j1.c_le .. | refine Le.bindF ?_ fun z=>?_ | exact Le.refl _ | (rcases z with ⟨_,_⟩; dsimp only)
noncomputable def Dec.special.c (a:Int) (b:Int):Option (ByteArray × Bool) :=
 bindF (Flt.Class.c a b) fun c =>
 letkF (c.data.toList == (⟨#[110,111,110,101]⟩:ByteArray).data.toList) fun d =>
 bif d then
 some (⟨#[110,97,110]⟩,true)
 else
 letkF (c.data.toList == (⟨#[105,110,102,105,110,105,116,101]⟩:ByteArray).data.toList) fun e =>
 bif e then
 bindF (Flt.Compare.c a b 0) fun (f,g) =>
 letkF (decide (f < (0:Int))) fun h =>
 bif h then
 some (⟨#[45,105,110,102]⟩,true)
 else
 some (⟨#[105,110,102]⟩,true)
 else
 some (⟨#[]⟩,false)
theorem Dec.special.c_le (a:Int) (b:Int):Le (Dec.special.c a b) (Dec.special a b):=by
 unfold Dec.special.c Dec.special
 with_reducible repeat' first | refine Le.letkF (by first | rfl | simp only [Lib.toList_data]) fun z=>?_ | refine Le.bif ?_ ?_ | exact Flt.Class.c_le .. | exact Flt.Compare.c_le .. | refine Le.bindF ?_ fun z=>?_ | exact Le.refl _ | (rcases z with ⟨_,_⟩; dsimp only)
noncomputable def Dec.isFinite.c (a:Int) (b:Int):Option Bool :=
 bindF (Flt.Class.c a b) fun c =>
 letkF (c.data.toList == (⟨#[108,101,97,115,116]⟩:ByteArray).data.toList) fun d =>
 bif d then
 some true
 else
 letkF (c.data.toList == (⟨#[110,111,114,109,97,108]⟩:ByteArray).data.toList) fun e =>
 some e
theorem Dec.isFinite.c_le (a:Int) (b:Int):Le (Dec.isFinite.c a b) (Dec.isFinite a b):=by
 unfold Dec.isFinite.c Dec.isFinite
 with_reducible repeat' first | refine Le.letkF (by first | rfl | simp only [Lib.toList_data]) fun z=>?_ | refine Le.bif ?_ ?_ | exact Flt.Class.c_le .. | refine Le.bindF ?_ fun z=>?_ | exact Le.refl _
noncomputable def Flt.Parts.j0.c (a:float.number):Option (Int × Int × Int × Int) :=
 bindF (Bits.TrailingZeros64.c a.m) fun b =>
 chkD (0 ≤ b) <|
 letkF ((IntKind.u64,a.m.fdiv (2 ^ (min b.toNat (IntKind.u64).bits))).2) fun c =>
 letkF (IntKind.i64.wrap c) fun d =>
 letkF (IntKind.i64.wrap (a.e + b)) fun e =>
 some (a.sign,d,e,0)
theorem Flt.Parts.j0.c_le (a:float.number):Le (Flt.Parts.j0.c a) (Flt.Parts.j0 a):=by
 unfold Flt.Parts.j0.c Flt.Parts.j0
 with_reducible repeat' first | refine Le.letkF rfl fun z=>?_ | refine Le.chk ?_ | exact Bits.TrailingZeros64.c_le .. | refine Le.bindF ?_ fun z=>?_ | exact Le.refl _
noncomputable def Flt.Parts.j1.c (a:float.number) (b:Bool):Option (Int × Int × Int × Int) :=
 bif b then
 some (0,0,0,10)
 else
 letkF (a.class_ == (0:Int)) fun c =>
 bif c then
 some (a.sign,0,0,0)
 else
 Flt.Parts.j0.c a
theorem Flt.Parts.j1.c_le (a:float.number) (b:Bool):Le (Flt.Parts.j1.c a b) (Flt.Parts.j1 a b):=by
 unfold Flt.Parts.j1.c Flt.Parts.j1
 with_reducible repeat' first | refine Le.letkF rfl fun z=>?_ | refine Le.bif ?_ ?_ | exact Flt.Parts.j0.c_le .. | exact Le.refl _
noncomputable def Flt.Parts.c (a:Int) (b:Int):Option (Int × Int × Int × Int) :=
 bindF (Flt.two.c a 0 b b) fun (c,d,e,f) =>
 letkF (!f) fun g =>
 bif g then
 some (0,0,0,2)
 else
 letkF (d.class_ == (2:Int)) fun h =>
 bif h then
 Flt.Parts.j1.c d true
 else
 letkF (d.class_ == (3:Int)) fun i =>
 Flt.Parts.j1.c d i
theorem Flt.Parts.c_le (a:Int) (b:Int):Le (Flt.Parts.c a b) (Flt.Parts a b):=by
 unfold Flt.Parts.c Flt.Parts
 with_reducible repeat' first | refine Le.letkF rfl fun z=>?_ | refine Le.bif ?_ ?_ | exact Flt.two.c_le .. | exact Flt.Parts.j1.c_le .. | refine Le.bindF ?_ fun z=>?_ | exact Le.refl _ | (rcases z with ⟨_,_⟩; dsimp only)
noncomputable def Dec.exact.j0.c (a:Int) (b:Int) (c:List Int):Option (Int × ByteArray × Int) :=
 bindF (Dec.big.digits.c c) fun d =>
 bindF (Strs.TrimRight.c d ⟨#[48]⟩) fun e =>
 letkF ((d.size:Int)) fun f =>
 letkF (IntKind.i64.wrap (f + b)) fun g =>
 some (a,e,g)
theorem Dec.exact.j0.c_le (a:Int) (b:Int) (c:List Int):Le (Dec.exact.j0.c a b c) (Dec.exact.j0 a b c):=by
 unfold Dec.exact.j0.c Dec.exact.j0
 with_reducible repeat' first | refine Le.letkF rfl fun z=>?_ | exact Strs.TrimRight.c_le .. | exact Dec.big.digits.c_le .. | refine Le.bindF ?_ fun z=>?_ | exact Le.refl _
noncomputable def Dec.exact.c (a:Int) (b:Int):Option (Int × ByteArray × Int) :=
 bindF (Flt.Parts.c a b) fun (c,d,e,f) =>
 bindF (Strconv.Itoa.c d) fun g =>
 bindF (Dec.whole.c g) fun h =>
 letkF (decide (e ≥ (0:Int))) fun i =>
 bif i then
 bindF (Dec.big.power.c h 2 e) fun j =>
 Dec.exact.j0.c c 0 j
 else
 letkF (IntKind.i64.wrap (0 - e)) fun k =>
 bindF (Dec.big.power.c h 5 k) fun l =>
 Dec.exact.j0.c c e l
theorem Dec.exact.c_le (a:Int) (b:Int):Le (Dec.exact.c a b) (Dec.exact a b):=by
 unfold Dec.exact.c Dec.exact
 with_reducible repeat' first | refine Le.letkF rfl fun z=>?_ | refine Le.bif ?_ ?_ | exact Dec.whole.c_le .. | exact Dec.big.power.c_le .. | exact Flt.Parts.c_le .. | exact Dec.exact.j0.c_le .. | exact Strconv.Itoa.c_le .. | refine Le.bindF ?_ fun z=>?_ | exact Le.refl _ | (rcases z with ⟨_,_⟩; dsimp only)
noncomputable def Dec.away.j1.c (a:ByteArray) (b:Int) (c:Bool):Option Bool :=
 chkD (0 ≤ b ∧ b < (a.size:Int)) <|
 letkF (bt a b) fun d =>
 letkF (decide (d > (53:Int))) fun e =>
 bif e then
 some true
 else
 letkF (IntKind.i64.wrap (b + (1:Int))) fun f =>
 letkF ((a.size:Int)) fun g =>
 letkF (decide (f < g)) fun h =>
 bif h then
 some true
 else
 some c
theorem Dec.away.j1.c_le (a:ByteArray) (b:Int) (c:Bool):Le (Dec.away.j1.c a b c) (Dec.away.j1 a b c):=by
 unfold Dec.away.j1.c Dec.away.j1
 with_reducible repeat' first | refine Le.letkF rfl fun z=>?_ | refine Le.chk ?_ | refine Le.bif ?_ ?_ | exact Le.refl _
noncomputable def Dec.away.j0.c (a:ByteArray) (b:Int):Option Bool :=
 letkF (decide (b > (0:Int))) fun c =>
 bif c then
 letkF (IntKind.i64.wrap (b - (1:Int))) fun d =>
 chkD (0 ≤ d ∧ d < (a.size:Int)) <|
 letkF (bt a d) fun e =>
 letkF (IntKind.u8.wrap (e - (48:Int))) fun f =>
 chkD ((2:Int) ≠ 0) <|
 letkF (f.tmod (2:Int)) fun g =>
 letkF (g == (1:Int)) fun h =>
 Dec.away.j1.c a b h
 else
 Dec.away.j1.c a b false
theorem Dec.away.j0.c_le (a:ByteArray) (b:Int):Le (Dec.away.j0.c a b) (Dec.away.j0 a b):=by
 unfold Dec.away.j0.c Dec.away.j0
 with_reducible repeat' first | refine Le.letkF rfl fun z=>?_ | refine Le.chk ?_ | refine Le.bif ?_ ?_ | exact Dec.away.j1.c_le .. | exact Le.refl _
noncomputable def Dec.away.c (a:Int) (b:Int) (c:ByteArray) (d:Int):Option Bool :=
 letkF ((c.size:Int)) fun e =>
 letkF (decide (d ≥ e)) fun f =>
 bif f then
 some false
 else
 letkF (a == (0:Int)) fun g =>
 bif g then
 letkF (decide (d < (0:Int))) fun h =>
 bif h then
 some false
 else
 chkD (0 ≤ d ∧ d < (c.size:Int)) <|
 letkF (bt c d) fun i =>
 letkF (decide (i < (53:Int))) fun j =>
 bif j then
 some false
 else
 Dec.away.j0.c c d
 else
 letkF (a == (2:Int)) fun k =>
 bif k then
 letkF (b == (1:Int)) fun l =>
 some l
 else
 letkF (a == (3:Int)) fun m =>
 bif m then
 letkF (b == (0:Int)) fun n =>
 some n
 else
 some false
theorem Dec.away.c_le (a:Int) (b:Int) (c:ByteArray) (d:Int):Le (Dec.away.c a b c d) (Dec.away a b c d):=by
 unfold Dec.away.c Dec.away
 with_reducible repeat' first | refine Le.letkF rfl fun z=>?_ | refine Le.chk ?_ | refine Le.bif ?_ ?_ | exact Dec.away.j0.c_le .. | exact Le.refl _
noncomputable def Dec.cut.s0.c (a:List Int) (i8:Int):Option (((List Int) × Int) ⊕ ByteArray) :=
 letkF (decide (i8 ≥ (0:Int))) fun b =>
 bif b then
 chkD (0 ≤ i8 ∧ i8 < (a.length:Int)) <|
 letkF (0 + i8.toNat) fun c =>
 bindF (a[c]?) fun d =>
 letkF (decide (d < (57:Int))) fun e =>
 bif e then
 chkD (0 ≤ i8 ∧ i8 < (a.length:Int)) <|
 letkF (0 + i8.toNat) fun f =>
 bindF (a[f]?) fun g =>
 letkF (IntKind.u8.wrap (g + (1:Int))) fun h =>
 chkD (0 ≤ i8 ∧ i8 < (a.length:Int)) <|
 letkF (0 + i8.toNat) fun i =>
 bindF (a[i]?) fun j =>
 letkF (a.set i h) fun k =>
 letkF (ofInts k) fun m =>
 some (.inr m)
 else
 chkD (0 ≤ i8 ∧ i8 < (a.length:Int)) <|
 letkF (0 + i8.toNat) fun n =>
 bindF (a[n]?) fun old =>
 letkF (a.set n 48) fun l =>
 letkF (IntKind.i64.wrap (i8 - (1:Int))) fun o =>
 some (.inl (l,o))
 else
 ((
 letkF (ofInts a) fun p =>
 chkD ((((⟨#[49]⟩:ByteArray).size + p.size:Nat):Int) ≤ 9223372036854775807) <|
 letkF ((⟨#[49]⟩:ByteArray) ++ p) fun q =>
 some q)).map .inr
theorem Dec.cut.s0.c_le (a:List Int) (i8:Int):Le (Dec.cut.s0.c a i8) (Dec.cut.s0 a i8):=by
 unfold Dec.cut.s0.c Dec.cut.s0
 with_reducible repeat' first | refine Le.letkF rfl fun z=>?_ | refine Le.chk ?_ | refine Le.bif ?_ ?_ | refine Le.map ?_ | refine Le.bindF ?_ fun z=>?_ | exact Le.refl _
noncomputable def Dec.cut.l0.c (a:List Int) (i8:Int):Option ByteArray:=iterO (fun v:(List Int) × Int=>Dec.cut.s0.c v.1 v.2) 3000 (a,i8)
theorem Dec.cut.l0.c_le (a:List Int) (i8:Int):Le (Dec.cut.l0.c a i8) (Dec.cut.l0 a i8):=by
 unfold Dec.cut.l0.c Dec.cut.l0
 with_reducible repeat' first | refine Le.loop fun s=>?_ | exact Dec.cut.s0.c_le .. | exact Le.refl _
noncomputable def Dec.cut.j0.c (a:Int) (b:ByteArray) (c:Bool):Option ByteArray :=
 chkD (0 ≤ a ∧ a ≤ (b.size:Int)) <|
 letkF (b.extract 0 a.toNat) fun d =>
 letkF (!c) fun e =>
 bif e then
 some d
 else
 letkF (bytesI d) fun f =>
 letkF (IntKind.i64.wrap (a - (1:Int))) fun g =>
 Dec.cut.l0.c f g
theorem Dec.cut.j0.c_le (a:Int) (b:ByteArray) (c:Bool):Le (Dec.cut.j0.c a b c) (Dec.cut.j0 a b c):=by
 unfold Dec.cut.j0.c Dec.cut.j0
 with_reducible repeat' first | refine Le.letkF rfl fun z=>?_ | refine Le.chk ?_ | refine Le.bif ?_ ?_ | exact Dec.cut.l0.c_le .. | exact Le.refl _
noncomputable def Dec.cut.c (a:ByteArray) (b:Int) (c:Bool):Option ByteArray :=
 letkF (if 0 > b then 0 else b) fun d =>
 letkF ((a.size:Int)) fun e =>
 letkF (decide (d > e)) fun f =>
 bif f then
 letkF ((a.size:Int)) fun g =>
 letkF (IntKind.i64.wrap (d - g)) fun h =>
 bindF (Strs.Repeat.c ⟨#[48]⟩ h) fun i =>
 chkD (((a.size + i.size:Nat):Int) ≤ 9223372036854775807) <|
 letkF (a ++ i) fun j =>
 Dec.cut.j0.c d j c
 else
 Dec.cut.j0.c d a c
theorem Dec.cut.c_le (a:ByteArray) (b:Int) (c:Bool):Le (Dec.cut.c a b c) (Dec.cut a b c):=by
 unfold Dec.cut.c Dec.cut
 with_reducible repeat' first | refine Le.letkF rfl fun z=>?_ | refine Le.chk ?_ | refine Le.bif ?_ ?_ | exact Dec.cut.j0.c_le .. | exact Strs.Repeat.c_le .. | refine Le.bindF ?_ fun z=>?_ | exact Le.refl _
noncomputable def Dec.to.c (a:ByteArray) (b:Int) (c:Int) (d:Bool):Option (ByteArray × Int) :=
 bindF (Dec.cut.c a c d) fun e =>
 letkF ((e.size:Int)) fun f =>
 letkF (decide (f > c)) fun g =>
 bif g then
 chkD (0 ≤ c ∧ c ≤ (e.size:Int)) <|
 letkF (e.extract 0 c.toNat) fun h =>
 letkF (IntKind.i64.wrap (b + (1:Int))) fun i =>
 some (h,i)
 else
 some (e,b)
theorem Dec.to.c_le (a:ByteArray) (b:Int) (c:Int) (d:Bool):Le (Dec.to.c a b c d) (Dec.to a b c d):=by
 unfold Dec.to.c Dec.to
 with_reducible repeat' first | refine Le.letkF rfl fun z=>?_ | refine Le.chk ?_ | refine Le.bif ?_ ?_ | exact Dec.cut.c_le .. | refine Le.bindF ?_ fun z=>?_ | exact Le.refl _
noncomputable def Dec.Shortest.j0.c (a:Int) (b:Int) (c:ByteArray) (d:Int) (e:Int) (f:Int) (g:Int) (h:Int) (i:Bool) (j:List Bool):Option ((Int × (List Bool) × Int) ⊕ ((Int × Int) ⊕ (Int × ByteArray × Int × Int))) :=
 bindF (Dec.to.c c d e i) fun (k,l) =>
 bindF (Dec.round.c a 0 g k l) fun (m,n,o) =>
 letkF (m == b) fun p =>
 bif p then
 some (.inr (.inr (g,k,l,0)))
 else
 letkF (IntKind.i64.wrap (h + (1:Int))) fun q =>
 some (.inl (g,j,q))
theorem Dec.Shortest.j0.c_le (a:Int) (b:Int) (c:ByteArray) (d:Int) (e:Int) (f:Int) (g:Int) (h:Int) (i:Bool) (j:List Bool):Le (Dec.Shortest.j0.c a b c d e f g h i j) (Dec.Shortest.j0 a b c d e f g h i j):=by
 unfold Dec.Shortest.j0.c Dec.Shortest.j0
 with_reducible repeat' first | refine Le.letkF rfl fun z=>?_ | refine Le.bif ?_ ?_ | exact Dec.round.c_le .. | exact Dec.to.c_le .. | refine Le.bindF ?_ fun z=>?_ | exact Le.refl _ | (rcases z with ⟨_,_⟩; dsimp only)
noncomputable def Dec.Shortest.s1.c (a:Int) (b:Int) (c:ByteArray) (d:Int) (e:Int) (f:Int) (g:Int) (h:List Bool) (i:Int):Option ((Int × (List Bool) × Int) ⊕ ((Int × Int) ⊕ (Int × ByteArray × Int × Int))) :=
 letkF (decide (i < f)) fun j =>
 bif j then
 chkD (0 ≤ i ∧ i < (h.length:Int)) <|
 letkF (0 + i.toNat) fun k =>
 bindF (h[k]?) fun l =>
 bif l then
 letkF ((c.size:Int)) fun m =>
 letkF (decide (e ≥ m)) fun n =>
 bif n then
 letkF (IntKind.i64.wrap (i + (1:Int))) fun o =>
 some (.inl (g,h,o))
 else
 Dec.Shortest.j0.c a b c d e f g i true h
 else
 Dec.Shortest.j0.c a b c d e f g i false h
 else
 ((
 letkF (IntKind.i64.wrap (e + (1:Int))) fun p =>
 some (.inl (g,p)))).map .inr
theorem Dec.Shortest.s1.c_le (a:Int) (b:Int) (c:ByteArray) (d:Int) (e:Int) (f:Int) (g:Int) (h:List Bool) (i:Int):Le (Dec.Shortest.s1.c a b c d e f g h i) (Dec.Shortest.s1 a b c d e f g h i):=by
 unfold Dec.Shortest.s1.c Dec.Shortest.s1
 with_reducible repeat' first | refine Le.letkF rfl fun z=>?_ | refine Le.chk ?_ | refine Le.bif ?_ ?_ | refine Le.map ?_ | exact Dec.Shortest.j0.c_le .. | refine Le.bindF ?_ fun z=>?_ | exact Le.refl _
noncomputable def Dec.Shortest.l1.c (a:Int) (b:Int) (c:ByteArray) (d:Int) (e:Int) (f:Int) (g:Int) (h:List Bool) (i:Int):Option ((Int × Int) ⊕ (Int × ByteArray × Int × Int)):=iterO (fun v:Int × (List Bool) × Int=>Dec.Shortest.s1.c a b c d e f v.1 v.2.1 v.2.2) 3000 (g,h,i)
theorem Dec.Shortest.l1.c_le (a:Int) (b:Int) (c:ByteArray) (d:Int) (e:Int) (f:Int) (g:Int) (h:List Bool) (i:Int):Le (Dec.Shortest.l1.c a b c d e f g h i) (Dec.Shortest.l1 a b c d e f g h i):=by
 unfold Dec.Shortest.l1.c Dec.Shortest.l1
 with_reducible repeat' first | refine Le.loop fun s=>?_ | exact Dec.Shortest.s1.c_le .. | exact Le.refl _
noncomputable def Dec.Shortest.s0.c (a:Int) (b:Int) (c:ByteArray) (d:Int) (e:Int) (f:Int):Option ((Int × Int) ⊕ (Int × ByteArray × Int × Int)) :=
 letkF (decide (f < (17:Int))) fun g =>
 bif g then
 bindF (Dec.away.c 0 e c f) fun h =>
 letkF (!h) fun i =>
 letkF ((([h,i]).length:Int)) fun j =>
 Dec.Shortest.l1.c a b c d f j e ([h,i]) 0
 else
 ((
 bindF (Dec.away.c 0 e c 17) fun k =>
 bindF (Dec.to.c c d 17 k) fun (l,m) =>
 some (e,l,m,0)):Option (Int × ByteArray × Int × Int)).map .inr
theorem Dec.Shortest.s0.c_le (a:Int) (b:Int) (c:ByteArray) (d:Int) (e:Int) (f:Int):Le (Dec.Shortest.s0.c a b c d e f) (Dec.Shortest.s0 a b c d e f):=by
 unfold Dec.Shortest.s0.c Dec.Shortest.s0
 with_reducible repeat' first | refine Le.letkF rfl fun z=>?_ | refine Le.bif ?_ ?_ | refine Le.map ?_ | exact Dec.away.c_le .. | exact Dec.to.c_le .. | exact Dec.Shortest.l1.c_le .. | refine Le.bindF ?_ fun z=>?_ | exact Le.refl _ | (rcases z with ⟨_,_⟩; dsimp only)
noncomputable def Dec.Shortest.l0.c (a:Int) (b:Int) (c:ByteArray) (d:Int) (e:Int) (f:Int):Option (Int × ByteArray × Int × Int):=iterO (fun v:Int × Int=>Dec.Shortest.s0.c a b c d v.1 v.2) 3000 (e,f)
theorem Dec.Shortest.l0.c_le (a:Int) (b:Int) (c:ByteArray) (d:Int) (e:Int) (f:Int):Le (Dec.Shortest.l0.c a b c d e f) (Dec.Shortest.l0 a b c d e f):=by
 unfold Dec.Shortest.l0.c Dec.Shortest.l0
 with_reducible repeat' first | refine Le.loop fun s=>?_ | exact Dec.Shortest.s0.c_le .. | exact Le.refl _
noncomputable def Dec.Shortest.c (a:Int) (b:Int):Option (Int × ByteArray × Int × Int) :=
 bindF (Dec.isFinite.c a b) fun c =>
 letkF (!c) fun d =>
 bif d then
 some (0,⟨#[]⟩,0,2)
 else
 bindF (Dec.exact.c a b) fun (e,f,g) =>
 Dec.Shortest.l0.c a b f g e 1
theorem Dec.Shortest.c_le (a:Int) (b:Int):Le (Dec.Shortest.c a b) (Dec.Shortest a b):=by
 unfold Dec.Shortest.c Dec.Shortest
 with_reducible repeat' first | refine Le.letkF rfl fun z=>?_ | refine Le.bif ?_ ?_ | exact Dec.isFinite.c_le .. | exact Dec.exact.c_le .. | exact Dec.Shortest.l0.c_le .. | refine Le.bindF ?_ fun z=>?_ | exact Le.refl _ | (rcases z with ⟨_,_⟩; dsimp only)
noncomputable def Dec.parts.c (a:Int) (b:Int):Option (Int × ByteArray × Int) :=
 bindF (Dec.isFinite.c a b) fun c =>
 bif c then
 bindF (Dec.exact.c a b) fun (d,e,f) =>
 some (d,e,f)
 else
 bindF (Flt.Parts.c a b) fun (g,h,i,j) =>
 some (g,⟨#[]⟩,0)
theorem Dec.parts.c_le (a:Int) (b:Int):Le (Dec.parts.c a b) (Dec.parts a b):=by
 unfold Dec.parts.c Dec.parts
 with_reducible repeat' first | refine Le.bif ?_ ?_ | exact Dec.isFinite.c_le .. | exact Flt.Parts.c_le .. | exact Dec.exact.c_le .. | refine Le.bindF ?_ fun z=>?_ | exact Le.refl _ | (rcases z with ⟨_,_⟩; dsimp only)
noncomputable def Dec.minus.c (a:Int):Option ByteArray :=
 letkF (a == (1:Int)) fun b =>
 bif b then
 some ⟨#[45]⟩
 else
 some ⟨#[]⟩
theorem Dec.minus.c_le (a:Int):Le (Dec.minus.c a) (Dec.minus a):=by
 unfold Dec.minus.c Dec.minus
 with_reducible repeat' first | refine Le.letkF rfl fun z=>?_ | refine Le.bif ?_ ?_ | exact Le.refl _
noncomputable def Dec.Plain.j0.c (a:Int) (b:Int) (c:ByteArray):Option (ByteArray × Int) :=
 letkF (IntKind.i64.wrap (b + (1:Int))) fun d =>
 letkF ((c.size:Int)) fun e =>
 letkF (IntKind.i64.wrap (d - e)) fun f =>
 letkF (if f > 0 then f else 0) fun g =>
 bindF (Strs.Repeat.c ⟨#[48]⟩ g) fun h =>
 chkD (((c.size + h.size:Nat):Int) ≤ 9223372036854775807) <|
 letkF (c ++ h) fun i =>
 bindF (Dec.minus.c a) fun j =>
 chkD (0 ≤ b ∧ b ≤ (i.size:Int)) <|
 letkF (i.extract 0 b.toNat) fun k =>
 chkD (((j.size + k.size:Nat):Int) ≤ 9223372036854775807) <|
 letkF (j ++ k) fun l =>
 chkD (((l.size + (⟨#[46]⟩:ByteArray).size:Nat):Int) ≤ 9223372036854775807) <|
 letkF (l ++ (⟨#[46]⟩:ByteArray)) fun m =>
 chkD (0 ≤ b ∧ b ≤ (i.size:Int)) <|
 letkF (i.extract b.toNat i.size) fun n =>
 chkD (((m.size + n.size:Nat):Int) ≤ 9223372036854775807) <|
 letkF (m ++ n) fun o =>
 some (o,0)
theorem Dec.Plain.j0.c_le (a:Int) (b:Int) (c:ByteArray):Le (Dec.Plain.j0.c a b c) (Dec.Plain.j0 a b c):=by
 unfold Dec.Plain.j0.c Dec.Plain.j0
 with_reducible repeat' first | refine Le.letkF rfl fun z=>?_ | refine Le.chk ?_ | exact Dec.minus.c_le .. | exact Strs.Repeat.c_le .. | refine Le.bindF ?_ fun z=>?_ | exact Le.refl _
noncomputable def Dec.Plain.j1.c (a:Int) (b:Int) (c:ByteArray) (d:Bool):Option (ByteArray × Int) :=
 bif d then
 bindF (Dec.minus.c a) fun e =>
 chkD (0 ≤ (1:Int) ∧ (1:Int) ≤ (c.size:Int)) <|
 letkF (c.extract 0 ((1:Int).toNat)) fun f =>
 chkD (((e.size + f.size:Nat):Int) ≤ 9223372036854775807) <|
 letkF (e ++ f) fun g =>
 chkD (((g.size + (⟨#[46]⟩:ByteArray).size:Nat):Int) ≤ 9223372036854775807) <|
 letkF (g ++ (⟨#[46]⟩:ByteArray)) fun h =>
 chkD (0 ≤ (1:Int) ∧ (1:Int) ≤ (c.size:Int)) <|
 letkF (c.extract (1:Int).toNat c.size) fun i =>
 chkD (((h.size + i.size:Nat):Int) ≤ 9223372036854775807) <|
 letkF (h ++ i) fun j =>
 letkF ((c.size:Int)) fun k =>
 letkF (IntKind.i64.wrap (k - (1:Int))) fun l =>
 letkF (if l < 1 then l else 1) fun m =>
 letkF (IntKind.i64.wrap ((1:Int) - m)) fun n =>
 bindF (Strs.Repeat.c ⟨#[48]⟩ n) fun o =>
 chkD (((j.size + o.size:Nat):Int) ≤ 9223372036854775807) <|
 letkF (j ++ o) fun p =>
 chkD (((p.size + (⟨#[69]⟩:ByteArray).size:Nat):Int) ≤ 9223372036854775807) <|
 letkF (p ++ (⟨#[69]⟩:ByteArray)) fun q =>
 letkF (IntKind.i64.wrap (b - (1:Int))) fun r =>
 bindF (Strconv.Itoa.c r) fun s =>
 chkD (((q.size + s.size:Nat):Int) ≤ 9223372036854775807) <|
 letkF (q ++ s) fun t =>
 some (t,0)
 else
 letkF (decide (b ≤ (0:Int))) fun u =>
 bif u then
 bindF (Dec.minus.c a) fun v =>
 chkD (((v.size + (⟨#[48,46]⟩:ByteArray).size:Nat):Int) ≤ 9223372036854775807) <|
 letkF (v ++ (⟨#[48,46]⟩:ByteArray)) fun w =>
 letkF (IntKind.i64.wrap (0 - b)) fun x =>
 bindF (Strs.Repeat.c ⟨#[48]⟩ x) fun y =>
 chkD (((w.size + y.size:Nat):Int) ≤ 9223372036854775807) <|
 letkF (w ++ y) fun aa =>
 chkD (((aa.size + c.size:Nat):Int) ≤ 9223372036854775807) <|
 letkF (aa ++ c) fun ab =>
 some (ab,0)
 else
 Dec.Plain.j0.c a b c
theorem Dec.Plain.j1.c_le (a:Int) (b:Int) (c:ByteArray) (d:Bool):Le (Dec.Plain.j1.c a b c d) (Dec.Plain.j1 a b c d):=by
 unfold Dec.Plain.j1.c Dec.Plain.j1
 with_reducible repeat' first | refine Le.letkF rfl fun z=>?_ | refine Le.chk ?_ | refine Le.bif ?_ ?_ | exact Dec.minus.c_le .. | exact Dec.Plain.j0.c_le .. | exact Strs.Repeat.c_le .. | exact Strconv.Itoa.c_le .. | refine Le.bindF ?_ fun z=>?_ | exact Le.refl _
noncomputable def Dec.Plain.c (a:Int) (b:Int):Option (ByteArray × Int) :=
 bindF (Flt.Valid.c a b) fun c =>
 letkF (!c) fun d =>
 bif d then
 some (⟨#[]⟩,2)
 else
 bindF (Dec.special.c a b) fun (e,f) =>
 bif f then
 some (e,0)
 else
 bindF (Dec.Shortest.c a b) fun (g,h,i,j) =>
 letkF (j != (0:Int)) fun k =>
 bif k then
 bindF (Dec.parts.c a b) fun (l,m,n) =>
 bindF (Dec.minus.c l) fun o =>
 chkD (((o.size + (⟨#[48,46,48]⟩:ByteArray).size:Nat):Int) ≤ 9223372036854775807) <|
 letkF (o ++ (⟨#[48,46,48]⟩:ByteArray)) fun p =>
 some (p,0)
 else
 bindF (Strs.TrimRight.c h ⟨#[48]⟩) fun q =>
 letkF (decide (i < ((-3):Int))) fun r =>
 bif r then
 Dec.Plain.j1.c g i q true
 else
 letkF (decide (i > (9:Int))) fun s =>
 Dec.Plain.j1.c g i q s
theorem Dec.Plain.c_le (a:Int) (b:Int):Le (Dec.Plain.c a b) (Dec.Plain a b):=by
 unfold Dec.Plain.c Dec.Plain
 with_reducible repeat' first | refine Le.letkF rfl fun z=>?_ | refine Le.chk ?_ | refine Le.bif ?_ ?_ | exact Flt.Valid.c_le .. | exact Dec.special.c_le .. | exact Dec.Shortest.c_le .. | exact Dec.parts.c_le .. | exact Dec.minus.c_le .. | exact Dec.Plain.j1.c_le .. | exact Strs.TrimRight.c_le .. | refine Le.bindF ?_ fun z=>?_ | exact Le.refl _ | (rcases z with ⟨_,_⟩; dsimp only)
noncomputable def Law2.Awake.c :Option Bool :=
 bindF (Dec.Read.c ⟨#[48,46,49]⟩ 8 0) fun (a,b,c) =>
 bindF (Dec.Plain.c 8 a) fun (d,e) =>
 bindF (Dec.Read.c ⟨#[49,101,50,50]⟩ 8 0) fun (f,g,h) =>
 bindF (Dec.Plain.c 8 f) fun (i,j) =>
 letkF (c == (0:Int)) fun k =>
 bif k then
 letkF (e == (0:Int)) fun l =>
 bif l then
 letkF (d.data.toList == (⟨#[48,46,49]⟩:ByteArray).data.toList) fun m =>
 bif m then
 letkF (h == (0:Int)) fun n =>
 bif n then
 letkF (j == (0:Int)) fun o =>
 bif o then
 letkF (i.data.toList == (⟨#[49,46,48,69,50,50]⟩:ByteArray).data.toList) fun p =>
 some p
 else
 some false
 else
 some false
 else
 some false
 else
 some false
 else
 some false
theorem Law2.Awake.c_le:Le (Law2.Awake.c) (Law2.Awake):=by
 unfold Law2.Awake.c Law2.Awake
 with_reducible repeat' first | refine Le.letkF (by first | rfl | simp only [Lib.toList_data]) fun z=>?_ | refine Le.bif ?_ ?_ | exact Dec.Read.c_le .. | exact Dec.Plain.c_le .. | refine Le.bindF ?_ fun z=>?_ | exact Le.refl _ | (rcases z with ⟨_,_⟩; dsimp only)
set_option maxRecDepth 1000000 in
theorem Law2.Awake_eq:Law2.Awake = some true:=Law2.Awake.c_le.of (by kernel_rfl)
end Go.Q
