import Derived.Test.YtmfhkipeapdfmaaGreatDoorAB
import Derived.Test.YtmfhkipeapdfmaaGreatDoorDG5
namespace Go.Q
open Go
set_option maxRecDepth 10000
set_option maxHeartbeats 2000000
def OkS (p w:Nat):Prop:=(p = 11 ∧ w = 5) ∨ (p = 24 ∧ w = 8) ∨ (p = 53 ∧ w = 11)
def shp (p w:Nat):float.shape:=⟨(p:Int),(w:Int)⟩
theorem u_or' {a b:Nat} {x y:Int} (hx:x = a) (hy:y = b) (ha:a < 18446744073709551616) (hb:b < 18446744073709551616):IntKind.u64.wrap (((BitVec.ofInt IntKind.u64.bits x ||| BitVec.ofInt IntKind.u64.bits y).toNat:Nat):Int) = ((a ||| b:Nat):Int):=by
  subst hx hy; exact u_or a b ha hb
theorem u_and' {a b:Nat} {x y:Int} (hx:x = a) (hy:y = b) (ha:a < 18446744073709551616) (hb:b < 18446744073709551616):IntKind.u64.wrap (((BitVec.ofInt IntKind.u64.bits x &&& BitVec.ofInt IntKind.u64.bits y).toNat:Nat):Int) = ((a &&& b:Nat):Int):=by
  subst hx hy; exact u_and a b ha hb
theorem u_shl' {a k:Nat} {x y:Int} (hx:x = a) (hy:y = k):IntKind.u64.wrap (x * 2 ^ (min y.toNat IntKind.u64.bits)) = ((a * 2 ^ k % 18446744073709551616:Nat):Int):=by
  subst hx hy; exact u_shl a k
theorem u_shr' {a k:Nat} {x y:Int} (hx:x = a) (hy:y = k) (ha:a < 18446744073709551616):x.fdiv (2 ^ (min y.toNat IntKind.u64.bits)) = ((a / 2 ^ k:Nat):Int):=by
  subst hx hy; exact u_shr a k ha
theorem bias_eq {p w:Nat} (h:OkS p w):Flt.shape.bias (shp p w) = some (biasS w):=by
  rcases h with ⟨rfl,rfl⟩ | ⟨rfl,rfl⟩ | ⟨rfl,rfl⟩ <;>
  · unfold Flt.shape.bias shp
    simp only [letk]
    rw [chk_pos (by decide)]
    decide
theorem least_eq {p w:Nat} (h:OkS p w):Flt.shape.least (shp p w) = some (lstS p w):=by
  unfold Flt.shape.least
  rw [show (⟨(shp p w).p,(shp p w).w⟩:float.shape) = shp p w from rfl,bias_eq h]
  rcases h with ⟨rfl,rfl⟩ | ⟨rfl,rfl⟩ | ⟨rfl,rfl⟩ <;> decide
theorem top_eq {p w:Nat} (h:OkS p w):Flt.shape.top (shp p w) = some (2 ^ w - 1):=by
  rcases h with ⟨rfl,rfl⟩ | ⟨rfl,rfl⟩ | ⟨rfl,rfl⟩ <;>
  · unfold Flt.shape.top shp
    simp only [letk]
    rw [chk_pos (by decide)]
    decide
theorem OkS.facts {p w:Nat} (h:OkS p w):11 ≤ p ∧ 5 ≤ w ∧ p + w ≤ 64 ∧ p ≤ 53 ∧ w ≤ 11 ∧ (p + w = 64 → p = 53):=by
  rcases h with ⟨rfl,rfl⟩ | ⟨rfl,rfl⟩ | ⟨rfl,rfl⟩ <;> decide
theorem or_add {a k b:Nat} (h:b < 2 ^ k):a * 2 ^ k ||| b = a * 2 ^ k + b:=by
  rw [Nat.mul_comm]; exact (Nat.two_pow_add_eq_or_of_lt h a).symm
theorem pow64:(2:Nat) ^ 64 = 18446744073709551616:=by decide
theorem pack_eq {p w:Nat} (h:OkS p w) {sign:Int} {E f:Nat} (hs:sign = 0 ∨ sign = 1) (hE:E < 2 ^ w) (hf:f < 2 ^ (p - 1)):Flt.shape.pack (shp p w) sign (E:Int) (f:Int) = some (packS p w sign E f):=by
  obtain ⟨h1,h2,h3,h4,h5,h6⟩:=h.facts
  obtain ⟨s,rfl,hs1⟩:∃ s:Nat,sign = s ∧ s ≤ 1:=by
    rcases hs with rfl | rfl
    · exact ⟨0,rfl,by decide⟩
    · exact ⟨1,rfl,by decide⟩
  unfold Flt.shape.pack shp
  simp only [letk]
  rw [wu (x:=(s:Int)) (by omega) (by omega),wi (x:=(p:Int) + w) (by omega) (by omega),wi (x:=(p:Int) + w - 1) (by omega) (by omega),wi (x:=(p:Int) - 1) (by omega) (by omega),chk_pos (by omega),chk_pos (by omega)]
  have hE2:E * 2 ^ (p - 1) + 2 ^ (p - 1) ≤ 2 ^ (p + w - 1):=by
    have:(E + 1) * 2 ^ (p - 1) ≤ 2 ^ w * 2 ^ (p - 1):=Nat.mul_le_mul_right _ hE
    rw [← Nat.pow_add,Nat.add_mul,Nat.one_mul,show w + (p - 1) = p + w - 1 by omega] at this
    exact this
  have hp:2 ^ (p + w - 1) * 2 ≤ 18446744073709551616:=by
    rw [← Nat.pow_succ,← pow64]; exact Nat.pow_le_pow_right (by decide) (by omega)
  have hpp:=Nat.two_pow_pos (p - 1)
  have hs2:s * 2 ^ (p + w - 1) ≤ 1 * 2 ^ (p + w - 1):=Nat.mul_le_mul_right _ hs1
  have m1:s * 2 ^ (p + w - 1) % 18446744073709551616 = s * 2 ^ (p + w - 1):=Nat.mod_eq_of_lt (by omega)
  have m2:E * 2 ^ (p - 1) % 18446744073709551616 = E * 2 ^ (p - 1):=Nat.mod_eq_of_lt (by omega)
  rw [u_shl' (a:=s) (k:=p + w - 1) rfl (by omega),u_shl' (a:=E) (k:=p - 1) rfl (by omega),m1,m2,u_or' rfl rfl (by omega) (by omega),or_add (by omega)]
  have e2:s * 2 ^ (p + w - 1) + E * 2 ^ (p - 1) = (s * 2 ^ w + E) * 2 ^ (p - 1):=by
    rw [Nat.add_mul,Nat.mul_assoc,← Nat.pow_add,show w + (p - 1) = p + w - 1 by omega]
  rw [u_or' rfl rfl (by omega) (by omega),e2,or_add hf]
  unfold packS
  rw [Int.toNat_natCast,e2]
theorem infinite_eq {p w:Nat} (h:OkS p w) {sign:Int} (hs:sign = 0 ∨ sign = 1):Flt.shape.infinite (shp p w) sign = some (packS p w sign (2 ^ w - 1) 0):=by
  unfold Flt.shape.infinite
  have hp:=Nat.two_pow_pos w
  have:=pack_eq h (E:=2 ^ w - 1) (f:=0) hs (by omega) (Nat.two_pow_pos _)
  rw [show (⟨(shp p w).p,(shp p w).w⟩:float.shape) = shp p w from rfl,top_eq h]
  simp only [Option.bind_some]
  rcases h with ⟨rfl,rfl⟩ | ⟨rfl,rfl⟩ | ⟨rfl,rfl⟩ <;>
  · exact congrArg (fun q=>Option.bind q fun t=>some t) this
theorem greatest_eq {p w:Nat} (h:OkS p w) {sign:Int} (hs:sign = 0 ∨ sign = 1):Flt.shape.greatest (shp p w) sign = some (packS p w sign (2 ^ w - 2) (2 ^ (p - 1) - 1)):=by
  have:=pack_eq h (E:=2 ^ w - 2) (f:=2 ^ (p - 1) - 1) hs (by have:=Nat.two_pow_pos w; omega) (by have:=Nat.two_pow_pos (p - 1); omega)
  unfold Flt.shape.greatest
  rw [show (⟨(shp p w).p,(shp p w).w⟩:float.shape) = shp p w from rfl,top_eq h]
  simp only [Option.bind_some,letk]
  rcases h with ⟨rfl,rfl⟩ | ⟨rfl,rfl⟩ | ⟨rfl,rfl⟩ <;>
  · rw [chk_pos (by decide)]
    exact congrArg (fun q=>Option.bind q fun t=>some t) this
end Go.Q
namespace Go.Q
open Go
set_option maxRecDepth 100000
set_option maxHeartbeats 2000000
def rest0 (N n:Nat) (more:Bool):Nat:=if n = 0 then (if more = true then 1 else 0) else restC N n more
def halfI (N k:Nat):Bool:=if k = 0 then false else N.testBit (k - 1)
def belowI (N k:Nat) (more:Bool):Bool:=more || (if k = 0 then false else decide (N % 2 ^ (k - 1) ≠ 0))
theorem rest0_of (N n:Nat) (more:Bool):rest0 N n more = if halfI N n = true then (if belowI N n more = true then 3 else 2) else (if belowI N n more = true then 1 else 0):=by
  unfold rest0 halfI belowI restC
  by_cases h:n = 0
  · simp [h]
  · simp only [if_neg h]
theorem mod_bit (N k:Nat):N % 2 ^ (k + 1) = (if N.testBit k = true then 2 ^ k else 0) + N % 2 ^ k:=by
  rw [Nat.pow_succ,Nat.mod_mul]
  have:N / 2 ^ k % 2 = (if N.testBit k = true then 1 else 0):=by
    rw [Nat.testBit_eq_decide_div_mod_eq]
    by_cases h:N / 2 ^ k % 2 = 1
    · simp [h]
    · simp [h]; omega
  rw [this]
  split <;> omega
theorem below_step (N k:Nat) (more:Bool):belowI N (k + 1) more = (belowI N k more || halfI N k):=by
  unfold belowI halfI
  cases k with
  | zero=>simp [Nat.mod_one]
  | succ k =>
    simp only [Nat.succ_ne_zero,if_false,Nat.add_one_sub_one]
    have e:decide (N % 2 ^ (k + 1) ≠ 0) = (decide (N % 2 ^ k ≠ 0) || N.testBit k):=by
      rw [Bool.eq_iff_iff]
      have h1:=mod_bit N k
      have:=Nat.two_pow_pos k
      simp only [decide_eq_true_eq,Bool.or_eq_true]
      by_cases h:N.testBit k = true
      · rw [if_pos h] at h1
        exact ⟨fun _=>.inr h,fun _=>by omega⟩
      · rw [if_neg h] at h1
        exact ⟨fun h2=>.inl (by omega),fun h2=>h2.elim (fun h2=>by omega) (fun h2=>absurd h2 h)⟩
    rw [e,Bool.or_assoc]
theorem right_j2 (lo:Int) (half below:Bool):Flt.exact.right.j1 lo half below = some (lo,((if half = true then (if below = true then 3 else 2) else (if below = true then 1 else 0):Nat):Int)):=by
  cases half <;> cases below <;> rfl
theorem half_words (hi lo q:Nat) (h3:hi * 18446744073709551616 + lo = q):hi / 2 * 18446744073709551616 + (lo / 2 + (hi % 2) * 9223372036854775808) = q / 2:=by
  have e:hi = 2 * (hi / 2) + hi % 2:=(Nat.div_add_mod hi 2).symm
  generalize hi / 2 = a at *
  generalize hi % 2 = b at *
  subst e
  have e:q = lo + 2 * (a * 18446744073709551616 + b * 9223372036854775808):=by rw [← h3,Nat.add_mul,Nat.mul_assoc,Nat.mul_add]; omega
  rw [e,Nat.add_mul_div_left _ _ (by decide)]
  exact Nat.add_left_comm _ _ _
theorem shift1 (hi lo:Nat) (hlo:lo < 18446744073709551616):((lo / 2 ^ 1) ||| (hi * 2 ^ 63 % 18446744073709551616)) = lo / 2 + (hi % 2) * 2 ^ 63:=by
  have e:hi * 2 ^ 63 % 18446744073709551616 = (hi % 2) * 2 ^ 63:=by
    have:(18446744073709551616:Nat) = 2 ^ 63 * 2:=by decide
    rw [this,Nat.mul_comm hi,Nat.mul_mod_mul_left,Nat.mul_comm]
  rw [e,Nat.pow_one,Nat.or_comm,or_add (by omega),Nat.add_comm]
theorem right_l0 (N n:Nat) (more:Bool) (hN:0 < N) (hn:n < 2 ^ 62):∀ m k hi lo:Nat,m + k = n → hi < 18446744073709551616 → lo < 18446744073709551616 → hi * 18446744073709551616 + lo = N / 2 ^ k →
    Flt.exact.right.l0 m hi lo (halfI N k) (belowI N k more) = some (((N / 2 ^ n % 18446744073709551616:Nat):Int),(rest0 N n more:Int)):=by
  intro m
  induction m with
  | zero =>
    intro k hi lo hk h1 h2 h3
    obtain rfl:k = n:=by omega
    rw [Flt.exact.right.l0_eq,Flt.exact.right.s0]
    simp only [letk]
    rw [decide_eq_false (by omega:¬ ((0:Nat):Int) > 0)]
    simp only [cond]
    unfold Flt.exact.right.j0
    simp only [letk]
    rw [decide_eq_false (by omega:¬ ((0:Nat):Int) > 0)]
    simp only [cond,right_j2,Option.map_some,Option.bind_some,Sum.elim_inr]
    rw [rest0_of,← h3]
    congr 2
    omega
  | succ m ih =>
    intro k hi lo hk h1 h2 h3
    have go:(if halfI N k = true then Flt.exact.right.j3 ((m + 1:Nat):Int) hi lo true (belowI N k more) else Flt.exact.right.j3 ((m + 1:Nat):Int) hi lo false (belowI N k more)) = some (.inl ((m:Int),((hi / 2:Nat):Int),((lo / 2 + (hi % 2) * 2 ^ 63:Nat):Int),halfI N (k + 1),belowI N (k + 1) more)):=by
      have hb:halfI N (k + 1) = decide (lo % 2 = 1):=by
        unfold halfI
        rw [if_neg (by omega),Nat.add_one_sub_one,Nat.testBit_eq_decide_div_mod_eq,← h3]
        congr 1
        rw [eq_iff_iff]; omega
      have j4:∀ b:Bool,Flt.exact.right.j4 ((m + 1:Nat):Int) hi lo b = some (.inl ((m:Int),((hi / 2:Nat):Int),((lo / 2 + (hi % 2) * 2 ^ 63:Nat):Int),halfI N (k + 1),b)):=by
        intro b
        unfold Flt.exact.right.j4
        simp only [letk]
        rw [chk_pos (by decide),chk_pos (by decide),chk_pos (by decide)]
        rw [u_and' (a:=lo) (b:=1) (y:=1) rfl rfl h2 (by decide),u_shr' (a:=lo) (k:=1) (y:=1) rfl rfl h2,u_shl' (a:=hi) (k:=63) (y:=63) rfl rfl,u_shr' (a:=hi) (k:=1) (y:=1) rfl rfl h1]
        rw [u_or' rfl rfl (by omega) (Nat.mod_lt _ (by decide)),shift1 hi lo h2,wi (by omega) (by omega)]
        rw [hb]
        congr 3
        · push_cast; omega
        · congr 1
          congr 1
          congr 1
          rw [Nat.and_one_is_mod]
          by_cases h:lo % 2 = 1
          · rw [h]; rfl
          · rw [decide_eq_false h]
            have:lo % 2 = 0:=by omega
            rw [this]; rfl
      have j3:∀ h:Bool,Flt.exact.right.j3 ((m + 1:Nat):Int) hi lo h (belowI N k more) = some (.inl ((m:Int),((hi / 2:Nat):Int),((lo / 2 + (hi % 2) * 2 ^ 63:Nat):Int),halfI N (k + 1),(belowI N k more || h))):=by
        intro h
        unfold Flt.exact.right.j3
        cases hb2:belowI N k more with
        | true=>simp only [cond,j4,Bool.true_or]
        | false=>simp only [cond,j4,Bool.false_or]
      rw [below_step]
      split
      · rename_i h; rw [j3,h]
      · rename_i h; rw [j3]; simp only [Bool.not_eq_true] at h; rw [h]
    have nx:=ih (k + 1) (hi / 2) (lo / 2 + (hi % 2) * 2 ^ 63) (by omega) (by omega) (by omega) (by
      have:N / 2 ^ (k + 1) = N / 2 ^ k / 2:=by rw [Nat.div_div_eq_div_mul,Nat.pow_succ]
      rw [this]
      exact half_words hi lo _ h3)
    have cont:∀ h:Bool,h = halfI N k → (Option.bind (Flt.exact.right.j3 ((m + 1:Nat):Int) hi lo h (belowI N k more)) (Sum.elim (fun v=>Flt.exact.right.l0 v.1 v.2.1 v.2.2.1 v.2.2.2.1 v.2.2.2.2) some)) = some (((N / 2 ^ n % 18446744073709551616:Nat):Int),(rest0 N n more:Int)):=by
      intro h hh
      have e:Flt.exact.right.j3 ((m + 1:Nat):Int) hi lo h (belowI N k more) = some (.inl ((m:Int),((hi / 2:Nat):Int),((lo / 2 + (hi % 2) * 2 ^ 63:Nat):Int),halfI N (k + 1),belowI N (k + 1) more)):=by
        rw [← go,← hh]; cases h <;> rfl
      rw [e]
      simp only [Option.bind_some,Sum.elim_inl]
      exact nx
    rw [Flt.exact.right.l0_eq,Flt.exact.right.s0]
    simp only [letk]
    rw [decide_eq_true (by omega:((m + 1:Nat):Int) > 0)]
    simp only [cond]
    by_cases hh:hi = 0
    · subst hh
      rw [show (((0:Nat):Int) != 0) = false from rfl]
      simp only
      by_cases hl:lo = 0
      · subst hl
        rw [show (((0:Nat):Int) != 0) = false from rfl]
        simp only
        cases hf:halfI N k with
        | true=>simp only; exact cont true hf.symm
        | false =>
          simp only
          unfold Flt.exact.right.j0
          simp only [letk]
          rw [decide_eq_true (by omega:((m + 1:Nat):Int) > 0)]
          simp only [cond,right_j2,Option.map_some,Option.bind_some,Sum.elim_inr]
          have hk0:k ≠ 0:=by
            intro h; subst h; rw [Nat.pow_zero,Nat.div_one,Nat.zero_mul,Nat.zero_add] at h3; omega
          have hz:N / 2 ^ k = 0:=by rw [← h3]
          have hlt:N < 2 ^ k:=(Nat.div_eq_zero_iff_lt (Nat.two_pow_pos k)).1 hz
          have hN2:N < 2 ^ (k - 1):=by
            unfold halfI at hf
            rw [if_neg hk0] at hf
            have h1:=mod_bit N (k - 1)
            rw [show k - 1 + 1 = k by omega,Nat.mod_eq_of_lt hlt,if_neg (by rw [hf]; simp)] at h1
            rw [h1,Nat.zero_add]; exact Nat.mod_lt _ (Nat.two_pow_pos _)
          have hN3:N < 2 ^ (n - 1):=Nat.lt_of_lt_of_le hN2 (Nat.pow_le_pow_right (by decide) (by omega))
          have hN4:N < 2 ^ n:=Nat.lt_of_lt_of_le hN2 (Nat.pow_le_pow_right (by decide) (by omega))
          have e1:rest0 N n more = 1:=by
            unfold rest0 restC
            rw [if_neg (by omega),if_neg (by rw [Nat.testBit_lt_two_pow hN3]; simp),if_pos (by rw [Nat.mod_eq_of_lt hN3]; simp; omega)]
          rw [e1,Nat.div_eq_of_lt hN4]
          rfl
      · rw [show ((lo:Int) != 0) = true from by simp [hl]]
        simp only
        exact cont _ rfl
    · rw [show ((hi:Int) != 0) = true from by simp [hh]]
      simp only
      exact cont _ rfl
theorem right_eq {hi lo n:Nat} {e:Int} {more:Bool} (h1:hi < 18446744073709551616) (h2:lo < 18446744073709551616) (hN:0 < hi * 18446744073709551616 + lo) (hn:n < 2 ^ 62) :
    Flt.exact.right ⟨hi,lo,e,more⟩ n = some ((((hi * 18446744073709551616 + lo) / 2 ^ n % 18446744073709551616:Nat):Int),(rest0 (hi * 18446744073709551616 + lo) n more:Int)):=by
  have:=right_l0 (hi * 18446744073709551616 + lo) n more hN hn n 0 hi lo (by omega) h1 h2 (by simp)
  unfold Flt.exact.right
  rw [← this]
  simp [halfI,belowI]
theorem long_eq {hi lo:Nat} {e:Int} {more:Bool} (h1:hi < 18446744073709551616) (h2:lo < 18446744073709551616):Flt.exact.long ⟨hi,lo,e,more⟩ = some (bl (hi * 18446744073709551616 + lo):Int):=by
  unfold Flt.exact.long Bits.Len64
  simp only [letk]
  by_cases h:hi = 0
  · subst h
    rw [show (((0:Nat):Int) != 0) = false from rfl]
    simp only [cond]
    rw [chk_pos (by omega)]
    simp only [Option.bind_some,Int.toNat_natCast,bitLen_bl h2,Nat.zero_mul,Nat.zero_add]
  · rw [show ((hi:Int) != 0) = true from by simp [h]]
    simp only [cond]
    rw [chk_pos (by omega)]
    have hb:=bl_le_iff.2 (show hi < 2 ^ 64 from h1)
    simp only [Option.bind_some,Int.toNat_natCast,bitLen_bl h1]
    rw [wi (by omega) (by omega)]
    have:=bl_ref (n:=hi) (k:=64) (r:=lo) (by omega) h2
    rw [show hi * 18446744073709551616 + lo = hi * 2 ^ 64 + lo from rfl,this]
    congr 1; push_cast; omega
theorem away_eq (mode sign:Int) (odd:Bool) (rest:Nat):Flt.away mode sign odd rest = some (awayS mode sign odd rest):=by
  unfold Flt.away awayS
  simp only [letk]
  by_cases h0:mode = 0
  · subst h0
    rw [if_pos rfl]
    by_cases h3:rest = 3
    · subst h3; rfl
    · rw [show ((rest:Int) == 3) = false from by simp; omega]
      by_cases h2:rest = 2
      · subst h2; cases odd <;> rfl
      · rw [show ((rest:Int) == 2) = false from by simp; omega,decide_eq_false h3,decide_eq_false h2]; rfl
  · rw [show (mode == 0) = false from beq_eq_false_iff_ne.2 h0,if_neg h0]
    by_cases h2:mode = 2
    · subst h2
      rw [if_pos rfl]
      by_cases hr:0 < rest
      · rw [decide_eq_true (show (rest:Int) > 0 by omega),decide_eq_true hr]
        by_cases hs:sign = 1
        · subst hs; rfl
        · rw [show (sign == 1) = false from beq_eq_false_iff_ne.2 hs,decide_eq_false hs]; rfl
      · rw [decide_eq_false (show ¬ (rest:Int) > 0 by omega),decide_eq_false hr]; rfl
    · rw [show (mode == 2) = false from beq_eq_false_iff_ne.2 h2,if_neg h2]
      by_cases h3:mode = 3
      · subst h3
        rw [if_pos rfl]
        by_cases hr:0 < rest
        · rw [decide_eq_true (show (rest:Int) > 0 by omega),decide_eq_true hr]
          by_cases hs:sign = 0
          · subst hs; rfl
          · rw [show (sign == 0) = false from beq_eq_false_iff_ne.2 hs,decide_eq_false hs]; rfl
        · rw [decide_eq_false (show ¬ (rest:Int) > 0 by omega),decide_eq_false hr]; rfl
      · rw [show (mode == 3) = false from beq_eq_false_iff_ne.2 h3,if_neg h3]; rfl
end Go.Q
namespace Go.Q
open Go
set_option maxRecDepth 100000
set_option maxHeartbeats 4000000
theorem pw_lt {a b:Nat} (h:a ≤ b) (hb:b ≤ 63):2 ^ a < 18446744073709551616:=by
  rw [← pow64]; exact Nat.pow_lt_pow_right (by decide) (by omega)
theorem over_eq {p w:Nat} (h:OkS p w) {mode sign:Int} (hs:sign = 0 ∨ sign = 1) (b:Bool) (hb:b = decide (mode = 1 ∨ (mode = 2 ∧ sign = 0) ∨ (mode = 3 ∧ sign = 1))) :
    Flt.shape.round.j4 sign p w b = some (if mode = 1 ∨ (mode = 2 ∧ sign = 0) ∨ (mode = 3 ∧ sign = 1) then (packS p w sign (2 ^ w - 2) (2 ^ (p - 1) - 1),20) else (packS p w sign (2 ^ w - 1) 0,20)):=by
  unfold Flt.shape.round.j4
  have e:(⟨(p:Int),(w:Int)⟩:float.shape) = shp p w:=rfl
  rw [e,greatest_eq h hs,infinite_eq h hs,hb]
  by_cases hc:mode = 1 ∨ (mode = 2 ∧ sign = 0) ∨ (mode = 3 ∧ sign = 1)
  · rw [decide_eq_true hc,if_pos hc]; rfl
  · rw [decide_eq_false hc,if_neg hc]; rfl
theorem j3_eq {p w:Nat} (h:OkS p w) {mode sign flags last:Int} {m:Nat} (hs:sign = 0 ∨ sign = 1) (hm:m < 2 ^ p) (hl:lstS p w ≤ last) (hl2:last < 1000000) :
    Flt.shape.round.j3 mode sign flags p w last m = some (if m < 2 ^ (p - 1) then (packS p w sign 0 m,flags)
      else if last + p - 1 + biasS w < 2 ^ w - 1 then (packS p w sign (last + p - 1 + biasS w).toNat (m - 2 ^ (p - 1)),flags)
      else if mode = 1 ∨ (mode = 2 ∧ sign = 0) ∨ (mode = 3 ∧ sign = 1) then (packS p w sign (2 ^ w - 2) (2 ^ (p - 1) - 1),20)
      else (packS p w sign (2 ^ w - 1) 0,20)):=by
  obtain ⟨h1,h2,h3,h4,h5,h6⟩:=h.facts
  have hb:0 ≤ biasS w ∧ biasS w < 2000:=by rcases h with ⟨rfl,rfl⟩ | ⟨rfl,rfl⟩ | ⟨rfl,rfl⟩ <;> decide
  have ht:(0:Int) ≤ 2 ^ w - 1 ∧ (2:Int) ^ w - 1 < 5000:=by rcases h with ⟨rfl,rfl⟩ | ⟨rfl,rfl⟩ | ⟨rfl,rfl⟩ <;> decide
  have htw:((2:Int) ^ w) = ((2 ^ w:Nat):Int):=by push_cast; rfl
  have hlst:lstS p w = 2 - biasS w - p:=rfl
  have hp1:2 ^ (p - 1) < 18446744073709551616:=pw_lt (Nat.le_refl _) (by omega)
  have hpp:2 ^ p = 2 ^ (p - 1) * 2:=by rw [← Nat.pow_succ]; congr 1; omega
  have hp0:=Nat.two_pow_pos (p - 1)
  have hp63:2 ^ p < 18446744073709551616:=pw_lt (Nat.le_refl _) (by omega)
  have e:(⟨(p:Int),(w:Int)⟩:float.shape) = shp p w:=rfl
  unfold Flt.shape.round.j3
  simp only [letk]
  rw [wi (x:=(p:Int) - 1) (by omega) (by omega),chk_pos (by omega)]
  rw [u_shl' (a:=1) (k:=p - 1) (x:=1) rfl (by omega),Nat.one_mul,Nat.mod_eq_of_lt hp1]
  by_cases hc:m < 2 ^ (p - 1)
  · rw [decide_eq_true (by omega:(m:Int) < ((2 ^ (p - 1):Nat):Int)),if_pos hc]
    simp only [cond,e]
    have:=pack_eq h (E:=0) (f:=m) hs (Nat.two_pow_pos _) hc
    rw [show Flt.shape.pack (shp p w) sign 0 m = _ from this]; rfl
  · rw [decide_eq_false (by omega:¬ (m:Int) < ((2 ^ (p - 1):Nat):Int)),if_neg hc]
    simp only [cond,e,bias_eq h,top_eq h,Option.bind_some]
    rw [wi (x:=last + p) (by omega) (by omega),wi (x:=last + p - 1) (by omega) (by omega),wi (x:=last + p - 1 + biasS w) (by omega) (by omega),wi (x:=(2:Int) ^ w - 1) (by omega) (by omega)]
    by_cases hE:last + p - 1 + biasS w < 2 ^ w - 1
    · rw [decide_eq_true hE,if_pos hE]
      simp only
      rw [wu (x:=last + p - 1 + biasS w) (by omega) (by omega),chk_pos (by omega)]
      have e2:IntKind.u64.wrap (((2 ^ (p - 1):Nat):Int) - 1) = ((2 ^ (p - 1) - 1:Nat):Int):=by
        rw [wu (by omega) (by omega)]; omega
      rw [e2,u_and' rfl rfl (by omega) (by omega),Nat.and_two_pow_sub_one_eq_mod]
      have e3:m % 2 ^ (p - 1) = m - 2 ^ (p - 1):=by
        rw [Nat.mod_eq_sub_mod (by omega),Nat.mod_eq_of_lt (by omega)]
      rw [e3]
      have:=pack_eq h (E:=(last + p - 1 + biasS w).toNat) (f:=m - 2 ^ (p - 1)) hs (by omega) (by omega)
      rw [show ((((last + p - 1 + biasS w).toNat:Nat):Int)) = last + p - 1 + biasS w by omega] at this
      rw [this]; rfl
    · rw [decide_eq_false hE,if_neg hE]
      simp only
      by_cases m1:mode = 1
      · subst m1
        rw [show ((1:Int) == 1) = true from rfl]
        simp only
        exact over_eq (mode:=1) h hs true (by simp)
      · rw [show (mode == 1) = false from beq_eq_false_iff_ne.2 m1]
        simp only
        by_cases m2:mode = 2
        · subst m2
          rw [show ((2:Int) == 2) = true from rfl,show ((2:Int) == 3) = false from rfl]
          simp only
          rcases hs with rfl | rfl
          · exact over_eq (mode:=2) h (.inl rfl) true (by decide)
          · exact over_eq (mode:=2) h (.inr rfl) false (by decide)
        · rw [show (mode == 2) = false from beq_eq_false_iff_ne.2 m2]
          simp only
          by_cases m3:mode = 3
          · subst m3
            rw [show ((3:Int) == 3) = true from rfl]
            simp only
            rcases hs with rfl | rfl
            · exact over_eq (mode:=3) h (.inl rfl) false (by decide)
            · exact over_eq (mode:=3) h (.inr rfl) true (by decide)
          · rw [show (mode == 3) = false from beq_eq_false_iff_ne.2 m3]
            simp only
            exact over_eq (mode:=mode) h hs false (by simp [m1,m2,m3])
theorem j2_eq {p w:Nat} (h:OkS p w) {mode sign flags last:Int} {m1:Nat} (_hs:sign = 0 ∨ sign = 1) (hm:m1 ≤ 2 ^ p) (hl:lstS p w ≤ last) (hl2:last < 900000) :
    Flt.shape.round.j2 mode sign last flags p w m1 = Flt.shape.round.j3 mode sign flags p w (if m1 = 2 ^ p then last + 1 else last) (if m1 = 2 ^ p then 2 ^ (p - 1) else m1:Nat):=by
  obtain ⟨h1,h2,h3,h4,h5,h6⟩:=h.facts
  have hp63:2 ^ p < 18446744073709551616:=pw_lt (Nat.le_refl _) (by omega)
  have hlst:lstS p w = 2 - biasS w - p:=rfl
  have hb:0 ≤ biasS w ∧ biasS w < 2000:=by rcases h with ⟨rfl,rfl⟩ | ⟨rfl,rfl⟩ | ⟨rfl,rfl⟩ <;> decide
  unfold Flt.shape.round.j2
  simp only [letk]
  rw [chk_pos (by omega),chk_pos (by decide),u_shl' (a:=1) (k:=p) (x:=1) rfl rfl,Nat.one_mul,Nat.mod_eq_of_lt hp63]
  by_cases hc:m1 = 2 ^ p
  · rw [if_pos hc,if_pos hc,show ((m1:Int) == ((2 ^ p:Nat):Int)) = true from by rw [hc]; exact beq_self_eq_true _]
    simp only [cond]
    rw [u_shr' (a:=m1) (k:=1) (y:=1) rfl rfl (by omega),wi (by omega) (by omega),hc,Nat.pow_one]
    congr 2
    have:2 ^ p = 2 ^ (p - 1) * 2:=by rw [← Nat.pow_succ]; congr 1; omega
    rw [this,Nat.mul_div_cancel _ (by decide)]
  · rw [if_neg hc,if_neg hc,show ((m1:Int) == ((2 ^ p:Nat):Int)) = false from by rw [beq_eq_false_iff_ne]; omega]
    rfl
theorem j0_eq {p w:Nat} (h:OkS p w) {mode sign high last:Int} {m rest:Nat} (hs:sign = 0 ∨ sign = 1) (hm:m < 2 ^ p) (hl:lstS p w ≤ last) (hl2:last < 900000) :
    Flt.shape.round.j0 mode sign high last p w m rest = some (finS p w mode sign high last m rest):=by
  obtain ⟨h1,h2,h3,h4,h5,h6⟩:=h.facts
  have hlst:lstS p w = 2 - biasS w - p:=rfl
  have hb:0 ≤ biasS w ∧ biasS w < 2000:=by rcases h with ⟨rfl,rfl⟩ | ⟨rfl,rfl⟩ | ⟨rfl,rfl⟩ <;> decide
  have hp63:2 ^ p < 18446744073709551616:=pw_lt (Nat.le_refl _) (by omega)
  have e:(⟨(p:Int),(w:Int)⟩:float.shape) = shp p w:=rfl
  have j1:∀ flags:Int,Flt.shape.round.j1 mode sign last m rest p w flags = Flt.shape.round.j3 mode sign flags p w (if (if awayS mode sign (decide (m % 2 = 1)) rest = true then m + 1 else m) = 2 ^ p then last + 1 else last) (if (if awayS mode sign (decide (m % 2 = 1)) rest = true then m + 1 else m) = 2 ^ p then 2 ^ (p - 1) else (if awayS mode sign (decide (m % 2 = 1)) rest = true then m + 1 else m):Nat):=by
    intro flags
    unfold Flt.shape.round.j1
    simp only [letk]
    rw [u_and' (a:=m) (b:=1) (y:=1) rfl rfl (by omega) (by decide),Nat.and_one_is_mod]
    rw [show (((m % 2:Nat):Int) == 1) = decide (m % 2 = 1) from by
      rw [Bool.eq_iff_iff,beq_iff_eq,decide_eq_true_eq]; omega]
    rw [away_eq]
    simp only [Option.bind_some]
    cases awayS mode sign (decide (m % 2 = 1)) rest with
    | true =>
      simp only [cond,if_true]
      rw [wu (x:=(m:Int) + 1) (by omega) (by omega)]
      exact j2_eq h hs (m1:=m + 1) hm hl hl2
    | false =>
      simp only [cond,Bool.false_eq_true,if_false]
      exact j2_eq h hs (Nat.le_of_lt hm) hl hl2
  have mlt:(if (if awayS mode sign (decide (m % 2 = 1)) rest = true then m + 1 else m) = 2 ^ p then 2 ^ (p - 1) else (if awayS mode sign (decide (m % 2 = 1)) rest = true then m + 1 else m)) < 2 ^ p:=by
    have:2 ^ p = 2 ^ (p - 1) * 2:=by rw [← Nat.pow_succ]; congr 1; omega
    have:=Nat.two_pow_pos (p - 1)
    split <;> split <;> omega
  have fin:∀ flags:Int,flags = (if 0 < rest then (if high < lstS p w + p - 1 then 24 else 16) else 0) → Flt.shape.round.j1 mode sign last m rest p w flags = some (finS p w mode sign high last m rest):=by
    intro flags hf
    rw [j1,j3_eq h hs mlt (by split <;> omega) (by split <;> omega)]
    unfold finS
    rw [hf]
  unfold Flt.shape.round.j0
  simp only [letk]
  by_cases hr:0 < rest
  · rw [decide_eq_true (show (rest:Int) > 0 by omega)]
    simp only [cond,e,least_eq h,Option.bind_some]
    rw [wi (x:=lstS p w + p) (by omega) (by omega),wi (x:=lstS p w + p - 1) (by omega) (by omega)]
    by_cases hh:high < lstS p w + p - 1
    · rw [decide_eq_true hh]
      simp only
      refine fin _ ?_
      rw [if_pos hr,if_pos hh]; decide
    · rw [decide_eq_false hh]
      simp only
      refine fin _ ?_
      rw [if_pos hr,if_neg hh]
  · rw [decide_eq_false (show ¬ (rest:Int) > 0 by omega)]
    simp only [cond]
    refine fin _ ?_
    rw [if_neg hr]
theorem round_eq {p w:Nat} (h:OkS p w) {mode sign e:Int} {hi lo:Nat} {more:Bool} (hs:sign = 0 ∨ sign = 1) (h1:hi < 18446744073709551616) (h2:lo < 18446744073709551616) (hN:0 < hi * 18446744073709551616 + lo)
    (he:-100000 < e) (he2:e < 100000) (hmore:more = true → 0 < lastS p w (hi * 18446744073709551616 + lo) e - e) :
    Flt.shape.round (shp p w) mode sign ⟨hi,lo,e,more⟩ = some (rndS p w mode sign (hi * 18446744073709551616 + lo) e more):=by
  obtain ⟨f1,f2,f3,f4,f5,f6⟩:=h.facts
  have hlst:lstS p w = 2 - biasS w - p:=rfl
  have hb:0 ≤ biasS w ∧ biasS w < 2000:=by rcases h with ⟨rfl,rfl⟩ | ⟨rfl,rfl⟩ | ⟨rfl,rfl⟩ <;> decide
  generalize hNe:hi * 18446744073709551616 + lo = N at hN hmore
  have hN128:N < 2 ^ 128:=by
    have e1:(2:Nat) ^ 128 = 2 ^ 64 * 2 ^ 64:=by decide
    have:(hi + 1) * 2 ^ 64 ≤ 2 ^ 64 * 2 ^ 64:=Nat.mul_le_mul_right _ h1
    rw [Nat.add_mul,Nat.one_mul] at this
    rw [e1,← hNe]
    exact Nat.lt_of_lt_of_le (Nat.add_lt_add_left h2 _) this
  have hbl:bl N ≤ 128:=bl_le_iff.2 hN128
  have hbp:=bl_pos hN
  have hhigh:highS N e = e + bl N - 1:=rfl
  have hlast:lastS p w N e = max (highS N e - p + 1) (lstS p w):=rfl
  have hlast1:lstS p w ≤ lastS p w N e ∧ highS N e - p + 1 ≤ lastS p w N e ∧ (lastS p w N e = lstS p w ∨ lastS p w N e = highS N e - p + 1):=by
    rw [hlast]; omega
  obtain ⟨l1,l2,l3⟩:=hlast1
  unfold Flt.shape.round
  have el:=long_eq (e:=e) (more:=more) h1 h2
  rw [hNe] at el
  have es:(⟨(shp p w).p,(shp p w).w⟩:float.shape) = shp p w:=rfl
  simp only [el,Option.bind_some,letk,es,least_eq h]
  rw [wi (x:=e + bl N) (by omega) (by omega),wi (x:=e + bl N - 1) (by omega) (by omega)]
  rw [show (shp p w).p = (p:Int) from rfl,show (shp p w).w = (w:Int) from rfl]
  rw [wi (x:=e + bl N - 1 - p) (by omega) (by omega),wi (x:=e + bl N - 1 - p + 1) (by omega) (by omega)]
  have em:(if lstS p w > e + bl N - 1 - p + 1 then lstS p w else e + bl N - 1 - p + 1) = lastS p w N e:=by
    rw [hlast,hhigh]
    split <;> omega
  rw [em]
  unfold rndS
  by_cases hd:lastS p w N e ≤ e
  · rw [decide_eq_true hd]
    simp only [cond]
    rw [if_pos (by omega),if_pos (by omega)]
    have hble:bl N ≤ p:=by omega
    have hNp:N < 2 ^ p:=bl_le_iff.1 hble
    have hhi:hi = 0:=by
      have:2 ^ p ≤ 2 ^ 63:=Nat.pow_le_pow_right (by decide) (by omega)
      have h63:(2:Nat) ^ 63 = 9223372036854775808:=by decide
      rcases Nat.eq_zero_or_pos hi with h0 | h0
      · exact h0
      · have:1 * 18446744073709551616 ≤ hi * 18446744073709551616:=Nat.mul_le_mul_right _ h0
        omega
    subst hhi
    rw [Nat.zero_mul,Nat.zero_add] at hNe
    subst hNe
    have hk:(e - lastS p w lo e).toNat + bl lo ≤ p:=by omega
    have hsh:lo * 2 ^ (e - lastS p w lo e).toNat < 2 ^ p:=by
      have hA:lo * 2 ^ (e - lastS p w lo e).toNat < 2 ^ bl lo * 2 ^ (e - lastS p w lo e).toNat:=Nat.mul_lt_mul_of_pos_right (bl_lt lo) (Nat.two_pow_pos _)
      rw [← Nat.pow_add] at hA
      exact Nat.lt_of_lt_of_le hA (Nat.pow_le_pow_right (by decide) (by omega))
    have hp63:2 ^ p < 18446744073709551616:=pw_lt (Nat.le_refl _) (by omega)
    rw [wi (x:=e - lastS p w lo e) (by omega) (by omega),chk_pos (by omega)]
    rw [u_shl' (a:=lo) (k:=(e - lastS p w lo e).toNat) rfl (by omega),Nat.mod_eq_of_lt (by omega)]
    have:=j0_eq h (mode:=mode) (high:=e + bl lo - 1) (m:=lo * 2 ^ (e - lastS p w lo e).toNat) (rest:=0) hs hsh l1 (by omega)
    rw [show -(lastS p w lo e - e) = e - lastS p w lo e by omega]
    exact this
  · rw [decide_eq_false hd]
    simp only [cond]
    rw [if_neg (by omega),if_neg (by omega)]
    rw [wi (x:=lastS p w N e - e) (by omega) (by omega)]
    have hn:(lastS p w N e - e).toNat < 2 ^ 62:=by
      have:(2:Nat) ^ 62 = 4611686018427387904:=by decide
      omega
    have er:=right_eq (e:=e) (more:=more) h1 h2 (by rw [hNe]; exact hN) hn
    rw [hNe,show (((lastS p w N e - e).toNat:Nat):Int) = lastS p w N e - e by omega] at er
    rw [er]
    simp only [Option.bind_some]
    have hq:N / 2 ^ (lastS p w N e - e).toNat < 2 ^ p:=by
      rw [Nat.div_lt_iff_lt_mul (Nat.two_pow_pos _),← Nat.pow_add]
      exact Nat.lt_of_lt_of_le (bl_lt N) (Nat.pow_le_pow_right (by decide) (by omega))
    have hp63:2 ^ p < 18446744073709551616:=pw_lt (Nat.le_refl _) (by omega)
    rw [Nat.mod_eq_of_lt (by omega:N / 2 ^ (lastS p w N e - e).toNat < 18446744073709551616)]
    have hr0:rest0 N (lastS p w N e - e).toNat more = restC N (lastS p w N e - e).toNat more:=by
      unfold rest0; rw [if_neg (by omega)]
    rw [hr0]
    exact j0_eq h hs hq l1 (by omega)
end Go.Q
namespace Go.Q
open Go
set_option maxRecDepth 100000
set_option maxHeartbeats 4000000
def expS (p w u:Nat):Nat:=u / 2 ^ (p - 1) % 2 ^ w
def frcS (p u:Nat):Nat:=u % 2 ^ (p - 1)
def sgnS (p w u:Nat):Nat:=u / 2 ^ (p + w - 1) % 2
def readS (p w u:Nat):float.number :=
  if expS p w u = 2 ^ w - 1 ∧ frcS p u = 0 then ⟨2,sgnS p w u,0,0⟩
  else if expS p w u = 2 ^ w - 1 then ⟨3,sgnS p w u,0,0⟩
  else if expS p w u = 0 ∧ frcS p u = 0 then ⟨0,sgnS p w u,0,0⟩
  else if expS p w u = 0 then ⟨1,sgnS p w u,frcS p u,lstS p w⟩
  else ⟨1,sgnS p w u,((frcS p u + 2 ^ (p - 1):Nat):Int),(expS p w u:Int) - biasS w - p + 1⟩
theorem shp_eta (p w:Nat):(⟨(p:Int),(w:Int)⟩:float.shape) = shp p w:=rfl
theorem beq_nat (a b:Nat):((a:Int) == (b:Int)) = decide (a = b):=by
  rw [Bool.eq_iff_iff,beq_iff_eq,decide_eq_true_eq]; omega
theorem read_eq {p w:Nat} (h:OkS p w) {u:Nat} (hu:u < 18446744073709551616) (a:Int) (ha:IntKind.u64.wrap a = u) :
    Flt.shape.read (shp p w) a = some (if p + w < 64 ∧ 2 ^ (p + w) ≤ u then (⟨0,0,0,0⟩,false) else (readS p w u,true)):=by
  obtain ⟨h1,h2,h3,h4,h5,h6⟩:=h.facts
  have hb:0 ≤ biasS w ∧ biasS w < 2000:=by rcases h with ⟨rfl,rfl⟩ | ⟨rfl,rfl⟩ | ⟨rfl,rfl⟩ <;> decide
  have hlst:lstS p w = 2 - biasS w - p:=rfl
  have hw0:=Nat.two_pow_pos w
  have hp0:=Nat.two_pow_pos (p - 1)
  have hw11:2 ^ w ≤ 2048:=by
    have:2 ^ w ≤ 2 ^ 11:=Nat.pow_le_pow_right (by decide) h5
    exact this
  have htw:(2:Int) ^ w - 1 = ((2 ^ w - 1:Nat):Int):=by
    have:((2:Int) ^ w) = ((2 ^ w:Nat):Int):=by push_cast; rfl
    rw [this]; omega
  have hp1:2 ^ (p - 1) < 18446744073709551616:=pw_lt (Nat.le_refl _) (by omega)
  have hE:expS p w u < 2 ^ w:=Nat.mod_lt _ hw0
  have hF:frcS p u < 2 ^ (p - 1):=Nat.mod_lt _ hp0
  have j0:Flt.shape.read.j0 u ((p:Int) + w) p w 0 0 0 0 = some (readS p w u,true):=by
    unfold Flt.shape.read.j0
    simp only [letk,shp_eta,top_eq h,Option.bind_some]
    rw [wi (x:=(p:Int) + w - 1) (by omega) (by omega),wi (x:=(p:Int) - 1) (by omega) (by omega),chk_pos (by omega),chk_pos (by omega),chk_pos (by omega)]
    rw [u_shr' (a:=u) (k:=p + w - 1) (y:=(p:Int) + w - 1) rfl (by omega) hu,u_shr' (a:=u) (k:=p - 1) (y:=(p:Int) - 1) rfl (by omega) hu]
    rw [u_shl' (a:=1) (k:=p - 1) (x:=1) rfl (by omega),Nat.one_mul,Nat.mod_eq_of_lt hp1]
    have hd1:u / 2 ^ (p + w - 1) < 18446744073709551616:=Nat.lt_of_le_of_lt (Nat.div_le_self _ _) hu
    have hd2:u / 2 ^ (p - 1) < 18446744073709551616:=Nat.lt_of_le_of_lt (Nat.div_le_self _ _) hu
    rw [u_and' (a:=u / 2 ^ (p + w - 1)) (b:=1) (y:=1) rfl rfl hd1 (by decide),Nat.and_one_is_mod]
    rw [wu (x:=((2 ^ (p - 1):Nat):Int) - 1) (by omega) (by omega)]
    rw [u_and' (a:=u / 2 ^ (p - 1)) (b:=2 ^ w - 1) (y:=(2:Int) ^ w - 1) rfl htw hd2 (by omega),Nat.and_two_pow_sub_one_eq_mod]
    rw [u_and' (a:=u) (b:=2 ^ (p - 1) - 1) (y:=((2 ^ (p - 1):Nat):Int) - 1) rfl (by omega) hu (by omega),Nat.and_two_pow_sub_one_eq_mod]
    rw [show u / 2 ^ (p - 1) % 2 ^ w = expS p w u from rfl,show u % 2 ^ (p - 1) = frcS p u from rfl,show u / 2 ^ (p + w - 1) % 2 = sgnS p w u from rfl]
    have hS:sgnS p w u < 2:=Nat.mod_lt _ (by decide)
    rw [wi (x:=((sgnS p w u:Nat):Int)) (by omega) (by omega)]
    rw [htw,beq_nat]
    have eE:∀ x:Nat,((x:Int) == (0:Int)) = decide (x = 0):=fun x=>beq_nat x 0
    have j1:Flt.shape.read.j1 (expS p w u) (frcS p u) p w 0 0 0 0 0 (sgnS p w u) 0 0 (decide (expS p w u = 2 ^ w - 1 ∧ frcS p u = 0)) = some (readS p w u,true):=by
      unfold Flt.shape.read.j1 readS
      by_cases c1:expS p w u = 2 ^ w - 1 ∧ frcS p u = 0
      · rw [decide_eq_true c1,if_pos c1]; rfl
      · rw [decide_eq_false c1,if_neg c1]
        simp only [cond,letk,shp_eta,top_eq h,Option.bind_some]
        rw [htw,beq_nat]
        by_cases c2:expS p w u = 2 ^ w - 1
        · rw [decide_eq_true c2,if_pos c2]
        · rw [decide_eq_false c2,if_neg c2]
          simp only
          rw [eE]
          by_cases c3:expS p w u = 0
          · rw [decide_eq_true c3]
            simp only
            rw [eE]
            unfold Flt.shape.read.j2
            by_cases c4:frcS p u = 0
            · rw [decide_eq_true c4,if_pos ⟨c3,c4⟩]; rfl
            · rw [decide_eq_false c4,if_neg (fun q=>c4 q.2),if_pos c3]
              simp only [cond,letk,shp_eta,least_eq h,Option.bind_some]
              rw [eE,decide_eq_true c3]
          · rw [decide_eq_false c3,if_neg (fun q=>c3 q.1),if_neg c3]
            simp only
            unfold Flt.shape.read.j2
            simp only [cond,letk,shp_eta,bias_eq h,Option.bind_some]
            rw [eE,decide_eq_false c3]
            simp only
            rw [wi (x:=(p:Int) - 1) (by omega) (by omega),chk_pos (by omega)]
            rw [u_shl' (a:=1) (k:=p - 1) (x:=1) rfl (by omega),Nat.one_mul,Nat.mod_eq_of_lt hp1]
            rw [u_or' (a:=frcS p u) (b:=2 ^ (p - 1)) rfl rfl (by omega) hp1]
            rw [wi (x:=((expS p w u:Nat):Int)) (by omega) (by omega),wi (x:=((expS p w u:Nat):Int) - biasS w) (by omega) (by omega),wi (x:=((expS p w u:Nat):Int) - biasS w - p) (by omega) (by omega),wi (x:=((expS p w u:Nat):Int) - biasS w - p + 1) (by omega) (by omega)]
            have:frcS p u ||| 2 ^ (p - 1) = frcS p u + 2 ^ (p - 1):=by
              have:=or_add (a:=1) hF
              rw [Nat.one_mul] at this
              rw [Nat.or_comm,this,Nat.add_comm]
            rw [this]
    by_cases c1:expS p w u = 2 ^ w - 1
    · rw [decide_eq_true c1]
      simp only [cond]
      rw [eE]
      rw [show decide (frcS p u = 0) = decide (expS p w u = 2 ^ w - 1 ∧ frcS p u = 0) from by simp [c1]]
      exact j1
    · rw [decide_eq_false c1]
      simp only [cond]
      rw [show false = decide (expS p w u = 2 ^ w - 1 ∧ frcS p u = 0) from by simp [c1]]
      exact j1
  unfold Flt.shape.read
  simp only [letk,ha]
  rw [show (shp p w).p = (p:Int) from rfl,show (shp p w).w = (w:Int) from rfl,wi (x:=(p:Int) + w) (by omega) (by omega)]
  by_cases hc:p + w < 64
  · rw [decide_eq_true (show (p:Int) + w < 64 by omega)]
    simp only [cond]
    rw [chk_pos (by omega),u_shr' (a:=u) (k:=p + w) rfl (by omega) hu]
    have e:(((u / 2 ^ (p + w):Nat):Int) != 0) = decide (2 ^ (p + w) ≤ u):=by
      rw [show (((u / 2 ^ (p + w):Nat):Int) != 0) = !(((u / 2 ^ (p + w):Nat):Int) == ((0:Nat):Int)) from rfl,beq_nat]
      have:=Nat.div_eq_zero_iff (a:=u) (b:=2 ^ (p + w))
      have h0:=Nat.two_pow_pos (p + w)
      by_cases hx:2 ^ (p + w) ≤ u
      · rw [decide_eq_true hx,decide_eq_false (by omega)]; rfl
      · rw [decide_eq_false hx,decide_eq_true (by omega)]; rfl
    rw [e]
    unfold Flt.shape.read.j3
    by_cases hx:2 ^ (p + w) ≤ u
    · rw [decide_eq_true hx,if_pos ⟨hc,hx⟩]; rfl
    · rw [decide_eq_false hx,if_neg (fun q=>hx q.2)]; exact j0
  · rw [decide_eq_false (show ¬ (p:Int) + w < 64 by omega),if_neg (fun q=>hc q.1)]
    exact j0
structure NumOk (p w:Nat) (x:float.number):Prop where
  cls:x.class_ = 0 ∨ x.class_ = 1 ∨ x.class_ = 2 ∨ x.class_ = 3
  sgn:x.sign = 0 ∨ x.sign = 1
  mag:x.class_ = 1 → ∃ m:Nat,x.m = m ∧ 0 < m ∧ m < 2 ^ p ∧ lstS p w ≤ x.e ∧ x.e < 1024 ∧ (x.e = lstS p w ∨ 2 ^ (p - 1) ≤ m)
theorem readS_ok {p w:Nat} (h:OkS p w) (u:Nat):NumOk p w (readS p w u):=by
  obtain ⟨h1,h2,h3,h4,h5,h6⟩:=h.facts
  have hlst:lstS p w = 2 - biasS w - p:=rfl
  have hb:biasS w = 2 ^ (w - 1) - 1:=rfl
  have hS:sgnS p w u < 2:=Nat.mod_lt _ (by decide)
  have hs:((sgnS p w u:Nat):Int) = 0 ∨ ((sgnS p w u:Nat):Int) = 1:=by omega
  have hE:expS p w u < 2 ^ w:=Nat.mod_lt _ (Nat.two_pow_pos w)
  have hF:frcS p u < 2 ^ (p - 1):=Nat.mod_lt _ (Nat.two_pow_pos _)
  have hp0:=Nat.two_pow_pos (p - 1)
  have hpp:2 ^ p = 2 ^ (p - 1) * 2:=by rw [← Nat.pow_succ]; congr 1; omega
  have hbb:0 ≤ biasS w ∧ biasS w ≤ 1023 ∧ ((2 ^ w:Nat):Int) = 2 * biasS w + 2:=by rcases h with ⟨rfl,rfl⟩ | ⟨rfl,rfl⟩ | ⟨rfl,rfl⟩ <;> decide
  unfold readS
  split
  · exact ⟨by simp,hs,by simp⟩
  · split
    · exact ⟨by simp,hs,by simp⟩
    · split
      · exact ⟨by simp,hs,by simp⟩
      · split
        · exact ⟨by simp,hs,fun _=>⟨frcS p u,rfl,by omega,by omega,Int.le_refl _,by simp only; omega,.inl rfl⟩⟩
        · exact ⟨by simp,hs,fun _=>⟨frcS p u + 2 ^ (p - 1),rfl,by omega,by omega,by simp only; omega,by simp only; omega,.inr (by omega)⟩⟩
def kindS (kind:Int) (p w:Nat):Prop:=(kind = 2 ∧ p = 11 ∧ w = 5) ∨ (kind = 4 ∧ p = 24 ∧ w = 8) ∨ (kind = 8 ∧ p = 53 ∧ w = 11)
theorem kindS.ok {kind:Int} {p w:Nat} (h:kindS kind p w):OkS p w:=by
  rcases h with ⟨_,h1,h2⟩ | ⟨_,h1,h2⟩ | ⟨_,h1,h2⟩
  · exact .inl ⟨h1,h2⟩
  · exact .inr (.inl ⟨h1,h2⟩)
  · exact .inr (.inr ⟨h1,h2⟩)
theorem of_eq {kind:Int} {p w:Nat} (h:kindS kind p w):Flt.of kind = some (shp p w,true):=by
  rcases h with ⟨rfl,rfl,rfl⟩ | ⟨rfl,rfl,rfl⟩ | ⟨rfl,rfl,rfl⟩ <;> rfl
def bitsOk (p w:Nat) (a:Int):Prop:=¬ (p + w < 64 ∧ 2 ^ (p + w) ≤ (a % 18446744073709551616).toNat)
noncomputable def numS (p w:Nat) (a:Int):float.number:=readS p w (a % 18446744073709551616).toNat
theorem numS_ok {p w:Nat} (h:OkS p w) (a:Int):NumOk p w (numS p w a):=readS_ok h _
theorem wrap_toNat (a:Int):IntKind.u64.wrap a = (((a % 18446744073709551616).toNat:Nat):Int) ∧ (a % 18446744073709551616).toNat < 18446744073709551616:=by
  constructor
  · show a % 18446744073709551616 = _
    omega
  · omega
theorem read_ok {p w:Nat} (h:OkS p w) (a:Int) (hb:bitsOk p w a):Flt.shape.read (shp p w) a = some (numS p w a,true):=by
  obtain ⟨h1,h2⟩:=wrap_toNat a
  rw [read_eq h h2 a h1,if_neg hb]; rfl
theorem read_no {p w:Nat} (h:OkS p w) (a:Int) (hb:¬ bitsOk p w a):Flt.shape.read (shp p w) a = some (⟨0,0,0,0⟩,false):=by
  obtain ⟨h1,h2⟩:=wrap_toNat a
  unfold bitsOk at hb
  rw [read_eq h h2 a h1,if_pos (by by_cases q:p + w < 64 ∧ 2 ^ (p + w) ≤ (a % 18446744073709551616).toNat; exact q; exact absurd q hb)]
theorem two_eq {kind mode:Int} {p w:Nat} (h:kindS kind p w) (hm:0 ≤ mode ∧ mode < 4) {a b:Int} (ha:bitsOk p w a) (hb:bitsOk p w b) :
    Flt.two kind mode a b = some (shp p w,numS p w a,numS p w b,true):=by
  unfold Flt.two Flt.two.j1 Flt.two.j0
  simp only [of_eq h,Option.bind_some,letk,Bool.not_true,cond]
  rw [decide_eq_false (by omega:¬ mode < 0)]
  simp only
  rw [decide_eq_false (by omega:¬ mode ≥ 4)]
  simp only
  rw [show (⟨(shp p w).p,(shp p w).w⟩:float.shape) = shp p w from rfl,read_ok h.ok a ha,read_ok h.ok b hb]
  rfl
theorem Valid_eq {kind:Int} {p w:Nat} (h:kindS kind p w) (a:Int):Flt.Valid kind a = some (@decide (bitsOk p w a) (Classical.propDecidable _)):=by
  unfold Flt.Valid
  simp only [of_eq h,Option.bind_some,letk,Bool.not_true,cond]
  rw [show (⟨(shp p w).p,(shp p w).w⟩:float.shape) = shp p w from rfl]
  by_cases hb:bitsOk p w a
  · rw [read_ok h.ok a hb,@decide_eq_true _ (_) hb]; rfl
  · rw [read_no h.ok a hb,@decide_eq_false _ (_) hb]; rfl
end Go.Q
