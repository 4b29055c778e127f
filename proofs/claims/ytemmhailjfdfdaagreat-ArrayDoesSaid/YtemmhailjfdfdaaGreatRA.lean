import Derived.Test.YtemmhailjfdfdaaGreatFN
namespace Go.Q
open Go
set_option maxRecDepth 100000
set_option maxHeartbeats 4000000
def bd (n i:Nat):Nat:=n / 2 ^ i % 2
def dk (k n:Nat):List Int:=(List.range k).map fun i=>((bd n i:Nat):Int)
def dg (n:Nat):List Int:=dk (bl n) n
theorem bd_lt (n i:Nat):bd n i < 2:=Nat.mod_lt _ (by decide)
theorem dk_len (k n:Nat):(dk k n).length = k:=by simp [dk]
theorem dg_len (n:Nat):(dg n).length = bl n:=dk_len _ _
theorem dk_get {k n i:Nat} (h:i < k):(dk k n)[i]? = some ((bd n i:Nat):Int):=by
  unfold dk
  rw [List.getElem?_map,List.getElem?_range h]; rfl
theorem dk_zero (n:Nat):dk 0 n = []:=rfl
theorem dk_succ (k n:Nat):dk (k + 1) n = dk k n ++ [((bd n k:Nat):Int)]:=by
  unfold dk
  rw [List.range_succ,List.map_append]; rfl
theorem dk_take {j k n:Nat} (h:j ≤ k):(dk k n).take j = dk j n:=by
  unfold dk
  rw [← List.map_take,List.take_range,Nat.min_eq_left h]
theorem bd_high {n i:Nat} (h:bl n ≤ i):n / 2 ^ i = 0:=Nat.div_eq_of_lt (bl_le_iff.1 h)
theorem bd_high0 {n i:Nat} (h:bl n ≤ i):bd n i = 0:=by unfold bd; rw [bd_high h]
theorem div_low {n i:Nat} (h:i < bl n):0 < n / 2 ^ i:=by
  have h0:0 < n:=by
    rcases Nat.eq_zero_or_pos n with h1 | h1
    · rw [h1] at h; cases h
    · exact h1
  have:=bl_le h0
  rw [Nat.lt_iff_add_one_le,Nat.zero_add,Nat.le_div_iff_mul_le (Nat.two_pow_pos i),Nat.one_mul]
  exact Nat.le_trans (Nat.pow_le_pow_right (by decide) (by omega)) this
theorem div_succ (n i:Nat):n / 2 ^ (i + 1) = n / 2 ^ i / 2:=by rw [Nat.pow_succ,Nat.div_div_eq_div_mul]
theorem bd_top {n:Nat} (h:0 < n):bd n (bl n - 1) = 1:=by
  have h1:=bl_pos h
  have h2:=div_low (n:=n) (i:=bl n - 1) (by omega)
  have h3:=bd_high (n:=n) (i:=bl n) (Nat.le_refl _)
  have h4:=div_succ n (bl n - 1)
  rw [show bl n - 1 + 1 = bl n by omega,h3] at h4
  unfold bd
  omega
theorem bl_div (n k:Nat):bl (n / 2 ^ k) = bl n - k:=by
  rcases Nat.lt_or_ge k (bl n) with h | h
  · have h0:=div_low h
    have:=bl_ref (n:=n / 2 ^ k) (k:=k) (r:=n % 2 ^ k) h0 (Nat.mod_lt _ (Nat.two_pow_pos k))
    rw [Nat.mul_comm,Nat.div_add_mod] at this
    omega
  · rw [bd_high h,show bl n - k = 0 by omega]; rfl
theorem bd_div (n k i:Nat):bd (n / 2 ^ k) i = bd n (k + i):=by
  unfold bd
  rw [Nat.div_div_eq_div_mul,← Nat.pow_add]
theorem bd_mul_low {n k i:Nat} (h:i < k):bd (n * 2 ^ k) i = 0:=by
  unfold bd
  rw [show k = (k - i - 1) + 1 + i by omega,Nat.pow_add _ _ i,← Nat.mul_assoc,Nat.mul_div_cancel _ (Nat.two_pow_pos i),Nat.pow_succ,← Nat.mul_assoc]
  exact Nat.mul_mod_left _ _
theorem bd_mul_high {n k i:Nat} (h:k ≤ i):bd (n * 2 ^ k) i = bd n (i - k):=by
  unfold bd
  rw [show i = k + (i - k) by omega,Nat.pow_add,← Nat.div_div_eq_div_mul,Nat.mul_div_cancel _ (Nat.two_pow_pos k),show k + (i - k) - k = i - k by omega]
theorem dk_shift (k j n:Nat):dk (k + j) (n * 2 ^ k) = List.replicate k 0 ++ dk j n:=by
  apply List.ext_getElem?
  intro i
  by_cases h:i < k
  · rw [dk_get (by omega),List.getElem?_append_left (by simpa using h),bd_mul_low h,List.getElem?_replicate,if_pos h]; rfl
  · rw [List.getElem?_append_right (by simp; omega),List.length_replicate]
    by_cases h2:i < k + j
    · rw [dk_get h2,dk_get (by omega),bd_mul_high (by omega)]
    · rw [List.getElem?_eq_none (by rw [dk_len]; omega),List.getElem?_eq_none (by rw [dk_len]; omega)]
theorem dk_drop {j k n:Nat}:(dk k n).drop j = dk (k - j) (n / 2 ^ j):=by
  apply List.ext_getElem?
  intro i
  rw [List.getElem?_drop]
  by_cases h:i < k - j
  · rw [dk_get h,dk_get (by omega),bd_div]
  · rw [List.getElem?_eq_none (by rw [dk_len]; omega),List.getElem?_eq_none (by rw [dk_len]; omega)]
theorem digit_dg (n i:Nat):Ref1.digit (dg n) (i:Int) = some ((bd n i:Nat):Int):=by
  unfold Ref1.digit
  simp only [letk,dg_len]
  rw [decide_eq_false (show ¬ (i:Int) < 0 by omega)]
  simp only [cond]
  by_cases h:bl n ≤ i
  · rw [decide_eq_true (show (i:Int) ≥ (bl n:Int) by omega),bd_high0 h]; rfl
  · rw [decide_eq_false (show ¬ (i:Int) ≥ (bl n:Int) by omega)]
    simp only
    rw [chk_pos (by omega),Int.toNat_natCast]
    unfold dg
    rw [dk_get (by omega)]; rfl
theorem trim_l0 {k n:Nat} (hk:k ≤ 1000000):∀ m:Nat,bl n + m ≤ k → Ref1.trim.l0 (dk k n) ((bl n + m:Nat):Int) = some (dg n):=by
  have hb:∀ j,j ≤ k → Ref1.trim.j0 (dk k n) (j:Int) = some (dk j n):=by
    intro j hj
    unfold Ref1.trim.j0
    rw [dk_len,chk_pos (by omega)]
    simp only [letk]
    rw [Int.toNat_natCast,List.drop_zero,Nat.sub_zero,dk_take hj,dk_len,chk_pos (by simp; omega)]; rfl
  intro m
  induction m with
  | zero =>
    intro h
    rw [Nat.add_zero,Ref1.trim.l0,loopO_eq,Ref1.trim.s0]
    simp only [letk]
    by_cases h0:bl n = 0
    · rw [decide_eq_false (show ¬ ((bl n:Nat):Int) > 0 by omega)]
      simp only [cond]
      rw [hb _ (by omega)]; rfl
    · rw [decide_eq_true (show ((bl n:Nat):Int) > 0 by omega)]
      simp only [cond]
      rw [wi (by omega) (by omega),chk_pos (by omega),show ((bl n:Int) - 1).toNat = bl n - 1 by omega,dk_get (by omega),Option.bind_some]
      have hn:0 < n:=by
        rcases Nat.eq_zero_or_pos n with h1 | h1
        · rw [h1] at h0; exact absurd rfl h0
        · exact h1
      rw [bd_top hn]
      rw [show (((1:Nat):Int) == 0) = false from rfl]
      simp only
      rw [hb _ (by omega)]; rfl
  | succ m ih =>
    intro h
    rw [Ref1.trim.l0,loopO_eq,Ref1.trim.s0]
    simp only [letk]
    rw [decide_eq_true (show ((bl n + (m + 1):Nat):Int) > 0 by omega)]
    simp only [cond]
    rw [wi (by omega) (by omega),chk_pos (by omega),show (((bl n + (m + 1):Nat):Int) - 1).toNat = bl n + m by omega,dk_get (by omega),Option.bind_some,bd_high0 (by omega)]
    rw [show (((0:Nat):Int) == 0) = true from rfl]
    simp only
    rw [Option.bind_some,Sum.elim_inl,show ((bl n + (m + 1):Nat):Int) - 1 = ((bl n + m:Nat):Int) by omega]
    exact ih (by omega)
theorem trim_dk {k n:Nat} (hk:k ≤ 1000000) (h:bl n ≤ k):Ref1.trim (dk k n) = some (dg n):=by
  unfold Ref1.trim
  simp only [letk,dk_len]
  have:=trim_l0 (n:=n) hk (k - bl n) (by omega)
  rw [show bl n + (k - bl n) = k by omega] at this
  exact this
theorem Of_l0 {N:Nat} (hN:N < 18446744073709551616):∀ m i:Nat,i + m = bl N → Ref1.Of.l0 (dk i N) ((N / 2 ^ i:Nat):Int) = some (dg N):=by
  have hb:bl N ≤ 64:=bl_le_iff.2 hN
  intro m
  induction m with
  | zero =>
    intro i h
    rw [Ref1.Of.l0,loopO_eq,Ref1.Of.s0]
    simp only [letk]
    rw [bd_high (by omega),decide_eq_false (by decide)]
    simp only [cond]
    rw [show i = bl N by omega]; rfl
  | succ m ih =>
    intro i h
    have h1:=div_low (n:=N) (i:=i) (by omega)
    have h2:=Nat.div_le_self N (2 ^ i)
    rw [Ref1.Of.l0,loopO_eq,Ref1.Of.s0]
    simp only [letk]
    rw [decide_eq_true (show ((N / 2 ^ i:Nat):Int) > 0 by omega)]
    simp only [cond]
    rw [chk_pos (by decide),chk_pos (by rw [List.length_singleton,dk_len]; omega),chk_pos (by decide)]
    rw [show ((N / 2 ^ i:Nat):Int).tmod 2 = ((bd N i:Nat):Int) from tmod_nat _ 2,show ((N / 2 ^ i:Nat):Int).tdiv 2 = ((N / 2 ^ i / 2:Nat):Int) from tdiv_nat _ 2,← div_succ]
    have h3:=bd_lt N i
    have h4:=Nat.div_le_self N (2 ^ (i + 1))
    rw [show IntKind.u8.wrap ((bd N i:Nat):Int) = ((bd N i:Nat):Int) by show ((bd N i:Nat):Int) % 256 = _; omega,wnat (Nat.lt_of_le_of_lt h4 hN),← dk_succ,Option.bind_some,Sum.elim_inl]
    exact ih (i + 1) (by omega)
theorem Of_eq {N:Nat} (hN:N < 18446744073709551616) {x:Int} (hx:IntKind.u64.wrap x = N):Ref1.Of x = some (dg N):=by
  unfold Ref1.Of
  simp only [letk]
  rw [hx]
  have:=Of_l0 hN (bl N) 0 (by omega)
  rw [Nat.pow_zero,Nat.div_one] at this
  exact this
theorem bl_zero_iff {n:Nat}:bl n = 0 ↔ n = 0:=by
  constructor
  · intro h
    rcases Nat.eq_zero_or_pos n with h1 | h1
    · exact h1
    · have:=bl_pos h1; omega
  · rintro rfl; rfl
theorem Up_eq {n k:Nat} {K:Int} (hK:K = k) (h1:k ≤ 1000000) (h2:bl n ≤ 1000000):Ref1.Up (dg n) K = some (dg (n * 2 ^ k)):=by
  subst hK
  unfold Ref1.Up
  simp only [letk,dg_len]
  rcases Nat.eq_zero_or_pos n with h0 | h0
  · subst h0
    rw [Nat.zero_mul]; rfl
  · have:=bl_pos h0
    rw [show (((bl n:Nat):Int) == 0) = false from by rw [beq_eq_false_iff_ne]; omega]
    simp only [cond]
    rw [chk_pos (by omega),chk_pos (by rw [List.length_replicate]; omega),Int.toNat_natCast]
    unfold dg
    rw [bl_shift h0,Nat.add_comm,dk_shift]
theorem Down_eq {n k:Nat} {K:Int} (hK:K = k) (h2:bl n ≤ 1000000):Ref1.Down (dg n) K = some (dg (n / 2 ^ k)):=by
  subst hK
  unfold Ref1.Down
  simp only [letk,dg_len]
  by_cases h:bl n ≤ k
  · rw [decide_eq_true (show (k:Int) ≥ (bl n:Int) by omega),bd_high h]; rfl
  · rw [decide_eq_false (show ¬ (k:Int) ≥ (bl n:Int) by omega)]
    simp only [cond]
    rw [chk_pos (by omega),Int.toNat_natCast,List.take_of_length_le (by rw [List.length_drop,dg_len]; exact Nat.le_refl _),chk_pos (by rw [List.length_drop,dg_len]; simp; omega),List.nil_append]
    unfold dg
    rw [dk_drop,bl_div]
theorem Int_l0 {N:Nat}:∀ m i:Nat,i + m = min (bl N) 64 → Ref1.Int_.l0 (dg N) ((N % 2 ^ i:Nat):Int) (i:Int) = some (IntKind.i64.wrap ((N % 18446744073709551616:Nat):Int)):=by
  intro m
  induction m with
  | zero =>
    intro i h
    have e:N % 2 ^ i = N % 18446744073709551616:=by
      rcases Nat.le_total (bl N) 64 with h1 | h1
      · have h2:N < 2 ^ bl N:=bl_lt N
        rw [show i = bl N by omega,Nat.mod_eq_of_lt h2,Nat.mod_eq_of_lt (bl_le_iff.1 h1)]
      · rw [show i = 64 by omega,pow64]
    rw [Ref1.Int_.l0,loopO_eq,Ref1.Int_.s0]
    simp only [letk,dg_len]
    by_cases h1:i < bl N
    · rw [decide_eq_true (show (i:Int) < (bl N:Int) by omega),decide_eq_false (show ¬ (i:Int) < 64 by omega),e]; rfl
    · rw [decide_eq_false (show ¬ (i:Int) < (bl N:Int) by omega),e]; rfl
  | succ m ih =>
    intro i h
    rw [Ref1.Int_.l0,loopO_eq,Ref1.Int_.s0]
    simp only [letk,dg_len]
    rw [decide_eq_true (show (i:Int) < (bl N:Int) by omega),decide_eq_true (show (i:Int) < 64 by omega)]
    simp only [cond]
    unfold Ref1.Int_.j0
    rw [chk_pos (by omega),Int.toNat_natCast]
    have h3:=bd_lt N i
    rw [show (dg N)[i]? = some ((bd N i:Nat):Int) from dk_get (by omega),Option.bind_some]
    simp only [letk]
    rw [chk_pos (by omega)]
    have hp:=pw_lt (a:=i) (b:=i) (Nat.le_refl _) (by omega)
    have hm:=Nat.mod_lt N (Nat.two_pow_pos i)
    have hb:bd N i * 2 ^ i ≤ 1 * 2 ^ i:=Nat.mul_le_mul_right _ (by omega)
    have hp2:2 ^ i * 2 ≤ 18446744073709551616:=by rw [← Nat.pow_succ,← pow64]; exact Nat.pow_le_pow_right (by decide) (by omega)
    rw [wu (x:=((bd N i:Nat):Int)) (by omega) (by omega),show ((bd N i:Nat):Int) * 2 ^ (min i IntKind.u64.bits) = ((bd N i:Nat):Int) * 2 ^ (min i IntKind.u64.bits) from rfl,u_shl,Nat.mod_eq_of_lt (a:=bd N i * 2 ^ i) (by omega)]
    rw [u_or' rfl rfl (by omega) (by omega),Nat.or_comm,or_add hm,wi (by omega) (by omega),Option.bind_some,Sum.elim_inl]
    have e:bd N i * 2 ^ i + N % 2 ^ i = N % 2 ^ (i + 1):=by
      unfold bd
      rw [Nat.pow_succ,Nat.mod_mul]
      rw [Nat.mul_comm]; omega
    rw [e]
    exact ih (i + 1) (by omega)
theorem Int_eq (N:Nat):Ref1.Int_ (dg N) = some (IntKind.i64.wrap ((N % 18446744073709551616:Nat):Int)):=by
  have:=Int_l0 (N:=N) (min (bl N) 64) 0 (by omega)
  rw [Nat.pow_zero,Nat.mod_one] at this
  exact this
end Go.Q
namespace Go.Q
open Go
set_option maxRecDepth 100000
set_option maxHeartbeats 4000000
theorem bl_mono {a b:Nat} (h:a ≤ b):bl a ≤ bl b:=bl_le_iff.2 (Nat.lt_of_le_of_lt h (bl_lt b))
theorem w8 {x:Int} (h0:0 ≤ x) (h1:x < 256):IntKind.u8.wrap x = x:=by
  show x % 256 = x
  omega
theorem Plus_l0 {a b:Nat} (hb:bl (a + b) ≤ 1000000):∀ m i c:Nat,i + m = bl (a + b) → (a + b) / 2 ^ i = a / 2 ^ i + b / 2 ^ i + c → c ≤ 1 →
    Ref1.Plus.l0 (dg a) (dg b) (dk i (a + b)) (c:Int) (i:Int) = some (dg (a + b)):=by
  have ha1:bl a ≤ bl (a + b):=bl_mono (by omega)
  have hb1:bl b ≤ bl (a + b):=bl_mono (by omega)
  intro m
  induction m with
  | zero =>
    intro i c h e hc
    rw [bd_high (by omega),bd_high (by omega),bd_high (by omega)] at e
    obtain rfl:c = 0:=by omega
    rw [Ref1.Plus.l0,loopO_eq,Ref1.Plus.s0]
    simp only [letk,dg_len]
    rw [decide_eq_false (show ¬ (i:Int) < (bl a:Int) by omega),decide_eq_false (show ¬ (i:Int) < (bl b:Int) by omega),decide_eq_false (show ¬ ((0:Nat):Int) > 0 by decide)]
    simp only [cond]
    rw [trim_dk (by omega) (by omega)]; rfl
  | succ m ih =>
    intro i c h e hc
    have h1:=bd_lt a i
    have h2:=bd_lt b i
    have e1:bd (a + b) i = (bd a i + bd b i + c) % 2:=by unfold bd; omega
    have j0:Ref1.Plus.j0 (dg a) (dg b) (c:Int) (i:Int) (dk i (a + b)) = some (.inl (dk (i + 1) (a + b),(((bd a i + bd b i + c) / 2:Nat):Int),((i + 1:Nat):Int))):=by
      unfold Ref1.Plus.j0
      rw [digit_dg,digit_dg,Option.bind_some,Option.bind_some]
      simp only [letk]
      rw [w8 (x:=((bd a i:Nat):Int) + ((bd b i:Nat):Int)) (by omega) (by omega),w8 (x:=((bd a i:Nat):Int) + ((bd b i:Nat):Int) + (c:Int)) (by omega) (by omega)]
      rw [show ((bd a i:Nat):Int) + ((bd b i:Nat):Int) + (c:Int) = ((bd a i + bd b i + c:Nat):Int) by omega]
      rw [show ((bd a i + bd b i + c:Nat):Int).tmod 2 = (((bd a i + bd b i + c) % 2:Nat):Int) from tmod_nat _ 2,show ((bd a i + bd b i + c:Nat):Int).tdiv 2 = (((bd a i + bd b i + c) / 2:Nat):Int) from tdiv_nat _ 2]
      rw [chk_pos (by decide),chk_pos (by rw [List.length_singleton,dk_len]; omega),chk_pos (by decide),w8 (by omega) (by omega),wi (by omega) (by omega),dk_succ,e1]; rfl
    have nx:=ih (i + 1) ((bd a i + bd b i + c) / 2) (by omega) (by rw [div_succ,div_succ,div_succ,e]; unfold bd; omega) (by omega)
    rw [Ref1.Plus.l0,loopO_eq,Ref1.Plus.s0]
    simp only [letk,dg_len,j0]
    by_cases t1:i < bl a
    · rw [decide_eq_true (show (i:Int) < (bl a:Int) by omega)]
      exact nx
    · rw [decide_eq_false (show ¬ (i:Int) < (bl a:Int) by omega)]
      by_cases t2:i < bl b
      · rw [decide_eq_true (show (i:Int) < (bl b:Int) by omega)]
        exact nx
      · rw [decide_eq_false (show ¬ (i:Int) < (bl b:Int) by omega)]
        have h3:=div_low (n:=a + b) (i:=i) (by omega)
        rw [bd_high (n:=a) (by omega),bd_high (n:=b) (by omega)] at e
        rw [decide_eq_true (show (c:Int) > 0 by omega)]
        exact nx
theorem Plus_eq {a b:Nat} (hb:bl (a + b) ≤ 1000000):Ref1.Plus (dg a) (dg b) = some (dg (a + b)):=by
  unfold Ref1.Plus
  exact Plus_l0 hb (bl (a + b)) 0 0 (by omega) (by rw [Nat.pow_zero,Nat.div_one,Nat.div_one,Nat.div_one,Nat.add_zero]) (by omega)
theorem Minus_l0 {a b:Nat} (hba:b ≤ a) (hb:bl a ≤ 1000000):∀ m i o:Nat,i + m = bl a → a / 2 ^ i = b / 2 ^ i + (a - b) / 2 ^ i + o → o ≤ 1 →
    Ref1.Minus.l0 (dg a) (dg b) (dk i (a - b)) (o:Int) (i:Int) = some (dg (a - b)):=by
  have ha1:bl (a - b) ≤ bl a:=bl_mono (by omega)
  intro m
  induction m with
  | zero =>
    intro i o h e ho
    rw [Ref1.Minus.l0,loopO_eq,Ref1.Minus.s0]
    simp only [letk,dg_len]
    rw [decide_eq_false (show ¬ (i:Int) < (bl a:Int) by omega)]
    simp only [cond]
    rw [trim_dk (by omega) (by omega)]; rfl
  | succ m ih =>
    intro i o h e ho
    have h1:=bd_lt a i
    have h2:=bd_lt b i
    rw [Ref1.Minus.l0,loopO_eq,Ref1.Minus.s0]
    simp only [letk,dg_len,digit_dg,Option.bind_some]
    rw [decide_eq_true (show (i:Int) < (bl a:Int) by omega)]
    simp only [cond]
    rw [w8 (x:=2 + ((bd a i:Nat):Int)) (by omega) (by omega),w8 (x:=2 + ((bd a i:Nat):Int) - ((bd b i:Nat):Int)) (by omega) (by omega),w8 (x:=2 + ((bd a i:Nat):Int) - ((bd b i:Nat):Int) - (o:Int)) (by omega) (by omega)]
    rw [show 2 + ((bd a i:Nat):Int) - ((bd b i:Nat):Int) - (o:Int) = ((2 + bd a i - bd b i - o:Nat):Int) by omega]
    rw [show ((2 + bd a i - bd b i - o:Nat):Int).tmod 2 = (((2 + bd a i - bd b i - o) % 2:Nat):Int) from tmod_nat _ 2,show ((2 + bd a i - bd b i - o:Nat):Int).tdiv 2 = (((2 + bd a i - bd b i - o) / 2:Nat):Int) from tdiv_nat _ 2]
    rw [chk_pos (by decide),chk_pos (by rw [List.length_singleton,dk_len]; omega),chk_pos (by decide),w8 (x:=(((2 + bd a i - bd b i - o) / 2:Nat):Int)) (by omega) (by omega),w8 (by omega) (by omega),wi (by omega) (by omega)]
    have e1:(2 + bd a i - bd b i - o) % 2 = bd (a - b) i:=by unfold bd at *; omega
    rw [e1,← dk_succ,Option.bind_some,Sum.elim_inl,show (1:Int) - (((2 + bd a i - bd b i - o) / 2:Nat):Int) = ((1 - (2 + bd a i - bd b i - o) / 2:Nat):Int) by omega]
    exact ih (i + 1) (1 - (2 + bd a i - bd b i - o) / 2) (by omega) (by rw [div_succ,div_succ,div_succ]; unfold bd at *; omega) (by omega)
theorem Minus_eq {a b:Nat} (hba:b ≤ a) (hb:bl a ≤ 1000000):Ref1.Minus (dg a) (dg b) = some (dg (a - b)):=by
  unfold Ref1.Minus
  exact Minus_l0 hba hb (bl a) 0 0 (by omega) (by rw [Nat.pow_zero,Nat.div_one,Nat.div_one,Nat.div_one]; omega) (by omega)
def cmpN (a b:Nat):Int:=if a < b then -1 else if b < a then 1 else 0
theorem Cmp_l0 {a b:Nat}:∀ k:Nat,k ≤ 1000000 → a / 2 ^ k = b / 2 ^ k → Ref1.Cmp.l0 (dg a) (dg b) ((k:Int) - 1) = some (cmpN a b):=by
  intro k
  induction k with
  | zero =>
    intro _ e
    rw [Nat.pow_zero,Nat.div_one,Nat.div_one] at e
    rw [Ref1.Cmp.l0,loopO_eq,Ref1.Cmp.s0]
    simp only [letk]
    rw [decide_eq_false (by decide)]
    simp only [cond]
    unfold cmpN
    rw [if_neg (by omega),if_neg (by omega)]; rfl
  | succ k ih =>
    intro hk e
    rw [div_succ,div_succ] at e
    have h1:=bd_lt a k
    have h2:=bd_lt b k
    rw [Ref1.Cmp.l0,loopO_eq,Ref1.Cmp.s0]
    rw [show (((k + 1:Nat):Int) - 1) = (k:Int) by omega]
    simp only [letk,digit_dg,Option.bind_some]
    rw [decide_eq_true (show (k:Int) ≥ 0 by omega)]
    simp only [cond]
    by_cases hd:bd a k = bd b k
    · rw [hd,show (((bd b k:Nat):Int) != ((bd b k:Nat):Int)) = false from bne_self_eq_false _]
      simp only
      rw [wi (by omega) (by omega),Option.bind_some,Sum.elim_inl]
      exact ih (by omega) (by unfold bd at hd; omega)
    · rw [show (((bd a k:Nat):Int) != ((bd b k:Nat):Int)) = true from by rw [bne_iff_ne]; omega]
      simp only
      rw [wi (x:=((bd a k:Nat):Int)) (by omega) (by omega),wi (x:=((bd b k:Nat):Int)) (by omega) (by omega),wi (by omega) (by omega),Option.bind_some,Sum.elim_inr]
      unfold cmpN
      have m1:a ≤ b → a / 2 ^ k ≤ b / 2 ^ k:=fun h=>Nat.div_le_div_right h
      have m2:b ≤ a → b / 2 ^ k ≤ a / 2 ^ k:=fun h=>Nat.div_le_div_right h
      unfold bd at *
      by_cases hl:a < b
      · rw [if_pos hl]
        congr 1
        have:=m1 (by omega)
        omega
      · rw [if_neg hl]
        have:=m2 (by omega)
        by_cases hg:b < a
        · rw [if_pos hg]
          congr 1
          omega
        · obtain rfl:a = b:=by omega
          exact absurd rfl hd
theorem Cmp_eq {a b:Nat} (ha:bl a ≤ 1000000) (hb:bl b ≤ 1000000):Ref1.Cmp (dg a) (dg b) = some (cmpN a b):=by
  unfold Ref1.Cmp
  simp only [letk,dg_len]
  have e:(if ((bl b:Nat):Int) > ((bl a:Nat):Int) then ((bl b:Nat):Int) else ((bl a:Nat):Int)) = ((max (bl a) (bl b):Nat):Int):=by
    split <;> omega
  rw [e,wi (by omega) (by omega)]
  exact Cmp_l0 _ (by omega) (by rw [bd_high (by omega),bd_high (by omega)])
theorem bl_mul (a b:Nat):bl (a * b) ≤ bl a + bl b:=by
  rw [bl_le_iff,Nat.pow_add]
  exact Nat.mul_lt_mul_of_lt_of_lt (bl_lt a) (bl_lt b)
theorem mod_succ (n i:Nat):n % 2 ^ (i + 1) = n % 2 ^ i + bd n i * 2 ^ i:=by
  unfold bd
  rw [Nat.pow_succ,Nat.mod_mul,Nat.mul_comm (2 ^ i)]
theorem Times_l0 {a b:Nat} (h:bl a + bl b ≤ 1000000):∀ m i:Nat,i + m = bl b → Ref1.Times.l0 (dg a) (dg b) (dg (a * (b % 2 ^ i))) (i:Int) = some (dg (a * b)):=by
  intro m
  induction m with
  | zero =>
    intro i hi
    rw [Ref1.Times.l0,loopO_eq,Ref1.Times.s0]
    simp only [letk,dg_len]
    rw [decide_eq_false (show ¬ (i:Int) < (bl b:Int) by omega),Nat.mod_eq_of_lt (bl_le_iff.1 (by omega))]; rfl
  | succ m ih =>
    intro i hi
    have h1:=bd_lt b i
    have nx:=ih (i + 1) (by omega)
    have hm:=Nat.mod_lt b (Nat.two_pow_pos i)
    rw [mod_succ] at nx
    rw [Ref1.Times.l0,loopO_eq,Ref1.Times.s0]
    simp only [letk,dg_len]
    rw [decide_eq_true (show (i:Int) < (bl b:Int) by omega)]
    simp only [cond]
    rw [chk_pos (by omega),Int.toNat_natCast,show (dg b)[i]? = some ((bd b i:Nat):Int) from dk_get (by omega),Option.bind_some]
    by_cases hd:bd b i = 1
    · rw [hd,show (((1:Nat):Int) == 1) = true from rfl]
      simp only
      have hs:bl (a * (b % 2 ^ i) + a * 2 ^ i) ≤ 1000000:=by
        have:a * (b % 2 ^ i) + a * 2 ^ i ≤ a * (2 ^ i * 2):=by
          rw [← Nat.mul_add]
          exact Nat.mul_le_mul_left _ (by omega)
        have:=bl_mono this
        have h4:bl (a * (2 ^ i * 2)) ≤ bl a + (i + 1):=by
          rw [← Nat.pow_succ]
          rcases Nat.eq_zero_or_pos a with h0 | h0
          · subst h0; rw [Nat.zero_mul]; simp [bl]
          · rw [bl_shift h0]; omega
        omega
      rw [Up_eq rfl (by omega) (by omega),Option.bind_some,Plus_eq hs,Option.bind_some,wi (by omega) (by omega),Option.bind_some,Sum.elim_inl]
      rw [hd,Nat.one_mul,Nat.mul_add] at nx
      exact nx
    · have hd0:bd b i = 0:=by omega
      rw [hd0,show (((0:Nat):Int) == 1) = false from rfl]
      simp only
      rw [wi (by omega) (by omega),Option.bind_some,Sum.elim_inl]
      rw [hd0,Nat.zero_mul,Nat.add_zero] at nx
      exact nx
theorem Times_eq {a b:Nat} (h:bl a + bl b ≤ 1000000):Ref1.Times (dg a) (dg b) = some (dg (a * b)):=by
  have:=Times_l0 h (bl b) 0 (by omega)
  rw [Nat.pow_zero,Nat.mod_one,Nat.mul_zero] at this
  exact this
theorem dk_cons {d r:Nat} (hd:d < 2) (j:Nat):dk (j + 1) (2 * r + d) = ((d:Nat):Int) :: dk j r:=by
  apply List.ext_getElem?
  intro i
  match i with
  | 0=>rw [dk_get (by omega)]; simp only [List.getElem?_cons_zero]; congr 2; unfold bd; omega
  | i + 1 =>
    rw [List.getElem?_cons_succ]
    by_cases h:i < j
    · rw [dk_get h,dk_get (by omega)]
      congr 2
      unfold bd
      rw [Nat.pow_succ,Nat.mul_comm (2 ^ i),← Nat.div_div_eq_div_mul,show (2 * r + d) / 2 = r by omega]
    · rw [List.getElem?_eq_none (by rw [dk_len]; omega),List.getElem?_eq_none (by rw [dk_len]; omega)]
theorem cmpN_ge (a b:Nat):decide (cmpN a b ≥ 0) = decide (b ≤ a):=by
  unfold cmpN
  split
  · rw [decide_eq_false (by decide),decide_eq_false (by omega)]
  · rw [decide_eq_true (show b ≤ a by omega)]
    split <;> rfl
theorem Divide_l0 {a b:Nat} (hb0:0 < b) (ha:bl a ≤ 900000) (hb:bl b ≤ 900000):∀ k:Nat,k ≤ bl a →
    Ref1.Divide.l0 (dg a) (dg b) (List.replicate k 0 ++ dk (bl a - k) (a / 2 ^ k / b)) (dg (a / 2 ^ k % b)) ((k:Int) - 1) = some (dg (a / b),dg (a % b)):=by
  intro k
  induction k with
  | zero =>
    intro _
    have hl:bl (a / b) ≤ bl a:=bl_mono (Nat.div_le_self a b)
    rw [Ref1.Divide.l0,loopO_eq,Ref1.Divide.s0]
    simp only [letk]
    rw [decide_eq_false (by decide)]
    simp only [cond]
    rw [Nat.pow_zero,Nat.div_one,List.replicate_zero,List.nil_append,Nat.sub_zero,trim_dk (by omega) hl]; rfl
  | succ k ih =>
    intro hk
    have nx:=ih (by omega)
    have hd:=bd_lt a k
    have eA:a / 2 ^ k = 2 * (a / 2 ^ (k + 1)) + bd a k:=by rw [div_succ]; unfold bd; omega
    generalize hA:a / 2 ^ (k + 1) = A at *
    have hr:A % b < b:=Nat.mod_lt _ hb0
    have eq1:a / 2 ^ k = b * (2 * (A / b)) + (2 * (A % b) + bd a k):=by
      rw [eA,Nat.mul_left_comm]
      have:=Nat.div_add_mod A b
      generalize b * (A / b) = X at *
      omega
    have hq:a / 2 ^ k / b = 2 * (A / b) + (2 * (A % b) + bd a k) / b:=by rw [eq1,Nat.mul_add_div hb0]
    have hm:a / 2 ^ k % b = (2 * (A % b) + bd a k) % b:=by rw [eq1,Nat.mul_add_mod]
    have hbl2:bl (2 * (A % b) + bd a k) ≤ bl (A % b) + 1:=by
      rw [bl_le_iff,Nat.pow_succ]
      have:=bl_lt (A % b)
      omega
    have hbr:bl (A % b) ≤ bl b:=bl_mono (by omega)
    rw [Ref1.Divide.l0,loopO_eq,Ref1.Divide.s0]
    rw [show (((k + 1:Nat):Int) - 1) = (k:Int) by omega]
    simp only [letk]
    rw [decide_eq_true (show (k:Int) ≥ 0 by omega)]
    simp only [cond]
    rw [chk_pos (by omega),Int.toNat_natCast,show (dg a)[k]? = some ((bd a k:Nat):Int) from dk_get (by omega),Option.bind_some]
    rw [chk_pos (by rw [List.length_singleton,dg_len]; omega),List.singleton_append]
    rw [show (((bd a k:Nat):Int) :: dg (A % b)) = dk (bl (A % b) + 1) (2 * (A % b) + bd a k) from (dk_cons hd _).symm,trim_dk (by omega) hbl2,Option.bind_some,Cmp_eq (by omega) (by omega),Option.bind_some,cmpN_ge]
    have esplit:bl a - k = (bl a - (k + 1)) + 1:=by omega
    by_cases hc:b ≤ 2 * (A % b) + bd a k
    · rw [decide_eq_true hc]
      simp only
      have e1:(2 * (A % b) + bd a k) / b = 1:=by
        apply Nat.div_eq_of_lt_le <;> omega
      have e2:(2 * (A % b) + bd a k) % b = 2 * (A % b) + bd a k - b:=by
        rw [Nat.mod_eq_sub_mod hc,Nat.mod_eq_of_lt (by omega)]
      rw [Minus_eq hc (by omega),Option.bind_some,chk_pos (by rw [List.length_append,List.length_replicate]; omega),Nat.zero_add]
      have hlen:k < (List.replicate (k + 1) (0:Int) ++ dk (bl a - (k + 1)) (A / b)).length:=by rw [List.length_append,List.length_replicate]; omega
      rw [List.getElem?_eq_getElem hlen,Option.bind_some,wi (by omega) (by omega),Option.bind_some,Sum.elim_inl]
      have e3:(List.replicate (k + 1) (0:Int) ++ dk (bl a - (k + 1)) (A / b)).set k 1 = List.replicate k 0 ++ dk (bl a - k) (a / 2 ^ k / b):=by
        rw [hq,e1,esplit,dk_cons (by decide),List.replicate_succ',List.append_assoc,List.singleton_append,List.set_append_right _ _ (by rw [List.length_replicate]; exact Nat.le_refl _),List.length_replicate,Nat.sub_self]; rfl
      rw [e3,← e2,← hm]
      exact nx
    · rw [decide_eq_false hc]
      simp only
      have e1:(2 * (A % b) + bd a k) / b = 0:=Nat.div_eq_of_lt (by omega)
      have e2:(2 * (A % b) + bd a k) % b = 2 * (A % b) + bd a k:=Nat.mod_eq_of_lt (by omega)
      rw [wi (by omega) (by omega),Option.bind_some,Sum.elim_inl]
      have e3:List.replicate (k + 1) (0:Int) ++ dk (bl a - (k + 1)) (A / b) = List.replicate k 0 ++ dk (bl a - k) (a / 2 ^ k / b):=by
        rw [hq,e1,esplit,dk_cons (by decide),List.replicate_succ',List.append_assoc,List.singleton_append]; rfl
      rw [e3,← e2,← hm]
      exact nx
theorem Divide_eq {a b:Nat} (hb0:0 < b) (ha:bl a ≤ 900000) (hb:bl b ≤ 900000):Ref1.Divide (dg a) (dg b) = some (dg (a / b),dg (a % b)):=by
  unfold Ref1.Divide
  simp only [letk,dg_len]
  rw [chk_pos (by omega),Int.toNat_natCast,wi (by omega) (by omega)]
  have:=Divide_l0 hb0 ha hb (bl a) (Nat.le_refl _)
  rw [bd_high (Nat.le_refl _),Nat.zero_div,Nat.zero_mod,Nat.sub_self,dk_zero,List.append_nil] at this
  exact this
end Go.Q
namespace Go.Q
open Go
set_option maxRecDepth 100000
set_option maxHeartbeats 4000000
theorem letkE {α ρ:Type} (x:α) (X:α → Option ρ):letk x X = X x:=Eq.trans rfl rfl
theorem condT {α:Type} (x y:α):cond true x y = x:=Eq.trans rfl rfl
theorem condF {α:Type} (x y:α):cond false x y = y:=Eq.trans rfl rfl
theorem bindS {α β:Type} (x:α) (f:α → Option β):Option.bind (some x) f = f x:=Eq.trans rfl rfl
theorem Digits_eq {kind:Int} {p w:Nat} (h:kindS kind p w):Ref1.Digits kind = some (p:Int):=by
  rcases h with ⟨rfl,rfl,rfl⟩ | ⟨rfl,rfl,rfl⟩ | ⟨rfl,rfl,rfl⟩ <;> rfl
theorem Bias_eq {kind:Int} {p w:Nat} (h:kindS kind p w):Ref1.Bias kind = some (biasS w):=by
  rcases h with ⟨rfl,rfl,rfl⟩ | ⟨rfl,rfl,rfl⟩ | ⟨rfl,rfl,rfl⟩ <;> rfl
theorem rleast_eq {kind:Int} {p w:Nat} (h:kindS kind p w):Ref1.least kind = some (lstS p w):=by
  unfold Ref1.least
  rw [Bias_eq h,Digits_eq h]
  rcases h with ⟨rfl,rfl,rfl⟩ | ⟨rfl,rfl,rfl⟩ | ⟨rfl,rfl,rfl⟩ <;> rfl
theorem kindS.eight {kind:Int} {p w:Nat} (h:kindS kind p w):8 * kind = ((p + w:Nat):Int):=by
  rcases h with ⟨rfl,rfl,rfl⟩ | ⟨rfl,rfl,rfl⟩ | ⟨rfl,rfl,rfl⟩ <;> rfl
theorem all_eq {kind:Int} {p w:Nat} (h:kindS kind p w):Ref1.all kind = some ((2 ^ w - 1:Nat):Int):=by
  unfold Ref1.all
  rw [Digits_eq h]
  rcases h with ⟨rfl,rfl,rfl⟩ | ⟨rfl,rfl,rfl⟩ | ⟨rfl,rfl,rfl⟩ <;>
  · simp only [letk,Option.bind_some]
    rw [chk_pos (by decide)]
    rfl
theorem bits_eq {kind:Int} {p w:Nat} (h:kindS kind p w) {sign:Int} {E f:Nat} (hs:sign = 0 ∨ sign = 1) (hE:E < 2 ^ w) (hf:f < 2 ^ (p - 1)):Ref1.bits kind sign (E:Int) (f:Int) = some (packS p w sign E f):=by
  obtain ⟨h1,h2,h3,h4,h5,h6⟩:=h.ok.facts
  obtain ⟨s,rfl,hs1⟩:∃ s:Nat,sign = s ∧ s ≤ 1:=by
    rcases hs with rfl | rfl
    · exact ⟨0,rfl,by decide⟩
    · exact ⟨1,rfl,by decide⟩
  unfold Ref1.bits
  rw [Digits_eq h,h.eight]
  simp only [letk,Option.bind_some]
  have hE2:E * 2 ^ (p - 1) + 2 ^ (p - 1) ≤ 2 ^ (p + w - 1):=by
    have:(E + 1) * 2 ^ (p - 1) ≤ 2 ^ w * 2 ^ (p - 1):=Nat.mul_le_mul_right _ hE
    rw [← Nat.pow_add,Nat.add_mul,Nat.one_mul,show w + (p - 1) = p + w - 1 by omega] at this
    exact this
  have hp:2 ^ (p + w - 1) * 2 ≤ 18446744073709551616:=by
    rw [← Nat.pow_succ,← pow64]; exact Nat.pow_le_pow_right (by decide) (by omega)
  have hpp:=Nat.two_pow_pos (p - 1)
  have hw2:2 ^ w < 18446744073709551616:=pw_lt (Nat.le_refl _) (by omega)
  have hs2:s * 2 ^ (p + w - 1) ≤ 1 * 2 ^ (p + w - 1):=Nat.mul_le_mul_right _ hs1
  have m1:s * 2 ^ (p + w - 1) % 18446744073709551616 = s * 2 ^ (p + w - 1):=Nat.mod_eq_of_lt (by omega)
  have m2:E * 2 ^ (p - 1) % 18446744073709551616 = E * 2 ^ (p - 1):=Nat.mod_eq_of_lt (by omega)
  rw [wi (x:=((p + w:Nat):Int)) (by omega) (by omega),wi (x:=((p + w:Nat):Int) - 1) (by omega) (by omega),wi (x:=(p:Int) - 1) (by omega) (by omega),chk_pos (by omega),chk_pos (by omega)]
  rw [wnat (n:=s) (by omega),wnat (n:=E) (by omega),wnat (n:=f) (by omega)]
  rw [u_shl' (a:=s) (k:=p + w - 1) rfl (by omega),u_shl' (a:=E) (k:=p - 1) rfl (by omega),m1,m2,u_or' rfl rfl (by omega) (by omega),or_add (by omega)]
  have e2:s * 2 ^ (p + w - 1) + E * 2 ^ (p - 1) = (s * 2 ^ w + E) * 2 ^ (p - 1):=by
    rw [Nat.add_mul,Nat.mul_assoc,← Nat.pow_add,show w + (p - 1) = p + w - 1 by omega]
  rw [u_or' rfl rfl (by omega) (by omega),e2,or_add hf]
  unfold packS
  rw [Int.toNat_natCast,e2]
section
variable {kind:Int} {p w:Nat} (h:kindS kind p w)
include h
theorem Zero_eq {sign:Int} (hs:sign = 0 ∨ sign = 1):Ref1.Zero kind sign = some (zeroS p w sign):=by
  have:=bits_eq h (E:=0) (f:=0) hs (Nat.two_pow_pos _) (Nat.two_pow_pos _)
  unfold Ref1.Zero
  rw [show Ref1.bits kind sign 0 0 = _ from this]; rfl
theorem Infinite_eq {sign:Int} (hs:sign = 0 ∨ sign = 1):Ref1.Infinite kind sign = some (infS p w sign):=by
  have:=bits_eq h (E:=2 ^ w - 1) (f:=0) hs (by have:=Nat.two_pow_pos w; omega) (Nat.two_pow_pos _)
  unfold Ref1.Infinite
  rw [all_eq h,Option.bind_some,show Ref1.bits kind sign ((2 ^ w - 1:Nat):Int) 0 = _ from this]; rfl
theorem Quiet_eq:Ref1.Quiet kind = some (quietS p w):=by
  have:=bits_eq h (sign:=0) (E:=2 ^ w - 1) (f:=2 ^ (p - 2)) (.inl rfl) (by have:=Nat.two_pow_pos w; omega) (Nat.pow_lt_pow_right (by decide) (by have:=h.ok.facts; omega))
  unfold Ref1.Quiet
  rw [all_eq h,Digits_eq h]
  simp only [Option.bind_some,letk]
  rcases h with ⟨rfl,rfl,rfl⟩ | ⟨rfl,rfl,rfl⟩ | ⟨rfl,rfl,rfl⟩ <;>
  · rw [chk_pos (by decide)]
    exact congrArg (fun q=>Option.bind q fun t=>some t) this
theorem rgreatest_eq {sign:Int} (hs:sign = 0 ∨ sign = 1):Ref1.greatest kind sign = some (packS p w sign (2 ^ w - 2) (2 ^ (p - 1) - 1)):=by
  have:=bits_eq h (E:=2 ^ w - 2) (f:=2 ^ (p - 1) - 1) hs (by have:=Nat.two_pow_pos w; omega) (by have:=Nat.two_pow_pos (p - 1); omega)
  unfold Ref1.greatest
  rw [all_eq h,Digits_eq h]
  simp only [Option.bind_some,letk]
  rcases h with ⟨rfl,rfl,rfl⟩ | ⟨rfl,rfl,rfl⟩ | ⟨rfl,rfl,rfl⟩ <;>
  · rw [chk_pos (by decide)]
    exact congrArg (fun q=>Option.bind q fun t=>some t) this
end
theorem goesUp_eq {mode sign:Int} {odd:Bool} {rest:Nat} (hr:0 < rest) (hr3:rest ≤ 3):Ref1.goesUp mode sign ((rest:Int) - 2) odd = some (awayS mode sign odd rest):=by
  unfold Ref1.goesUp awayS
  simp only [letk]
  by_cases h0:mode = 0
  · subst h0
    rw [if_pos rfl,show ((0:Int) == 0) = true from rfl]
    have:rest = 1 ∨ rest = 2 ∨ rest = 3:=by omega
    rcases this with rfl | rfl | rfl
    · rfl
    · cases odd <;> rfl
    · rfl
  · rw [if_neg h0,show (mode == 0) = false from beq_eq_false_iff_ne.2 h0]
    simp only [cond]
    rw [decide_eq_true hr]
    by_cases h2:mode = 2
    · subst h2
      rw [if_pos rfl,show ((2:Int) == 2) = true from rfl]
      simp only [Bool.true_and]
      congr 1
    · rw [if_neg h2,show (mode == 2) = false from beq_eq_false_iff_ne.2 h2]
      simp only
      by_cases h3:mode = 3
      · subst h3
        rw [if_pos rfl,show ((3:Int) == 3) = true from rfl]
        simp only [Bool.true_and]
        congr 1
      · rw [if_neg h3,show (mode == 3) = false from beq_eq_false_iff_ne.2 h3]
theorem Rnd_j3 {kind:Int} {p w:Nat} (h:kindS kind p w) {mode sign flags q:Int} {K:Nat} (hm:0 ≤ mode ∧ mode < 4) (hs:sign = 0 ∨ sign = 1) (hK:K < 2 ^ p) (hq:lstS p w ≤ q) (hq2:q < 1000000) (hlow:K < 2 ^ (p - 1) → q = lstS p w) :
    Ref1.Rounded.j3 kind mode sign p flags q (dg K) = some (if K < 2 ^ (p - 1) then (packS p w sign 0 K,flags)
      else if q + p - 1 + biasS w < 2 ^ w - 1 then (packS p w sign (q + p - 1 + biasS w).toNat (K - 2 ^ (p - 1)),flags)
      else if mode = 1 ∨ (mode = 2 ∧ sign = 0) ∨ (mode = 3 ∧ sign = 1) then (packS p w sign (2 ^ w - 2) (2 ^ (p - 1) - 1),20)
      else (packS p w sign (2 ^ w - 1) 0,20)):=by
  obtain ⟨h1,h2,h3,h4,h5,h6⟩:=h.ok.facts
  have hb:0 ≤ biasS w ∧ biasS w < 2000 ∧ ((2 ^ w:Nat):Int) = 2 * biasS w + 2:=by rcases h.ok with ⟨rfl,rfl⟩ | ⟨rfl,rfl⟩ | ⟨rfl,rfl⟩ <;> decide
  have hb2:((2:Int) ^ w) = ((2 ^ w:Nat):Int):=by push_cast; rfl
  have hlst:lstS p w = 2 - biasS w - p:=rfl
  have hbl:bl K ≤ p:=bl_le_iff.2 hK
  have hpp:2 ^ p = 2 ^ (p - 1) * 2:=by rw [← Nat.pow_succ]; congr 1; omega
  have hp53:2 ^ p ≤ 2 ^ 53:=Nat.pow_le_pow_right (by decide) h4
  have hp53':(2:Nat) ^ 53 = 9007199254740992:=by decide
  unfold Ref1.Rounded.j3
  simp only [letk,dg_len]
  rw [wi (x:=(bl K:Int) + q) (by omega) (by omega),Bias_eq h,Option.bind_some,wi (x:=biasS w + 1) (by omega) (by omega),Int_eq,Nat.mod_eq_of_lt (by omega),wi (x:=(K:Int)) (by omega) (by omega)]
  by_cases hl:K < 2 ^ (p - 1)
  · have hq':=hlow hl
    have hbl2:bl K ≤ p - 1:=bl_le_iff.2 hl
    rw [decide_eq_false (show ¬ (bl K:Int) + q > biasS w + 1 by omega),if_pos hl]
    simp only [cond,Option.bind_some]
    rw [decide_eq_true (show ((bl K:Nat):Int) < (p:Int) by omega)]
    simp only
    have:=bits_eq h (sign:=sign) (E:=0) (f:=K) hs (Nat.two_pow_pos _) hl
    rw [show Ref1.bits kind sign 0 (K:Int) = _ from this]; rfl
  · rw [if_neg hl]
    have hblp:bl K = p:=by
      have:=bl_uniq (n:=K) (k:=p - 1) (by omega) (by rw [show p - 1 + 1 = p by omega]; exact hK)
      omega
    by_cases ho:q + p - 1 + biasS w < 2 ^ w - 1
    · rw [if_pos ho,decide_eq_false (show ¬ (bl K:Int) + q > biasS w + 1 by omega)]
      simp only [cond,Option.bind_some]
      rw [decide_eq_false (show ¬ ((bl K:Nat):Int) < (p:Int) by omega),rleast_eq h,Option.bind_some]
      simp only
      rw [wi (x:=q - lstS p w) (by omega) (by omega),wi (x:=q - lstS p w + 1) (by omega) (by omega),wi (x:=(p:Int) - 1) (by omega) (by omega),chk_pos (by omega)]
      have e1:((1:Int) * 2 ^ (min ((p:Int) - 1).toNat IntKind.i64.bits)) = ((2 ^ (p - 1):Nat):Int):=by
        rw [show ((p:Int) - 1).toNat = p - 1 by omega,show min (p - 1) IntKind.i64.bits = p - 1 from Nat.min_eq_left (by show p - 1 ≤ 64; omega)]
        push_cast; omega
      rw [e1,wi (x:=((2 ^ (p - 1):Nat):Int)) (by omega) (by omega),wi (x:=(K:Int) - ((2 ^ (p - 1):Nat):Int)) (by omega) (by omega)]
      have hEn:q - lstS p w + 1 = ((q + p - 1 + biasS w).toNat:Int):=by omega
      have hF:(K:Int) - ((2 ^ (p - 1):Nat):Int) = ((K - 2 ^ (p - 1):Nat):Int):=by omega
      rw [hEn,hF,bits_eq h hs (by omega) (by omega)]; rfl
    · rw [if_neg ho,decide_eq_true (show (bl K:Int) + q > biasS w + 1 by omega)]
      simp only [cond]
      have hg:Ref1.goesUp mode sign 1 true = some (!decide (mode = 1 ∨ (mode = 2 ∧ sign = 0) ∨ (mode = 3 ∧ sign = 1))):=by
        have:mode = 0 ∨ mode = 1 ∨ mode = 2 ∨ mode = 3:=by omega
        rcases this with rfl | rfl | rfl | rfl <;> rcases hs with rfl | rfl <;> rfl
      rw [hg,Option.bind_some,Infinite_eq h hs,rgreatest_eq h hs,Option.bind_some,Option.bind_some]
      by_cases hc:mode = 1 ∨ (mode = 2 ∧ sign = 0) ∨ (mode = 3 ∧ sign = 1)
      · rw [if_pos hc,decide_eq_true hc]; rfl
      · rw [if_neg hc,decide_eq_false hc]; rfl
theorem Rnd_j2 {kind:Int} {p w:Nat} (h:kindS kind p w) {mode sign flags q l2:Int} {K m2:Nat} (hm:0 ≤ mode ∧ mode < 4) (hs:sign = 0 ∨ sign = 1) (hK:K ≤ 2 ^ p) (hq:lstS p w ≤ q) (hq2:q < 900000) (hlow:K < 2 ^ (p - 1) → q = lstS p w)
    (hm2:m2 = if K = 2 ^ p then 2 ^ (p - 1) else K) (hl2:l2 = if K = 2 ^ p then q + 1 else q) :
    Ref1.Rounded.j2 kind mode sign p q flags (dg K) = some (if m2 < 2 ^ (p - 1) then (packS p w sign 0 m2,flags)
      else if l2 + p - 1 + biasS w < 2 ^ w - 1 then (packS p w sign (l2 + p - 1 + biasS w).toNat (m2 - 2 ^ (p - 1)),flags)
      else if mode = 1 ∨ (mode = 2 ∧ sign = 0) ∨ (mode = 3 ∧ sign = 1) then (packS p w sign (2 ^ w - 2) (2 ^ (p - 1) - 1),20)
      else (packS p w sign (2 ^ w - 1) 0,20)):=by
  obtain ⟨h1,h2,h3,h4,h5,h6⟩:=h.ok.facts
  have hlst:lstS p w = 2 - biasS w - p:=rfl
  have hb:0 ≤ biasS w ∧ biasS w < 2000:=by rcases h.ok with ⟨rfl,rfl⟩ | ⟨rfl,rfl⟩ | ⟨rfl,rfl⟩ <;> decide
  have hpp:2 ^ p = 2 ^ (p - 1) * 2:=by rw [← Nat.pow_succ]; congr 1; omega
  have hp0:=Nat.two_pow_pos (p - 1)
  have go:Ref1.Rounded.j2 kind mode sign p q flags (dg K) = Ref1.Rounded.j3 kind mode sign p flags l2 (dg m2):=by
    unfold Ref1.Rounded.j2
    by_cases hK2:K = 2 ^ p
    · have hbl:bl K = p + 1:=bl_uniq (by omega) (by rw [Nat.pow_succ]; omega)
      rw [if_pos hK2] at hm2 hl2
      simp only [letkE,dg_len]
      rw [decide_eq_true (show ((bl K:Nat):Int) > (p:Int) by omega),cond_true,Down_eq (n:=K) (k:=1) (K:=1) rfl (by omega),Option.bind_some]
      have e:K / 2 ^ 1 = 2 ^ (p - 1):=by omega
      rw [e,← hm2]
      rw [wi (x:=q + 1) (by omega) (by omega),← hl2]
    · have hbl:bl K ≤ p:=bl_le_iff.2 (by omega)
      rw [if_neg hK2] at hm2 hl2
      simp only [letkE,dg_len]
      rw [decide_eq_false (show ¬ ((bl K:Nat):Int) > (p:Int) by omega),cond_false,hm2,hl2]
  rw [go]
  have hlow2:m2 < 2 ^ (p - 1) → l2 = lstS p w:=by
    intro q1
    by_cases hK2:K = 2 ^ p
    · rw [if_pos hK2] at hm2; omega
    · rw [if_neg hK2] at hm2 hl2; rw [hl2]; exact hlow (by omega)
  have hl3:lstS p w ≤ l2 ∧ l2 < 1000000:=by
    rw [hl2]; split <;> omega
  have hm3:m2 < 2 ^ p:=by
    rw [hm2]; split <;> omega
  exact Rnd_j3 h hm hs hm3 hl3.1 hl3.2 hlow2
end Go.Q
namespace Go.Q
open Go
theorem bl_pow_le {k n:Nat} (h:k < n):bl (2 ^ k) ≤ n:=by
  rw [bl_le_iff]
  exact Nat.pow_lt_pow_right (by decide) h
set_option maxRecDepth 100000
set_option maxHeartbeats 4000000
theorem Rnd_j5 {kind:Int} {p w:Nat} (h:kindS kind p w) {mode sign q high flags:Int} {m rest:Nat} (hm:0 ≤ mode ∧ mode < 4) (hs:sign = 0 ∨ sign = 1) (hK:m < 2 ^ p) (hq:lstS p w ≤ q) (hq2:q < 900000) (hlow:m < 2 ^ (p - 1) → q = lstS p w)
    (hr:0 < rest) (hr3:rest ≤ 3) (hf:flags = if high < lstS p w + p - 1 then 24 else 16) :
    Ref1.Rounded.j5 kind mode sign p q (dg m) flags ((rest:Int) - 2) = some (finS p w mode sign high q m rest):=by
  obtain ⟨h1,h2,h3,h4,h5,h6⟩:=h.ok.facts
  have hb:0 ≤ biasS w ∧ biasS w < 2000:=by rcases h.ok with ⟨rfl,rfl⟩ | ⟨rfl,rfl⟩ | ⟨rfl,rfl⟩ <;> decide
  have hlst:lstS p w = 2 - biasS w - p:=rfl
  have hp53:2 ^ p ≤ 2 ^ 53:=Nat.pow_le_pow_right (by decide) h4
  have hp53':(2:Nat) ^ 53 = 9007199254740992:=by decide
  have hpp:2 ^ p = 2 ^ (p - 1) * 2:=by rw [← Nat.pow_succ]; congr 1; omega
  have hbl1:bl (m + 1) ≤ 1000000:=by
    have:bl (m + 1) ≤ 64:=bl_le_iff.2 (by rw [pow64]; omega)
    omega
  unfold Ref1.Rounded.j5
  have ed:Ref1.digit (dg m) 0 = some ((bd m 0:Nat):Int):=digit_dg m 0
  have e0:bd m 0 = m % 2:=by unfold bd; rw [Nat.pow_zero,Nat.div_one]
  rw [ed,Option.bind_some,e0]
  simp only [letkE]
  rw [show (((m % 2:Nat):Int) == 1) = decide (m % 2 = 1) from beq_nat _ 1,goesUp_eq hr hr3,Option.bind_some]
  have fin:∀ K:Nat,K ≤ 2 ^ p → (K < 2 ^ (p - 1) → q = lstS p w) → K = (if awayS mode sign (decide (m % 2 = 1)) rest = true then m + 1 else m) → Ref1.Rounded.j2 kind mode sign p q flags (dg K) = some (finS p w mode sign high q m rest):=by
    intro K hK1 hK2 hK3
    rw [Rnd_j2 h hm hs hK1 hq hq2 hK2 rfl rfl]
    unfold finS
    simp only [← hK3]
    rw [if_pos hr,hf]
  by_cases ha:awayS mode sign (decide (m % 2 = 1)) rest = true
  · rw [ha]
    simp only [cond]
    have eo:=Of_eq (N:=1) (by decide) (x:=1) rfl
    rw [eo,Option.bind_some,Plus_eq hbl1,Option.bind_some]
    exact fin (m + 1) (by omega) (fun q1=>hlow (by omega)) (by rw [if_pos ha])
  · simp only [Bool.not_eq_true] at ha
    rw [ha]
    simp only [cond]
    exact fin m (by omega) hlow (by rw [ha,if_neg (by decide)])
theorem Rnd_j1 {kind:Int} {p w:Nat} (h:kindS kind p w) {mode sign q high e1:Int} {m rest n R:Nat} {more:Bool} (hm:0 ≤ mode ∧ mode < 4) (hs:sign = 0 ∨ sign = 1) (hK:m < 2 ^ p) (hq:lstS p w ≤ q) (hq2:q < 900000) (hlow:m < 2 ^ (p - 1) → q = lstS p w)
    (hq3:q < 100000) (hr3:rest ≤ 3) (hn:bl n ≤ 100000) (he:-100000 < e1 ∧ e1 < 100000) (hhigh:0 < rest → (bl n:Int) + e1 = high + 1) (hqe:0 < rest → e1 < q)
    (hR:bl R ≤ 1000000) (hc:0 < rest → (if cmpN R (2 ^ (q - e1 - 1).toNat) = 0 ∧ more = true then 1 else cmpN R (2 ^ (q - e1 - 1).toNat)) = (rest:Int) - 2) :
    Ref1.Rounded.j1 kind mode sign p q (dg n) e1 (dg m) (dg R) more (decide (rest = 0)) = some (finS p w mode sign high q m rest):=by
  obtain ⟨h1,h2,h3,h4,h5,h6⟩:=h.ok.facts
  have hb:0 ≤ biasS w ∧ biasS w < 2000:=by rcases h.ok with ⟨rfl,rfl⟩ | ⟨rfl,rfl⟩ | ⟨rfl,rfl⟩ <;> decide
  have hlst:lstS p w = 2 - biasS w - p:=rfl
  unfold Ref1.Rounded.j1
  simp only [letkE,dg_len]
  by_cases h0:rest = 0
  · subst h0
    rw [decide_eq_true rfl]
    simp only [Bool.not_true,cond]
    rw [Rnd_j2 h hm hs (by omega) hq hq2 hlow rfl rfl]
    unfold finS
    rw [awayS_zero]
    simp only [Bool.false_eq_true,if_false,Nat.lt_irrefl]
  · rw [decide_eq_false h0]
    simp only [Bool.not_false,cond]
    have hr:0 < rest:=by omega
    have hh:=hhigh hr
    have hcc:=hc hr
    have hqe1:=hqe hr
    rw [wi (x:=(bl n:Int) + e1) (by omega) (by omega),Bias_eq h,Option.bind_some,wi (x:=1 - biasS w) (by omega) (by omega),hh]
    have j4:∀ flags:Int,flags = (if high < lstS p w + p - 1 then 24 else 16) → Ref1.Rounded.j4 kind mode sign p q e1 (dg m) (dg R) more flags = some (finS p w mode sign high q m rest):=by
      intro flags hf
      have j5:=Rnd_j5 h (mode:=mode) (sign:=sign) (q:=q) (high:=high) (flags:=flags) (m:=m) (rest:=rest) hm hs hK hq hq2 hlow hr hr3 hf
      unfold Ref1.Rounded.j4
      simp only [letkE]
      rw [decide_eq_true (show q > e1 from hqe1)]
      simp only [cond]
      have eo:=Of_eq (N:=1) (by decide) (x:=1) rfl
      rw [eo,Option.bind_some,wi (x:=q - e1) (by omega) (by omega),wi (x:=q - e1 - 1) (by omega) (by omega),Up_eq (n:=1) (k:=(q - e1 - 1).toNat) (by omega) (by omega) (by decide),Option.bind_some,Nat.one_mul]
      have hblp:bl (2 ^ (q - e1 - 1).toNat) ≤ 1000000:=by
        exact bl_pow_le (by omega)
      rw [Cmp_eq hR hblp,Option.bind_some]
      by_cases c0:cmpN R (2 ^ (q - e1 - 1).toNat) = 0
      · rw [c0] at hcc ⊢
        rw [show ((0:Int) == 0) = true from rfl]
        simp only
        by_cases hmo:more = true
        · rw [if_pos ⟨rfl,hmo⟩] at hcc
          rw [hmo,hcc]
          exact j5
        · rw [if_neg (fun x=>hmo x.2)] at hcc
          simp only [Bool.not_eq_true] at hmo
          rw [hmo,hcc]
          exact j5
      · rw [if_neg (fun x=>c0 x.1)] at hcc
        rw [show (cmpN R (2 ^ (q - e1 - 1).toNat) == 0) = false from beq_eq_false_iff_ne.2 c0,hcc]
        exact j5
    by_cases hl:high < lstS p w + p - 1
    · rw [decide_eq_true (show high + 1 ≤ 1 - biasS w by omega)]
      simp only
      exact j4 _ (by rw [if_pos hl]; rfl)
    · rw [decide_eq_false (show ¬ high + 1 ≤ 1 - biasS w by omega)]
      simp only
      exact j4 _ (by rw [if_neg hl])
theorem half_rest {N n:Nat} (hn:0 < n) {more:Bool} (hr:0 < restC N n more) :
    (if cmpN (4 * (N % 2 ^ n)) (2 ^ (n + 1)) = 0 ∧ more = true then 1 else cmpN (4 * (N % 2 ^ n)) (2 ^ (n + 1))) = (restC N n more:Int) - 2:=by
  have e1:N % 2 ^ n = N % 2 ^ (n - 1) + bd N (n - 1) * 2 ^ (n - 1):=by
    have:=mod_succ N (n - 1)
    rw [show n - 1 + 1 = n by omega] at this
    exact this
  have e2:2 ^ (n + 1) = 4 * 2 ^ (n - 1):=by
    rw [show n + 1 = (n - 1) + 2 by omega,Nat.pow_add,Nat.mul_comm]
  have hlt:=Nat.mod_lt N (Nat.two_pow_pos (n - 1))
  have htb:N.testBit (n - 1) = decide (bd N (n - 1) = 1):=Nat.testBit_eq_decide_div_mod_eq
  rw [e1,e2]
  unfold restC at hr ⊢
  rw [htb] at hr ⊢
  clear htb
  have hbd:=bd_lt N (n - 1)
  generalize bd N (n - 1) = b at *
  generalize N % 2 ^ (n - 1) = L at *
  generalize 2 ^ (n - 1) = H at *
  rcases (by omega:b = 0 ∨ b = 1) with rfl | rfl
  · rw [if_neg (show ¬ (decide ((0:Nat) = 1) = true) by decide)] at hr ⊢
    rw [Nat.zero_mul,Nat.add_zero]
    have hc:cmpN (4 * L) (4 * H) = -1:=by unfold cmpN; rw [if_pos (by omega)]
    rw [hc,if_neg (fun x=>by cases x.1)]
    split at hr
    · rename_i hx; rw [if_pos hx]; rfl
    · cases hr
  · rw [if_pos (show decide ((1:Nat) = 1) = true from rfl)]
    rw [Nat.one_mul]
    by_cases hL:L = 0
    · subst hL
      have hc:cmpN (4 * (0 + H)) (4 * H) = 0:=by unfold cmpN; rw [if_neg (by omega),if_neg (by omega)]
      rw [hc]
      by_cases hmo:more = true
      · rw [hmo]; rfl
      · simp only [Bool.not_eq_true] at hmo
        rw [hmo]; rfl
    · have hc:cmpN (4 * (L + H)) (4 * H) = 1:=by unfold cmpN; rw [if_neg (by omega),if_pos (by omega)]
      rw [hc,if_neg (fun x=>by cases x.1)]
      rw [if_pos (by rw [decide_eq_true hL,Bool.or_true])]; rfl
theorem restC_le (N n:Nat) (more:Bool):restC N n more ≤ 3:=by
  unfold restC
  split <;> split <;> omega
theorem restC_zero_iff {N n:Nat} (hn:0 < n) (more:Bool):restC N n more = 0 ↔ (N % 2 ^ n = 0 ∧ more = false):=by
  have e1:N % 2 ^ n = N % 2 ^ (n - 1) + bd N (n - 1) * 2 ^ (n - 1):=by
    have:=mod_succ N (n - 1)
    rw [show n - 1 + 1 = n by omega] at this
    exact this
  have htb:N.testBit (n - 1) = decide (bd N (n - 1) = 1):=Nat.testBit_eq_decide_div_mod_eq
  have hp:=Nat.two_pow_pos (n - 1)
  rw [e1]
  unfold restC
  rw [htb]
  have hbd:=bd_lt N (n - 1)
  generalize bd N (n - 1) = b at *
  generalize N % 2 ^ (n - 1) = L at *
  generalize 2 ^ (n - 1) = H at *
  rcases (by omega:b = 0 ∨ b = 1) with rfl | rfl
  · rw [if_neg (by decide),Nat.zero_mul,Nat.add_zero]
    cases more
    · by_cases hL:L = 0
      · subst hL; simp
      · simp [hL]
    · simp
  · rw [if_pos (by decide),Nat.one_mul]
    constructor
    · intro h; split at h <;> cases h
    · intro h; omega
theorem Rounded_eq {kind:Int} {p w:Nat} (h:kindS kind p w) {mode sign e:Int} {N:Nat} {more:Bool} (hm:0 ≤ mode ∧ mode < 4) (hs:sign = 0 ∨ sign = 1) (hN:0 < N) (hbN:bl N ≤ 40000) (he:-40000 < e ∧ e < 40000)
    (hmore:more = true → 0 < lastS p w N e - e):Ref1.Rounded kind mode sign (dg N) e more = some (rndS p w mode sign N e more):=by
  obtain ⟨h1,h2,h3,h4,h5,h6⟩:=h.ok.facts
  have hb:0 ≤ biasS w ∧ biasS w < 2000:=by rcases h.ok with ⟨rfl,rfl⟩ | ⟨rfl,rfl⟩ | ⟨rfl,rfl⟩ <;> decide
  have hlst:lstS p w = 2 - biasS w - p:=rfl
  have hbp:=bl_pos hN
  have hlast:lastS p w N e = max (highS N e - p + 1) (lstS p w):=rfl
  have hhigh:highS N e = e + bl N - 1:=rfl
  have hbl4:bl (N * 2 ^ 2) = bl N + 2:=bl_shift hN
  have em:(if lstS p w > ((bl N + 2:Nat):Int) + (e - 2) - p then lstS p w else ((bl N + 2:Nat):Int) + (e - 2) - p) = lastS p w N e:=by
    rw [hlast,hhigh]; split <;> omega
  unfold Ref1.Rounded
  rw [Digits_eq h,Option.bind_some,Up_eq (n:=N) (k:=2) (K:=2) rfl (by omega) (by omega),Option.bind_some]
  simp only [letkE,dg_len]
  rw [hbl4,wi (x:=e - 2) (by omega) (by omega),wi (x:=((bl N + 2:Nat):Int) + (e - 2)) (by omega) (by omega),wi (x:=((bl N + 2:Nat):Int) + (e - 2) - p) (by omega) (by omega),rleast_eq h,Option.bind_some,em]
  have hq1:lstS p w ≤ lastS p w N e:=by omega
  have hq2:lastS p w N e < 90000:=by omega
  unfold rndS
  simp only
  generalize hQ:lastS p w N e = q at *
  have keptlt:∀ m:Nat,m = (if q - e ≤ 0 then N * 2 ^ (-(q - e)).toNat else N / 2 ^ (q - e).toNat) → m < 2 ^ p ∧ (m < 2 ^ (p - 1) → q = lstS p w):=by
    intro m hmm
    have hblm:(bl m:Int) = bl N - (q - e) ∨ (bl m = 0 ∧ (bl N:Int) - (q - e) ≤ 0):=by
      rw [hmm]
      split
      · rw [bl_shift hN]; omega
      · rw [bl_div]; omega
    refine ⟨bl_le_iff.1 (by omega),fun hl=>?_⟩
    have:=bl_le_iff.2 hl
    omega
  have restle:(if q - e ≤ 0 then 0 else restC N (q - e).toNat more) ≤ 3:=by
    split
    · omega
    · exact restC_le _ _ _
  obtain ⟨k1,k2⟩:=keptlt _ rfl
  have j0:∀ (n:Nat) (e1:Int) (D:Nat),q - e1 = D → bl n ≤ 100000 → -50000 < e1 → e1 < 50000 → D ≤ 90000 →
      n / 2 ^ D = (if q - e ≤ 0 then N * 2 ^ (-(q - e)).toNat else N / 2 ^ (q - e).toNat) →
      ((n % 2 ^ D = 0 ∧ more = false) ↔ (if q - e ≤ 0 then 0 else restC N (q - e).toNat more) = 0) →
      (0 < (if q - e ≤ 0 then 0 else restC N (q - e).toNat more) → (bl n:Int) + e1 = highS N e + 1 ∧ 0 < D ∧
        (if cmpN (n % 2 ^ D) (2 ^ (D - 1)) = 0 ∧ more = true then 1 else cmpN (n % 2 ^ D) (2 ^ (D - 1))) = ((if q - e ≤ 0 then 0 else restC N (q - e).toNat more:Nat):Int) - 2) →
      Ref1.Rounded.j0 kind mode sign p q (dg n) e1 more = some (finS p w mode sign (highS N e) q (if q - e ≤ 0 then N * 2 ^ (-(q - e)).toNat else N / 2 ^ (q - e).toNat) (if q - e ≤ 0 then 0 else restC N (q - e).toNat more)):=by
    intro n e1 D hD hbn a1 a2 a3 c1 c2 c3
    generalize (if q - e ≤ 0 then N * 2 ^ (-(q - e)).toNat else N / 2 ^ (q - e).toNat) = m at *
    generalize (if q - e ≤ 0 then 0 else restC N (q - e).toNat more) = rest at *
    have hmod:bl (n % 2 ^ D) ≤ 1000000:=by
      have:=bl_mono (Nat.mod_le n (2 ^ D)); omega
    unfold Ref1.Rounded.j0
    simp only [letkE]
    have hdm:n - n / 2 ^ D * 2 ^ D = n % 2 ^ D:=by
      have:=Nat.div_add_mod n (2 ^ D)
      rw [Nat.mul_comm] at this
      omega
    rw [wi (x:=q - e1) (by omega) (by omega),hD,Down_eq (n:=n) rfl (by omega),Option.bind_some,Up_eq (n:=n / 2 ^ D) rfl (by omega) (by have:=bl_mono (Nat.div_le_self n (2 ^ D)); omega),Option.bind_some,Minus_eq (Nat.div_mul_le_self _ _) (by omega),Option.bind_some,hdm,c1,dg_len]
    have j1:=Rnd_j1 h (mode:=mode) (sign:=sign) (q:=q) (high:=highS N e) (e1:=e1) (m:=m) (rest:=rest) (n:=n) (R:=n % 2 ^ D) (more:=more) hm hs k1 hq1 (by omega) k2 (by omega) restle hbn (by omega) (fun x=>(c3 x).1) (fun x=>by have:=(c3 x).2.1; omega) hmod (fun x=>by
      have:=(c3 x).2.2
      rw [show (q - e1 - 1).toNat = D - 1 by have:=(c3 x).2.1; omega]
      exact this)
    by_cases h0:n % 2 ^ D = 0
    · rw [h0] at j1 ⊢
      rw [show (((bl 0:Nat):Int) == 0) = true from rfl,cond_true]
      have:(!more) = decide (rest = 0):=by
        cases more
        · rw [decide_eq_true (c2.1 ⟨h0,rfl⟩)]; rfl
        · rw [decide_eq_false (fun x=>by cases (c2.2 x).2)]; rfl
      rw [this]
      exact j1
    · have hbl0:bl (n % 2 ^ D) ≠ 0:=fun x=>h0 (bl_zero_iff.1 x)
      rw [show (((bl (n % 2 ^ D):Nat):Int) == 0) = false from by rw [beq_eq_false_iff_ne]; omega,cond_false]
      rw [decide_eq_false (fun x=>h0 (c2.2 x).1)] at j1
      exact j1
  by_cases hlow:q < e - 2
  · rw [decide_eq_true hlow]
    simp only [cond]
    rw [wi (x:=e - 2 - q) (by omega) (by omega),Up_eq (n:=N * 2 ^ 2) (k:=(e - 2 - q).toNat) (by omega) (by omega) (by omega),Option.bind_some]
    have hle:q - e ≤ 0:=by omega
    have hmf:more = false:=by
      cases more
      · rfl
      · exact absurd (hmore rfl) (by omega)
    have en:N * 2 ^ 2 * 2 ^ (e - 2 - q).toNat = N * 2 ^ (-(q - e)).toNat:=by
      rw [Nat.mul_assoc,← Nat.pow_add]; congr 2; omega
    rw [en]
    have hbn:bl (N * 2 ^ (-(q - e)).toNat) = bl N + (-(q - e)).toNat:=bl_shift hN
    refine j0 _ q 0 (by omega) (by omega) (by omega) (by omega) (by omega) (by rw [if_pos hle,Nat.pow_zero,Nat.div_one]) ?_ ?_
    · rw [if_pos hle,Nat.pow_zero,Nat.mod_one]
      exact ⟨fun _=>rfl,fun _=>⟨rfl,hmf⟩⟩
    · rw [if_pos hle]; intro x; cases x
  · rw [decide_eq_false hlow]
    simp only [cond]
    by_cases hle:q - e ≤ 0
    · have hmf:more = false:=by
        cases more
        · rfl
        · exact absurd (hmore rfl) (by omega)
      have e1:N * 2 ^ 2 = N * 2 ^ (-(q - e)).toNat * 2 ^ (q - (e - 2)).toNat:=by
        rw [Nat.mul_assoc,← Nat.pow_add]; congr 2; omega
      refine j0 _ (e - 2) (q - (e - 2)).toNat (by omega) (by omega) (by omega) (by omega) (by omega) (by rw [if_pos hle,e1,Nat.mul_div_cancel _ (Nat.two_pow_pos _)]) ?_ ?_
      · rw [if_pos hle,e1,Nat.mul_mod_left]
        exact ⟨fun _=>rfl,fun _=>⟨rfl,hmf⟩⟩
      · rw [if_pos hle]; intro x; cases x
    · have hn:0 < (q - e).toNat:=by omega
      have eD:(q - (e - 2)).toNat = (q - e).toNat + 2:=by omega
      have ediv:N * 2 ^ 2 / 2 ^ ((q - e).toNat + 2) = N / 2 ^ (q - e).toNat:=by
        rw [Nat.pow_add,Nat.mul_div_mul_right _ _ (by decide)]
      have emod:N * 2 ^ 2 % 2 ^ ((q - e).toNat + 2) = 4 * (N % 2 ^ (q - e).toNat):=by
        rw [Nat.pow_add,Nat.mul_mod_mul_right,Nat.mul_comm]
      refine j0 _ (e - 2) ((q - e).toNat + 2) (by omega) (by omega) (by omega) (by omega) (by omega) (by rw [if_neg hle,ediv]) ?_ ?_
      · rw [if_neg hle,emod,restC_zero_iff hn]
        constructor
        · rintro ⟨a,b⟩; exact ⟨by omega,b⟩
        · rintro ⟨a,b⟩; exact ⟨by omega,b⟩
      · rw [if_neg hle,emod]
        intro hr
        refine ⟨by omega,by omega,?_⟩
        have:=half_rest hn hr
        rw [show (q - e).toNat + 2 - 1 = (q - e).toNat + 1 by omega]
        exact this
end Go.Q
