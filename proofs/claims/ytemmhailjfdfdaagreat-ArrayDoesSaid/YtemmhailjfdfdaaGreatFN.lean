import Derived.Test.YtemmhailjfdfdaaGreatFM
namespace Go.Q
open Go
set_option maxRecDepth 100000
set_option maxHeartbeats 4000000
theorem div_ref (A B j:Nat) (hB:0 < B):∃ r,r < 2 ^ j ∧ A * 2 ^ j / B = A / B * 2 ^ j + r ∧ (decide (A * 2 ^ j % B ≠ 0) || decide (r ≠ 0)) = decide (A % B ≠ 0):=by
  have hj:=Nat.two_pow_pos j
  have e:A * 2 ^ j = B * (A / B * 2 ^ j) + A % B * 2 ^ j:=by
    rw [← Nat.mul_assoc,← Nat.add_mul,Nat.div_add_mod]
  have hlt:A % B < B:=Nat.mod_lt _ hB
  refine ⟨A % B * 2 ^ j / B,?_,?_,?_⟩
  · rw [Nat.div_lt_iff_lt_mul hB,Nat.mul_comm]
    exact Nat.mul_lt_mul_of_pos_left hlt hj
  · rw [e,Nat.mul_add_div hB]
  · rw [e,Nat.mul_add_mod]
    rw [Bool.eq_iff_iff]
    simp only [decide_eq_true_eq,Bool.or_eq_true]
    have h2:=Nat.div_add_mod (A % B * 2 ^ j) B
    constructor
    · rintro (h | h) h0
      · rw [h0,Nat.zero_mul,Nat.zero_mod] at h; exact h rfl
      · rw [h0,Nat.zero_mul,Nat.zero_div] at h; exact h rfl
    · intro h
      have:0 < A % B * 2 ^ j:=Nat.mul_pos (by omega) hj
      by_cases h3:A % B * 2 ^ j % B = 0
      · right
        intro h4
        rw [h4,Nat.mul_zero,h3] at h2
        omega
      · exact .inl h3
noncomputable def quoS (p w:Nat) (mode sg:Int) (A B:Nat) (e:Int):Int × Int:=rndS p w mode sg (A / B) e (decide (A % B ≠ 0))
theorem quo_ref {p w:Nat} {mode sg e:Int} {A B:Nat} (j:Nat) (hB:0 < B) (h:2 ^ p ≤ A / B):quoS p w mode sg (A * 2 ^ j) B (e - j) = quoS p w mode sg A B e:=by
  obtain ⟨r,h1,h2,h3⟩:=div_ref A B j hB
  unfold quoS
  rw [h2,rndS_ref (Nat.lt_of_lt_of_le (Nat.two_pow_pos p) h) h1 (last_gt h),h3]
theorem quo_any {p w:Nat} {mode sg E:Int} {m n K L:Nat} (hn:0 < n) (h1:2 ^ p ≤ m * 2 ^ K / n) (h2:2 ^ p ≤ m * 2 ^ L / n):quoS p w mode sg (m * 2 ^ K) n (E - K) = quoS p w mode sg (m * 2 ^ L) n (E - L):=by
  rw [← quo_ref L hn h1,← quo_ref K hn h2,Nat.mul_assoc,Nat.mul_assoc,Nat.mul_comm (2 ^ K)]
  congr 1
  omega
end Go.Q
namespace Go.Q
open Go
set_option maxRecDepth 100000
set_option maxHeartbeats 4000000
theorem est {B y n1 n0 u d q r:Nat} (hy0:0 < y) (hy:y = n1 * B + n0) (hu:q * n1 + r = u):(B * r + d < q * n0) ↔ (u * B + d) / y < q:=by
  rw [Nat.div_lt_iff_lt_mul hy0,hy,← hu,Nat.mul_add,Nat.add_mul,Nat.mul_comm r B,Nat.mul_assoc]
  omega
theorem dig {σ ρ:Type} {s:σ → Option (σ ⊕ ρ)} {J:Nat → Option ρ} {en:Nat → Nat → σ} {B y n1 n0 u d Q:Nat} (_hB:0 < B) (hy0:0 < y) (hy:y = n1 * B + n0) (h0:n0 < B) (hu:u < y) (hd:d < B) (eQ:(u * B + d) / y = Q)
    (hgo:∀ q r,q ≤ B + 1 → r < B → q * n1 + r = u → 0 < q → (B ≤ q ∨ B * r + d < q * n0) → s (en q r) = if B ≤ r + n1 then (J (q - 1)).map .inr else some (.inl (en (q - 1) (r + n1))))
    (hend:∀ q r,q ≤ B + 1 → r < B → q * n1 + r = u → ¬ (B ≤ q ∨ B * r + d < q * n0) → s (en q r) = (J q).map .inr) :
    ∀ k q r,q = Q + k → q ≤ B + 1 → r < B → q * n1 + r = u → loopO s (en q r) = J Q:=by
  have hQ:Q < B:=by
    rw [← eQ,Nat.div_lt_iff_lt_mul hy0,Nat.mul_comm B]
    have:(u + 1) * B ≤ y * B:=Nat.mul_le_mul_right _ hu
    rw [Nat.add_mul,Nat.one_mul] at this
    omega
  have hest:∀ q r,q * n1 + r = u → ((B * r + d < q * n0) ↔ Q < q):=by
    intro q r h
    rw [est hy0 hy h,eQ]
  have fin:∀ o:Option ρ,(o.map (Sum.inr (α:=σ))).bind (Sum.elim (loopO s) some) = o:=by
    intro o; cases o <;> rfl
  clear eQ
  intro k
  induction k with
  | zero =>
    intro q r hq h1 h2 h3
    have hc:¬ (B ≤ q ∨ B * r + d < q * n0):=by
      rintro (h | h)
      · omega
      · have:=(hest q r h3).1 h
        omega
    rw [loopO_eq,hend q r h1 h2 h3 hc,fin,hq,Nat.add_zero]
  | succ k ih =>
    intro q r hq h1 h2 h3
    have hc:B ≤ q ∨ B * r + d < q * n0:=.inr ((hest q r h3).2 (by omega))
    have h4:(q - 1) * n1 + (r + n1) = u:=by
      have:q * n1 = (q - 1) * n1 + n1:=by
        conv=>lhs; rw [show q = q - 1 + 1 by omega,Nat.add_mul,Nat.one_mul]
      omega
    rw [loopO_eq,hgo q r h1 h2 h3 (by omega) hc]
    by_cases hb:B ≤ r + n1
    · rw [if_pos hb,fin]
      congr 1
      have hle:¬ Q < q - 1:=by
        rw [← hest (q - 1) (r + n1) h4]
        have a1:(q - 1) * n0 ≤ B * B:=Nat.mul_le_mul (by omega) (by omega)
        have a2:B * B ≤ B * (r + n1):=Nat.mul_le_mul_left _ hb
        omega
      omega
    · rw [if_neg hb]
      exact ih (q - 1) (r + n1) (by omega) (by omega) (by omega) h4
theorem wnat {n:Nat} (h:n < 18446744073709551616):IntKind.u64.wrap (n:Int) = (n:Int):=by
  rw [wuN,Nat.mod_eq_of_lt h]
theorem tdiv_nat (a b:Nat):(a:Int).tdiv (b:Int) = ((a / b:Nat):Int):=by
  rw [Int.tdiv_eq_ediv_of_nonneg (Int.natCast_nonneg _)]; rfl
theorem tmod_nat (a b:Nat):(a:Int).tmod (b:Int) = ((a % b:Nat):Int):=by
  rw [Int.tmod_eq_emod_of_nonneg (Int.natCast_nonneg _)]; rfl
theorem wmul (a b:Nat) (h:a * b < 18446744073709551616):IntKind.u64.wrap ((a:Int) * (b:Int)) = ((a * b:Nat):Int):=by
  rw [← Int.natCast_mul,wuN,Nat.mod_eq_of_lt h]
theorem wmulL (a:Nat) (h:a * 4294967296 < 18446744073709551616):IntKind.u64.wrap ((a:Int) * 4294967296) = ((a * 4294967296:Nat):Int):=wmul a 4294967296 h
theorem wmulR (a:Nat) (h:4294967296 * a < 18446744073709551616):IntKind.u64.wrap (4294967296 * (a:Int)) = ((4294967296 * a:Nat):Int):=wmul 4294967296 a h
theorem wsub (a b:Nat) (h:b ≤ a) (ha:a < 18446744073709551616):IntKind.u64.wrap ((a:Int) - (b:Int)) = ((a - b:Nat):Int):=by
  rw [wu (by omega) (by omega)]; omega
theorem wadd (a b:Nat) (h:a + b < 18446744073709551616):IntKind.u64.wrap ((a:Int) + (b:Int)) = ((a + b:Nat):Int):=by
  rw [wu (by omega) (by omega)]; omega
theorem left_rest {u d q y r:Nat} (h:u * 4294967296 + d = q * y + r) (hr:r < 18446744073709551616) :
    IntKind.u64.wrap (IntKind.u64.wrap (IntKind.u64.wrap ((u:Int) * 4294967296) + (d:Int)) - IntKind.u64.wrap ((q:Int) * (y:Int))) = (r:Int):=by
  rw [← Int.natCast_mul]
  generalize q * y = P at *
  show (((u:Int) * 4294967296 % 18446744073709551616 + d) % 18446744073709551616 - (P:Int) % 18446744073709551616) % 18446744073709551616 = r
  omega
section
variable {t36:Int} {y n1 n0:Nat}
theorem first_go {hi d0 d1:Nat} (h2:n0 < 4294967296) (hd:d1 < 4294967296) (q r:Nat) (hq:q ≤ 4294967297) (hr:r < 4294967296) (hn1:n1 < 4294967296) (hq0:0 < q)
    (hc:4294967296 ≤ q ∨ 4294967296 * r + d1 < q * n0):Bits.Div64.s1 t36 y n1 n0 hi d1 d0 q r =
      if 4294967296 ≤ r + n1 then (Bits.Div64.j2 t36 y n1 n0 hi d1 d0 ((q - 1:Nat):Int)).map .inr else some (.inl (((q - 1:Nat):Int),((r + n1:Nat):Int))):=by
  have j5:Bits.Div64.j5 t36 y n1 n0 hi d1 d0 q r = if 4294967296 ≤ r + n1 then (Bits.Div64.j2 t36 y n1 n0 hi d1 d0 ((q - 1:Nat):Int)).map .inr else some (.inl (((q - 1:Nat):Int),((r + n1:Nat):Int))):=by
    unfold Bits.Div64.j5
    simp only [letk]
    rw [show ((q:Int) - 1) = (q:Int) - ((1:Nat):Int) from rfl,wsub q 1 hq0 (by omega),wadd r n1 (by omega)]
    by_cases hb:4294967296 ≤ r + n1
    · rw [decide_eq_true (show ((r + n1:Nat):Int) ≥ 4294967296 by omega),if_pos hb]; rfl
    · rw [decide_eq_false (show ¬ ((r + n1:Nat):Int) ≥ 4294967296 by omega),if_neg hb]; rfl
  unfold Bits.Div64.s1
  simp only [letk]
  by_cases h:4294967296 ≤ q
  · rw [decide_eq_true (show (q:Int) ≥ 4294967296 by omega)]
    exact j5
  · rw [decide_eq_false (show ¬ (q:Int) ≥ 4294967296 by omega)]
    have a1:q * n0 ≤ 4294967295 * 4294967295:=Nat.mul_le_mul (by omega) (by omega)
    rw [wmul q n0 (by omega),wmulR r (by omega),wadd (4294967296 * r) d1 (by omega)]
    have:4294967296 * r + d1 < q * n0:=by omega
    rw [decide_eq_true (show ((q * n0:Nat):Int) > ((4294967296 * r + d1:Nat):Int) by omega)]
    exact j5
theorem first_end {hi d0 d1:Nat} (h2:n0 < 4294967296) (hd:d1 < 4294967296) (q r:Nat) (hr:r < 4294967296)
    (hc:¬ (4294967296 ≤ q ∨ 4294967296 * r + d1 < q * n0)):Bits.Div64.s1 t36 y n1 n0 hi d1 d0 q r = (Bits.Div64.j2 t36 y n1 n0 hi d1 d0 (q:Int)).map .inr:=by
  unfold Bits.Div64.s1
  simp only [letk]
  rw [decide_eq_false (show ¬ (q:Int) ≥ 4294967296 by omega)]
  have a1:q * n0 ≤ 4294967295 * 4294967295:=Nat.mul_le_mul (by omega) (by omega)
  rw [wmul q n0 (by omega),wmulR r (by omega),wadd (4294967296 * r) d1 (by omega)]
  rw [decide_eq_false (show ¬ ((q * n0:Nat):Int) > ((4294967296 * r + d1:Nat):Int) by omega)]
  rfl
theorem second_go {d0 q1:Nat} {t93:Int} (h2:n0 < 4294967296) (hd:d0 < 4294967296) (q r:Nat) (hq:q ≤ 4294967297) (hr:r < 4294967296) (hn1:n1 < 4294967296) (hq0:0 < q)
    (hc:4294967296 ≤ q ∨ 4294967296 * r + d0 < q * n0):Bits.Div64.s0 t36 y n1 n0 d0 q1 t93 r q =
      if 4294967296 ≤ r + n1 then (Bits.Div64.j3 t36 y d0 q1 t93 ((q - 1:Nat):Int)).map .inr else some (.inl (((r + n1:Nat):Int),((q - 1:Nat):Int))):=by
  have j5:Bits.Div64.j4 t36 y n1 n0 d0 q1 t93 r q = if 4294967296 ≤ r + n1 then (Bits.Div64.j3 t36 y d0 q1 t93 ((q - 1:Nat):Int)).map .inr else some (.inl (((r + n1:Nat):Int),((q - 1:Nat):Int))):=by
    unfold Bits.Div64.j4
    simp only [letk]
    rw [show ((q:Int) - 1) = (q:Int) - ((1:Nat):Int) from rfl,wsub q 1 hq0 (by omega),wadd r n1 (by omega)]
    by_cases hb:4294967296 ≤ r + n1
    · rw [decide_eq_true (show ((r + n1:Nat):Int) ≥ 4294967296 by omega),if_pos hb]; rfl
    · rw [decide_eq_false (show ¬ ((r + n1:Nat):Int) ≥ 4294967296 by omega),if_neg hb]; rfl
  unfold Bits.Div64.s0
  simp only [letk]
  by_cases h:4294967296 ≤ q
  · rw [decide_eq_true (show (q:Int) ≥ 4294967296 by omega)]
    exact j5
  · rw [decide_eq_false (show ¬ (q:Int) ≥ 4294967296 by omega)]
    have a1:q * n0 ≤ 4294967295 * 4294967295:=Nat.mul_le_mul (by omega) (by omega)
    rw [wmul q n0 (by omega),wmulR r (by omega),wadd (4294967296 * r) d0 (by omega)]
    have:4294967296 * r + d0 < q * n0:=by omega
    rw [decide_eq_true (show ((q * n0:Nat):Int) > ((4294967296 * r + d0:Nat):Int) by omega)]
    exact j5
theorem second_end {d0 q1:Nat} {t93:Int} (h2:n0 < 4294967296) (hd:d0 < 4294967296) (q r:Nat) (hr:r < 4294967296)
    (hc:¬ (4294967296 ≤ q ∨ 4294967296 * r + d0 < q * n0)):Bits.Div64.s0 t36 y n1 n0 d0 q1 t93 r q = (Bits.Div64.j3 t36 y d0 q1 t93 (q:Int)).map .inr:=by
  unfold Bits.Div64.s0
  simp only [letk]
  rw [decide_eq_false (show ¬ (q:Int) ≥ 4294967296 by omega)]
  have a1:q * n0 ≤ 4294967295 * 4294967295:=Nat.mul_le_mul (by omega) (by omega)
  rw [wmul q n0 (by omega),wmulR r (by omega),wadd (4294967296 * r) d0 (by omega)]
  rw [decide_eq_false (show ¬ ((q * n0:Nat):Int) > ((4294967296 * r + d0:Nat):Int) by omega)]
  rfl
end
theorem est_le {u y n1 n0:Nat} (hy:y = n1 * 4294967296 + n0) (h0:n0 < 4294967296) (h1:2147483648 ≤ n1) (hu:u < y):u / n1 ≤ 4294967297:=by
  have:u / n1 < 4294967298:=by
    rw [Nat.div_lt_iff_lt_mul (by omega)]
    omega
  omega
theorem est_ge {u y n1 n0 d:Nat} (hy:y = n1 * 4294967296 + n0) (h1:2147483648 ≤ n1) (hd:d < 4294967296):(u * 4294967296 + d) / y ≤ u / n1:=by
  have hy0:0 < y:=by omega
  rw [Nat.le_div_iff_mul_le (by omega)]
  have h2:=Nat.div_mul_le_self (u * 4294967296 + d) y
  generalize (u * 4294967296 + d) / y = Q at *
  rw [hy,Nat.mul_add,← Nat.mul_assoc] at h2
  generalize Q * n1 = A at *
  generalize Q * n0 = C at *
  omega
theorem second_eq {y n1 n0 u d q1:Nat} (hy:y = n1 * 4294967296 + n0) (h0:n0 < 4294967296) (h1:2147483648 ≤ n1) (h2:n1 < 4294967296) (hu:u < y) (hd:d < 4294967296) (hq1:q1 < 4294967296) :
    Bits.Div64.l0 0 y n1 n0 d q1 u ((u % n1:Nat):Int) ((u / n1:Nat):Int) = some (((q1 * 4294967296 + (u * 4294967296 + d) / y:Nat):Int),(((u * 4294967296 + d) % y:Nat):Int)):=by
  have hy0:0 < y:=by omega
  have:=dig (B:=4294967296) (σ:=Int × Int) (en:=fun q r=>((r:Int),(q:Int))) (s:=fun v:Int × Int=>Bits.Div64.s0 0 y n1 n0 d q1 u v.1 v.2) (J:=fun q=>Bits.Div64.j3 0 y d q1 u (q:Int)) (by decide) hy0 hy h0 hu hd rfl
    (fun q r a b _ c e=>second_go h0 hd q r a b h2 c e) (fun q r _ b _ e=>second_end h0 hd q r b e)
    (u / n1 - (u * 4294967296 + d) / y) (u / n1) (u % n1) (by have:=est_ge (u:=u) hy h1 hd; omega) (est_le hy h0 h1 hu) (Nat.lt_trans (Nat.mod_lt _ (by omega)) h2) (by rw [Nat.mul_comm]; exact Nat.div_add_mod _ _)
  rw [Bits.Div64.l0,this]
  have e:=(Nat.div_add_mod (u * 4294967296 + d) y)
  have hr:(u * 4294967296 + d) % y < y:=Nat.mod_lt _ hy0
  have hQ:(u * 4294967296 + d) / y < 4294967296:=by
    rw [Nat.div_lt_iff_lt_mul hy0,Nat.mul_comm 4294967296]
    omega
  generalize (u * 4294967296 + d) / y = Q at *
  generalize (u * 4294967296 + d) % y = R at *
  unfold Bits.Div64.j3
  simp only [letk]
  rw [left_rest (u:=u) (d:=d) (q:=Q) (y:=y) (r:=R) (by rw [Nat.mul_comm Q y]; omega) (by omega)]
  rw [wmulL q1 (by omega),wadd (q1 * 4294967296) Q (by omega),chk_pos (by decide)]
  rw [u_shr' (a:=R) (k:=0) (y:=0) rfl rfl (by omega),Nat.pow_zero,Nat.div_one]
theorem first_eq {y n1 n0 u d1 d0 Q R:Nat} (hy:y = n1 * 4294967296 + n0) (h0:n0 < 4294967296) (h1:2147483648 ≤ n1) (h2:n1 < 4294967296) (hu:u < y) (hd1:d1 < 4294967296) (hd0:d0 < 4294967296) (e:u * 4294967296 + d1 = y * Q + R) (hr:R < y) :
    Bits.Div64.l1 0 y n1 n0 u d1 d0 ((u / n1:Nat):Int) ((u % n1:Nat):Int) =
      some (((Q * 4294967296 + (R * 4294967296 + d0) / y:Nat):Int),(((R * 4294967296 + d0) % y:Nat):Int)):=by
  have hy0:0 < y:=by omega
  have eQ:(u * 4294967296 + d1) / y = Q:=by
    rw [e,Nat.mul_add_div hy0,Nat.div_eq_of_lt hr,Nat.add_zero]
  have:=dig (B:=4294967296) (σ:=Int × Int) (en:=fun q r=>((q:Int),(r:Int))) (s:=fun v:Int × Int=>Bits.Div64.s1 0 y n1 n0 u d1 d0 v.1 v.2) (J:=fun q=>Bits.Div64.j2 0 y n1 n0 u d1 d0 (q:Int)) (by decide) hy0 hy h0 hu hd1 eQ
    (fun q r a b _ c e=>first_go h0 hd1 q r a b h2 c e) (fun q r _ b _ e=>first_end h0 hd1 q r b e)
    (u / n1 - Q) (u / n1) (u % n1) (by have:=est_ge (u:=u) hy h1 hd1; rw [eQ] at this; omega) (est_le hy h0 h1 hu) (Nat.lt_trans (Nat.mod_lt _ (by omega)) h2) (by rw [Nat.mul_comm]; exact Nat.div_add_mod _ _)
  rw [Bits.Div64.l1,this]
  have hQ:Q < 4294967296:=by
    rw [← eQ,Nat.div_lt_iff_lt_mul hy0,Nat.mul_comm 4294967296]
    omega
  unfold Bits.Div64.j2
  simp only [letk]
  rw [left_rest (u:=u) (d:=d1) (q:=Q) (y:=y) (r:=R) (by rw [Nat.mul_comm Q y]; omega) (by omega)]
  rw [chk_pos (by omega),tdiv_nat,wnat (n:=R / n1) (Nat.lt_of_le_of_lt (Nat.div_le_self R n1) (by omega))]
  have e2:=Nat.div_add_mod R n1
  rw [Nat.mul_comm] at e2
  rw [wmul (R / n1) n1 (by omega),wsub R (R / n1 * n1) (by omega) (by omega),show R - R / n1 * n1 = R % n1 by omega]
  exact second_eq hy h0 h1 h2 (by omega) hd0 hQ
theorem two_digits {T lo A R:Nat} (h:T + lo / 4294967296 = A + R):T * 4294967296 + lo = A * 4294967296 + (R * 4294967296 + lo % 4294967296):=by omega
theorem Div64_eq {hi lo y:Nat} (h1:9223372036854775808 ≤ y) (h2:y < 18446744073709551616) (h3:hi < y) (h4:lo < 18446744073709551616) :
    Bits.Div64 hi lo y = some ((((hi * 18446744073709551616 + lo) / y:Nat):Int),(((hi * 18446744073709551616 + lo) % y:Nat):Int)):=by
  have hy0:0 < y:=by omega
  have hbl:bl y = 64:=bl_uniq (k:=63) h1 h2
  unfold Bits.Div64 Bits.Div64.j0 Bits.Div64.j1
  simp only [letk]
  rw [show ((y:Int) == 0) = false from by rw [beq_eq_false_iff_ne]; omega,decide_eq_false (show ¬ (y:Int) ≤ (hi:Int) by omega)]
  simp only [cond]
  by_cases h0:hi = 0
  · subst h0
    rw [show (((0:Nat):Int) == 0) = true from rfl]
    simp only
    rw [chk_pos (by omega),chk_pos (by omega),tdiv_nat,tmod_nat,Nat.zero_mul,Nat.zero_add,wnat (n:=lo / y) (Nat.lt_of_le_of_lt (Nat.div_le_self lo y) h4)]
  · rw [show ((hi:Int) == 0) = false from by rw [beq_eq_false_iff_ne]; omega]
    simp only
    unfold Bits.LeadingZeros64
    rw [chk_pos (by omega),Int.toNat_natCast,bitLen_bl h2,hbl,Option.bind_some]
    simp only [show IntKind.u64.wrap ((64:Int) - ((64:Nat):Int)) = 0 from rfl,show IntKind.u64.wrap ((64:Int) - 0) = 64 from rfl]
    rw [chk_pos (by decide),chk_pos (by decide),chk_pos (by decide),chk_pos (by decide),chk_pos (by decide),chk_pos (by decide)]
    rw [u_shl' (a:=y) (k:=0) (y:=0) rfl rfl,u_shl' (a:=hi) (k:=0) (y:=0) rfl rfl,u_shl' (a:=lo) (k:=0) (y:=0) rfl rfl,Nat.pow_zero,Nat.mul_one,Nat.mul_one,Nat.mul_one,Nat.mod_eq_of_lt h2,Nat.mod_eq_of_lt (by omega),Nat.mod_eq_of_lt h4]
    have p32:(2:Nat) ^ 32 = 4294967296:=by decide
    rw [u_shr' (a:=y) (k:=32) (y:=32) rfl rfl h2,u_shr' (a:=lo) (k:=32) (y:=32) rfl rfl h4,u_shr' (a:=lo) (k:=64) (y:=64) rfl rfl h4,p32,pow64,Nat.div_eq_of_lt h4]
    rw [u_and' (a:=y) (b:=4294967295) (y:=4294967295) rfl rfl h2 (by decide),u_and' (a:=lo) (b:=4294967295) (y:=4294967295) rfl rfl h4 (by decide),u_or' (a:=hi) (b:=0) rfl rfl (by omega) (by decide)]
    rw [show (4294967295:Nat) = 2 ^ 32 - 1 from by decide,Nat.and_two_pow_sub_one_eq_mod,Nat.and_two_pow_sub_one_eq_mod,p32,Nat.or_zero]
    rw [chk_pos (by omega),tdiv_nat,wnat (n:=hi / (y / 4294967296)) (Nat.lt_of_le_of_lt (Nat.div_le_self hi _) (by omega))]
    have e2:=Nat.div_add_mod hi (y / 4294967296)
    rw [Nat.mul_comm] at e2
    obtain ⟨Q,R,eQR,hR⟩:∃ Q R,hi * 4294967296 + lo / 4294967296 = y * Q + R ∧ R < y:=⟨_,_,(Nat.div_add_mod _ _).symm,Nat.mod_lt _ hy0⟩
    have a:=first_eq (y:=y) (n1:=y / 4294967296) (n0:=y % 4294967296) (u:=hi) (d1:=lo / 4294967296) (d0:=lo % 4294967296) (by omega) (by omega) (by omega) (by omega) h3 (by omega) (by omega) eQR hR
    generalize y / 4294967296 = n1 at *
    rw [wmul (hi / n1) n1 (by omega),wsub hi (hi / n1 * n1) (by omega) (by omega),show hi - hi / n1 * n1 = hi % n1 by omega,a]
    have eN:hi * 18446744073709551616 + lo = y * (Q * 4294967296) + (R * 4294967296 + lo % 4294967296):=by
      rw [← Nat.mul_assoc,show hi * 18446744073709551616 = hi * 4294967296 * 4294967296 from (Nat.mul_assoc hi 4294967296 4294967296).symm]
      exact two_digits eQR
    rw [eN,Nat.mul_add_div hy0,Nat.mul_add_mod]
end Go.Q
namespace Go.Q
open Go
set_option maxRecDepth 100000
set_option maxHeartbeats 4000000
noncomputable def divS (p w:Nat) (mode:Int) (x y:float.number):Int × Int :=
  if x.class_ = 3 ∨ y.class_ = 3 then (quietS p w,0)
  else if x.class_ = y.class_ ∧ x.class_ ≠ 1 then (quietS p w,1)
  else if x.class_ = 2 then (infS p w (sgnX x.sign y.sign),0)
  else if x.class_ = 0 ∨ y.class_ = 2 then (zeroS p w (sgnX x.sign y.sign),0)
  else if y.class_ = 0 then (infS p w (sgnX x.sign y.sign),2)
  else quoS p w mode (sgnX x.sign y.sign) (x.m.toNat * 2 ^ (2 * p + 4)) y.m.toNat (x.e - y.e - ((2 * p + 4:Nat):Int))
theorem high_eq {m:Nat} {c s e:Int} (h0:0 < m) (h1:m < 18446744073709551616) (he:-100000 < e ∧ e < 100000) :
    Flt.number.high ⟨c,s,m,e⟩ = some ⟨c,s,((m * 2 ^ (64 - bl m):Nat):Int),e - ((64 - bl m:Nat):Int)⟩ ∧ 9223372036854775808 ≤ m * 2 ^ (64 - bl m) ∧ m * 2 ^ (64 - bl m) < 18446744073709551616 ∧ 64 - bl m ≤ 63:=by
  have b1:=bl_lt m
  have b2:=bl_le h0
  have b3:=bl_pos h0
  have b4:bl m ≤ 64:=bl_le_iff.2 h1
  have c1:m * 2 ^ (64 - bl m) < 18446744073709551616:=by
    have:=Nat.mul_lt_mul_of_pos_right b1 (Nat.two_pow_pos (64 - bl m))
    rw [← Nat.pow_add,show bl m + (64 - bl m) = 64 by omega,pow64] at this
    exact this
  have c2:9223372036854775808 ≤ m * 2 ^ (64 - bl m):=by
    have:=Nat.mul_le_mul_right (2 ^ (64 - bl m)) b2
    rw [← Nat.pow_add,show bl m - 1 + (64 - bl m) = 63 by omega] at this
    exact this
  refine ⟨?_,c2,c1,by omega⟩
  unfold Flt.number.high Bits.LeadingZeros64
  simp only
  rw [chk_pos (by omega),Option.bind_some,Int.toNat_natCast,bitLen_bl h1]
  simp only [letk]
  rw [show ((64:Int) - (bl m:Int)) = ((64 - bl m:Nat):Int) by omega,chk_pos (by omega),u_shl' (a:=m) (k:=64 - bl m) rfl rfl,Nat.mod_eq_of_lt c1,wi (by omega) (by omega)]
theorem quo_low {p w:Nat} {mode sg E:Int} {m n a b:Nat} (_hn:0 < n) (hab:b ≤ a):quoS p w mode sg (m * 2 ^ a) (n * 2 ^ b) E = quoS p w mode sg (m * 2 ^ (a - b)) n E:=by
  unfold quoS
  have e:m * 2 ^ a = m * 2 ^ (a - b) * 2 ^ b:=by rw [Nat.mul_assoc,← Nat.pow_add,show a - b + b = a by omega]
  rw [e,Nat.mul_div_mul_right _ _ (Nat.two_pow_pos b),Nat.mul_mod_mul_right]
  congr 1
  rw [decide_eq_decide]
  have:=Nat.two_pow_pos b
  constructor
  · intro h h2; rw [h2,Nat.zero_mul] at h; exact h rfl
  · intro h h2
    rcases Nat.mul_eq_zero.1 h2 with h3 | h3
    · exact h h3
    · omega
theorem top_bit (X:Nat):X * 9223372036854775808 % 18446744073709551616 = X % 2 * 9223372036854775808:=by
  rw [show (18446744073709551616:Nat) = 2 * 9223372036854775808 from rfl,Nat.mul_mod_mul_right]
theorem two_words (X:Nat):X / 2 * 18446744073709551616 + X % 2 * 9223372036854775808 = X * 9223372036854775808:=by
  rw [show (18446744073709551616:Nat) = 2 * 9223372036854775808 from rfl,← Nat.mul_assoc,← Nat.add_mul,Nat.mul_comm (X / 2),Nat.div_add_mod]
theorem div_fin {p w:Nat} (h:OkS p w) {mode sg E:Int} (hs:sg = 0 ∨ sg = 1) {X Y:Nat} (a2:9223372036854775808 ≤ X) (a3:X < 18446744073709551616) (b2:9223372036854775808 ≤ Y) (b3:Y < 18446744073709551616) (he:-100000 < E ∧ E < 100000) {Z:Nat} (hZ:X * 9223372036854775808 = Z) :
    (Option.bind (Bits.Div64 ((X / 2:Nat):Int) ((X % 2 * 9223372036854775808:Nat):Int) (Y:Int)) fun (a,b)=>letk (b != (0:Int)) fun c=>Option.bind (Flt.shape.round (shp p w) mode sg ⟨0,a,E,c⟩) fun (u,v)=>some (u,v,(0:Int))) =
      some ((quoS p w mode sg Z Y E).1,(quoS p w mode sg Z Y E).2,0):=by
  obtain ⟨h1,h2,h3,h4,h5,h6⟩:=h.facts
  have hY0:0 < Y:=by omega
  have e3:2 ^ p ≤ 2 ^ 53:=Nat.pow_le_pow_right (by decide) h4
  have e3':(2:Nat) ^ 53 = 9007199254740992:=by decide
  have hZ1:Z < 18446744073709551616 * Y:=by
    rw [← hZ]
    have i1:X * 9223372036854775808 < 18446744073709551616 * 9223372036854775808:=Nat.mul_lt_mul_of_pos_right a3 (by decide)
    have i2:18446744073709551616 * 9223372036854775808 ≤ 18446744073709551616 * Y:=Nat.mul_le_mul_left _ b2
    exact Nat.lt_of_lt_of_le i1 i2
  have hZ2:2 ^ p * Y ≤ Z:=by
    rw [← hZ]
    have i1:2 ^ p * Y ≤ 9007199254740992 * 18446744073709551616:=Nat.mul_le_mul (by omega) (by omega)
    have i2:9223372036854775808 * 9223372036854775808 ≤ X * 9223372036854775808:=Nat.mul_le_mul_right _ a2
    have i3:9007199254740992 * 18446744073709551616 ≤ 9223372036854775808 * 9223372036854775808:=by decide
    exact Nat.le_trans i1 (Nat.le_trans i3 i2)
  rw [Div64_eq b2 b3 (by omega) (by omega),two_words,hZ,Option.bind_some]
  have hQ:Z / Y < 18446744073709551616:=by rw [Nat.div_lt_iff_lt_mul hY0]; exact hZ1
  have hQ1:2 ^ p ≤ Z / Y:=by rw [Nat.le_div_iff_mul_le hY0]; exact hZ2
  unfold quoS
  clear hZ1 hZ2 hZ a2 a3
  generalize Z / Y = Q at *
  generalize Z % Y = R at *
  have eR:((R:Int) != 0) = decide (R ≠ 0):=by
    by_cases hR:R = 0
    · subst hR; rfl
    · rw [decide_eq_true hR,bne_iff_ne]; omega
  simp only [letk]
  rw [eR]
  have h0p:=Nat.two_pow_pos p
  have er:=round_eq h (mode:=mode) (e:=E) (more:=decide (R ≠ 0)) (hi:=0) (lo:=Q) hs (by decide) hQ (by omega) (by omega) (by omega) (fun _=>by
    rw [Nat.zero_mul,Nat.zero_add]; exact last_gt hQ1)
  rw [Nat.zero_mul,Nat.zero_add] at er
  rw [show Flt.shape.round (shp p w) mode sg ⟨0,(Q:Int),E,decide (R ≠ 0)⟩ = _ from er]
  generalize rndS p w mode sg Q E (decide (R ≠ 0)) = r
  rfl
theorem div_j0 {p w:Nat} (h:OkS p w) {mode sg:Int} (hs:sg = 0 ∨ sg = 1) {x y:float.number} (hx:NumOk p w x) (hy:NumOk p w y) (cx:x.class_ = 1) (cy:y.class_ = 1) :
    Flt.Div.j0 mode sg (shp p w).p (shp p w).w x.class_ x.sign x.m x.e y.class_ y.sign y.m y.e =
      some ((quoS p w mode sg (x.m.toNat * 2 ^ (2 * p + 4)) y.m.toNat (x.e - y.e - ((2 * p + 4:Nat):Int))).1,(quoS p w mode sg (x.m.toNat * 2 ^ (2 * p + 4)) y.m.toNat (x.e - y.e - ((2 * p + 4:Nat):Int))).2,0):=by
  obtain ⟨h1,h2,h3,h4,h5,h6⟩:=h.facts
  have hb:0 ≤ biasS w ∧ biasS w < 2000:=by rcases h with ⟨rfl,rfl⟩ | ⟨rfl,rfl⟩ | ⟨rfl,rfl⟩ <;> decide
  have hlst:lstS p w = 2 - biasS w - p:=rfl
  obtain ⟨m,em,m0,m1,ex0,ex1,mn⟩:=hx.mag cx
  obtain ⟨n,en,n0,n1,ey0,ey1,nn⟩:=hy.mag cy
  have hp63:2 ^ p < 18446744073709551616:=pw_lt (Nat.le_refl _) (by omega)
  obtain ⟨a1,a2,a3,a4⟩:=high_eq (m:=m) (c:=x.class_) (s:=x.sign) (e:=x.e) m0 (by omega) (by omega)
  obtain ⟨b1,b2,b3,b4⟩:=high_eq (m:=n) (c:=y.class_) (s:=y.sign) (e:=y.e) n0 (by omega) (by omega)
  unfold Flt.Div.j0
  rw [em,en,a1,b1,Option.bind_some,Option.bind_some]
  simp only [Int.toNat_natCast]
  have q1:2 ^ p ≤ m * 2 ^ (2 * p + 4) / n:=by
    rw [Nat.le_div_iff_mul_le n0]
    have:2 ^ p * n ≤ 2 ^ p * 2 ^ p:=Nat.mul_le_mul_left _ (by omega)
    rw [← Nat.pow_add] at this
    have h7:2 ^ (p + p) ≤ 1 * 2 ^ (2 * p + 4):=by rw [Nat.one_mul]; exact Nat.pow_le_pow_right (by decide) (by omega)
    have h8:1 * 2 ^ (2 * p + 4) ≤ m * 2 ^ (2 * p + 4):=Nat.mul_le_mul_right _ m0
    omega
  generalize hk1:64 - bl m = k1 at *
  generalize hk2:64 - bl n = k2 at *
  have hX:m * 2 ^ k1 * 9223372036854775808 = m * 2 ^ (k1 + 63):=by
    rw [Nat.pow_add,← Nat.mul_assoc]
  have q2:2 ^ p ≤ m * 2 ^ (k1 + 63 - k2) / n:=by
    have e:m * 2 ^ (k1 + 63) = m * 2 ^ (k1 + 63 - k2) * 2 ^ k2:=by rw [Nat.mul_assoc,← Nat.pow_add,show k1 + 63 - k2 + k2 = k1 + 63 by omega]
    have e2:m * 2 ^ (k1 + 63) / (n * 2 ^ k2) = m * 2 ^ (k1 + 63 - k2) / n:=by rw [e,Nat.mul_div_mul_right _ _ (Nat.two_pow_pos k2)]
    rw [← e2,Nat.le_div_iff_mul_le (by omega)]
    have e3:2 ^ p ≤ 2 ^ 53:=Nat.pow_le_pow_right (by decide) h4
    have e4:2 ^ p * (n * 2 ^ k2) ≤ 2 ^ 53 * 2 ^ 64:=Nat.mul_le_mul e3 (by rw [pow64]; omega)
    have e5:2 ^ 63 * 2 ^ 63 ≤ m * 2 ^ (k1 + 63):=by
      rw [Nat.pow_add,← Nat.mul_assoc]
      exact Nat.mul_le_mul_right _ a2
    have e6:(2:Nat) ^ 53 * 2 ^ 64 ≤ 2 ^ 63 * 2 ^ 63:=by decide
    exact Nat.le_trans e4 (Nat.le_trans e6 e5)
  have key:=quo_any (p:=p) (w:=w) (mode:=mode) (sg:=sg) (E:=x.e - y.e) n0 q2 q1
  have e7:(x.e - y.e - ((k1 + 63 - k2:Nat):Int)) = x.e - (k1:Int) - (y.e - (k2:Int)) - 63:=by omega
  rw [← key,← quo_low n0 (by omega),e7]
  have fin:=div_fin h (mode:=mode) (sg:=sg) (E:=x.e - (k1:Int) - (y.e - (k2:Int)) - 63) hs a2 a3 b2 b3 (by omega) hX
  simp only [letk]
  rw [wi (x:=x.e - (k1:Int) - (y.e - (k2:Int))) (by omega) (by omega),wi (x:=x.e - (k1:Int) - (y.e - (k2:Int)) - 63) (by omega) (by omega)]
  rw [chk_pos (by decide),chk_pos (by decide),u_shr' (a:=m * 2 ^ k1) (k:=1) (y:=1) rfl rfl a3,u_shl' (a:=m * 2 ^ k1) (k:=63) (y:=63) rfl rfl,show (2:Nat) ^ 1 = 2 from rfl,show (2:Nat) ^ 63 = 9223372036854775808 from rfl,top_bit]
  exact fin
theorem Div_eq {kind mode:Int} {p w:Nat} (h:kindS kind p w) (hm:0 ≤ mode ∧ mode < 4) {a b:Int} (ha:bitsOk p w a) (hb:bitsOk p w b) :
    Flt.Div kind mode a b = some ((divS p w mode (numS p w a) (numS p w b)).1,(divS p w mode (numS p w a) (numS p w b)).2,0):=by
  unfold Flt.Div
  rw [two_eq h hm ha hb,Option.bind_some]
  have hx:=numS_ok h.ok a
  have hy:=numS_ok h.ok b
  generalize numS p w a = x at *
  generalize numS p w b = y at *
  have hk:=h.ok
  have es:(⟨(shp p w).p,(shp p w).w⟩:float.shape) = shp p w:=rfl
  have hsg:=sgnX_ok x.sign y.sign
  simp only [letk,Bool.not_true,cond,xor_sgn hx.sgn hy.sgn]
  have j0:=div_j0 hk (mode:=mode) hsg hx hy
  unfold divS quietS infS zeroS
  rcases hx.cls with cx | cx | cx | cx <;> rcases hy.cls with cy | cy | cy | cy <;>
  · unfold Flt.Div.j1 Flt.Div.j2 Flt.Div.j3
    simp only [es,cx,cy,quiet_eq hk,infinite_eq hk hsg,zero_eq hk hsg,Option.bind_some,letk]
    first
      | rfl
      | (rw [cx,cy] at j0; exact j0 rfl rfl)
end Go.Q
namespace Go.Q
open Go
set_option maxRecDepth 100000
set_option maxHeartbeats 4000000
def wholeS (m:Nat) (e:Int):Nat:=if 0 ≤ e then m * 2 ^ e.toNat else m / 2 ^ (-e).toNat
def wrestS (m:Nat) (e:Int):Nat:=if 0 ≤ e then 0 else restC m (-e).toNat false
def wupS (mode sign:Int) (m:Nat) (e:Int):Nat:=if awayS mode sign (decide (wholeS m e % 2 = 1)) (wrestS m e) = true then wholeS m e + 1 else wholeS m e
def toS (mode:Int) (x:float.number):Int × Int × Int :=
  if x.class_ = 3 ∨ x.class_ = 2 then (0,0,10)
  else if x.class_ = 0 then (0,0,0)
  else if 9223372036854775808 < wupS mode x.sign x.m.toNat x.e ∨ (wupS mode x.sign x.m.toNat x.e = 9223372036854775808 ∧ x.sign = 0) then (0,0,10)
  else (if x.sign = 1 then -(wupS mode x.sign x.m.toNat x.e:Int) else wupS mode x.sign x.m.toNat x.e,if 0 < wrestS x.m.toNat x.e then 16 else 0,0)
theorem awayS_zero (mode sign:Int) (odd:Bool):awayS mode sign odd 0 = false:=by
  unfold awayS
  split
  · rfl
  · split
    · rfl
    · split
      · rfl
      · rfl
theorem wi_neg {x:Int} (h:9223372036854775808 ≤ x) (h2:x < 18446744073709551616):IntKind.i64.wrap x = x - 18446744073709551616:=by
  have e:x % 18446744073709551616 = x:=by omega
  unfold IntKind.wrap
  simp only [show (2:Int) ^ IntKind.i64.bits = 18446744073709551616 from rfl,show (2:Int) ^ (IntKind.i64.bits - 1) = 9223372036854775808 from rfl,e,show IntKind.i64.signed = true from rfl,Bool.true_and,decide_eq_true_eq]
  rw [if_pos h]
theorem toInt_j2 {sign c x2 x3:Int} {m rest:Nat} (hs:sign = 0 ∨ sign = 1) (hm:m < 18446744073709551616) :
    Flt.ToInt.j2 0 rest c sign x2 x3 m = some (if 9223372036854775808 < m ∨ (m = 9223372036854775808 ∧ sign = 0) then (0,0,10) else (if sign = 1 then -(m:Int) else m,if 0 < rest then 16 else 0,0)):=by
  have j4:∀ f:Int,(m ≤ 9223372036854775808 ∧ (m = 9223372036854775808 → sign = 1)) → Flt.ToInt.j4 c sign x2 x3 m f = some (if sign = 1 then -(m:Int) else m,f,0):=by
    intro f hf
    unfold Flt.ToInt.j4
    simp only [letk]
    rcases hs with rfl | rfl
    · rw [show ((0:Int) == 1) = false from rfl,if_neg (by decide)]
      simp only [cond]
      rw [wi (by omega) (by omega)]
    · rw [show ((1:Int) == 1) = true from rfl,if_pos rfl]
      simp only [cond]
      have:IntKind.i64.wrap (IntKind.u64.wrap (0 - (m:Int))) = -(m:Int):=by
        rcases Nat.eq_zero_or_pos m with h0 | h0
        · subst h0; rfl
        · have e1:IntKind.u64.wrap (0 - (m:Int)) = 18446744073709551616 - (m:Int):=by
            show (0 - (m:Int)) % 18446744073709551616 = _
            omega
          rw [e1,wi_neg (by omega) (by omega)]
          omega
      rw [this]
  have j3:(m ≤ 9223372036854775808 ∧ (m = 9223372036854775808 → sign = 1)) → Flt.ToInt.j3 rest c sign x2 x3 m 0 = some (if sign = 1 then -(m:Int) else m,if 0 < rest then 16 else 0,0):=by
    intro hf
    unfold Flt.ToInt.j3
    simp only [letk]
    by_cases hr:0 < rest
    · rw [decide_eq_true (show (rest:Int) > 0 by omega),if_pos hr]
      exact j4 16 hf
    · rw [decide_eq_false (show ¬ (rest:Int) > 0 by omega),if_neg hr]
      exact j4 0 hf
  unfold Flt.ToInt.j2
  simp only [letk]
  by_cases h1:9223372036854775808 < m
  · rw [decide_eq_true (show (m:Int) > 9223372036854775808 by omega),if_pos (.inl h1)]; rfl
  · rw [decide_eq_false (show ¬ (m:Int) > 9223372036854775808 by omega)]
    simp only [cond]
    by_cases h2:m = 9223372036854775808
    · rw [show ((m:Int) == 9223372036854775808) = true from by rw [beq_iff_eq]; omega]
      simp only
      rcases hs with rfl | rfl
      · rw [if_pos (.inr ⟨h2,rfl⟩)]; rfl
      · rw [if_neg (show ¬ (9223372036854775808 < m ∨ (m = 9223372036854775808 ∧ (1:Int) = 0)) from by rintro (h | ⟨_,h⟩); exact h1 h; cases h)]
        exact j3 ⟨by omega,fun _=>rfl⟩
    · rw [show ((m:Int) == 9223372036854775808) = false from by rw [beq_eq_false_iff_ne]; omega]
      simp only
      rw [if_neg (show ¬ (9223372036854775808 < m ∨ (m = 9223372036854775808 ∧ sign = 0)) from by rintro (h | ⟨h,_⟩); exact h1 h; exact h2 h)]
      exact j3 ⟨by omega,fun h=>absurd h h2⟩
theorem toInt_j1 {mode sign c x2 x3:Int} {m rest:Nat} (hs:sign = 0 ∨ sign = 1) (hm:m + 1 < 18446744073709551616) {W:Nat} (hW:W = if awayS mode sign (decide (m % 2 = 1)) rest = true then m + 1 else m) :
    Flt.ToInt.j1 mode 0 c sign x2 x3 m rest = some (if 9223372036854775808 < W ∨ (W = 9223372036854775808 ∧ sign = 0) then (0,0,10) else (if sign = 1 then -(W:Int) else W,if 0 < rest then 16 else 0,0)):=by
  unfold Flt.ToInt.j1
  simp only [letk]
  rw [u_and' (b:=1) (y:=1) rfl rfl (by omega) (by decide),Nat.and_one_is_mod,show (((m % 2:Nat):Int) == 1) = decide (m % 2 = 1) from beq_nat _ 1,away_eq,Option.bind_some]
  by_cases ha:awayS mode sign (decide (m % 2 = 1)) rest = true
  · rw [if_pos ha] at hW
    rw [ha]
    simp only [cond]
    rw [wu (x:=(m:Int) + 1) (by omega) (by omega),show (m:Int) + 1 = ((W:Nat):Int) by rw [hW]; rfl]
    exact toInt_j2 hs (by omega)
  · rw [if_neg ha] at hW
    simp only [Bool.not_eq_true] at ha
    rw [ha,hW]
    exact toInt_j2 hs (by omega)
theorem ToInt_eq {kind mode:Int} {p w:Nat} (h:kindS kind p w) (hm:0 ≤ mode ∧ mode < 4) {a:Int} (ha:bitsOk p w a) :
    Flt.ToInt kind mode a = some (toS mode (numS p w a)):=by
  obtain ⟨h1,h2,h3,h4,h5,h6⟩:=h.ok.facts
  have hb:0 ≤ biasS w ∧ biasS w < 2000:=by rcases h.ok with ⟨rfl,rfl⟩ | ⟨rfl,rfl⟩ | ⟨rfl,rfl⟩ <;> decide
  have hlst:lstS p w = 2 - biasS w - p:=rfl
  unfold Flt.ToInt
  rw [two_eq h hm ha ha,Option.bind_some]
  have hx:=numS_ok h.ok a
  have hz:(numS p w a).class_ = 0 → (numS p w a).e = 0:=by
    unfold numS readS
    repeat' split
    all_goals (intro hc; first | rfl | cases hc)
  generalize numS p w a = x at *
  simp only [letk,Bool.not_true,cond]
  unfold Flt.ToInt.j5 toS
  rcases hx.cls with cx | cx | cx | cx
  · rw [hz cx,cx]; rfl
  · obtain ⟨m,em,m0,m1,ex0,ex1,mn⟩:=hx.mag cx
    have hp63:2 ^ p < 18446744073709551615:=by
      have:2 ^ p ≤ 2 ^ 53:=Nat.pow_le_pow_right (by decide) h4
      have:(2:Nat) ^ 53 < 18446744073709551615:=by decide
      omega
    rw [em,Int.toNat_natCast,cx]
    simp only [show ((1:Int) == 3) = false from rfl,show ((1:Int) == 2) = false from rfl,show ((1:Int) == 0) = false from rfl,show ¬ ((1:Int) = 3 ∨ (1:Int) = 2) by decide,if_false,show ¬ ((1:Int) = 0) by decide]
    have big:∀ W:Nat,18446744073709551616 ≤ W → wholeS m x.e = W → 0 ≤ x.e → (if 9223372036854775808 < wupS mode x.sign m x.e ∨ (wupS mode x.sign m x.e = 9223372036854775808 ∧ x.sign = 0) then ((0,0,10):Int × Int × Int) else (if x.sign = 1 then -(wupS mode x.sign m x.e:Int) else wupS mode x.sign m x.e,if 0 < wrestS m x.e then 16 else 0,0)) = (0,0,10):=by
      intro W hW hw he
      have hr:wrestS m x.e = 0:=by unfold wrestS; rw [if_pos he]
      have:wupS mode x.sign m x.e = W:=by
        unfold wupS; rw [hr,awayS_zero,if_neg (by decide),hw]
      rw [this,if_pos (.inl (by omega))]
    by_cases he64:64 ≤ x.e
    · rw [decide_eq_true (show x.e ≥ 64 from he64)]
      rw [big (m * 2 ^ x.e.toNat) (by
        have:1 * 2 ^ 64 ≤ m * 2 ^ x.e.toNat:=Nat.mul_le_mul m0 (Nat.pow_le_pow_right (by decide) (by omega))
        rw [Nat.one_mul,pow64] at this; exact this) (by unfold wholeS; rw [if_pos (by omega)]) (by omega)]
      rfl
    · rw [decide_eq_false (show ¬ x.e ≥ 64 from he64)]
      unfold Flt.ToInt.j0
      simp only [letk]
      by_cases he:0 ≤ x.e
      · rw [decide_eq_true (show x.e ≥ 0 from he)]
        simp only [cond]
        obtain ⟨k,hk⟩:=Int.eq_ofNat_of_zero_le he
        have hw:wholeS m x.e = m * 2 ^ k:=by unfold wholeS; rw [if_pos he,hk,Int.toNat_natCast]
        have hr:wrestS m x.e = 0:=by unfold wrestS; rw [if_pos he]
        rw [chk_pos he,chk_pos he,em,u_shl' (a:=m) (k:=k) rfl hk,u_shr' (a:=m * 2 ^ k % 18446744073709551616) (k:=k) rfl hk (Nat.mod_lt _ (by decide))]
        by_cases hbig:m * 2 ^ k < 18446744073709551616
        · rw [Nat.mod_eq_of_lt hbig,Nat.mul_div_cancel _ (Nat.two_pow_pos k),show ((m:Int) != (m:Int)) = false from bne_self_eq_false _]
          simp only
          by_cases hk0:k = 0
          · rw [hk0,Nat.pow_zero,Nat.mul_one] at hw ⊢
            have hu:wupS mode x.sign m x.e = if awayS mode x.sign (decide (m % 2 = 1)) 0 = true then m + 1 else m:=by unfold wupS; rw [hw,hr]
            have:=toInt_j1 (mode:=mode) (c:=x.class_) (x2:=(m:Int)) (x3:=x.e) (rest:=0) hx.sgn (show m + 1 < 18446744073709551616 by omega) hu
            rw [cx] at this; rw [hr]; exact this
          · have hev:m * 2 ^ k % 2 = 0:=by
              rw [show k = (k - 1) + 1 by omega,Nat.pow_succ,← Nat.mul_assoc]; exact Nat.mul_mod_left _ _
            have hu:wupS mode x.sign m x.e = if awayS mode x.sign (decide (m * 2 ^ k % 2 = 1)) 0 = true then m * 2 ^ k + 1 else m * 2 ^ k:=by unfold wupS; rw [hw,hr]
            have:=toInt_j1 (mode:=mode) (c:=x.class_) (x2:=(m:Int)) (x3:=x.e) (rest:=0) hx.sgn (show m * 2 ^ k + 1 < 18446744073709551616 by omega) hu
            rw [cx] at this; rw [hr]; exact this
        · have hne:m * 2 ^ k % 18446744073709551616 / 2 ^ k ≠ m:=by
            intro hq
            have:=Nat.div_mul_le_self (m * 2 ^ k % 18446744073709551616) (2 ^ k)
            rw [hq] at this
            have:=Nat.mod_lt (m * 2 ^ k) (show 0 < 18446744073709551616 by decide)
            omega
          rw [show ((((m * 2 ^ k % 18446744073709551616 / 2 ^ k:Nat):Int)) != (m:Int)) = true from by rw [bne_iff_ne]; omega]
          simp only
          rw [big (m * 2 ^ k) (by omega) hw he]
      · rw [decide_eq_false (show ¬ x.e ≥ 0 from he)]
        simp only [cond]
        rw [wi (x:=0 - x.e) (by omega) (by omega)]
        obtain ⟨k,hk⟩:=Int.eq_ofNat_of_zero_le (show 0 ≤ 0 - x.e by omega)
        have hkt:(-x.e).toNat = k:=by omega
        have er:=right_eq (hi:=0) (lo:=m) (n:=k) (e:=0) (more:=false) (by decide) (by omega) (by omega) (by omega)
        rw [Nat.zero_mul,Nat.zero_add] at er
        rw [hk,em,show Flt.exact.right ⟨0,(m:Int),0,false⟩ (k:Int) = _ from er,Option.bind_some]
        dsimp only
        have hd:=Nat.div_le_self m (2 ^ k)
        rw [Nat.mod_eq_of_lt (by omega)]
        have hr:wrestS m x.e = rest0 m k false:=by unfold wrestS rest0; rw [if_neg he,hkt,if_neg (by omega)]
        have hw:wholeS m x.e = m / 2 ^ k:=by unfold wholeS; rw [if_neg he,hkt]
        have hu:wupS mode x.sign m x.e = if awayS mode x.sign (decide (m / 2 ^ k % 2 = 1)) (rest0 m k false) = true then m / 2 ^ k + 1 else m / 2 ^ k:=by unfold wupS; rw [hw,hr]
        have:=toInt_j1 (mode:=mode) (c:=x.class_) (x2:=(m:Int)) (x3:=x.e) (rest:=rest0 m k false) hx.sgn (show m / 2 ^ k + 1 < 18446744073709551616 by omega) hu
        rw [cx] at this; rw [hr]; exact this
  · rw [cx]; rfl
  · rw [cx]; rfl
end Go.Q
