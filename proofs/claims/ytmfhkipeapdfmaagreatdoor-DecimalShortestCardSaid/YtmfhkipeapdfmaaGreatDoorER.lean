import Derived.Test.YtmfhkipeapdfmaaGreatDoorEG2
import Derived.Test.YtmfhkipeapdfmaaGreatDoorZU
import Derived.Test.YtmfhkipeapdfmaaGreatDoorAB
import Derived.Test.YtmfhkipeapdfmaaGreatDoorEG5
namespace Go.Q
open Go
set_option maxRecDepth 10000
def Nt (v:Nat):List Int:=dgB 4294967296 v
theorem h32:1 < 4294967296:=by decide
theorem Nt_len (v:Nat):(Nt v).length = lnB 4294967296 v:=dgB_len _ _
theorem w32 (n:Nat):IntKind.u32.wrap (n:Int) = ((n % 4294967296:Nat):Int):=by
  show (n:Int) % 4294967296 = _
  omega
theorem wL {n:Nat} (h:n < 18446744073709551616):IntKind.u64.wrap (n:Int) = n:=by rw [wuN,Nat.mod_eq_of_lt h]
theorem wmul (x y:Nat) (h:x * y < 18446744073709551616):IntKind.u64.wrap ((x:Int) * (y:Int)) = ((x * y:Nat):Int):=(congrArg _ (Int.natCast_mul _ _).symm).trans (wL h)
theorem wadd (x y:Nat) (h:x + y < 18446744073709551616):IntKind.u64.wrap ((x:Int) + (y:Int)) = ((x + y:Nat):Int):=(congrArg _ (Int.natCast_add _ _).symm).trans (wL h)
theorem iadd (x y:Nat) (h:x + y < 9223372036854775808):IntKind.i64.wrap ((x:Int) + (y:Int)) = ((x + y:Nat):Int):=by rw [wi (by omega) (by omega)]; rfl
theorem isub (x:Nat) (h:x + 1 < 9223372036854775808):IntKind.i64.wrap (((x + 1:Nat):Int) - 1) = (x:Int):=by rw [wi (by omega) (by omega)]; omega
theorem ntrim_run (n:Nat):∀ m,lnB 4294967296 n + m ≤ 1000000 → Ref2.nat.trim.l0 (dkB 4294967296 (lnB 4294967296 n + m) n) = some (Nt n)
  | 0,hb=>by
    rw [Ref2.nat.trim.l0_eq]
    have e:dkB 4294967296 (lnB 4294967296 n + 0) n = dgB 4294967296 n:=rfl
    rw [e]
    rcases Nat.eq_zero_or_pos n with rfl | hn
    · have hs:Ref2.nat.trim.s0 (dgB 4294967296 0) = some (.inr (dgB 4294967296 0)):=by rw [dgB_zero]; rfl
      rw [hs]; rfl
    · have hl:=lnB_gt h32 hn
      obtain ⟨h1,h2⟩:=dkB_trim_stop h32 hn
      have hs:Ref2.nat.trim.s0 (dgB 4294967296 n) = some (.inr (dgB 4294967296 n)):=by
        unfold Ref2.nat.trim.s0
        refine letV (by rw [dgB_len]) (letT (decide_eq_true (by omega)) (letV rfl (letV (y:=((lnB 4294967296 n - 1:Nat):Int)) ?_ (chkE (Int.natCast_nonneg _) (bindE h1 (letF ?_ rfl))))))
        · rw [dgB_len,wi (by omega) (by omega)]; omega
        · exact beq_false_of_ne h2
      rw [hs]; rfl
  | m + 1,hb=>by
    rw [Ref2.nat.trim.l0_eq]
    obtain ⟨h1,h2⟩:=dkB_trim_zero (B:=4294967296) (k:=lnB 4294967296 n + (m + 1)) (n:=n) h32 (by omega) (by omega)
    have hs:Ref2.nat.trim.s0 (dkB 4294967296 (lnB 4294967296 n + (m + 1)) n) = some (.inl (dkB 4294967296 (lnB 4294967296 n + m) n)):=by
      unfold Ref2.nat.trim.s0
      refine letV (by rw [dkB_len]) (letT (decide_eq_true (by omega)) (letV rfl (letV (y:=((lnB 4294967296 n + (m + 1) - 1:Nat):Int)) ?_ (chkE (Int.natCast_nonneg _) (bindE h1 (letT rfl ?_))))))
      · rw [dkB_len,wi (by omega) (by omega)]; omega
      · unfold Ref2.nat.trim.j0
        refine letV (by rw [dkB_len]) (letV (y:=((lnB 4294967296 n + (m + 1) - 1:Nat):Int)) ?_ (chkE ⟨Int.natCast_nonneg _,?_⟩ (letV ?_ rfl)))
        · rw [wi (by omega) (by omega)]; omega
        · rw [dkB_len]; omega
        · show ((dkB 4294967296 (lnB 4294967296 n + (m + 1)) n).drop 0).take (lnB 4294967296 n + (m + 1) - 1 - 0) = _
          rw [List.drop_zero,Nat.sub_zero,h2]; rfl
    rw [hs]
    exact ntrim_run n m (by omega)
theorem ntrim_eq {k n:Nat} (h:lnB 4294967296 n ≤ k) (hk:k ≤ 1000000):Ref2.nat.trim (dkB 4294967296 k n) = some (Nt n):=by
  have:=ntrim_run n (k - lnB 4294967296 n) (by omega)
  rw [show lnB 4294967296 n + (k - lnB 4294967296 n) = k by omega] at this
  exact this
theorem ntrimH_run (n:Nat):∀ m,lnB 4294967296 n + m ≤ 1000000 → Ref2.nat.trimH.l0 (dkB 4294967296 (lnB 4294967296 n + m) n) = some (Nt n)
  | 0,hb=>by
    rw [Ref2.nat.trimH.l0_eq]
    have e:dkB 4294967296 (lnB 4294967296 n + 0) n = dgB 4294967296 n:=rfl
    rw [e]
    rcases Nat.eq_zero_or_pos n with rfl | hn
    · have hs:Ref2.nat.trimH.s0 (dgB 4294967296 0) = some (.inr (dgB 4294967296 0)):=by rw [dgB_zero]; rfl
      rw [hs]; rfl
    · have hl:=lnB_gt h32 hn
      obtain ⟨h1,h2⟩:=dkB_trim_stop h32 hn
      have hs:Ref2.nat.trimH.s0 (dgB 4294967296 n) = some (.inr (dgB 4294967296 n)):=by
        unfold Ref2.nat.trimH.s0
        refine letV (by rw [dgB_len]) (letT (decide_eq_true (by omega)) (letV rfl (letV (y:=((lnB 4294967296 n - 1:Nat):Int)) ?_ (chkE ⟨Int.natCast_nonneg _,?_⟩ (letV (Nat.zero_add _) (bindE h1 (letF ?_ rfl)))))))
        · rw [dgB_len,wi (by omega) (by omega)]; omega
        · rw [dgB_len]; omega
        · exact beq_false_of_ne h2
      rw [hs]; rfl
  | m + 1,hb=>by
    rw [Ref2.nat.trimH.l0_eq]
    obtain ⟨h1,h2⟩:=dkB_trim_zero (B:=4294967296) (k:=lnB 4294967296 n + (m + 1)) (n:=n) h32 (by omega) (by omega)
    have hs:Ref2.nat.trimH.s0 (dkB 4294967296 (lnB 4294967296 n + (m + 1)) n) = some (.inl (dkB 4294967296 (lnB 4294967296 n + m) n)):=by
      unfold Ref2.nat.trimH.s0
      refine letV (by rw [dkB_len]) (letT (decide_eq_true (by omega)) (letV rfl (letV (y:=((lnB 4294967296 n + (m + 1) - 1:Nat):Int)) ?_ (chkE ⟨Int.natCast_nonneg _,?_⟩ (letV (Nat.zero_add _) (bindE h1 (letT rfl ?_)))))))
      · rw [dkB_len,wi (by omega) (by omega)]; omega
      · rw [dkB_len]; omega
      · unfold Ref2.nat.trimH.j0
        refine letV (by rw [dkB_len]) (letV (y:=((lnB 4294967296 n + (m + 1) - 1:Nat):Int)) ?_ (chkE ⟨Int.natCast_nonneg _,?_⟩ ?_))
        · rw [wi (by omega) (by omega)]; omega
        · rw [dkB_len]; omega
        · show some (Sum.inl ((dkB 4294967296 (lnB 4294967296 n + (m + 1)) n).take (lnB 4294967296 n + (m + 1) - 1))) = _
          rw [h2]; rfl
    rw [hs]
    exact ntrimH_run n m (by omega)
theorem ntrimH_eq {k n:Nat} (h:lnB 4294967296 n ≤ k) (hk:k ≤ 1000000):Ref2.nat.trimH (dkB 4294967296 k n) = some (Nt n):=by
  have:=ntrimH_run n (k - lnB 4294967296 n) (by omega)
  rw [show lnB 4294967296 n + (k - lnB 4294967296 n) = k by omega] at this
  exact this
theorem small_eq {n:Nat} (h:n < 18446744073709551616):Ref2.small (n:Int) = some (Nt n):=by
  unfold Ref2.small
  refine letV (w32 n) (chkE (by decide) (letV (y:=((n / 4294967296:Nat):Int)) (u_shr n 32 h) (letV (w32 _) (bindE (a:=Nt n) ?_ rfl))))
  rw [← dkB_two 4294967296 n]
  exact ntrim_eq (lnB_two h32 (by omega)) (by decide)
theorem times_in {a b i k n:Nat} (hi:i < lnB 4294967296 a) (hk:k < lnB 4294967296 b) (hn:n = lnB 4294967296 a + lnB 4294967296 b) (hb:n ≤ 100000) :
    Ref2.times.s1 (Nt a) (Nt b) (i:Nat) (mixB 4294967296 n (i + k) (a % 4294967296 ^ (i + 1) * b) (a % 4294967296 ^ i * b)) (cpB 4294967296 (a % 4294967296 ^ i * b) b (bdB 4294967296 a i) i k:Nat) (k:Nat) =
      some (.inl (mixB 4294967296 n (i + k + 1) (a % 4294967296 ^ (i + 1) * b) (a % 4294967296 ^ i * b),((cpB 4294967296 (a % 4294967296 ^ i * b) b (bdB 4294967296 a i) i (k + 1):Nat):Int),((k + 1:Nat):Int))):=by
  have ha1:=bdB_lt (B:=4294967296) (by decide) a i
  have hb1:=bdB_lt (B:=4294967296) (by decide) b k
  have hs1:=bdB_lt (B:=4294967296) (by decide) (a % 4294967296 ^ i * b) (i + k)
  have hc1:=cpB_lt h32 (S:=a % 4294967296 ^ i * b) (b:=b) (i:=i) (k:=k) ha1
  have hF:=prod_part (B:=4294967296) a b i
  have hcn:=prod_carry h32 (a % 4294967296 ^ i * b) b (bdB 4294967296 a i) i k
  have hdn:=prod_digit h32 (a % 4294967296 ^ i * b) b (bdB 4294967296 a i) i k
  rw [hF] at hdn
  have hset:=mixB_set (B:=4294967296) (n:=n) (p:=i + k) (F:=a % 4294967296 ^ (i + 1) * b) (S:=a % 4294967296 ^ i * b) (by omega)
  have hget:(mixB 4294967296 n (i + k) (a % 4294967296 ^ (i + 1) * b) (a % 4294967296 ^ i * b))[i + k]? = some ((bdB 4294967296 (a % 4294967296 ^ i * b) (i + k):Nat):Int):=by
    rw [mixB_get (by omega),if_neg (by omega)]
  have hlen:(mixB 4294967296 n (i + k) (a % 4294967296 ^ (i + 1) * b) (a % 4294967296 ^ i * b)).length = n:=mixB_len _ _ _ _ _
  rw [← hcn,← hset,← hdn]
  clear hcn hset hdn hF
  generalize cpB 4294967296 (a % 4294967296 ^ i * b) b (bdB 4294967296 a i) i k = c at *
  generalize bdB 4294967296 (a % 4294967296 ^ i * b) (i + k) = s at *
  generalize mixB 4294967296 n (i + k) (a % 4294967296 ^ (i + 1) * b) (a % 4294967296 ^ i * b) = out at *
  have ga:(Nt a)[i]? = some ((bdB 4294967296 a i:Nat):Int):=dgB_get hi
  have gb:(Nt b)[k]? = some ((bdB 4294967296 b k:Nat):Int):=dgB_get hk
  generalize bdB 4294967296 a i = x at *
  generalize bdB 4294967296 b k = y at *
  have hxy:x * y ≤ 18446744065119617025:=Nat.mul_le_mul (show x ≤ 4294967295 by omega) (show y ≤ 4294967295 by omega)
  unfold Ref2.times.s1
  exact letV (y:=((lnB 4294967296 b:Nat):Int)) (by rw [Nt_len]) (letT (decide_eq_true (by omega)) (chkE (Int.natCast_nonneg _) (bindE ga (letV (wL (by omega)) (chkE (Int.natCast_nonneg _) (bindE gb (letV (wL (by omega))
    (letV (wmul x y (by omega)) (letV (iadd i k (by omega)) (chkE ⟨Int.natCast_nonneg _,by omega⟩ (letV (y:=i + k) (Nat.zero_add _) (bindE hget (letV (wL (by omega)) (letV (wadd _ _ (by omega)) (letV (wadd _ _ (by omega)) (letV (iadd i k (by omega))
    (letV (w32 _) (chkE (by decide) (letV (u_shr _ 32 (by omega)) (chkE ⟨Int.natCast_nonneg _,by omega⟩ (letV (y:=i + k) (Nat.zero_add _) (bindE hget (letV rfl (letV (iadd k 1 (by omega)) rfl))))))))))))))))))))))))
theorem bd0 {B S j:Nat} (h:S < B ^ j):bdB B S j = 0:=by unfold bdB; rw [Nat.div_eq_of_lt h,Nat.zero_mod]
theorem lt_up {B S i j:Nat} (hB:1 < B) (h:S < B ^ i) (hj:i ≤ j):S < B ^ j:=Nat.lt_of_lt_of_le h (Nat.pow_le_pow_right (by omega) hj)
theorem dkB_none {B n:Nat} (hB:1 < B):List.replicate n (0:Int) = dkB B n 0:=by rw [dkB_zeros hB (by rw [lnB_zero]; omega),dgB_zero,lnB_zero]; rfl
theorem times_row {a b i n:Nat} (hi:i < lnB 4294967296 a) (hn:n = lnB 4294967296 a + lnB 4294967296 b) (hb:n ≤ 100000) :
    Ref2.times.s0 (Nt a) (Nt b) (dkB 4294967296 n (a % 4294967296 ^ i * b)) (i:Nat) = some (.inl (dkB 4294967296 n (a % 4294967296 ^ (i + 1) * b),((i + 1:Nat):Int))):=by
  have ha1:=bdB_lt (B:=4294967296) (by decide) a i
  have hlb:=lt_lnB h32 b
  have hS:=part_lt (a:=a) (i:=i) h32 hlb
  have hF':=part_lt (a:=a) (i:=i + 1) h32 hlb
  have hF:=prod_part (B:=4294967296) a b i
  have hst:mixB 4294967296 n i (a % 4294967296 ^ (i + 1) * b) (a % 4294967296 ^ i * b) = dkB 4294967296 n (a % 4294967296 ^ i * b):=by
    refine mixB_start _ _ _ _ _ fun j hj=>?_
    rw [← hF,Nat.mul_right_comm]
    exact bdB_low h32 hj
  unfold Ref2.times.s0
  refine letV (y:=((lnB 4294967296 a:Nat):Int)) (by rw [Nt_len]) (letT (decide_eq_true (by omega)) ?_)
  unfold Ref2.times.l1
  have key:=loopO_run (step:=fun v:(List Int) × Int × Int=>Ref2.times.s1 (Nt a) (Nt b) (i:Nat) v.1 v.2.1 v.2.2) (r:=some (.inl (dkB 4294967296 n (a % 4294967296 ^ (i + 1) * b),((i + 1:Nat):Int))))
    (fun k=>(mixB 4294967296 n (i + k) (a % 4294967296 ^ (i + 1) * b) (a % 4294967296 ^ i * b),((cpB 4294967296 (a % 4294967296 ^ i * b) b (bdB 4294967296 a i) i k:Nat):Int),((k:Nat):Int))) (lnB 4294967296 b) (fun k hk=>times_in hi hk hn hb) ?_
  · simp only [Nat.add_zero,hst,cpB_zero h32] at key; exact key
  refine loopO_end ?_
  show Ref2.times.s1 (Nt a) (Nt b) (i:Nat) (mixB 4294967296 n (i + lnB 4294967296 b) (a % 4294967296 ^ (i + 1) * b) (a % 4294967296 ^ i * b)) (cpB 4294967296 (a % 4294967296 ^ i * b) b (bdB 4294967296 a i) i (lnB 4294967296 b):Nat) (lnB 4294967296 b:Nat) = _
  have hc:=cpB_end h32 (d:=bdB 4294967296 a i) (i:=i) hS hlb
  rw [hF] at hc
  have hcl:=cpB_lt h32 (S:=a % 4294967296 ^ i * b) (b:=b) (i:=i) (k:=lnB 4294967296 b) ha1
  have hcb:((cpB 4294967296 (a % 4294967296 ^ i * b) b (bdB 4294967296 a i) i (lnB 4294967296 b) % 4294967296:Nat):Int) = ((bdB 4294967296 (a % 4294967296 ^ (i + 1) * b) (i + lnB 4294967296 b):Nat):Int):=by
    rw [hc]; rfl
  have hlen:(mixB 4294967296 n (i + lnB 4294967296 b) (a % 4294967296 ^ (i + 1) * b) (a % 4294967296 ^ i * b)).length = n:=mixB_len _ _ _ _ _
  have hget:=mixB_get (B:=4294967296) (n:=n) (p:=i + lnB 4294967296 b) (F:=a % 4294967296 ^ (i + 1) * b) (S:=a % 4294967296 ^ i * b) (j:=i + lnB 4294967296 b) (by omega)
  have hset:=mixB_set (B:=4294967296) (n:=n) (p:=i + lnB 4294967296 b) (F:=a % 4294967296 ^ (i + 1) * b) (S:=a % 4294967296 ^ i * b) (by omega)
  have hstop:mixB 4294967296 n (i + lnB 4294967296 b + 1) (a % 4294967296 ^ (i + 1) * b) (a % 4294967296 ^ i * b) = dkB 4294967296 n (a % 4294967296 ^ (i + 1) * b) :=
    mixB_stop fun j h1 _=>by rw [bd0 (lt_up h32 hS (by omega)),bd0 (lt_up h32 hF' (by omega))]
  unfold Ref2.times.s1
  refine letV (y:=((lnB 4294967296 b:Nat):Int)) (by rw [Nt_len]) (letF (decide_eq_false (by omega)) ?_)
  suffices h:(letk (((Nt b).length:Int)) fun t61=>letk (IntKind.i64.wrap ((i:Int) + t61)) fun t62=>letk (IntKind.u32.wrap (cpB 4294967296 (a % 4294967296 ^ i * b) b (bdB 4294967296 a i) i (lnB 4294967296 b):Nat)) fun t64 =>
    chk (0 ≤ t62 ∧ t62 < ((mixB 4294967296 n (i + lnB 4294967296 b) (a % 4294967296 ^ (i + 1) * b) (a % 4294967296 ^ i * b)).length:Int)) <| letk (0 + t62.toNat) fun t65 =>
    Option.bind ((mixB 4294967296 n (i + lnB 4294967296 b) (a % 4294967296 ^ (i + 1) * b) (a % 4294967296 ^ i * b))[t65]?) fun old =>
    letk ((mixB 4294967296 n (i + lnB 4294967296 b) (a % 4294967296 ^ (i + 1) * b) (a % 4294967296 ^ i * b)).set t65 t64) fun l=>letk (IntKind.i64.wrap ((i:Int) + (1:Int))) fun t21=>some (Sum.inl (l,t21):((List Int) × Int) ⊕ (List Int))) = some (.inl (dkB 4294967296 n (a % 4294967296 ^ (i + 1) * b),((i + 1:Nat):Int))) from congrArg (Option.map Sum.inr) h
  rw [← hstop,← hset,← hcb]
  exact letV (y:=((lnB 4294967296 b:Nat):Int)) (by rw [Nt_len]) (letV (iadd _ _ (by omega)) (letV (w32 _) (chkE ⟨Int.natCast_nonneg _,by rw [hlen]; omega⟩ (letV (y:=i + lnB 4294967296 b) (Nat.zero_add _) (bindE hget (letV rfl (letV (iadd i 1 (by omega)) rfl)))))))
theorem lnB_mul {B:Nat} (hB:1 < B) (a b:Nat):lnB B (a * b) ≤ lnB B a + lnB B b:=by
  refine (lnB_iff hB _ _).1 ?_
  have:=part_lt (a:=a) (i:=lnB B a) hB (lt_lnB hB b)
  rwa [Nat.mod_eq_of_lt (lt_lnB hB a)] at this
theorem ntimes_eq (a b:Nat) (hb:lnB 4294967296 a + lnB 4294967296 b ≤ 100000):Ref2.times (Nt a) (Nt b) = some (Nt (a * b)):=by
  unfold Ref2.times
  refine letV (y:=((lnB 4294967296 a:Nat):Int)) (by rw [Nt_len]) (letV (y:=((lnB 4294967296 b:Nat):Int)) (by rw [Nt_len]) (letV (iadd _ _ (by omega)) (chkE ⟨by omega,by omega,by omega,by omega⟩ (letV (dkB_none (B:=4294967296) h32) ?_))))
  unfold Ref2.times.l0
  show loopO _ (dkB 4294967296 (lnB 4294967296 a + lnB 4294967296 b) 0,(0:Int)) = _
  have key:=loopO_run (step:=fun v:(List Int) × Int=>Ref2.times.s0 (Nt a) (Nt b) v.1 v.2) (r:=some (Nt (a * b)))
    (fun i=>(dkB 4294967296 (lnB 4294967296 a + lnB 4294967296 b) (a % 4294967296 ^ i * b),((i:Nat):Int))) (lnB 4294967296 a) (fun i hi=>times_row hi rfl hb) ?_
  · simp only [Nat.pow_zero,Nat.mod_one,Nat.zero_mul] at key; exact key
  refine loopO_end ?_
  show Ref2.times.s0 (Nt a) (Nt b) (dkB 4294967296 (lnB 4294967296 a + lnB 4294967296 b) (a % 4294967296 ^ lnB 4294967296 a * b)) (lnB 4294967296 a:Nat) = _
  rw [Nat.mod_eq_of_lt (lt_lnB h32 a)]
  unfold Ref2.times.s0
  refine letV (y:=((lnB 4294967296 a:Nat):Int)) (by rw [Nt_len]) (letF (decide_eq_false (by omega)) ?_)
  rw [ntrim_eq (lnB_mul h32 a b) (by omega)]; rfl
def pcB (B v b i:Nat):Nat:=(v % B ^ i + b) / B ^ i
theorem pc_next {B:Nat} (hB:1 < B) (v b i:Nat):(v % B ^ (i + 1) + b) / B ^ i = bdB B v i + pcB B v b i:=by
  unfold pcB
  rw [modB_succ,show v % B ^ i + bdB B v i * B ^ i + b = v % B ^ i + b + bdB B v i * B ^ i by omega,Nat.add_mul_div_right _ _ (powB_pos hB i),Nat.add_comm]
theorem pc_carry {B:Nat} (hB:1 < B) (v b i:Nat):(bdB B v i + pcB B v b i) / B = pcB B v b (i + 1):=by
  rw [← pc_next hB,Nat.div_div_eq_div_mul,← Nat.pow_succ]; rfl
theorem pc_all {B:Nat} (hB:1 < B) (v b i:Nat):(v + b) / B ^ i = v / B ^ i + pcB B v b i:=by
  unfold pcB
  have h:=Nat.div_add_mod v (B ^ i)
  have:v + b = v % B ^ i + b + v / B ^ i * B ^ i:=by rw [Nat.mul_comm (v / B ^ i)]; omega
  rw [this,Nat.add_mul_div_right _ _ (powB_pos hB i),Nat.add_comm]
theorem pc_digit {B:Nat} (hB:1 < B) (v b i:Nat):(bdB B v i + pcB B v b i) % B = bdB B (v + b) i:=by
  show _ = (v + b) / B ^ i % B
  rw [pc_all hB,Nat.add_mod (v / B ^ i)]
  show _ = (bdB B v i + pcB B v b i % B) % B
  rw [Nat.add_mod (bdB B v i),Nat.mod_eq_of_lt (bdB_lt (by omega) v i)]
theorem pc_lt {B:Nat} (hB:1 < B) (v:Nat) {b:Nat} (hb:b < B):∀ i,pcB B v b i < B
  | 0=>by unfold pcB; rw [Nat.pow_zero,Nat.mod_one,Nat.div_one]; omega
  | i + 1=>by
    rw [← pc_carry hB]
    have h1:=bdB_lt (B:=B) (by omega) v i
    have h2:=pc_lt hB v hb i
    rw [Nat.div_lt_iff_lt_mul (by omega)]
    have:2 * B ≤ B * B:=Nat.mul_le_mul_right B hB
    omega
theorem plus_s0 {v b i:Nat} (hb:b < 4294967296) (hl:lnB 4294967296 v ≤ 100000) (hi:i < lnB 4294967296 v) (hc:0 < pcB 4294967296 v b i) :
    Ref2.plus.s0 (mixB 4294967296 (lnB 4294967296 v) i (v + b) v) (pcB 4294967296 v b i:Nat) (i:Nat) = some (.inl (mixB 4294967296 (lnB 4294967296 v) (i + 1) (v + b) v,((pcB 4294967296 v b (i + 1):Nat):Int),((i + 1:Nat):Int))):=by
  have h1:=bdB_lt (B:=4294967296) (by decide) v i
  have h2:=pc_lt h32 v hb i
  have hset:=mixB_set (B:=4294967296) (n:=lnB 4294967296 v) (p:=i) (F:=v + b) (S:=v) hi
  have hget:=mixB_get (B:=4294967296) (n:=lnB 4294967296 v) (p:=i) (F:=v + b) (S:=v) hi
  rw [if_neg (by omega)] at hget
  have hlen:(mixB 4294967296 (lnB 4294967296 v) i (v + b) v).length = lnB 4294967296 v:=mixB_len _ _ _ _ _
  rw [← pc_carry h32,← hset,← pc_digit h32]
  generalize pcB 4294967296 v b i = c at *
  generalize bdB 4294967296 v i = x at *
  generalize mixB 4294967296 (lnB 4294967296 v) i (v + b) v = out at *
  unfold Ref2.plus.s0
  refine letV (y:=((lnB 4294967296 v:Nat):Int)) (by rw [hlen]) (letT (decide_eq_true (by omega)) (letT (decide_eq_true (by omega)) ?_))
  unfold Ref2.plus.j1
  exact chkE ⟨Int.natCast_nonneg _,by omega⟩ (letV (y:=i) (Nat.zero_add _) (bindE hget (letV (wL (by omega)) (letV (wadd _ _ (by omega)) (letV (w32 _) (chkE (by decide) (letV (u_shr _ 32 (by omega)) (chkE ⟨Int.natCast_nonneg _,by omega⟩ (letV (y:=i) (Nat.zero_add _) (bindE hget (letV rfl (letV (iadd i 1 (by omega)) rfl))))))))))))
theorem plus_run {v b:Nat} (hb:b < 4294967296) (hl:lnB 4294967296 v ≤ 100000):∀ m i,i + m = lnB 4294967296 v →
    Ref2.plus.l0 (mixB 4294967296 (lnB 4294967296 v) i (v + b) v) (pcB 4294967296 v b i:Nat) (i:Nat) = some (Nt (v + b)):=by
  have stop:∀ i,i ≤ lnB 4294967296 v → pcB 4294967296 v b i = 0 → Ref2.plus.j0 (mixB 4294967296 (lnB 4294967296 v) i (v + b) v) (pcB 4294967296 v b i:Nat) = some (Nt (v + b)):=by
    intro i hi h0
    have hs:∀ j,i ≤ j → (v + b) / 4294967296 ^ j = v / 4294967296 ^ j:=fun j hj=>by
      have e:=pc_all h32 v b i
      rw [h0,Nat.add_zero] at e
      obtain ⟨k,rfl⟩:∃ k,j = i + k:=⟨j - i,by omega⟩
      rw [Nat.pow_add,← Nat.div_div_eq_div_mul,← Nat.div_div_eq_div_mul,e]
    have hln:lnB 4294967296 (v + b) = lnB 4294967296 v:=by
      refine Nat.le_antisymm ?_ (lnB_mono h32 (Nat.le_add_right _ _))
      refine (up_none h32).1 ?_
      rw [hs _ hi]
      exact (up_none h32).2 (Nat.le_refl _)
    rw [h0,mixB_stop (fun j h1 _=>by show v / _ % _ = (v + b) / _ % _; rw [hs j h1])]
    unfold Ref2.plus.j0
    refine letF rfl ?_
    rw [← hln]; rfl
  intro m
  induction m with
  | zero =>
    intro i hi
    obtain rfl:i = lnB 4294967296 v:=by omega
    unfold Ref2.plus.l0
    refine loopO_end ?_
    show Ref2.plus.s0 (mixB 4294967296 (lnB 4294967296 v) (lnB 4294967296 v) (v + b) v) (pcB 4294967296 v b (lnB 4294967296 v):Nat) (lnB 4294967296 v:Nat) = _
    unfold Ref2.plus.s0
    refine letV (y:=((lnB 4294967296 v:Nat):Int)) (by rw [mixB_len]) (letF (decide_eq_false (by omega)) ?_)
    refine congrArg (Option.map Sum.inr) (?_:_ = some (Nt (v + b)))
    rcases Nat.eq_zero_or_pos (pcB 4294967296 v b (lnB 4294967296 v)) with h0 | h0
    · exact stop _ (Nat.le_refl _) h0
    · have h2:=pc_lt h32 v hb (lnB 4294967296 v)
      have e:=pc_all h32 v b (lnB 4294967296 v)
      rw [Nat.div_eq_of_lt (lt_lnB h32 v),Nat.zero_add] at e
      have hln:lnB 4294967296 (v + b) = lnB 4294967296 v + 1:=by
        refine lnB_uniq h32 ?_ ?_
        · rcases Nat.lt_or_ge (v + b) (4294967296 ^ lnB 4294967296 v) with h | h
          · rw [Nat.div_eq_of_lt h] at e; omega
          · exact h
        · have:=Nat.lt_mul_of_div_lt (show (v + b) / 4294967296 ^ lnB 4294967296 v < 4294967296 by omega) (powB_pos h32 _)
          rw [Nat.pow_succ,Nat.mul_comm]; exact this
      have hm:mixB 4294967296 (lnB 4294967296 v) (lnB 4294967296 v) (v + b) v = dkB 4294967296 (lnB 4294967296 v) (v + b):=mixB_stop fun j h1 h2=>by omega
      have hx:((pcB 4294967296 v b (lnB 4294967296 v) % 4294967296:Nat):Int) = ((bdB 4294967296 (v + b) (lnB 4294967296 v):Nat):Int):=by
        show _ = (((v + b) / 4294967296 ^ lnB 4294967296 v % 4294967296:Nat):Int)
        rw [e]
      rw [hm]
      unfold Ref2.plus.j0
      refine letT (decide_eq_true (by omega)) (letV (w32 _) (chkE ?_ (letV (dk_push _ _ hx) ?_)))
      · rw [dkB_len]; show (_ + 1) * 4 ≤ _; omega
      · rw [← hln]; rfl
  | succ m ih =>
    intro i hi
    rcases Nat.eq_zero_or_pos (pcB 4294967296 v b i) with h0 | h0
    · unfold Ref2.plus.l0
      refine loopO_end ?_
      show Ref2.plus.s0 (mixB 4294967296 (lnB 4294967296 v) i (v + b) v) (pcB 4294967296 v b i:Nat) (i:Nat) = _
      unfold Ref2.plus.s0
      refine letV (y:=((lnB 4294967296 v:Nat):Int)) (by rw [mixB_len]) (letT (decide_eq_true (by omega)) (letF (decide_eq_false (by omega)) ?_))
      exact congrArg (Option.map Sum.inr) (stop i (by omega) h0)
    · unfold Ref2.plus.l0
      exact loopO_next (plus_s0 hb hl (by omega) h0) (ih (i + 1) (by omega))
theorem plus_eq {v b:Nat} (hb:b < 4294967296) (hl:lnB 4294967296 v ≤ 100000):Ref2.plus (Nt v) (b:Int) = some (Nt (v + b)):=by
  have hst:mixB 4294967296 (lnB 4294967296 v) 0 (v + b) v = Nt v:=mixB_start _ _ _ _ _ fun j hj=>by omega
  have hc:pcB 4294967296 v b 0 = b:=by unfold pcB; rw [Nat.pow_zero,Nat.mod_one,Nat.div_one,Nat.zero_add]
  have key:=plus_run hb hl (lnB 4294967296 v) 0 (by omega)
  rw [hst,hc] at key
  unfold Ref2.plus
  refine chkE ?_ (letV (List.nil_append _) (letV (wL (by omega)) key))
  rw [Nt_len]; show (0 + _) * 4 ≤ _; omega
end Go.Q
namespace Go.Q
open Go
set_option maxRecDepth 10000
def cmpI (a b:Nat):Int:=if a < b then -1 else if a = b then 0 else 1
theorem cmp_l0 (v u:Nat) (hl:lnB 4294967296 v = lnB 4294967296 u) (hb:lnB 4294967296 v ≤ 100000):∀ i:Nat,i ≤ lnB 4294967296 v → v / 4294967296 ^ i = u / 4294967296 ^ i →
    Ref2.compare.l0 (Nt v) (Nt u) ((i:Int) - 1) = some (cmpI v u)
  | 0,_,he=>by
    rw [Nat.pow_zero,Nat.div_one,Nat.div_one] at he
    rw [show cmpI v u = 0 by unfold cmpI; rw [if_neg (by omega),if_pos he]]
    unfold Ref2.compare.l0
    refine loopO_end ?_
    show Ref2.compare.s0 (Nt v) (Nt u) ((0:Nat) - 1:Int) = _
    unfold Ref2.compare.s0
    exact letF rfl rfl
  | i + 1,hi,he=>by
    have g1:(Nt v)[i]? = some ((bdB 4294967296 v i:Nat):Int):=dgB_get (by omega)
    have g2:(Nt u)[i]? = some ((bdB 4294967296 u i:Nat):Int):=dgB_get (by omega)
    have ei:((i + 1:Nat):Int) - 1 = (i:Int):=by omega
    rw [ei]
    unfold Ref2.compare.l0
    rcases Nat.lt_trichotomy (bdB 4294967296 v i) (bdB 4294967296 u i) with h | h | h
    · have hlt:=comp_lt h32 he h
      rw [show cmpI v u = -1 by unfold cmpI; rw [if_pos hlt]]
      refine loopO_end ?_
      show Ref2.compare.s0 (Nt v) (Nt u) (i:Int) = _
      unfold Ref2.compare.s0
      exact letT (decide_eq_true (by omega)) (chkE (by omega) (bindE g1 (chkE (by omega) (bindE g2 (letT (bne_iff_ne.2 (by omega)) (chkE (by omega) (bindE g1 (chkE (by omega) (bindE g2 (letT (decide_eq_true (by omega)) rfl))))))))))
    · refine loopO_next (t:=((i:Int) - 1)) ?_ (cmp_l0 v u hl hb i (by omega) (comp_eq he h))
      show Ref2.compare.s0 (Nt v) (Nt u) (i:Int) = _
      unfold Ref2.compare.s0
      refine letT (decide_eq_true (by omega)) (chkE (by omega) (bindE g1 (chkE (by omega) (bindE g2 (letF ?_ (letV (wi (by omega) (by omega)) rfl))))))
      rw [h]; exact bne_self_eq_false _
    · have hlt:=comp_lt h32 he.symm h
      rw [show cmpI v u = 1 by unfold cmpI; rw [if_neg (by omega),if_neg (by omega)]]
      refine loopO_end ?_
      show Ref2.compare.s0 (Nt v) (Nt u) (i:Int) = _
      unfold Ref2.compare.s0
      exact letT (decide_eq_true (by omega)) (chkE (by omega) (bindE g1 (chkE (by omega) (bindE g2 (letT (bne_iff_ne.2 (by omega)) (chkE (by omega) (bindE g1 (chkE (by omega) (bindE g2 (letF (decide_eq_false (by omega)) rfl))))))))))
theorem ncomp_eq (v u:Nat) (h1:lnB 4294967296 v ≤ 100000) (h2:lnB 4294967296 u ≤ 100000):Ref2.compare (Nt v) (Nt u) = some (cmpI v u):=by
  unfold Ref2.compare
  by_cases h:lnB 4294967296 v = lnB 4294967296 u
  · have key:=cmp_l0 v u h h1 (lnB 4294967296 v) (Nat.le_refl _) (by
      have e:v / 4294967296 ^ lnB 4294967296 v = 0:=(up_none h32).2 (Nat.le_refl _)
      have e2:u / 4294967296 ^ lnB 4294967296 v = 0:=(up_none h32).2 (by omega)
      rw [e,e2])
    exact letV (y:=((lnB 4294967296 v:Nat):Int)) (by rw [Nt_len]) (letV (y:=((lnB 4294967296 v:Nat):Int)) (by rw [Nt_len,h]) (letF (bne_self_eq_false _) (letV (y:=((lnB 4294967296 v:Nat):Int)) (by rw [Nt_len]) (letV (wi (by omega) (by omega)) key))))
  · refine letV (y:=((lnB 4294967296 v:Nat):Int)) (by rw [Nt_len]) (letV (y:=((lnB 4294967296 u:Nat):Int)) (by rw [Nt_len]) (letT (bne_iff_ne.2 (by omega)) (letV (y:=((lnB 4294967296 v:Nat):Int)) (by rw [Nt_len]) (letV (y:=((lnB 4294967296 u:Nat):Int)) (by rw [Nt_len]) ?_))))
    rcases Nat.lt_or_ge (lnB 4294967296 v) (lnB 4294967296 u) with h3 | h3
    · have:=comp_len h32 h3
      rw [show cmpI v u = -1 by unfold cmpI; rw [if_pos this]]
      exact letT (decide_eq_true (by omega)) rfl
    · have:=comp_len h32 (show lnB 4294967296 u < lnB 4294967296 v by omega)
      rw [show cmpI v u = 1 by unfold cmpI; rw [if_neg (by omega),if_neg (by omega)]]
      exact letF (decide_eq_false (by omega)) rfl
theorem shr32 (a k:Nat) (h:k ≤ 32):(a:Int).fdiv (2 ^ (min k IntKind.u32.bits)) = ((a / 2 ^ k:Nat):Int):=by
  have e:((2:Int) ^ (min k IntKind.u32.bits)) = ((2 ^ k:Nat):Int):=by
    rw [show min k IntKind.u32.bits = k from Nat.min_eq_left h]; push_cast; rfl
  rw [e,Int.fdiv_eq_ediv_of_nonneg _ (Int.natCast_nonneg _),← Int.natCast_ediv]
theorem shl32 (a k:Nat) (h:k ≤ 32):IntKind.u32.wrap ((a:Int) * 2 ^ (min k IntKind.u32.bits)) = ((a * 2 ^ k % 4294967296:Nat):Int):=by
  have e:((a:Int) * 2 ^ (min k IntKind.u32.bits)) = ((a * 2 ^ k:Nat):Int):=by
    rw [show min k IntKind.u32.bits = k from Nat.min_eq_left h]; push_cast; rfl
  rw [e,w32]
theorem bv32 (n:Nat) (h:n < 4294967296):(BitVec.ofInt IntKind.u32.bits (n:Int)).toNat = n:=by
  rw [BitVec.toNat_ofInt]
  show ((n:Int) % ((2 ^ 32:Nat):Int)).toNat = n
  have:((2 ^ 32:Nat):Int) = 4294967296:=rfl
  rw [this]; omega
theorem or32 {a b:Nat} (ha:a < 4294967296) (hb:b < 4294967296):IntKind.u32.wrap (((BitVec.ofInt IntKind.u32.bits (a:Int) ||| BitVec.ofInt IntKind.u32.bits (b:Int)).toNat:Nat):Int) = ((a ||| b:Nat):Int):=by
  rw [BitVec.toNat_or,bv32 a ha,bv32 b hb,w32]
  have:a ||| b < 2 ^ 32:=Nat.or_lt_two_pow ha hb
  rw [Nat.mod_eq_of_lt this]
theorem or_low {s c d:Nat} (hc:c < 2 ^ s) (hd:d % 2 ^ s = 0):c ||| d = c + d:=by
  have e:d = 2 ^ s * (d / 2 ^ s):=by have:=Nat.div_add_mod d (2 ^ s); omega
  rw [e,Nat.or_comm,← Nat.two_pow_add_eq_or_of_lt hc,Nat.add_comm]
theorem bits_l0 (n:Nat) (hn:n ≤ 10000000):∀ (m x:Nat),bl x = m → m ≤ 32 → Ref2.nat.bits.l0 (n:Nat) (x:Nat) = some ((n + m:Nat):Int):=by
  intro m x hx hm
  unfold Ref2.nat.bits.l0
  have key:=loopO_run (step:=fun v:Int × Int=>Ref2.nat.bits.s0 v.1 v.2) (r:=some ((n + m:Nat):Int)) (fun i=>(((n + i:Nat):Int),((x / 2 ^ i:Nat):Int))) m ?_ ?_
  · simp only [Nat.add_zero,Nat.pow_zero,Nat.div_one] at key; exact key
  · intro i hi
    have hp:0 < x / 2 ^ i:=by
      refine Nat.div_pos ?_ (Nat.two_pow_pos _)
      rcases Nat.lt_or_ge x (2 ^ i) with h | h
      · have:=bl_le_iff.2 h; omega
      · exact h
    show Ref2.nat.bits.s0 ((n + i:Nat):Int) ((x / 2 ^ i:Nat):Int) = _
    unfold Ref2.nat.bits.s0
    refine letT (decide_eq_true (by omega)) (letV (iadd (n + i) 1 (by omega)) (chkE (by decide) (letV (shr32 _ 1 (by decide)) ?_)))
    rw [Nat.div_div_eq_div_mul,← Nat.pow_succ]; rfl
  · refine loopO_end ?_
    have h0:x / 2 ^ m = 0:=Nat.div_eq_of_lt (bl_le_iff.1 (by omega))
    show Ref2.nat.bits.s0 ((n + m:Nat):Int) ((x / 2 ^ m:Nat):Int) = _
    rw [h0]
    unfold Ref2.nat.bits.s0
    exact letF rfl rfl
theorem bl_dig {v:Nat} (hv:0 < v):bl v = 32 * (lnB 4294967296 v - 1) + bl (bdB 4294967296 v (lnB 4294967296 v - 1)) ∧ bl (bdB 4294967296 v (lnB 4294967296 v - 1)) ≤ 32:=by
  have hl:=lnB_gt h32 hv
  have ht:=bdB_top h32 hv
  have hb:=bdB_lt (B:=4294967296) (by decide) v (lnB 4294967296 v - 1)
  have e:v / 4294967296 ^ (lnB 4294967296 v - 1) = bdB 4294967296 v (lnB 4294967296 v - 1):=by
    have h1:=divB_split (B:=4294967296) v (lnB 4294967296 v - 1)
    rw [show lnB 4294967296 v - 1 + 1 = lnB 4294967296 v by omega,Nat.div_eq_of_lt (lt_lnB h32 v),Nat.zero_mul,Nat.zero_add] at h1
    exact h1
  have hs:=Nat.div_add_mod v (4294967296 ^ (lnB 4294967296 v - 1))
  rw [e] at hs
  have hm:=Nat.mod_lt v (powB_pos h32 (lnB 4294967296 v - 1))
  have hp:(4294967296:Nat) ^ (lnB 4294967296 v - 1) = 2 ^ (32 * (lnB 4294967296 v - 1)):=by rw [Nat.pow_mul]
  rw [hp] at hs hm
  refine ⟨?_,bl_le_iff.2 hb⟩
  have:=bl_ref (n:=bdB 4294967296 v (lnB 4294967296 v - 1)) (k:=32 * (lnB 4294967296 v - 1)) (r:=v % 2 ^ (32 * (lnB 4294967296 v - 1))) (by omega) hm
  rw [Nat.mul_comm,hs] at this
  omega
theorem bits_eq {v:Nat} (hl:lnB 4294967296 v ≤ 100000):Ref2.nat.bits (Nt v) = some (bl v:Int):=by
  unfold Ref2.nat.bits
  rcases Nat.eq_zero_or_pos v with rfl | hv
  · rw [show Nt 0 = [] from dgB_zero _]; rfl
  · have hp:=lnB_gt h32 hv
    obtain ⟨h1,h2⟩:=bl_dig hv
    have g:(Nt v)[lnB 4294967296 v - 1]? = some ((bdB 4294967296 v (lnB 4294967296 v - 1):Nat):Int):=dgB_get (by omega)
    refine letV (y:=((lnB 4294967296 v:Nat):Int)) (by rw [Nt_len]) (letF (beq_false_of_ne (by omega)) (letV (y:=((lnB 4294967296 v:Nat):Int)) (by rw [Nt_len]) (letV (y:=((lnB 4294967296 v - 1:Nat):Int)) (by rw [wi (by omega) (by omega)]; omega) (letV (y:=((32 * (lnB 4294967296 v - 1):Nat):Int)) (by rw [wi (by omega) (by omega)]; omega) (letV (y:=((lnB 4294967296 v:Nat):Int)) (by rw [Nt_len]) (letV (y:=((lnB 4294967296 v - 1:Nat):Int)) (by rw [wi (by omega) (by omega)]; omega) (chkE (Int.natCast_nonneg _) (bindE g ?_))))))))
    rw [bits_l0 _ (by omega) _ _ rfl h2,h1]
theorem up_nums {X c x s p:Nat} (hs:s < 32) (hc:X / 4294967296 ^ p = c) (hcs:c < 2 ^ s) (hx:x % 2 ^ s = 0) (hx2:x < 4294967296 * 2 ^ s) :
    bdB 4294967296 X p = c ∧ bdB 4294967296 X (p + 1) = 0 ∧ bdB 4294967296 (X + x * 4294967296 ^ p) p = c + x % 4294967296 ∧ bdB 4294967296 (X + x * 4294967296 ^ p) (p + 1) = x / 4294967296 ∧
      (X + x * 4294967296 ^ p) / 4294967296 ^ (p + 1) = x / 4294967296 ∧ x / 4294967296 < 2 ^ s ∧ (x % 4294967296) % 2 ^ s = 0 ∧ X < 4294967296 ^ (p + 1):=by
  have h2:2 ^ s ≤ 2147483648:=by rw [show (2147483648:Nat) = 2 ^ 31 by decide]; exact Nat.pow_le_pow_right (by decide) (by omega)
  have e1:(X + x * 4294967296 ^ p) / 4294967296 ^ p = c + x:=by rw [Nat.add_mul_div_right _ _ (powB_pos h32 p),hc]
  obtain ⟨m,hm⟩:∃ m,4294967296 = 2 ^ s * m:=⟨2 ^ (32 - s),by rw [← Nat.pow_add,show s + (32 - s) = 32 by omega]⟩
  have hxm:(x % 4294967296) % 2 ^ s = 0:=by
    rw [hm,Nat.mod_mul_right_mod]; exact hx
  have hno:c + x % 4294967296 < 4294967296:=by
    have hlt:=Nat.mod_lt x (show 0 < 4294967296 by decide)
    obtain ⟨q,hq⟩:∃ q,x % 4294967296 = 2 ^ s * q:=⟨x % 4294967296 / 2 ^ s,by have:=Nat.div_add_mod (x % 4294967296) (2 ^ s); omega⟩
    rw [hq] at hlt ⊢
    have hqm:q < m:=by
      have hp:=Nat.two_pow_pos s
      rw [hm] at hlt
      exact Nat.lt_of_mul_lt_mul_left hlt
    have:2 ^ s * q + 2 ^ s ≤ 2 ^ s * m:=by rw [← Nat.mul_succ]; exact Nat.mul_le_mul_left _ hqm
    omega
  have hdx:x / 4294967296 < 2 ^ s:=by rw [Nat.div_lt_iff_lt_mul (by decide),Nat.mul_comm]; exact hx2
  have hX:X < 4294967296 ^ (p + 1):=by
    have:=Nat.lt_mul_of_div_lt (show X / 4294967296 ^ p < 4294967296 by omega) (powB_pos h32 p)
    rw [Nat.pow_succ,Nat.mul_comm]; exact this
  have e2:(X + x * 4294967296 ^ p) / 4294967296 ^ (p + 1) = x / 4294967296:=by
    rw [divB_succ,e1]; omega
  refine ⟨?_,bd0 hX,?_,?_,e2,hdx,hxm,hX⟩
  · show X / _ % _ = _; rw [hc]; omega
  · show (X + _) / _ % _ = _; rw [e1]; omega
  · show (X + _) / _ % _ = _; rw [e2]; omega
theorem up_row (F:List Int → Int → List Int → Int → Option (((List Int) × Int) ⊕ (List Int))) (hF:F = Ref2.up.s0 ∨ F = Ref2.upN.s0) {a i k n q s X:Nat} (hk:k = 32 * q + s) (hs:s < 32) (hi:i < lnB 4294967296 a) (hn:n = lnB 4294967296 a + q + 1) (hb:n ≤ 100000)
    (hX:X / 4294967296 ^ (q + i) < 2 ^ s) :
    F (Nt a) (k:Nat) (dkB 4294967296 n X) (i:Nat) = some (.inl (dkB 4294967296 n (X + bdB 4294967296 a i * 2 ^ s * 4294967296 ^ (q + i)),((i + 1:Nat):Int))):=by
  have ha:=bdB_lt (B:=4294967296) (by decide) a i
  have ga:(Nt a)[i]? = some ((bdB 4294967296 a i:Nat):Int):=dgB_get hi
  generalize bdB 4294967296 a i = d at *
  have h2:2 ^ s ≤ 2147483648:=by rw [show (2147483648:Nat) = 2 ^ 31 by decide]; exact Nat.pow_le_pow_right (by decide) (by omega)
  have hx2:d * 2 ^ s < 4294967296 * 2 ^ s:=Nat.mul_lt_mul_of_pos_right ha (Nat.two_pow_pos s)
  obtain ⟨f1,f2,f3,f4,f5,f6,f7,f8⟩:=up_nums (X:=X) (x:=d * 2 ^ s) (p:=q + i) hs rfl hX (Nat.mul_mod_left _ _) hx2
  have hx3:d * 2 ^ s < 18446744073709551616:=Nat.lt_of_lt_of_le hx2 (Nat.le_trans (Nat.mul_le_mul_left 4294967296 h2) (by decide))
  have hst:dkB 4294967296 n X = mixB 4294967296 n (q + i) (X + d * 2 ^ s * 4294967296 ^ (q + i)) X:=(mixB_start _ _ _ _ _ fun j hj=>bdB_low h32 hj).symm
  have hY:X + d * 2 ^ s * 4294967296 ^ (q + i) < 4294967296 ^ (q + i + 2):=by
    have:=Nat.lt_mul_of_div_lt (show (X + d * 2 ^ s * 4294967296 ^ (q + i)) / 4294967296 ^ (q + i + 1) < 4294967296 by omega) (powB_pos h32 (q + i + 1))
    rw [show q + i + 2 = q + i + 1 + 1 by omega,Nat.pow_succ,Nat.mul_comm (4294967296 ^ (q + i + 1))]; exact this
  have hend:dkB 4294967296 n (X + d * 2 ^ s * 4294967296 ^ (q + i)) = mixB 4294967296 n (q + i + 1 + 1) (X + d * 2 ^ s * 4294967296 ^ (q + i)) X :=
    (mixB_stop fun j h1 _=>by rw [bd0 (lt_up h32 f8 (by omega)),bd0 (lt_up h32 hY (by omega))]).symm
  have s1:=mixB_set (B:=4294967296) (n:=n) (p:=q + i) (F:=X + d * 2 ^ s * 4294967296 ^ (q + i)) (S:=X) (by omega)
  have s2:=mixB_set (B:=4294967296) (n:=n) (p:=q + i + 1) (F:=X + d * 2 ^ s * 4294967296 ^ (q + i)) (S:=X) (by omega)
  have g1:=mixB_get (B:=4294967296) (n:=n) (p:=q + i) (F:=X + d * 2 ^ s * 4294967296 ^ (q + i)) (S:=X) (j:=q + i) (by omega)
  have g2:=mixB_get (B:=4294967296) (n:=n) (p:=q + i + 1) (F:=X + d * 2 ^ s * 4294967296 ^ (q + i)) (S:=X) (j:=q + i + 1) (by omega)
  rw [if_neg (by omega),f1] at g1
  rw [if_neg (by omega),f2] at g2
  have l1:(mixB 4294967296 n (q + i) (X + d * 2 ^ s * 4294967296 ^ (q + i)) X).length = n:=mixB_len _ _ _ _ _
  have l2:(mixB 4294967296 n (q + i + 1) (X + d * 2 ^ s * 4294967296 ^ (q + i)) X).length = n:=mixB_len _ _ _ _ _
  rw [hst,hend]
  generalize X / 4294967296 ^ (q + i) = c at *
  generalize X + d * 2 ^ s * 4294967296 ^ (q + i) = Y at *
  have e1:((c ||| d * 2 ^ s % 4294967296:Nat):Int) = ((bdB 4294967296 Y (q + i):Nat):Int):=by rw [f3,or_low hX f7]
  have e2:((0 ||| d * 2 ^ s / 4294967296 % 4294967296:Nat):Int) = ((bdB 4294967296 Y (q + i + 1):Nat):Int):=by rw [f4,Nat.zero_or,Nat.mod_eq_of_lt (by omega)]
  have hq:((k:Int)).tdiv 32 = (q:Int):=by rw [Int.tdiv_eq_ediv_of_nonneg (by omega)]; omega
  have hr:((k:Int)).tmod 32 = (s:Int):=by rw [Int.tmod_eq_emod_of_nonneg (by omega)]; omega
  have c1:c < 4294967296:=by omega
  have c2:d * 2 ^ s % 4294967296 < 4294967296:=Nat.mod_lt _ (by decide)
  have c3:d * 2 ^ s / 4294967296 < 4294967296:=by omega
  have p1:=iadd i q (by omega)
  rw [show (i:Int) + (q:Int) = (q:Int) + (i:Int) from Int.add_comm _ _,show i + q = q + i from Nat.add_comm _ _] at p1
  have body:(letk (((Nt a).length:Int)) fun t17=>letk (decide ((i:Int) < t17)) fun t18=>bif t18 then
      chk (0 ≤ (i:Int)) <| Option.bind ((Nt a)[((i:Nat):Int).toNat]?) fun t23=>letk (IntKind.u64.wrap t23) fun t25=>chk ((32:Int) ≠ 0) <| letk ((k:Int).tmod (32:Int)) fun t27=>chk (0 ≤ t27) <|
      letk (IntKind.u64.wrap (t25 * 2 ^ (min t27.toNat (IntKind.u64).bits))) fun t28=>chk ((32:Int) ≠ 0) <| letk (IntKind.i64.wrap ((k:Int).tdiv (32:Int))) fun t32=>letk (IntKind.i64.wrap ((i:Int) + t32)) fun t33 =>
      chk (0 ≤ t33 ∧ t33 < ((mixB 4294967296 n (q + i) Y X).length:Int)) <| letk (0 + t33.toNat) fun t34=>Option.bind ((mixB 4294967296 n (q + i) Y X)[t34]?) fun t35=>letk (IntKind.u32.wrap t28) fun t37 =>
      letk (IntKind.u32.wrap (BitVec.ofInt (IntKind.u32).bits t35 ||| BitVec.ofInt (IntKind.u32).bits t37).toNat) fun t38=>chk (0 ≤ t33 ∧ t33 < ((mixB 4294967296 n (q + i) Y X).length:Int)) <| letk (0 + t33.toNat) fun t39 =>
      Option.bind ((mixB 4294967296 n (q + i) Y X)[t39]?) fun old=>letk ((mixB 4294967296 n (q + i) Y X).set t39 t38) fun l=>chk ((32:Int) ≠ 0) <| letk (IntKind.i64.wrap ((k:Int).tdiv (32:Int))) fun t43=>letk (IntKind.i64.wrap ((i:Int) + t43)) fun t44 =>
      letk (IntKind.i64.wrap (t44 + (1:Int))) fun t45=>chk (0 ≤ t45 ∧ t45 < (l.length:Int)) <| letk (0 + t45.toNat) fun t46=>Option.bind (l[t46]?) fun t47=>chk (0 ≤ (32:Int)) <|
      letk ((IntKind.u64,t28.fdiv (2 ^ (min (32:Int).toNat (IntKind.u64).bits))).2) fun t49=>letk (IntKind.u32.wrap t49) fun t50=>letk (IntKind.u32.wrap (BitVec.ofInt (IntKind.u32).bits t47 ||| BitVec.ofInt (IntKind.u32).bits t50).toNat) fun t51 =>
      chk (0 ≤ t45 ∧ t45 < (l.length:Int)) <| letk (0 + t45.toNat) fun t52=>Option.bind (l[t52]?) fun old_1=>letk (l.set t52 t51) fun l_1=>letk (IntKind.i64.wrap ((i:Int) + (1:Int))) fun t20=>some (Sum.inl (l_1,t20):((List Int) × Int) ⊕ (List Int))
    else none) = some (.inl (mixB 4294967296 n (q + i + 1 + 1) Y X,((i + 1:Nat):Int))):=by
    rw [← s2,← e2]
    refine letV (y:=((lnB 4294967296 a:Nat):Int)) (by rw [Nt_len]) (letT (decide_eq_true (by omega)) (chkE (Int.natCast_nonneg _) (bindE ga (letV (wL (by omega)) (chkE (by decide) (letV hr (chkE (Int.natCast_nonneg _)
      (letV (y:=((d * 2 ^ s:Nat):Int)) ((u_shl d s).trans (by rw [Nat.mod_eq_of_lt hx3])) (chkE (by decide) (letV (y:=(q:Int)) (by rw [hq,wi (by omega) (by omega)]) (letV (y:=((q + i:Nat):Int)) (by rw [Int.add_comm]; exact p1) (chkE ⟨Int.natCast_nonneg _,by omega⟩
      (letV (y:=q + i) (Nat.zero_add _) (bindE g1 (letV (w32 _) (letV (y:=((bdB 4294967296 Y (q + i):Nat):Int)) ((or32 c1 c2).trans e1) (chkE ⟨Int.natCast_nonneg _,by omega⟩ (letV (y:=q + i) (Nat.zero_add _) (bindE g1 (letV s1 ?_))))))))))))))))))))
    exact chkE (by decide) (letV (y:=(q:Int)) (by rw [hq,wi (by omega) (by omega)]) (letV (y:=((q + i:Nat):Int)) (by rw [Int.add_comm]; exact p1) (letV (iadd (q + i) 1 (by omega)) (chkE ⟨Int.natCast_nonneg _,by omega⟩ (letV (y:=q + i + 1) (Nat.zero_add _) (bindE g2 (chkE (by decide)
      (letV (u_shr _ 32 hx3) (letV (w32 _) (letV (or32 (by decide) (Nat.mod_lt _ (by decide))) (chkE ⟨Int.natCast_nonneg _,by omega⟩ (letV (y:=q + i + 1) (Nat.zero_add _) (bindE g2 (letV rfl (letV (iadd i 1 (by omega)) rfl)))))))))))))))
  have strip:∀ (X1 X2 Y1:Option (((List Int) × Int) ⊕ (List Int))),(letk (((Nt a).length:Int)) fun t17=>letk (decide ((i:Int) < t17)) fun t18=>bif t18 then Y1 else X1) = (letk (((Nt a).length:Int)) fun t17=>letk (decide ((i:Int) < t17)) fun t18=>bif t18 then Y1 else X2):=by
    intro X1 X2 Y1
    have ht:decide ((i:Int) < ((Nt a).length:Int)) = true:=decide_eq_true (by rw [Nt_len]; omega)
    show (bif decide ((i:Int) < ((Nt a).length:Int)) then Y1 else X1) = (bif decide ((i:Int) < ((Nt a).length:Int)) then Y1 else X2)
    rw [ht]; rfl
  rcases hF with rfl | rfl
  · unfold Ref2.up.s0; exact (strip _ _ _).trans body
  · unfold Ref2.upN.s0; exact (strip _ _ _).trans body
end Go.Q
namespace Go.Q
open Go
set_option maxRecDepth 10000
theorem up_any (L:List Int → Int → List Int → Int → Option (List Int)) (F:List Int → Int → List Int → Int → Option (((List Int) × Int) ⊕ (List Int))) (hF:F = Ref2.up.s0 ∨ F = Ref2.upN.s0)
    (hL:∀ a k out i,L a k out i = loopO (fun v:(List Int) × Int=>F a k v.1 v.2) (out,i)) {a k n q s:Nat} (hk:k = 32 * q + s) (hs:s < 32) (hn:n = lnB 4294967296 a + q + 1) (hb:n ≤ 100000)
    {r:List Int} (hE:F (Nt a) (k:Nat) (dkB 4294967296 n (a * 2 ^ k)) (lnB 4294967296 a:Nat) = some (.inr r)):L (Nt a) (k:Nat) (List.replicate n 0) 0 = some r:=by
  have hkk:2 ^ k = 2 ^ s * 4294967296 ^ q:=by rw [hk,Nat.pow_add,Nat.pow_mul,Nat.mul_comm]
  rw [hL,dkB_none (B:=4294967296) h32]
  have key:=loopO_run (step:=fun v:(List Int) × Int=>F (Nt a) (k:Nat) v.1 v.2) (r:=some r) (fun i=>(dkB 4294967296 n (a % 4294967296 ^ i * 2 ^ s * 4294967296 ^ q),((i:Nat):Int))) (lnB 4294967296 a) ?_ ?_
  · simp only [Nat.pow_zero,Nat.mod_one,Nat.zero_mul] at key; exact key
  · intro i hi
    have hlt:=Nat.mod_lt a (powB_pos h32 i)
    have hX:a % 4294967296 ^ i * 2 ^ s * 4294967296 ^ q / 4294967296 ^ (q + i) < 2 ^ s:=by
      rw [Nat.pow_add,Nat.mul_comm (4294967296 ^ q),Nat.mul_div_mul_right _ _ (powB_pos h32 q),Nat.div_lt_iff_lt_mul (powB_pos h32 i),Nat.mul_comm]
      exact Nat.mul_lt_mul_of_pos_left hlt (Nat.two_pow_pos s)
    have:=up_row F hF hk hs hi hn hb hX
    have e:a % 4294967296 ^ (i + 1) * 2 ^ s * 4294967296 ^ q = a % 4294967296 ^ i * 2 ^ s * 4294967296 ^ q + bdB 4294967296 a i * 2 ^ s * 4294967296 ^ (q + i):=by
      rw [modB_succ,Nat.add_mul,Nat.add_mul,Nat.pow_add]
      simp only [Nat.mul_assoc,Nat.mul_comm,Nat.mul_left_comm]
    rw [← e] at this
    exact this
  · refine loopO_end ?_
    rw [Nat.mod_eq_of_lt (lt_lnB h32 a),Nat.mul_assoc,← hkk]
    exact hE
theorem up_len {a k q s:Nat} (hk:k = 32 * q + s) (hs:s < 32):lnB 4294967296 (a * 2 ^ k) ≤ lnB 4294967296 a + q + 1:=by
  refine (lnB_iff h32 _ _).1 ?_
  have h1:=lt_lnB h32 a
  have h2:2 ^ s < 4294967296:=by rw [show (4294967296:Nat) = 2 ^ 32 by decide]; exact Nat.pow_lt_pow_right (by decide) hs
  rw [hk,Nat.pow_add,Nat.pow_mul,Nat.pow_add,Nat.pow_add,Nat.pow_one,← Nat.mul_assoc]
  exact Nat.mul_lt_mul'' (Nat.mul_lt_mul_of_pos_right h1 (powB_pos h32 q)) h2
theorem up_head {a k:Nat} (hb:lnB 4294967296 a + k / 32 + 1 ≤ 100000) {X:List Int → Option (List Int)} {r:Option (List Int)} (h:X (List.replicate (lnB 4294967296 a + k / 32 + 1) 0) = r) :
    (letk (((Nt a).length:Int)) fun t9=>chk ((32:Int) ≠ 0) <| letk (IntKind.i64.wrap ((k:Int).tdiv (32:Int))) fun t11=>letk (IntKind.i64.wrap (t9 + t11)) fun t12=>letk (IntKind.i64.wrap (t12 + (1:Int))) fun t13 =>
      chk (0 ≤ t13 ∧ t13 ≤ t13 ∧ t13 ≤ 9223372036854775807 ∧ 4 * t13 ≤ 140737488355328) <| letk ((List.replicate t13.toNat 0:List Int)) fun t14=>X t14) = r:=by
  have hq:((k:Int)).tdiv 32 = ((k / 32:Nat):Int):=by rw [Int.tdiv_eq_ediv_of_nonneg (by omega)]; omega
  exact letV (y:=((lnB 4294967296 a:Nat):Int)) (by rw [Nt_len]) (chkE (by decide) (letV (y:=((k / 32:Nat):Int)) (by rw [hq,wi (by omega) (by omega)]) (letV (iadd _ _ (by omega)) (letV (iadd (lnB 4294967296 a + k / 32) 1 (by omega)) (chkE ⟨by omega,by omega,by omega,by omega⟩ (letV rfl h))))))
theorem up_eq {a k:Nat} (hb:lnB 4294967296 a + k / 32 + 1 ≤ 100000):Ref2.up (Nt a) (k:Nat) = some (Nt (a * 2 ^ k)):=by
  have hk:k = 32 * (k / 32) + k % 32:=by omega
  unfold Ref2.up
  refine up_head hb (up_any Ref2.up.l0 Ref2.up.s0 (.inl rfl) (fun _ _ _ _=>rfl) hk (by omega) rfl hb ?_)
  unfold Ref2.up.s0
  refine letV (y:=((lnB 4294967296 a:Nat):Int)) (by rw [Nt_len]) (letF (decide_eq_false (by omega)) ?_)
  rw [ntrim_eq (up_len hk (by omega)) (by omega)]; rfl
theorem upN_eq {a k:Nat} (hb:lnB 4294967296 a + k / 32 + 1 ≤ 100000):Ref2.upN (Nt a) (k:Nat) = some (Nt (a * 2 ^ k)):=by
  have hk:k = 32 * (k / 32) + k % 32:=by omega
  unfold Ref2.upN
  refine up_head hb (up_any Ref2.upN.l0 Ref2.upN.s0 (.inr rfl) (fun _ _ _ _=>rfl) hk (by omega) rfl hb ?_)
  unfold Ref2.upN.s0
  refine letV (y:=((lnB 4294967296 a:Nat):Int)) (by rw [Nt_len]) (letF (decide_eq_false (by omega)) ?_)
  rw [ntrimH_eq (up_len hk (by omega)) (by omega)]; rfl
theorem bo32_le (v u i:Nat):boB 4294967296 v u i ≤ 1:=by unfold boB; split <;> omega
theorem wsub32 (x y:Nat) (hx:x < 4294967296) (hy:y ≤ 4294967296):IntKind.u32.wrap (IntKind.u64.wrap ((x:Int) - (y:Int))) = if (x:Int) - y < 0 then (x:Int) - y + 4294967296 else (x:Int) - y:=by
  show (((x:Int) - y) % 18446744073709551616) % 4294967296 = _
  split <;> omega
theorem less_j1 (J:List Int → Int → Int → List Int → Int → Option (((List Int) × Int × Int) ⊕ (List Int))) (hJ:J = Ref2.lessH.j1 ∨ J = Ref2.lessHH.j1) {v u i n:Nat} (hb:lnB 4294967296 v ≤ 100000) (hu:u ≤ v) (hi:i < lnB 4294967296 v)
    (hn:n = boB 4294967296 v u i + bdB 4294967296 u i) {bo:Int} :
    J (Nt u) (i:Nat) (n:Nat) (mixB 4294967296 (lnB 4294967296 v) i (v - u) v) bo = some (.inl (mixB 4294967296 (lnB 4294967296 v) (i + 1) (v - u) v,bo,((i + 1:Nat):Int))):=by
  have hv:=bdB_lt (B:=4294967296) (by decide) v i
  have hub:=bdB_lt (B:=4294967296) (by decide) u i
  have hbo:=bo32_le v u i
  have hd:=less_digit h32 hu i
  have hset:=mixB_set (B:=4294967296) (n:=lnB 4294967296 v) (p:=i) (F:=v - u) (S:=v) hi
  have hget:=mixB_get (B:=4294967296) (n:=lnB 4294967296 v) (p:=i) (F:=v - u) (S:=v) hi
  rw [if_neg (by omega)] at hget
  have hlen:(mixB 4294967296 (lnB 4294967296 v) i (v - u) v).length = lnB 4294967296 v:=mixB_len _ _ _ _ _
  have hw:=wsub32 (bdB 4294967296 v i) n hv (by omega)
  have e:(bdB 4294967296 v i:Int) - n = (bdB 4294967296 v i:Int) - boB 4294967296 v u i - bdB 4294967296 u i:=by rw [hn]; omega
  rw [e] at hw
  have hw2:IntKind.u32.wrap (IntKind.u64.wrap ((bdB 4294967296 v i:Int) - (n:Int))) = ((bdB 4294967296 (v - u) i:Nat):Int):=by rw [e,hw]; exact hd.symm
  rw [← hset]
  clear hset hd hw e hn hbo hub
  rcases hJ with rfl | rfl
  · unfold Ref2.lessH.j1
    exact chkE ⟨Int.natCast_nonneg _,by omega⟩ (letV (y:=i) (Nat.zero_add _) (bindE hget (letV (wL (by omega)) (letV rfl (letV hw2 (chkE ⟨Int.natCast_nonneg _,by omega⟩ (letV (y:=i) (Nat.zero_add _) (bindE hget (letV rfl (letV (iadd i 1 (by omega)) rfl))))))))))
  · unfold Ref2.lessHH.j1
    exact chkE ⟨Int.natCast_nonneg _,by omega⟩ (letV (y:=i) (Nat.zero_add _) (bindE hget (letV (wL (by omega)) (letV rfl (letV hw2 (chkE ⟨Int.natCast_nonneg _,by omega⟩ (letV (y:=i) (Nat.zero_add _) (bindE hget (letV rfl (letV (iadd i 1 (by omega)) rfl))))))))))
theorem less_j0 {v u i n:Nat} (hb:lnB 4294967296 v ≤ 100000) (hu:u ≤ v) (hi:i < lnB 4294967296 v) (hn:n = boB 4294967296 v u i + bdB 4294967296 u i) :
    Ref2.lessH.j0 (Nt u) (i:Nat) (mixB 4294967296 (lnB 4294967296 v) i (v - u) v) (n:Nat) = some (.inl (mixB 4294967296 (lnB 4294967296 v) (i + 1) (v - u) v,((boB 4294967296 v u (i + 1):Nat):Int),((i + 1:Nat):Int))) ∧
    Ref2.lessHH.j0 (Nt u) (i:Nat) (mixB 4294967296 (lnB 4294967296 v) i (v - u) v) (n:Nat) = some (.inl (mixB 4294967296 (lnB 4294967296 v) (i + 1) (v - u) v,((boB 4294967296 v u (i + 1):Nat):Int),((i + 1:Nat):Int))):=by
  have hv:=bdB_lt (B:=4294967296) (by decide) v i
  have hget:=mixB_get (B:=4294967296) (n:=lnB 4294967296 v) (p:=i) (F:=v - u) (S:=v) hi
  rw [if_neg (by omega)] at hget
  have hlen:(mixB 4294967296 (lnB 4294967296 v) i (v - u) v).length = lnB 4294967296 v:=mixB_len _ _ _ _ _
  have hnb:=less_borrow h32 v u i
  have c:(bdB 4294967296 v i < n) ↔ (bdB 4294967296 v i:Int) - boB 4294967296 v u i - bdB 4294967296 u i < 0:=by rw [hn]; omega
  by_cases h:bdB 4294967296 v i < n
  · rw [if_pos (c.1 h)] at hnb
    rw [hnb]
    constructor
    · unfold Ref2.lessH.j0
      exact chkE ⟨Int.natCast_nonneg _,by omega⟩ (letV (y:=i) (Nat.zero_add _) (bindE hget (letV (wL (by omega)) (letT (decide_eq_true (by omega)) (less_j1 _ (.inl rfl) hb hu hi hn)))))
    · unfold Ref2.lessHH.j0
      exact chkE ⟨Int.natCast_nonneg _,by omega⟩ (letV (y:=i) (Nat.zero_add _) (bindE hget (letV (wL (by omega)) (letT (decide_eq_true (by omega)) (less_j1 _ (.inr rfl) hb hu hi hn)))))
  · rw [if_neg (fun hh=>h (c.2 hh))] at hnb
    rw [hnb]
    constructor
    · unfold Ref2.lessH.j0
      exact chkE ⟨Int.natCast_nonneg _,by omega⟩ (letV (y:=i) (Nat.zero_add _) (bindE hget (letV (wL (by omega)) (letF (decide_eq_false (by omega)) (less_j1 _ (.inl rfl) hb hu hi hn)))))
    · unfold Ref2.lessHH.j0
      exact chkE ⟨Int.natCast_nonneg _,by omega⟩ (letV (y:=i) (Nat.zero_add _) (bindE hget (letV (wL (by omega)) (letF (decide_eq_false (by omega)) (less_j1 _ (.inr rfl) hb hu hi hn)))))
theorem nless_s0 {v u i:Nat} (hb:lnB 4294967296 v ≤ 100000) (hu:u ≤ v) (hi:i < lnB 4294967296 v) :
    Ref2.lessH.s0 (Nt u) (mixB 4294967296 (lnB 4294967296 v) i (v - u) v) (boB 4294967296 v u i:Nat) (i:Nat) = some (.inl (mixB 4294967296 (lnB 4294967296 v) (i + 1) (v - u) v,((boB 4294967296 v u (i + 1):Nat):Int),((i + 1:Nat):Int))) ∧
    Ref2.lessHH.s0 (Nt u) (mixB 4294967296 (lnB 4294967296 v) i (v - u) v) (boB 4294967296 v u i:Nat) (i:Nat) = some (.inl (mixB 4294967296 (lnB 4294967296 v) (i + 1) (v - u) v,((boB 4294967296 v u (i + 1):Nat):Int),((i + 1:Nat):Int))):=by
  have hlen:(mixB 4294967296 (lnB 4294967296 v) i (v - u) v).length = lnB 4294967296 v:=mixB_len _ _ _ _ _
  have hub:=bdB_lt (B:=4294967296) (by decide) u i
  have hbo:=bo32_le v u i
  by_cases hi2:i < lnB 4294967296 u
  · obtain ⟨k1,k2⟩:=less_j0 (n:=boB 4294967296 v u i + bdB 4294967296 u i) hb hu hi rfl
    have g:(Nt u)[i]? = some ((bdB 4294967296 u i:Nat):Int):=dgB_get hi2
    constructor
    · unfold Ref2.lessH.s0
      exact letV (y:=((lnB 4294967296 v:Nat):Int)) (by rw [hlen]) (letT (decide_eq_true (by omega)) (letV (y:=((lnB 4294967296 u:Nat):Int)) (by rw [Nt_len]) (letT (decide_eq_true (by omega)) (chkE (Int.natCast_nonneg _) (bindE g (letV (wL (by omega)) (letV (wadd _ _ (by omega)) k1)))))))
    · unfold Ref2.lessHH.s0
      exact letV (y:=((lnB 4294967296 v:Nat):Int)) (by rw [hlen]) (letT (decide_eq_true (by omega)) (letV (y:=((lnB 4294967296 u:Nat):Int)) (by rw [Nt_len]) (letT (decide_eq_true (by omega)) (chkE ⟨Int.natCast_nonneg _,by rw [Nt_len]; omega⟩ (letV (y:=i) (Nat.zero_add _) (bindE g (letV (wL (by omega)) (letV (wadd _ _ (by omega)) k2))))))))
  · have h0:bdB 4294967296 u i = 0:=bdB_high h32 (by omega)
    obtain ⟨k1,k2⟩:=less_j0 (n:=boB 4294967296 v u i) hb hu hi (by rw [h0]; rfl)
    constructor
    · unfold Ref2.lessH.s0
      exact letV (y:=((lnB 4294967296 v:Nat):Int)) (by rw [hlen]) (letT (decide_eq_true (by omega)) (letV (y:=((lnB 4294967296 u:Nat):Int)) (by rw [Nt_len]) (letF (decide_eq_false (by omega)) k1)))
    · unfold Ref2.lessHH.s0
      exact letV (y:=((lnB 4294967296 v:Nat):Int)) (by rw [hlen]) (letT (decide_eq_true (by omega)) (letV (y:=((lnB 4294967296 u:Nat):Int)) (by rw [Nt_len]) (letF (decide_eq_false (by omega)) k2)))
theorem lessH_eq {v u:Nat} (hb:lnB 4294967296 v ≤ 100000) (hu:u ≤ v):Ref2.lessH (Nt v) (Nt u) = some (Nt (v - u)):=by
  have hst:mixB 4294967296 (lnB 4294967296 v) 0 (v - u) v = Nt v:=mixB_start _ _ _ _ _ fun j hj=>by omega
  unfold Ref2.lessH Ref2.lessH.l0
  have key:=loopO_run (step:=fun x:(List Int) × Int × Int=>Ref2.lessH.s0 (Nt u) x.1 x.2.1 x.2.2) (r:=some (Nt (v - u)))
    (fun i=>(mixB 4294967296 (lnB 4294967296 v) i (v - u) v,((boB 4294967296 v u i:Nat):Int),((i:Nat):Int))) (lnB 4294967296 v) (fun i hi=>(nless_s0 hb hu hi).1) ?_
  · simp only [hst,boB_zero] at key; exact key
  refine loopO_end ?_
  show Ref2.lessH.s0 (Nt u) (mixB 4294967296 (lnB 4294967296 v) (lnB 4294967296 v) (v - u) v) (boB 4294967296 v u (lnB 4294967296 v):Nat) (lnB 4294967296 v:Nat) = _
  rw [show mixB 4294967296 (lnB 4294967296 v) (lnB 4294967296 v) (v - u) v = dkB 4294967296 (lnB 4294967296 v) (v - u) from mixB_stop fun j h1 h2=>by omega]
  unfold Ref2.lessH.s0
  refine letV (y:=((lnB 4294967296 v:Nat):Int)) (by rw [dkB_len]) (letF (decide_eq_false (by omega)) ?_)
  rw [ntrimH_eq (lnB_mono h32 (Nat.sub_le _ _)) (by omega)]; rfl
theorem lessHH_eq {v u:Nat} (hb:lnB 4294967296 v ≤ 100000) (hu:u ≤ v):Ref2.lessHH (Nt v) (Nt u) = some (Nt (v - u)):=by
  have hst:mixB 4294967296 (lnB 4294967296 v) 0 (v - u) v = Nt v:=mixB_start _ _ _ _ _ fun j hj=>by omega
  unfold Ref2.lessHH Ref2.lessHH.l0
  have key:=loopO_run (step:=fun x:(List Int) × Int × Int=>Ref2.lessHH.s0 (Nt u) x.1 x.2.1 x.2.2) (r:=some (Nt (v - u)))
    (fun i=>(mixB 4294967296 (lnB 4294967296 v) i (v - u) v,((boB 4294967296 v u i:Nat):Int),((i:Nat):Int))) (lnB 4294967296 v) (fun i hi=>(nless_s0 hb hu hi).2) ?_
  · simp only [hst,boB_zero] at key; exact key
  refine loopO_end ?_
  show Ref2.lessHH.s0 (Nt u) (mixB 4294967296 (lnB 4294967296 v) (lnB 4294967296 v) (v - u) v) (boB 4294967296 v u (lnB 4294967296 v):Nat) (lnB 4294967296 v:Nat) = _
  rw [show mixB 4294967296 (lnB 4294967296 v) (lnB 4294967296 v) (v - u) v = dkB 4294967296 (lnB 4294967296 v) (v - u) from mixB_stop fun j h1 h2=>by omega]
  unfold Ref2.lessHH.s0
  refine letV (y:=((lnB 4294967296 v:Nat):Int)) (by rw [dkB_len]) (letF (decide_eq_false (by omega)) ?_)
  rw [ntrimH_eq (lnB_mono h32 (Nat.sub_le _ _)) (by omega)]; rfl
theorem half_s0 {v i:Nat} (hb:lnB 4294967296 v ≤ 100000) (hi:i < lnB 4294967296 v) :
    Ref2.halfH.s0 (mixB 4294967296 (lnB 4294967296 v) i (v / 2) v) (i:Nat) = some (.inl (mixB 4294967296 (lnB 4294967296 v) (i + 1) (v / 2) v,((i + 1:Nat):Int))):=by
  have hv:=bdB_lt (B:=4294967296) (by decide) v i
  have hv1:=bdB_lt (B:=4294967296) (by decide) v (i + 1)
  have hd:bdB 4294967296 (v / 2) i = bdB 4294967296 v i / 2 + bdB 4294967296 v (i + 1) % 2 * 2147483648:=half_digit v i
  have hset:=mixB_set (B:=4294967296) (n:=lnB 4294967296 v) (p:=i) (F:=v / 2) (S:=v) hi
  have hget:=mixB_get (B:=4294967296) (n:=lnB 4294967296 v) (p:=i) (F:=v / 2) (S:=v) hi
  rw [if_neg (by omega)] at hget
  have hlen:(mixB 4294967296 (lnB 4294967296 v) i (v / 2) v).length = lnB 4294967296 v:=mixB_len _ _ _ _ _
  unfold Ref2.halfH.s0
  refine letV (y:=((lnB 4294967296 v:Nat):Int)) (by rw [hlen]) (letT (decide_eq_true (by omega)) (chkE ⟨Int.natCast_nonneg _,by omega⟩ (letV (y:=i) (Nat.zero_add _) (bindE hget (chkE (by decide) (letV (shr32 _ 1 (by decide)) (chkE ⟨Int.natCast_nonneg _,by omega⟩ (letV (y:=i) (Nat.zero_add _) (bindE hget
    (letV rfl (letV (iadd i 1 (by omega)) (letV (y:=((lnB 4294967296 v:Nat):Int)) (by rw [List.length_set,hlen]) ?_))))))))))))
  have hlen2:((mixB 4294967296 (lnB 4294967296 v) i (v / 2) v).set i ((bdB 4294967296 v i / 2 ^ 1:Nat):Int)).length = lnB 4294967296 v:=by rw [List.length_set,hlen]
  by_cases h1:i + 1 < lnB 4294967296 v
  · have ga:((mixB 4294967296 (lnB 4294967296 v) i (v / 2) v).set i ((bdB 4294967296 v i / 2 ^ 1:Nat):Int))[i]? = some ((bdB 4294967296 v i / 2 ^ 1:Nat):Int):=by rw [List.getElem?_set_self (by omega)]
    have gb:((mixB 4294967296 (lnB 4294967296 v) i (v / 2) v).set i ((bdB 4294967296 v i / 2 ^ 1:Nat):Int))[i + 1]? = some ((bdB 4294967296 v (i + 1):Nat):Int):=by
      rw [List.getElem?_set_ne (by omega),mixB_get h1,if_neg (by omega)]
    have e:((bdB 4294967296 v i / 2 ^ 1 ||| bdB 4294967296 v (i + 1) * 2 ^ 31 % 4294967296:Nat):Int) = ((bdB 4294967296 (v / 2) i:Nat):Int):=by
      have:bdB 4294967296 v (i + 1) * 2 ^ 31 % 4294967296 = bdB 4294967296 v (i + 1) % 2 * 2147483648:=by omega
      rw [this,or_low (s:=31) (by show _ < 2147483648; omega) (Nat.mul_mod_left _ _),hd]
    refine letT (decide_eq_true (by omega)) (chkE ⟨Int.natCast_nonneg _,by omega⟩ (letV (y:=i) (Nat.zero_add _) (bindE ga (letV (iadd i 1 (by omega)) (chkE ⟨Int.natCast_nonneg _,by omega⟩ (letV (y:=i + 1) (Nat.zero_add _) (bindE gb (chkE (by decide) (letV (shl32 _ 31 (by decide))
      (letV ((or32 (by omega) (Nat.mod_lt _ (by decide))).trans e) (chkE ⟨Int.natCast_nonneg _,by omega⟩ (letV (y:=i) (Nat.zero_add _) (bindE ga (letV rfl (letV (iadd i 1 (by omega)) ?_)))))))))))))))
    rw [List.set_set,hset]
  · have h0:bdB 4294967296 v (i + 1) = 0:=bdB_high h32 (by omega)
    refine letF (decide_eq_false (by omega)) (letV (iadd i 1 (by omega)) ?_)
    rw [h0] at hd
    rw [show bdB 4294967296 v i / 2 ^ 1 = bdB 4294967296 (v / 2) i by omega,hset]
theorem halfH_eq {v:Nat} (hb:lnB 4294967296 v ≤ 100000):Ref2.halfH (Nt v) = some (Nt (v / 2)):=by
  have hst:mixB 4294967296 (lnB 4294967296 v) 0 (v / 2) v = Nt v:=mixB_start _ _ _ _ _ fun j hj=>by omega
  unfold Ref2.halfH Ref2.halfH.l0
  have key:=loopO_run (step:=fun x:(List Int) × Int=>Ref2.halfH.s0 x.1 x.2) (r:=some (Nt (v / 2))) (fun i=>(mixB 4294967296 (lnB 4294967296 v) i (v / 2) v,((i:Nat):Int))) (lnB 4294967296 v) (fun i hi=>half_s0 hb hi) ?_
  · simp only [hst] at key; exact key
  refine loopO_end ?_
  show Ref2.halfH.s0 (mixB 4294967296 (lnB 4294967296 v) (lnB 4294967296 v) (v / 2) v) (lnB 4294967296 v:Nat) = _
  rw [show mixB 4294967296 (lnB 4294967296 v) (lnB 4294967296 v) (v / 2) v = dkB 4294967296 (lnB 4294967296 v) (v / 2) from mixB_stop fun j h1 h2=>by omega]
  unfold Ref2.halfH.s0
  refine letV (y:=((lnB 4294967296 v:Nat):Int)) (by rw [dkB_len]) (letF (decide_eq_false (by omega)) ?_)
  rw [ntrimH_eq (lnB_mono h32 (Nat.div_le_self _ _)) (by omega)]; rfl
theorem value_run {v:Nat} (hv:v < 18446744073709551616):∀ m:Nat,m ≤ lnB 4294967296 v → Ref2.nat.value.l0 (Nt v) ((v / 4294967296 ^ m:Nat):Int) ((m:Int) - 1) = some (v:Int)
  | 0,_=>by
    unfold Ref2.nat.value.l0
    refine loopO_end ?_
    show Ref2.nat.value.s0 (Nt v) ((v / 4294967296 ^ 0:Nat):Int) (((0:Nat):Int) - 1) = _
    unfold Ref2.nat.value.s0
    exact letF rfl (by rw [Nat.pow_zero,Nat.div_one])
  | m + 1,hm=>by
    have hl:lnB 4294967296 v ≤ 2:=lnB_two h32 hv
    have g:(Nt v)[m]? = some ((bdB 4294967296 v m:Nat):Int):=dgB_get (by omega)
    have hb:=bdB_lt (B:=4294967296) (by decide) v m
    have hs:=divB_split (B:=4294967296) v m
    have hle:v / 4294967296 ^ m ≤ v:=Nat.div_le_self _ _
    unfold Ref2.nat.value.l0
    refine loopO_next (t:=(((v / 4294967296 ^ m:Nat):Int),(m:Int) - 1)) ?_ (value_run hv m (by omega))
    show Ref2.nat.value.s0 (Nt v) ((v / 4294967296 ^ (m + 1):Nat):Int) (((m + 1:Nat):Int) - 1) = _
    rw [show ((m + 1:Nat):Int) - 1 = (m:Int) by omega]
    unfold Ref2.nat.value.s0
    refine letT (decide_eq_true (by omega)) (chkE (by decide) (letV (y:=((v / 4294967296 ^ (m + 1) * 4294967296:Nat):Int)) ((u_shl _ 32).trans ?_) (chkE (Int.natCast_nonneg _) (bindE g (letV (wL (by omega)) (letV (y:=((v / 4294967296 ^ m:Nat):Int)) ((u_or _ _ (by omega) (by omega)).trans ?_) (letV (wi (by omega) (by omega)) rfl)))))))
    · rw [Nat.mod_eq_of_lt (show v / 4294967296 ^ (m + 1) * 2 ^ 32 < 18446744073709551616 by omega)]
    · rw [Nat.or_comm,or_low (s:=32) hb (Nat.mul_mod_left _ _),hs,Nat.add_comm]
theorem value_eq {v:Nat} (hv:v < 18446744073709551616):Ref2.nat.value (Nt v) = some (v:Int):=by
  have hl:lnB 4294967296 v ≤ 2:=lnB_two h32 hv
  have key:=value_run hv (lnB 4294967296 v) (Nat.le_refl _)
  rw [Nat.div_eq_of_lt (lt_lnB h32 v)] at key
  unfold Ref2.nat.value
  exact letV (y:=((lnB 4294967296 v:Nat):Int)) (by rw [Nt_len]) (letV (wi (by omega) (by omega)) key)
end Go.Q
namespace Go.Q
open Go
set_option maxRecDepth 10000
theorem bit_nums {X j t:Nat} (ht:t < 32) (hX:X % 2 ^ (32 * j + t + 1) = 0) :
    bdB 4294967296 (X + 2 ^ (32 * j + t)) j = bdB 4294967296 X j ||| 2 ^ t ∧ (∀ i,i < j → bdB 4294967296 (X + 2 ^ (32 * j + t)) i = bdB 4294967296 X i) ∧ (∀ i,j < i → bdB 4294967296 (X + 2 ^ (32 * j + t)) i = bdB 4294967296 X i):=by
  have hp:2 ^ (32 * j + t) = 2 ^ t * 4294967296 ^ j:=by rw [Nat.pow_add,Nat.pow_mul,Nat.mul_comm]
  have e1:(X + 2 ^ (32 * j + t)) / 4294967296 ^ j = X / 4294967296 ^ j + 2 ^ t:=by rw [hp,Nat.add_mul_div_right _ _ (powB_pos h32 j)]
  obtain ⟨m,hm⟩:∃ m,X = 2 ^ (32 * j + t + 1) * m:=⟨X / 2 ^ (32 * j + t + 1),by have:=Nat.div_add_mod X (2 ^ (32 * j + t + 1)); omega⟩
  have hc:X / 4294967296 ^ j = 2 ^ (t + 1) * m:=by
    rw [hm,show 32 * j + t + 1 = 32 * j + (t + 1) by omega,Nat.pow_add,Nat.pow_mul,Nat.mul_assoc]
    exact Nat.mul_div_cancel_left _ (powB_pos h32 j)
  obtain ⟨w,hw⟩:∃ w,4294967296 = 2 ^ (t + 1) * w:=⟨2 ^ (31 - t),by rw [← Nat.pow_add,show t + 1 + (31 - t) = 32 by omega]⟩
  have hcm:X / 4294967296 ^ j % 4294967296 = 2 ^ (t + 1) * (m % w):=by rw [hc,hw,Nat.mul_mod_mul_left]
  have ht1:2 ^ t < 2 ^ (t + 1):=Nat.pow_lt_pow_right (by decide) (by omega)
  have hlt:X / 4294967296 ^ j % 4294967296 + 2 ^ t < 4294967296:=by
    have h1:=Nat.mod_lt (X / 4294967296 ^ j) (show 0 < 4294967296 by decide)
    rw [hcm] at h1 ⊢
    rw [hw] at h1
    have h2:=Nat.lt_of_mul_lt_mul_left h1
    have:2 ^ (t + 1) * (m % w) + 2 ^ (t + 1) ≤ 2 ^ (t + 1) * w:=by rw [← Nat.mul_succ]; exact Nat.mul_le_mul_left _ h2
    rw [← hw] at this; omega
  refine ⟨?_,fun i hi=>?_,fun i hi=>?_⟩
  · show (X + _) / _ % _ = (X / _ % _) ||| _
    rw [e1,hcm,← Nat.two_pow_add_eq_or_of_lt ht1,← hcm]
    omega
  · rw [hp]; exact bdB_low h32 hi
  · obtain ⟨k,rfl⟩:∃ k,i = j + 1 + k:=⟨i - (j + 1),by omega⟩
    have e2:(X + 2 ^ (32 * j + t)) / 4294967296 ^ (j + 1) = X / 4294967296 ^ (j + 1):=by
      rw [divB_succ,divB_succ,e1]; omega
    show (X + _) / _ % _ = X / _ % _
    rw [show (4294967296:Nat) ^ (j + 1 + k) = 4294967296 ^ (j + 1) * 4294967296 ^ k from Nat.pow_add _ _ _,← Nat.div_div_eq_div_mul,← Nat.div_div_eq_div_mul,e2]
theorem div_step1 {r d Q n m:Nat} {Q2:Nat} (hr:lnB 4294967296 r ≤ 100000) (hd:lnB 4294967296 d ≤ 100000) (hm:m < 32 * n) (hn:n ≤ 100000) (hQ:Q % 2 ^ (m + 1) = 0) (hQ2:Q2 = if d ≤ r then Q + 2 ^ m else Q) :
    Ref2.divide.s0 (Nt r) (Nt d) (dkB 4294967296 n Q) (m:Nat) = some (.inl (Nt (if d ≤ r then r - d else r),Nt (d / 2),dkB 4294967296 n Q2,(m:Int) - 1)):=by
  unfold Ref2.divide.s0
  refine letT (decide_eq_true (by omega)) (bindE (ncomp_eq r d hr hd) ?_)
  by_cases h:d ≤ r
  · rw [if_pos h] at hQ2 ⊢
    have hcmp:decide (cmpI r d ≥ 0) = true:=decide_eq_true (by unfold cmpI; rw [if_neg (by omega)]; split <;> decide)
    have hq:((m:Int)).tdiv 32 = ((m / 32:Nat):Int):=by rw [Int.tdiv_eq_ediv_of_nonneg (by omega)]; omega
    have hrm:((m:Int)).tmod 32 = ((m % 32:Nat):Int):=by rw [Int.tmod_eq_emod_of_nonneg (by omega)]; omega
    have hj:m / 32 < n:=by omega
    have e:m = 32 * (m / 32) + m % 32:=by omega
    obtain ⟨f1,f2,f3⟩:=bit_nums (X:=Q) (j:=m / 32) (t:=m % 32) (by omega) (by rw [← e]; exact hQ)
    rw [← e] at f1 f2 f3
    have hst:dkB 4294967296 n Q = mixB 4294967296 n (m / 32) (Q + 2 ^ m) Q:=(mixB_start _ _ _ _ _ fun i hi=>f2 i hi).symm
    have hend:mixB 4294967296 n (m / 32 + 1) (Q + 2 ^ m) Q = dkB 4294967296 n (Q + 2 ^ m):=mixB_stop fun i h1 _=>(f3 i h1).symm
    have hset:=mixB_set (B:=4294967296) (n:=n) (p:=m / 32) (F:=Q + 2 ^ m) (S:=Q) hj
    have hget:=mixB_get (B:=4294967296) (n:=n) (p:=m / 32) (F:=Q + 2 ^ m) (S:=Q) hj
    rw [if_neg (by omega)] at hget
    have hlen:(mixB 4294967296 n (m / 32) (Q + 2 ^ m) Q).length = n:=mixB_len _ _ _ _ _
    have hp:2 ^ (m % 32) ≤ 2147483648:=by rw [show (2147483648:Nat) = 2 ^ 31 by decide]; exact Nat.pow_le_pow_right (by decide) (by omega)
    have hb:=bdB_lt (B:=4294967296) (by decide) Q (m / 32)
    rw [hst,hQ2,← hend,← hset,f1]
    have h1:IntKind.u32.wrap ((1:Int) * 2 ^ (min (((m % 32:Nat):Int).toNat) IntKind.u32.bits)) = ((2 ^ (m % 32):Nat):Int):=by
      have:=shl32 1 (m % 32) (by omega)
      have e0:1 * 2 ^ (m % 32) % 4294967296 = 2 ^ (m % 32):=by rw [Nat.one_mul]; exact Nat.mod_eq_of_lt (by omega)
      rw [e0] at this
      exact this
    refine letT hcmp (bindE (lessHH_eq hr h) (chkE (by decide) (letV (y:=((m / 32:Nat):Int)) (by rw [hq,wi (by omega) (by omega)]) (chkE ⟨Int.natCast_nonneg _,by omega⟩ (letV (y:=m / 32) (Nat.zero_add _) (bindE hget (chkE (by decide) (letV hrm (chkE (Int.natCast_nonneg _) (letV h1
      (letV (or32 hb (by omega)) (chkE ⟨Int.natCast_nonneg _,by omega⟩ (letV (y:=m / 32) (Nat.zero_add _) (bindE hget (letV rfl (bindE (halfH_eq hd) (letV (wi (by omega) (by omega)) rfl)))))))))))))))))
  · rw [if_neg h] at hQ2 ⊢
    have hcmp:decide (cmpI r d ≥ 0) = false:=decide_eq_false (by unfold cmpI; rw [if_pos (by omega)]; decide)
    rw [hQ2]
    exact letF hcmp (bindE (halfH_eq hd) (letV (wi (by omega) (by omega)) rfl))
theorem div_run {a b n:Nat} (hb0:0 < b) (ha:lnB 4294967296 a ≤ 100000) (hn:n ≤ 100000) (hq:a / b < 4294967296 ^ n):∀ (m Q r d:Nat),m ≤ 32 * n → Q % 2 ^ m = 0 → a = Q * b + r → r < b * 2 ^ m → (0 < m → d = b * 2 ^ (m - 1)) → lnB 4294967296 d ≤ 100000 →
    Ref2.divide.l0 (Nt r) (Nt d) (dkB 4294967296 n Q) ((m:Int) - 1) = some (Nt (a / b),Nt (a % b)):=by
  intro m
  induction m with
  | zero =>
    intro Q r d _ _ h1 h2 _ _
    obtain ⟨e1,e2⟩:=div_end h1 (by simpa using h2)
    rw [e1] at hq ⊢
    rw [e2]
    unfold Ref2.divide.l0
    refine loopO_end ?_
    show Ref2.divide.s0 (Nt r) (Nt d) (dkB 4294967296 n Q) (((0:Nat):Int) - 1) = _
    unfold Ref2.divide.s0
    refine letF rfl ?_
    rw [ntrim_eq ((lnB_iff h32 _ _).1 hq) (by omega)]; rfl
  | succ m ih =>
    intro Q r d hm hQ h1 h2 hd hdl
    have hd:=hd (by omega)
    rw [Nat.add_sub_cancel] at hd
    have hr:lnB 4294967296 r ≤ 100000:=Nat.le_trans (lnB_mono h32 (by omega)) ha
    unfold Ref2.divide.l0
    refine loopO_next (t:=(Nt (if d ≤ r then r - d else r),Nt (d / 2),dkB 4294967296 n (if d ≤ r then Q + 2 ^ m else Q),(m:Int) - 1)) ?_ ?_
    · have e:((m + 1:Nat):Int) - 1 = (m:Int):=by omega
      rw [e]
      exact div_step1 hr hdl (by omega) hn hQ rfl
    · obtain ⟨q,hq2⟩:∃ q,Q = 2 ^ (m + 1) * q:=⟨Q / 2 ^ (m + 1),by have:=Nat.div_add_mod Q (2 ^ (m + 1)); omega⟩
      have hp:2 ^ (m + 1) = 2 * 2 ^ m:=by rw [Nat.pow_succ,Nat.mul_comm]
      refine ih (if d ≤ r then Q + 2 ^ m else Q) (if d ≤ r then r - d else r) (d / 2) (by omega) ?_ ?_ ?_ (fun h0=>?_) (Nat.le_trans (lnB_mono h32 (Nat.div_le_self _ _)) hdl)
      · have e:Q = 2 ^ m * (2 * q):=by rw [hq2,hp,Nat.mul_comm 2,Nat.mul_assoc]
        split
        · rw [e,← Nat.mul_succ]; exact Nat.mul_mod_right _ _
        · rw [e]; exact Nat.mul_mod_right _ _
      · split
        · rw [Nat.add_mul,Nat.mul_comm (2 ^ m),← hd]; omega
        · exact h1
      · have e:b * 2 ^ (m + 1) = 2 * d:=by rw [hd,hp,Nat.mul_left_comm]
        split <;> omega
      · rw [hd]
        obtain ⟨k,rfl⟩:∃ k,m = k + 1:=⟨m - 1,by omega⟩
        rw [Nat.add_sub_cancel,Nat.pow_succ,← Nat.mul_assoc,Nat.mul_div_cancel _ (by decide)]
theorem divide_eq {a b:Nat} (hb:0 < b) (ha:lnB 4294967296 a ≤ 40000) (hbl:lnB 4294967296 b ≤ 40000):Ref2.divide (Nt a) (Nt b) = some (Nt (a / b),Nt (a % b)):=by
  obtain ⟨E,hE⟩:∃ E:Nat,E = 40000:=⟨_,rfl⟩
  have la:bl a ≤ 32 * E:=bl_le_iff.2 (by rw [Nat.pow_mul]; exact lt_up h32 (lt_lnB h32 a) (by omega))
  have lb:bl b ≤ 32 * E:=bl_le_iff.2 (by rw [Nat.pow_mul]; exact lt_up h32 (lt_lnB h32 b) (by omega))
  unfold Ref2.divide
  refine bindE (bits_eq (by omega)) (bindE (bits_eq (by omega)) (letV (wi (by omega) (by omega)) ?_))
  by_cases h:bl a < bl b
  · have hlt:a < b:=by
      rcases Nat.lt_or_ge a b with h1 | h1
      · exact h1
      · have:=bl_le_iff.1 (Nat.le_refl (bl a)); have:=bl_le_iff.2 (Nat.lt_of_le_of_lt h1 this); omega
    refine letT (decide_eq_true (by omega)) ?_
    rw [Nat.div_eq_of_lt hlt,Nat.mod_eq_of_lt hlt,show Nt 0 = [] from dgB_zero _]
  · obtain ⟨k,hk⟩:∃ k,bl a = bl b + k:=⟨bl a - bl b,by omega⟩
    have ek:(bl a:Int) - (bl b:Int) = (k:Int):=by omega
    have h1:a < b * 2 ^ (k + 1):=by
      have e1:=bl_lt a
      have e2:=bl_le hb
      have e3:=bl_pos hb
      have:2 ^ bl a = 2 ^ (bl b - 1) * 2 ^ (k + 1):=by rw [← Nat.pow_add]; congr 1; omega
      rw [this] at e1
      exact Nat.lt_of_lt_of_le e1 (Nat.mul_le_mul_right _ e2)
    have hd:lnB 4294967296 (b * 2 ^ k) ≤ 90000:=Nat.le_trans (up_len (a:=b) (k:=k) (q:=k / 32) (s:=k % 32) (by omega) (by omega)) (by omega)
    have hq:((k:Int)).tdiv 32 = ((k / 32:Nat):Int):=by rw [Int.tdiv_eq_ediv_of_nonneg (by omega)]; omega
    rw [ek]
    refine letF (decide_eq_false (by omega)) (chkE ?_ (letV (List.nil_append _) (bindE (upN_eq (by omega)) (chkE (by decide) (letV (y:=((k / 32:Nat):Int)) (by rw [hq,wi (by omega) (by omega)]) (letV (iadd (k / 32) 1 (by omega)) (chkE ⟨by omega,by omega,by omega,by omega⟩ (letV (y:=dkB 4294967296 (k / 32 + 1) 0) (dkB_none (B:=4294967296) h32) ?_))))))))
    · rw [Nt_len]; show (0 + _) * 4 ≤ _; omega
    · have key:=div_run (a:=a) (b:=b) (n:=k / 32 + 1) hb (by omega) (by omega) ?_ (k + 1) 0 a (b * 2 ^ k) (by omega) (Nat.zero_mod _) (by omega) h1 (fun _=>rfl) (by omega)
      · rw [show ((k + 1:Nat):Int) - 1 = (k:Int) by omega] at key; exact key
      · have e:a / b < 2 ^ (k + 1):=by rw [Nat.div_lt_iff_lt_mul hb,Nat.mul_comm]; exact h1
        refine Nat.lt_of_lt_of_le e ?_
        rw [show (4294967296:Nat) = 2 ^ 32 by decide,← Nat.pow_mul]
        exact Nat.pow_le_pow_right (by decide) (by omega)
end Go.Q
