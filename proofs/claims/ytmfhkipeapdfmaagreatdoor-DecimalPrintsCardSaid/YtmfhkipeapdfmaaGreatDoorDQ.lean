import Derived.Test.YtmfhkipeapdfmaaGreatDoorDG3
import Derived.Test.YtmfhkipeapdfmaaGreatDoorZU
import Derived.Test.YtmfhkipeapdfmaaGreatDoorAB
import Derived.Test.YtmfhkipeapdfmaaGreatDoorAC
namespace Go.Q
open Go
set_option maxRecDepth 10000
def G (v:Nat):List Int:=dgB 1000000000 v
theorem wN {x:Nat} (h:x < 9223372036854775808):IntKind.i64.wrap (x:Int) = x:=wi (by omega) (by omega)
theorem h9:1 < 1000000000:=by decide
theorem trim_run (n:Nat):∀ m,lnB 1000000000 n + m ≤ 1000000 → Dec.big.trim.l0 (dkB 1000000000 (lnB 1000000000 n + m) n) = some (G n)
  | 0,hb=>by
    rw [Dec.big.trim.l0_eq]
    have e:dkB 1000000000 (lnB 1000000000 n + 0) n = dgB 1000000000 n:=rfl
    rw [e]
    rcases Nat.eq_zero_or_pos n with rfl | hn
    · have hs:Dec.big.trim.s0 (dgB 1000000000 0) = some (.inr (dgB 1000000000 0)):=by rw [dgB_zero]; rfl
      rw [hs]; rfl
    · have hl:=lnB_gt h9 hn
      obtain ⟨h1,h2⟩:=dkB_trim_stop h9 hn
      have hs:Dec.big.trim.s0 (dgB 1000000000 n) = some (.inr (dgB 1000000000 n)):=by
        unfold Dec.big.trim.s0
        refine letV (by rw [dgB_len]) (letT (decide_eq_true (by omega)) (letV rfl (letV (y:=((lnB 1000000000 n - 1:Nat):Int)) ?_ (chkE (Int.natCast_nonneg _) (bindE h1 (letF ?_ rfl))))))
        · rw [dgB_len,wi (by omega) (by omega)]; omega
        · exact beq_false_of_ne h2
      rw [hs]; rfl
  | m + 1,hb=>by
    rw [Dec.big.trim.l0_eq]
    obtain ⟨h1,h2⟩:=dkB_trim_zero (B:=1000000000) (k:=lnB 1000000000 n + (m + 1)) (n:=n) h9 (by omega) (by omega)
    have hs:Dec.big.trim.s0 (dkB 1000000000 (lnB 1000000000 n + (m + 1)) n) = some (.inl (dkB 1000000000 (lnB 1000000000 n + m) n)):=by
      unfold Dec.big.trim.s0
      refine letV (by rw [dkB_len]) (letT (decide_eq_true (by omega)) (letV rfl (letV (y:=((lnB 1000000000 n + (m + 1) - 1:Nat):Int)) ?_ (chkE (Int.natCast_nonneg _) (bindE h1 (letT rfl ?_))))))
      · rw [dkB_len,wi (by omega) (by omega)]; omega
      · unfold Dec.big.trim.j0
        refine letV (by rw [dkB_len]) (letV (y:=((lnB 1000000000 n + (m + 1) - 1:Nat):Int)) ?_ (chkE ⟨Int.natCast_nonneg _,?_⟩ (letV ?_ rfl)))
        · rw [wi (by omega) (by omega)]; omega
        · rw [dkB_len]; omega
        · show ((dkB 1000000000 (lnB 1000000000 n + (m + 1)) n).drop 0).take (lnB 1000000000 n + (m + 1) - 1 - 0) = _
          rw [List.drop_zero,Nat.sub_zero,h2]; rfl
    rw [hs]
    exact trim_run n m (by omega)
theorem trim_eq {k n:Nat} (h:lnB 1000000000 n ≤ k) (hk:k ≤ 1000000):Dec.big.trim (dkB 1000000000 k n) = some (G n):=by
  have:=trim_run n (k - lnB 1000000000 n) (by omega)
  rw [show lnB 1000000000 n + (k - lnB 1000000000 n) = k by omega] at this
  exact this
theorem cab_lt_max {v n i:Nat} (hn:n < 1073741824):bdB 1000000000 v i * n + caB 1000000000 v n i < 2000000000000000000:=by
  have h1:=bdB_lt (B:=1000000000) (by decide) v i
  rcases Nat.eq_zero_or_pos n with rfl | h
  · have:caB 1000000000 v 0 i = 0:=by unfold caB; simp
    rw [this]; omega
  · have h2:=caB_lt h9 v n i h
    have h3:bdB 1000000000 v i * n ≤ 999999999 * 1073741824:=Nat.mul_le_mul (by omega) (by omega)
    omega
theorem times_s0 {v n i:Nat} (hn:n < 1073741824) (hl:lnB 1000000000 v ≤ 100000) (hi:i < lnB 1000000000 v) :
    Dec.big.times.s0 (G v) n (lnB 1000000000 v:Nat) (dkB 1000000000 i (v * n)) (caB 1000000000 v n i:Nat) (i:Nat) =
      some (.inl (dkB 1000000000 (i + 1) (v * n),((caB 1000000000 v n (i + 1):Nat):Int),((i + 1:Nat):Int))):=by
  have hm:=cab_lt_max (v:=v) (n:=n) (i:=i) hn
  have h1:=bdB_lt (B:=1000000000) (by decide) v i
  unfold Dec.big.times.s0
  refine letT (decide_eq_true (by omega)) (chkE (Int.natCast_nonneg _) (bindE (dgB_get hi) (letV (y:=((bdB 1000000000 v i * n:Nat):Int)) ?_ (letV (y:=((bdB 1000000000 v i * n + caB 1000000000 v n i:Nat):Int)) ?_ (chkE (by decide)
    (letV (y:=((bdB 1000000000 (v * n) i:Nat):Int)) ?_ (chkE ?_ (letV (dk_push _ _ rfl) (chkE (by decide) (letV (y:=((caB 1000000000 v n (i + 1):Nat):Int)) ?_ (letV (y:=((i + 1:Nat):Int)) ?_ rfl)))))))))))
  · have:bdB 1000000000 v i * n < 2000000000000000000:=Nat.lt_of_le_of_lt (Nat.le_add_right _ _) hm
    exact (congrArg _ (Int.natCast_mul _ _).symm).trans (wN (Nat.lt_trans this (by decide)))
  · exact (congrArg _ (Int.natCast_add _ _).symm).trans (wN (Nat.lt_trans hm (by decide)))
  · rw [← mul_digit h9,Int.tmod_eq_emod_of_nonneg (by omega)]; rfl
  · rw [dkB_len]; show (i + 1) * 8 ≤ _; omega
  · rw [← mul_carry h9,Int.tdiv_eq_ediv_of_nonneg (by omega),wi (by omega) (by omega)]; rfl
  · rw [wi (by omega) (by omega)]; rfl
theorem times_s1 {v k:Nat} (hl:lnB 1000000000 v ≤ 100010) (hk:k < lnB 1000000000 v) (hc:v / 1000000000 ^ k < 9223372036854775808) :
    Dec.big.times.s1 (dkB 1000000000 k v) (v / 1000000000 ^ k:Nat) = some (.inl (dkB 1000000000 (k + 1) v,((v / 1000000000 ^ (k + 1):Nat):Int))):=by
  have hp:0 < v / 1000000000 ^ k:=by
    rcases Nat.eq_zero_or_pos (v / 1000000000 ^ k) with h | h
    · rw [up_none h9] at h; omega
    · exact h
  unfold Dec.big.times.s1
  refine letT (decide_eq_true (by omega)) (chkE (by decide) (letV (y:=((bdB 1000000000 v k:Nat):Int)) ?_ (chkE ?_ (letV (dk_push _ _ rfl) (chkE (by decide) (letV (y:=((v / 1000000000 ^ (k + 1):Nat):Int)) ?_ rfl))))))
  · rw [up_digit,Int.tmod_eq_emod_of_nonneg (by omega)]; rfl
  · rw [dkB_len]; show (k + 1) * 8 ≤ _; omega
  · rw [← up_left,Int.tdiv_eq_ediv_of_nonneg (by omega),wi (by omega) (by omega)]; rfl
theorem times_eq (v n:Nat) (hn:n < 1073741824) (hl:lnB 1000000000 v ≤ 100000):Dec.big.times (G v) (n:Int) = some (G (v * n)):=by
  have hc0:v * n / 1000000000 ^ lnB 1000000000 v = caB 1000000000 v n (lnB 1000000000 v):=(caB_end h9 v n (Nat.le_refl _)).symm
  have hc:caB 1000000000 v n (lnB 1000000000 v) < 1000000000 * 2:=by
    rcases Nat.eq_zero_or_pos n with rfl | h
    · unfold caB; simp
    · have:=caB_lt h9 v n (lnB 1000000000 v) h; omega
  have hl2:lnB 1000000000 (v * n) ≤ lnB 1000000000 v + 2:=by
    refine (lnB_iff h9 _ _).1 ?_
    have h1:=lt_lnB h9 v
    rw [Nat.pow_add]
    exact Nat.lt_of_le_of_lt (Nat.mul_le_mul_left v (show n ≤ 1000000000 ^ 2 by omega)) (Nat.mul_lt_mul_of_pos_right h1 (by decide))
  unfold Dec.big.times
  refine letV (y:=((lnB 1000000000 v:Nat):Int)) (by unfold G; rw [dgB_len]) ?_
  have e0:Dec.big.times.l0 (G v) n (lnB 1000000000 v:Nat) [] 0 0 = some (G (v * n)):=by
    unfold Dec.big.times.l0
    have key:=loopO_run (step:=fun x:(List Int) × Int × Int=>Dec.big.times.s0 (G v) n (lnB 1000000000 v:Nat) x.1 x.2.1 x.2.2) (r:=some (G (v * n)))
      (fun i=>(dkB 1000000000 i (v * n),((caB 1000000000 v n i:Nat):Int),((i:Nat):Int))) (lnB 1000000000 v) (fun i hi=>times_s0 hn hl hi) ?_
    · simp only [dkB_zero,caB_zero] at key; exact key
    refine loopO_end ?_
    show Dec.big.times.s0 (G v) n (lnB 1000000000 v:Nat) (dkB 1000000000 (lnB 1000000000 v) (v * n)) (caB 1000000000 v n (lnB 1000000000 v):Nat) (lnB 1000000000 v:Nat) = _
    unfold Dec.big.times.s0
    refine letF (decide_eq_false (by omega)) ?_
    suffices h:Dec.big.times.l1 (dkB 1000000000 (lnB 1000000000 v) (v * n)) (caB 1000000000 v n (lnB 1000000000 v):Nat) = some (G (v * n)) by rw [h]; rfl
    unfold Dec.big.times.l1
    have key:=loopO_run (step:=fun x:(List Int) × Int=>Dec.big.times.s1 x.1 x.2) (r:=some (G (v * n)))
      (fun i=>(dkB 1000000000 (lnB 1000000000 v + i) (v * n),((v * n / 1000000000 ^ (lnB 1000000000 v + i):Nat):Int))) (lnB 1000000000 (v * n) - lnB 1000000000 v) ?_ ?_
    · simp only [Nat.add_zero,hc0] at key; exact key
    · intro i hi
      refine times_s1 (by omega) (by omega) ?_
      have:v * n / 1000000000 ^ (lnB 1000000000 v + i) ≤ v * n / 1000000000 ^ lnB 1000000000 v:=Nat.div_le_div_left (Nat.pow_le_pow_right (by decide) (by omega)) (Nat.pow_pos (by decide))
      omega
    · refine loopO_end ?_
      show Dec.big.times.s1 _ _ = _
      have hz:v * n / 1000000000 ^ (lnB 1000000000 v + (lnB 1000000000 (v * n) - lnB 1000000000 v)) = 0:=(up_none h9).2 (by omega)
      simp only [hz]
      unfold Dec.big.times.s1
      refine letF rfl ?_
      rw [trim_eq (by omega) (by omega)]; rfl
  exact e0
end Go.Q
namespace Go.Q
open Go
set_option maxRecDepth 10000
theorem lnB_mul_mono {v a b:Nat} (h:a ≤ b):lnB 1000000000 (v * a) ≤ lnB 1000000000 (v * b):=lnB_mono h9 (Nat.mul_le_mul_left v h)
theorem pow_l2 (v n k:Nat) (hn0:0 < n) (hn:n < 1073741824) (hk:k ≤ 1000000) (hl:lnB 1000000000 (v * n ^ k) ≤ 100000):Dec.big.power.l2 n (G v) k = some (G (v * n ^ k)):=by
  unfold Dec.big.power.l2
  have key:=loopO_run (step:=fun x:(List Int) × Int=>Dec.big.power.s2 n x.1 x.2) (r:=some (G (v * n ^ k)))
    (fun i=>(G (v * n ^ i),((k - i:Nat):Int))) k ?_ ?_
  · simp only [Nat.pow_zero,Nat.mul_one,Nat.sub_zero] at key; exact key
  · intro i hi
    show Dec.big.power.s2 n (G (v * n ^ i)) ((k - i:Nat):Int) = _
    unfold Dec.big.power.s2
    refine letT (decide_eq_true (by omega)) (bindE (times_eq _ _ hn (Nat.le_trans (lnB_mul_mono (Nat.pow_le_pow_right hn0 (by omega))) hl)) (letV (y:=((k - (i + 1):Nat):Int)) ?_ ?_))
    · rw [wi (by omega) (by omega)]; omega
    · show some (Sum.inl (G (v * n ^ i * n),_)) = _
      rw [Nat.mul_assoc,← Nat.pow_succ]
  · refine loopO_end ?_
    show Dec.big.power.s2 n (G (v * n ^ k)) ((k - k:Nat):Int) = _
    unfold Dec.big.power.s2
    exact letF (decide_eq_false (by omega)) rfl
theorem pow_l1 (v n k:Nat) (hn0:0 < n) (hn:n ^ 8 < 1073741824) (hn1:n < 1073741824) (hk:k ≤ 1000000) (hl:lnB 1000000000 (v * n ^ k) ≤ 100000):Dec.big.power.l1 n ((n ^ 8:Nat):Int) (G v) k = some (G (v * n ^ k)):=by
  unfold Dec.big.power.l1
  have key:=loopO_run (step:=fun x:(List Int) × Int=>Dec.big.power.s1 n ((n ^ 8:Nat):Int) x.1 x.2) (r:=some (G (v * n ^ k)))
    (fun i=>(G (v * n ^ (8 * i)),((k - 8 * i:Nat):Int))) (k / 8) ?_ ?_
  · simp only [Nat.mul_zero,Nat.pow_zero,Nat.mul_one,Nat.sub_zero] at key; exact key
  · intro i hi
    show Dec.big.power.s1 n ((n ^ 8:Nat):Int) (G (v * n ^ (8 * i))) ((k - 8 * i:Nat):Int) = _
    unfold Dec.big.power.s1
    refine letT (decide_eq_true (by omega)) (bindE (times_eq _ _ hn (Nat.le_trans (lnB_mul_mono (Nat.pow_le_pow_right hn0 (by omega))) hl)) (letV (y:=((k - 8 * (i + 1):Nat):Int)) ?_ ?_))
    · rw [wi (by omega) (by omega)]; omega
    · show some (Sum.inl (G (v * n ^ (8 * i) * n ^ 8),_)) = _
      rw [Nat.mul_assoc,← Nat.pow_add,Nat.mul_add]
  · refine loopO_end ?_
    show Dec.big.power.s1 n ((n ^ 8:Nat):Int) (G (v * n ^ (8 * (k / 8)))) ((k - 8 * (k / 8):Nat):Int) = _
    have e:v * n ^ (8 * (k / 8)) * n ^ (k - 8 * (k / 8)) = v * n ^ k:=by rw [Nat.mul_assoc,← Nat.pow_add,show 8 * (k / 8) + (k - 8 * (k / 8)) = k by omega]
    unfold Dec.big.power.s1
    refine letF (decide_eq_false (by omega)) ?_
    rw [pow_l2 _ n _ hn0 hn1 (by omega) (by rw [e]; exact hl),e]; rfl
theorem power_eq (v n k:Nat) (hn0:0 < n) (hn:n ^ 8 < 1073741824) (hk:k ≤ 1000000) (hl:lnB 1000000000 (v * n ^ k) ≤ 100000):Dec.big.power (G v) n k = some (G (v * n ^ k)):=by
  have hp:∀ i,i ≤ 8 → n ^ i < 1073741824:=fun i hi=>Nat.lt_of_le_of_lt (Nat.pow_le_pow_right hn0 hi) hn
  unfold Dec.big.power Dec.big.power.l0
  have key:=loopO_run (step:=fun x:Int × Int=>Dec.big.power.s0 (G v) n k x.1 x.2) (r:=some (G (v * n ^ k)))
    (fun i=>(((n ^ i:Nat):Int),(i:Int))) 8 ?_ ?_
  · simp only [Nat.pow_zero] at key; exact key
  · intro i hi
    show Dec.big.power.s0 (G v) n k ((n ^ i:Nat):Int) (i:Int) = _
    unfold Dec.big.power.s0
    refine letT (decide_eq_true (by omega)) (letV (y:=((n ^ (i + 1):Nat):Int)) ?_ (letV (y:=((i + 1:Nat):Int)) ?_ rfl))
    · exact (congrArg _ (Int.natCast_mul _ _).symm).trans ((congrArg _ (congrArg _ (Nat.pow_succ ..).symm)).trans (wN (Nat.lt_trans (hp (i + 1) hi) (by decide))))
    · rw [wi (by omega) (by omega)]; rfl
  · refine loopO_end ?_
    show Dec.big.power.s0 (G v) n k ((n ^ 8:Nat):Int) ((8:Nat):Int) = _
    unfold Dec.big.power.s0
    refine letF rfl ?_
    have h1:=hp 1 (by omega)
    rw [Nat.pow_one] at h1
    rw [pow_l1 v n k hn0 hn h1 hk hl]; rfl
end Go.Q
namespace Go.Q
open Go
set_option maxRecDepth 10000
theorem least {P:Nat → Prop} (h:∃ n,P n):∃ n,P n ∧ ∀ i,i < n → ¬ P i:=by
  obtain ⟨n,hn⟩:=h
  induction n using Nat.strongRecOn with
  | ind n ih =>
    by_cases hx:∃ i,i < n ∧ P i
    · obtain ⟨i,h1,h2⟩:=hx; exact ih i h1 h2
    · exact ⟨n,hn,fun i hi hp=>hx ⟨i,hi,hp⟩⟩
end Go.Q
namespace Go.Q
open Go
set_option maxRecDepth 10000
theorem dgQ_b {c:UInt8} (h:dgQ c = true):48 ≤ c.toNat ∧ c.toNat ≤ 57:=by
  unfold dgQ at h
  simpa only [Bool.and_eq_true,decide_eq_true_eq] using h
theorem parse_dgQ:∀ (l:BS) (a:Nat),l.all dgQ = true → a * 10 ^ l.length + 10 ^ l.length ≤ 10 ^ 18 → Lib.parseUint10 a l = .ok (a * 10 ^ l.length + vd l)
  | [],a,_,_=>by unfold Lib.parseUint10; rw [vd_nil]; simp
  | c :: r,a,h,hb=>by
    simp only [List.all_cons,Bool.and_eq_true] at h
    obtain ⟨d1,d2⟩:=dgQ_b h.1
    have hp:0 < 10 ^ r.length:=Nat.pow_pos (by omega)
    rw [List.length_cons,Nat.pow_succ] at hb
    have hmul:a * (10 ^ r.length * 10) = (10 * a) * 10 ^ r.length:=by rw [Nat.mul_comm (10 ^ r.length),← Nat.mul_assoc,Nat.mul_comm a]
    rw [hmul] at hb
    have hmul2:(10 * a + (c.toNat - 48)) * 10 ^ r.length = 10 * a * 10 ^ r.length + (c.toNat - 48) * 10 ^ r.length:=Nat.add_mul _ _ _
    have h9:(c.toNat - 48) * 10 ^ r.length ≤ 9 * 10 ^ r.length:=Nat.mul_le_mul_right _ (by omega)
    have ha:10 * a ≤ 10 * a * 10 ^ r.length:=Nat.le_mul_of_pos_right _ hp
    unfold Lib.parseUint10
    rw [if_pos ⟨d1,d2⟩,if_neg (by omega),if_neg (by omega)]
    rw [show a * 10 + (c.toNat - 48) = 10 * a + (c.toNat - 48) by omega]
    rw [parse_dgQ r _ h.2 (by rw [hmul2]; omega),vd_cons,hmul2,List.length_cons,Nat.pow_succ,hmul]
    unfold cv
    congr 1
    omega
theorem atoi_dgQ {l:BS} (hl:l.length ≤ 17) (h0:l ≠ []) (ha:l.all dgQ = true):Strconv.Atoi (B l) = some ((vd l:Int),()):=by
  have hA:Lib.atoiAll l = .ok (vd l:Int):=by
    cases l with
    | nil=>exact absurd rfl h0
    | cons c r =>
      have hc:dgQ c = true:=by simp only [List.all_cons,Bool.and_eq_true] at ha; exact ha.1
      obtain ⟨d1,d2⟩:=dgQ_b hc
      have h5:10 ^ (c :: r).length ≤ 10 ^ 17:=Nat.pow_le_pow_right (by omega) hl
      have hpd:=parse_dgQ (c :: r) 0 ha (by omega)
      have hb2:=vd_lt (c :: r) ha
      unfold Lib.atoiAll Lib.parseMag
      simp only
      rw [if_neg (by omega:¬ (c.toNat = 43 ∨ c.toNat = 45)),if_neg (by simp),hpd]
      simp only
      rw [Nat.zero_mul,Nat.zero_add,if_neg (by omega),if_neg (by omega),if_neg (by omega)]
  unfold Strconv.Atoi
  rw [chk_pos (show (B l).size ≤ _ by rw [B_size]; omega),L_B,hA]
theorem whole_s0 {l:BS} {i:Nat} (ha:l.all dgQ = true) (hl:l.length ≤ 100000) (hi:9 * i < l.length) :
    Dec.whole.s0 (B l) (dkB 1000000000 i (vd l)) ((l.length:Int) - ((9 * i:Nat):Int)) = some (.inl (dkB 1000000000 (i + 1) (vd l),(l.length:Int) - ((9 * (i + 1):Nat):Int))):=by
  have hs:(B l).size = l.length:=B_size l
  have hx:L ((B l).extract (l.length - 9 * i - 9) (l.length - 9 * i)) = (l.take (l.length - 9 * i)).drop (l.length - 9 * i - 9):=by rw [L_ext,L_B]
  have hat:=atoi_dgQ (l:=(l.take (l.length - 9 * i)).drop (l.length - 9 * i - 9)) (by rw [List.length_drop,List.length_take]; omega)
    (by intro h0; have:=congrArg List.length h0; rw [List.length_drop,List.length_take,List.length_nil] at this; omega) (all_drop _ (all_take _ ha))
  rw [vd_part ha hi] at hat
  unfold Dec.whole.s0
  refine letT (decide_eq_true (by omega)) (letV (wi (by omega) (by omega)) (letV (y:=((l.length - 9 * i - 9:Nat):Int)) ?_ (chkE ?_ (letV (y:=(B l).extract (l.length - 9 * i - 9) (l.length - 9 * i)) ?_ (bindE (a:=(((bdB 1000000000 (vd l) i:Nat):Int),())) ?_ (chkE ?_ (letV (dk_push _ _ rfl) (letV (wi (by omega) (by omega)) ?_))))))))
  · split <;> omega
  · rw [hs]; omega
  · congr 1; omega
  · rw [← B_L ((B l).extract _ _),hx]; exact hat
  · rw [dkB_len]; show (i + 1) * 8 ≤ _; omega
  · rw [show (l.length:Int) - ((9 * i:Nat):Int) - 9 = (l.length:Int) - ((9 * (i + 1):Nat):Int) by omega]
theorem whole_eq {l:BS} (ha:l.all dgQ = true) (hl:l.length ≤ 100000):Dec.whole (B l) = some (G (vd l)):=by
  unfold Dec.whole
  refine letV (y:=(l.length:Int)) (by rw [B_size]) ?_
  unfold Dec.whole.l0
  have key:=loopO_run (step:=fun x:(List Int) × Int=>Dec.whole.s0 (B l) x.1 x.2) (r:=some (G (vd l)))
    (fun i=>(dkB 1000000000 i (vd l),(l.length:Int) - ((9 * i:Nat):Int))) ((l.length + 8) / 9) (fun i hi=>whole_s0 ha hl (by omega)) ?_
  · have e0:(l.length:Int) - ((9 * 0:Nat):Int) = (l.length:Int):=by omega
    simp only [e0,dkB_zero] at key; exact key
  · refine loopO_end ?_
    show Dec.whole.s0 (B l) (dkB 1000000000 ((l.length + 8) / 9) (vd l)) ((l.length:Int) - ((9 * ((l.length + 8) / 9):Nat):Int)) = _
    unfold Dec.whole.s0
    refine letF (decide_eq_false (by omega)) ?_
    rw [trim_eq (parts_end ha (by omega)) (by omega)]; rfl
def shD (l:BS):BS:=l.dropWhile (· == 48)
theorem shD_split (l:BS):∃ k,l = List.replicate k 48 ++ shD l:=by
  induction l with
  | nil=>exact ⟨0,rfl⟩
  | cons c r ih =>
    unfold shD
    rw [List.dropWhile_cons]
    split
    · rename_i h
      have:=eq_of_beq h
      subst this
      obtain ⟨k,hk⟩:=ih
      refine ⟨k + 1,?_⟩
      rw [List.replicate_succ,List.cons_append]
      exact congrArg _ hk
    · exact ⟨0,rfl⟩
theorem shD_head {l:BS} {c:UInt8} {r:BS} (h:shD l = c :: r):c ≠ 48:=by
  have h1:=List.head?_dropWhile_not (fun x:UInt8=>x == 48) l
  unfold shD at h
  rw [h] at h1
  simpa using h1
theorem vd_low {c:UInt8} {r:BS} (hc:c ≠ 48) (ha:(c :: r).all dgQ = true):10 ^ r.length ≤ vd (c :: r):=by
  have h1:dgQ c = true:=by simp only [List.all_cons,Bool.and_eq_true] at ha; exact ha.1
  have h2:cv c ≠ 0:=fun h=>hc ((cv_zero h1).1 h)
  rw [vd_cons]
  have:1 * 10 ^ r.length ≤ cv c * 10 ^ r.length:=Nat.mul_le_mul_right _ (by omega)
  omega
end Go.Q
namespace Go.Q
open Go
set_option maxRecDepth 10000
theorem condT {ρ:Type} {x:Bool} {A B:Option ρ} {r:Option ρ} (hx:x = true) (h:A = r):(bif x then A else B) = r:=by subst hx; exact h
theorem condF {ρ:Type} {x:Bool} {A B:Option ρ} {r:Option ρ} (hx:x = false) (h:B = r):(bif x then A else B) = r:=by subst hx; exact h
theorem ten_le_two (n:Nat):10 ^ n ≤ 2 ^ (4 * n):=by rw [Nat.pow_mul]; exact Nat.pow_le_pow_left (by decide) n
end Go.Q
