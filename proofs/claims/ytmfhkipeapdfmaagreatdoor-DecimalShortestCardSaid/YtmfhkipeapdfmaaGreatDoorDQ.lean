import Derived.Test.YtmfhkipeapdfmaaGreatDoorDG3
import Derived.Test.YtmfhkipeapdfmaaGreatDoorZU
import Derived.Test.YtmfhkipeapdfmaaGreatDoorAB
import Derived.Test.YtmfhkipeapdfmaaGreatDoorAC
namespace Go.Q
open Go
set_option maxRecDepth 10000
def G (v:Nat):List Int:=dgB 1000000000 v
theorem wN {x:Nat} (h:x < 9223372036854775808):IntKind.i64.wrap (x:Int) = x:=wi (by omega) (by omega)
theorem h9:1 < 1000000000:=by decide
theorem trim_run (n:Nat):∀ m,lnB 1000000000 n + m ≤ 1000000 → Dec.big.trim.l0 (dkB 1000000000 (lnB 1000000000 n + m) n) = some (G n)
  | 0,hb=>by
    rw [Dec.big.trim.l0_eq]
    have e:dkB 1000000000 (lnB 1000000000 n + 0) n = dgB 1000000000 n:=rfl
    rw [e]
    rcases Nat.eq_zero_or_pos n with rfl | hn
    · have hs:Dec.big.trim.s0 (dgB 1000000000 0) = some (.inr (dgB 1000000000 0)):=by rw [dgB_zero]; rfl
      rw [hs]; rfl
    · have hl:=lnB_gt h9 hn
      obtain ⟨h1,h2⟩:=dkB_trim_stop h9 hn
      have hs:Dec.big.trim.s0 (dgB 1000000000 n) = some (.inr (dgB 1000000000 n)):=by
        unfold Dec.big.trim.s0
        refine letV (by rw [dgB_len]) (letT (decide_eq_true (by omega)) (letV rfl (letV (y:=((lnB 1000000000 n - 1:Nat):Int)) ?_ (chkE (Int.natCast_nonneg _) (bindE h1 (letF ?_ rfl))))))
        · rw [dgB_len,wi (by omega) (by omega)]; omega
        · exact beq_false_of_ne h2
      rw [hs]; rfl
  | m + 1,hb=>by
    rw [Dec.big.trim.l0_eq]
    obtain ⟨h1,h2⟩:=dkB_trim_zero (B:=1000000000) (k:=lnB 1000000000 n + (m + 1)) (n:=n) h9 (by omega) (by omega)
    have hs:Dec.big.trim.s0 (dkB 1000000000 (lnB 1000000000 n + (m + 1)) n) = some (.inl (dkB 1000000000 (lnB 1000000000 n + m) n)):=by
      unfold Dec.big.trim.s0
      refine letV (by rw [dkB_len]) (letT (decide_eq_true (by omega)) (letV rfl (letV (y:=((lnB 1000000000 n + (m + 1) - 1:Nat):Int)) ?_ (chkE (Int.natCast_nonneg _) (bindE h1 (letT rfl ?_))))))
      · rw [dkB_len,wi (by omega) (by omega)]; omega
      · unfold Dec.big.trim.j0
        refine letV (by rw [dkB_len]) (letV (y:=((lnB 1000000000 n + (m + 1) - 1:Nat):Int)) ?_ (chkE ⟨Int.natCast_nonneg _,?_⟩ (letV ?_ rfl)))
        · rw [wi (by omega) (by omega)]; omega
        · rw [dkB_len]; omega
        · show ((dkB 1000000000 (lnB 1000000000 n + (m + 1)) n).drop 0).take (lnB 1000000000 n + (m + 1) - 1 - 0) = _
          rw [List.drop_zero,Nat.sub_zero,h2]; rfl
    rw [hs]
    exact trim_run n m (by omega)
theorem trim_eq {k n:Nat} (h:lnB 1000000000 n ≤ k) (hk:k ≤ 1000000):Dec.big.trim (dkB 1000000000 k n) = some (G n):=by
  have:=trim_run n (k - lnB 1000000000 n) (by omega)
  rw [show lnB 1000000000 n + (k - lnB 1000000000 n) = k by omega] at this
  exact this
theorem cab_lt_max {v n i:Nat} (hn:n < 1073741824):bdB 1000000000 v i * n + caB 1000000000 v n i < 2000000000000000000:=by
  have h1:=bdB_lt (B:=1000000000) (by decide) v i
  rcases Nat.eq_zero_or_pos n with rfl | h
  · have:caB 1000000000 v 0 i = 0:=by unfold caB; simp
    rw [this]; omega
  · have h2:=caB_lt h9 v n i h
    have h3:bdB 1000000000 v i * n ≤ 999999999 * 1073741824:=Nat.mul_le_mul (by omega) (by omega)
    omega
theorem times_s0 {v n i:Nat} (hn:n < 1073741824) (hl:lnB 1000000000 v ≤ 100000) (hi:i < lnB 1000000000 v) :
    Dec.big.times.s0 (G v) n (lnB 1000000000 v:Nat) (dkB 1000000000 i (v * n)) (caB 1000000000 v n i:Nat) (i:Nat) =
      some (.inl (dkB 1000000000 (i + 1) (v * n),((caB 1000000000 v n (i + 1):Nat):Int),((i + 1:Nat):Int))):=by
  have hm:=cab_lt_max (v:=v) (n:=n) (i:=i) hn
  have h1:=bdB_lt (B:=1000000000) (by decide) v i
  unfold Dec.big.times.s0
  refine letT (decide_eq_true (by omega)) (chkE (Int.natCast_nonneg _) (bindE (dgB_get hi) (letV (y:=((bdB 1000000000 v i * n:Nat):Int)) ?_ (letV (y:=((bdB 1000000000 v i * n + caB 1000000000 v n i:Nat):Int)) ?_ (chkE (by decide)
    (letV (y:=((bdB 1000000000 (v * n) i:Nat):Int)) ?_ (chkE ?_ (letV (dk_push _ _ rfl) (chkE (by decide) (letV (y:=((caB 1000000000 v n (i + 1):Nat):Int)) ?_ (letV (y:=((i + 1:Nat):Int)) ?_ rfl)))))))))))
  · have:bdB 1000000000 v i * n < 2000000000000000000:=Nat.lt_of_le_of_lt (Nat.le_add_right _ _) hm
    exact (congrArg _ (Int.natCast_mul _ _).symm).trans (wN (Nat.lt_trans this (by decide)))
  · exact (congrArg _ (Int.natCast_add _ _).symm).trans (wN (Nat.lt_trans hm (by decide)))
  · rw [← mul_digit h9,Int.tmod_eq_emod_of_nonneg (by omega)]; rfl
  · rw [dkB_len]; show (i + 1) * 8 ≤ _; omega
  · rw [← mul_carry h9,Int.tdiv_eq_ediv_of_nonneg (by omega),wi (by omega) (by omega)]; rfl
  · rw [wi (by omega) (by omega)]; rfl
theorem times_s1 {v k:Nat} (hl:lnB 1000000000 v ≤ 100010) (hk:k < lnB 1000000000 v) (hc:v / 1000000000 ^ k < 9223372036854775808) :
    Dec.big.times.s1 (dkB 1000000000 k v) (v / 1000000000 ^ k:Nat) = some (.inl (dkB 1000000000 (k + 1) v,((v / 1000000000 ^ (k + 1):Nat):Int))):=by
  have hp:0 < v / 1000000000 ^ k:=by
    rcases Nat.eq_zero_or_pos (v / 1000000000 ^ k) with h | h
    · rw [up_none h9] at h; omega
    · exact h
  unfold Dec.big.times.s1
  refine letT (decide_eq_true (by omega)) (chkE (by decide) (letV (y:=((bdB 1000000000 v k:Nat):Int)) ?_ (chkE ?_ (letV (dk_push _ _ rfl) (chkE (by decide) (letV (y:=((v / 1000000000 ^ (k + 1):Nat):Int)) ?_ rfl))))))
  · rw [up_digit,Int.tmod_eq_emod_of_nonneg (by omega)]; rfl
  · rw [dkB_len]; show (k + 1) * 8 ≤ _; omega
  · rw [← up_left,Int.tdiv_eq_ediv_of_nonneg (by omega),wi (by omega) (by omega)]; rfl
theorem times_eq (v n:Nat) (hn:n < 1073741824) (hl:lnB 1000000000 v ≤ 100000):Dec.big.times (G v) (n:Int) = some (G (v * n)):=by
  have hc0:v * n / 1000000000 ^ lnB 1000000000 v = caB 1000000000 v n (lnB 1000000000 v):=(caB_end h9 v n (Nat.le_refl _)).symm
  have hc:caB 1000000000 v n (lnB 1000000000 v) < 1000000000 * 2:=by
    rcases Nat.eq_zero_or_pos n with rfl | h
    · unfold caB; simp
    · have:=caB_lt h9 v n (lnB 1000000000 v) h; omega
  have hl2:lnB 1000000000 (v * n) ≤ lnB 1000000000 v + 2:=by
    refine (lnB_iff h9 _ _).1 ?_
    have h1:=lt_lnB h9 v
    rw [Nat.pow_add]
    exact Nat.lt_of_le_of_lt (Nat.mul_le_mul_left v (show n ≤ 1000000000 ^ 2 by omega)) (Nat.mul_lt_mul_of_pos_right h1 (by decide))
  unfold Dec.big.times
  refine letV (y:=((lnB 1000000000 v:Nat):Int)) (by unfold G; rw [dgB_len]) ?_
  have e0:Dec.big.times.l0 (G v) n (lnB 1000000000 v:Nat) [] 0 0 = some (G (v * n)):=by
    unfold Dec.big.times.l0
    have key:=loopO_run (step:=fun x:(List Int) × Int × Int=>Dec.big.times.s0 (G v) n (lnB 1000000000 v:Nat) x.1 x.2.1 x.2.2) (r:=some (G (v * n)))
      (fun i=>(dkB 1000000000 i (v * n),((caB 1000000000 v n i:Nat):Int),((i:Nat):Int))) (lnB 1000000000 v) (fun i hi=>times_s0 hn hl hi) ?_
    · simp only [dkB_zero,caB_zero] at key; exact key
    refine loopO_end ?_
    show Dec.big.times.s0 (G v) n (lnB 1000000000 v:Nat) (dkB 1000000000 (lnB 1000000000 v) (v * n)) (caB 1000000000 v n (lnB 1000000000 v):Nat) (lnB 1000000000 v:Nat) = _
    unfold Dec.big.times.s0
    refine letF (decide_eq_false (by omega)) ?_
    suffices h:Dec.big.times.l1 (dkB 1000000000 (lnB 1000000000 v) (v * n)) (caB 1000000000 v n (lnB 1000000000 v):Nat) = some (G (v * n)) by rw [h]; rfl
    unfold Dec.big.times.l1
    have key:=loopO_run (step:=fun x:(List Int) × Int=>Dec.big.times.s1 x.1 x.2) (r:=some (G (v * n)))
      (fun i=>(dkB 1000000000 (lnB 1000000000 v + i) (v * n),((v * n / 1000000000 ^ (lnB 1000000000 v + i):Nat):Int))) (lnB 1000000000 (v * n) - lnB 1000000000 v) ?_ ?_
    · simp only [Nat.add_zero,hc0] at key; exact key
    · intro i hi
      refine times_s1 (by omega) (by omega) ?_
      have:v * n / 1000000000 ^ (lnB 1000000000 v + i) ≤ v * n / 1000000000 ^ lnB 1000000000 v:=Nat.div_le_div_left (Nat.pow_le_pow_right (by decide) (by omega)) (Nat.pow_pos (by decide))
      omega
    · refine loopO_end ?_
      show Dec.big.times.s1 _ _ = _
      have hz:v * n / 1000000000 ^ (lnB 1000000000 v + (lnB 1000000000 (v * n) - lnB 1000000000 v)) = 0:=(up_none h9).2 (by omega)
      simp only [hz]
      unfold Dec.big.times.s1
      refine letF rfl ?_
      rw [trim_eq (by omega) (by omega)]; rfl
  exact e0
end Go.Q
namespace Go.Q
open Go
set_option maxRecDepth 10000
theorem lnB_mul_mono {v a b:Nat} (h:a ≤ b):lnB 1000000000 (v * a) ≤ lnB 1000000000 (v * b):=lnB_mono h9 (Nat.mul_le_mul_left v h)
theorem pow_l2 (v n k:Nat) (hn0:0 < n) (hn:n < 1073741824) (hk:k ≤ 1000000) (hl:lnB 1000000000 (v * n ^ k) ≤ 100000):Dec.big.power.l2 n (G v) k = some (G (v * n ^ k)):=by
  unfold Dec.big.power.l2
  have key:=loopO_run (step:=fun x:(List Int) × Int=>Dec.big.power.s2 n x.1 x.2) (r:=some (G (v * n ^ k)))
    (fun i=>(G (v * n ^ i),((k - i:Nat):Int))) k ?_ ?_
  · simp only [Nat.pow_zero,Nat.mul_one,Nat.sub_zero] at key; exact key
  · intro i hi
    show Dec.big.power.s2 n (G (v * n ^ i)) ((k - i:Nat):Int) = _
    unfold Dec.big.power.s2
    refine letT (decide_eq_true (by omega)) (bindE (times_eq _ _ hn (Nat.le_trans (lnB_mul_mono (Nat.pow_le_pow_right hn0 (by omega))) hl)) (letV (y:=((k - (i + 1):Nat):Int)) ?_ ?_))
    · rw [wi (by omega) (by omega)]; omega
    · show some (Sum.inl (G (v * n ^ i * n),_)) = _
      rw [Nat.mul_assoc,← Nat.pow_succ]
  · refine loopO_end ?_
    show Dec.big.power.s2 n (G (v * n ^ k)) ((k - k:Nat):Int) = _
    unfold Dec.big.power.s2
    exact letF (decide_eq_false (by omega)) rfl
theorem pow_l1 (v n k:Nat) (hn0:0 < n) (hn:n ^ 8 < 1073741824) (hn1:n < 1073741824) (hk:k ≤ 1000000) (hl:lnB 1000000000 (v * n ^ k) ≤ 100000):Dec.big.power.l1 n ((n ^ 8:Nat):Int) (G v) k = some (G (v * n ^ k)):=by
  unfold Dec.big.power.l1
  have key:=loopO_run (step:=fun x:(List Int) × Int=>Dec.big.power.s1 n ((n ^ 8:Nat):Int) x.1 x.2) (r:=some (G (v * n ^ k)))
    (fun i=>(G (v * n ^ (8 * i)),((k - 8 * i:Nat):Int))) (k / 8) ?_ ?_
  · simp only [Nat.mul_zero,Nat.pow_zero,Nat.mul_one,Nat.sub_zero] at key; exact key
  · intro i hi
    show Dec.big.power.s1 n ((n ^ 8:Nat):Int) (G (v * n ^ (8 * i))) ((k - 8 * i:Nat):Int) = _
    unfold Dec.big.power.s1
    refine letT (decide_eq_true (by omega)) (bindE (times_eq _ _ hn (Nat.le_trans (lnB_mul_mono (Nat.pow_le_pow_right hn0 (by omega))) hl)) (letV (y:=((k - 8 * (i + 1):Nat):Int)) ?_ ?_))
    · rw [wi (by omega) (by omega)]; omega
    · show some (Sum.inl (G (v * n ^ (8 * i) * n ^ 8),_)) = _
      rw [Nat.mul_assoc,← Nat.pow_add,Nat.mul_add]
  · refine loopO_end ?_
    show Dec.big.power.s1 n ((n ^ 8:Nat):Int) (G (v * n ^ (8 * (k / 8)))) ((k - 8 * (k / 8):Nat):Int) = _
    have e:v * n ^ (8 * (k / 8)) * n ^ (k - 8 * (k / 8)) = v * n ^ k:=by rw [Nat.mul_assoc,← Nat.pow_add,show 8 * (k / 8) + (k - 8 * (k / 8)) = k by omega]
    unfold Dec.big.power.s1
    refine letF (decide_eq_false (by omega)) ?_
    rw [pow_l2 _ n _ hn0 hn1 (by omega) (by rw [e]; exact hl),e]; rfl
theorem power_eq (v n k:Nat) (hn0:0 < n) (hn:n ^ 8 < 1073741824) (hk:k ≤ 1000000) (hl:lnB 1000000000 (v * n ^ k) ≤ 100000):Dec.big.power (G v) n k = some (G (v * n ^ k)):=by
  have hp:∀ i,i ≤ 8 → n ^ i < 1073741824:=fun i hi=>Nat.lt_of_le_of_lt (Nat.pow_le_pow_right hn0 hi) hn
  unfold Dec.big.power Dec.big.power.l0
  have key:=loopO_run (step:=fun x:Int × Int=>Dec.big.power.s0 (G v) n k x.1 x.2) (r:=some (G (v * n ^ k)))
    (fun i=>(((n ^ i:Nat):Int),(i:Int))) 8 ?_ ?_
  · simp only [Nat.pow_zero] at key; exact key
  · intro i hi
    show Dec.big.power.s0 (G v) n k ((n ^ i:Nat):Int) (i:Int) = _
    unfold Dec.big.power.s0
    refine letT (decide_eq_true (by omega)) (letV (y:=((n ^ (i + 1):Nat):Int)) ?_ (letV (y:=((i + 1:Nat):Int)) ?_ rfl))
    · exact (congrArg _ (Int.natCast_mul _ _).symm).trans ((congrArg _ (congrArg _ (Nat.pow_succ ..).symm)).trans (wN (Nat.lt_trans (hp (i + 1) hi) (by decide))))
    · rw [wi (by omega) (by omega)]; rfl
  · refine loopO_end ?_
    show Dec.big.power.s0 (G v) n k ((n ^ 8:Nat):Int) ((8:Nat):Int) = _
    unfold Dec.big.power.s0
    refine letF rfl ?_
    have h1:=hp 1 (by omega)
    rw [Nat.pow_one] at h1
    rw [pow_l1 v n k hn0 hn h1 hk hl]; rfl
theorem comp_l0 (v u:Nat) (hl:lnB 1000000000 v = lnB 1000000000 u) (hb:lnB 1000000000 v ≤ 100000):∀ i:Nat,i ≤ lnB 1000000000 v → v / 1000000000 ^ i = u / 1000000000 ^ i →
    ∃ r:Int,Dec.big.compare.l0 (G v) (G u) ((i:Int) - 1) = some r ∧ (r < 0 ↔ v < u) ∧ (r = 0 ↔ v = u)
  | 0,_,he=>by
    rw [Nat.pow_zero,Nat.div_one,Nat.div_one] at he
    refine ⟨0,?_,⟨fun h=>by omega,fun h=>by omega⟩,⟨fun _=>he,fun _=>rfl⟩⟩
    unfold Dec.big.compare.l0
    refine loopO_end ?_
    show Dec.big.compare.s0 (G v) (G u) ((0:Nat) - 1:Int) = _
    unfold Dec.big.compare.s0
    exact letF rfl rfl
  | i + 1,hi,he=>by
    have hv:=bdB_lt (B:=1000000000) (by decide) v i
    have hu:=bdB_lt (B:=1000000000) (by decide) u i
    have g1:(G v)[i]? = some ((bdB 1000000000 v i:Nat):Int):=dgB_get (by omega)
    have g2:(G u)[i]? = some ((bdB 1000000000 u i:Nat):Int):=dgB_get (by omega)
    have ei:((i + 1:Nat):Int) - 1 = (i:Int):=by omega
    rw [ei]
    rcases Nat.lt_trichotomy (bdB 1000000000 v i) (bdB 1000000000 u i) with h | h | h
    · have hlt:=comp_lt h9 he h
      refine ⟨(bdB 1000000000 v i:Int) - (bdB 1000000000 u i:Int),?_,⟨fun _=>hlt,fun _=>by omega⟩,⟨fun _=>by omega,fun _=>by omega⟩⟩
      unfold Dec.big.compare.l0
      refine loopO_end ?_
      show Dec.big.compare.s0 (G v) (G u) (i:Int) = _
      unfold Dec.big.compare.s0
      refine letT (decide_eq_true (by omega)) (chkE (by omega) (bindE g1 (chkE (by omega) (bindE g2 (letT ?_ (chkE (by omega) (bindE g1 (chkE (by omega) (bindE g2 (letV (wi (by omega) (by omega)) rfl))))))))))
      exact bne_iff_ne.2 (by omega)
    · obtain ⟨r,hr,h1,h2⟩:=comp_l0 v u hl hb i (by omega) (comp_eq he h)
      refine ⟨r,?_,h1,h2⟩
      unfold Dec.big.compare.l0
      refine loopO_next (t:=((i:Int) - 1)) ?_ hr
      show Dec.big.compare.s0 (G v) (G u) (i:Int) = _
      unfold Dec.big.compare.s0
      refine letT (decide_eq_true (by omega)) (chkE (by omega) (bindE g1 (chkE (by omega) (bindE g2 (letF ?_ (letV (wi (by omega) (by omega)) rfl))))))
      rw [h]; exact bne_self_eq_false _
    · have hlt:=comp_lt h9 he.symm h
      refine ⟨(bdB 1000000000 v i:Int) - (bdB 1000000000 u i:Int),?_,⟨fun _=>by omega,fun _=>by omega⟩,⟨fun _=>by omega,fun _=>by omega⟩⟩
      unfold Dec.big.compare.l0
      refine loopO_end ?_
      show Dec.big.compare.s0 (G v) (G u) (i:Int) = _
      unfold Dec.big.compare.s0
      refine letT (decide_eq_true (by omega)) (chkE (by omega) (bindE g1 (chkE (by omega) (bindE g2 (letT ?_ (chkE (by omega) (bindE g1 (chkE (by omega) (bindE g2 (letV (wi (by omega) (by omega)) rfl))))))))))
      exact bne_iff_ne.2 (by omega)
theorem compare_eq (v u:Nat) (h1:lnB 1000000000 v ≤ 100000) (h2:lnB 1000000000 u ≤ 100000):∃ r:Int,Dec.big.compare (G v) (G u) = some r ∧ (r < 0 ↔ v < u) ∧ (r = 0 ↔ v = u):=by
  have l1:(G v).length = lnB 1000000000 v:=dgB_len _ _
  have l2:(G u).length = lnB 1000000000 u:=dgB_len _ _
  by_cases h:lnB 1000000000 v = lnB 1000000000 u
  · obtain ⟨r,hr,h3,h4⟩:=comp_l0 v u h h1 (lnB 1000000000 v) (Nat.le_refl _) (by
      have e:v / 1000000000 ^ lnB 1000000000 v = 0:=(up_none h9).2 (Nat.le_refl _)
      have e2:u / 1000000000 ^ lnB 1000000000 v = 0:=(up_none h9).2 (by omega)
      rw [e,e2])
    refine ⟨r,?_,h3,h4⟩
    unfold Dec.big.compare
    refine letV (y:=((lnB 1000000000 v:Nat):Int)) (by rw [l1]) (letV (y:=((lnB 1000000000 v:Nat):Int)) (by rw [l2,h]) (letF (bne_self_eq_false _) (letV (y:=((lnB 1000000000 v:Nat):Int)) (by rw [l1]) (letV (wi (by omega) (by omega)) hr))))
  · refine ⟨(lnB 1000000000 v:Int) - (lnB 1000000000 u:Int),?_,⟨fun hh=>comp_len h9 (by omega),fun hh=>?_⟩,⟨fun hh=>by omega,fun hh=>by subst hh; omega⟩⟩
    · unfold Dec.big.compare
      exact letV (y:=((lnB 1000000000 v:Nat):Int)) (by rw [l1]) (letV (y:=((lnB 1000000000 u:Nat):Int)) (by rw [l2]) (letT (bne_iff_ne.2 (by omega)) (letV (y:=((lnB 1000000000 v:Nat):Int)) (by rw [l1]) (letV (y:=((lnB 1000000000 u:Nat):Int)) (by rw [l2]) (letV (wi (by omega) (by omega)) rfl)))))
    · have:=lnB_mono h9 (Nat.le_of_lt hh); omega
theorem boB_le (v u i:Nat):boB 1000000000 v u i ≤ 1:=by unfold boB; split <;> omega
theorem less_s0 {v u i:Nat} (hb:lnB 1000000000 v ≤ 100000) (hu:u ≤ v) (hi:i < lnB 1000000000 v) :
    Dec.big.less.s0 (G v) (G u) (lnB 1000000000 v:Nat) (dkB 1000000000 i (v - u)) (boB 1000000000 v u i:Nat) (i:Nat) =
      some (.inl (dkB 1000000000 (i + 1) (v - u),((boB 1000000000 v u (i + 1):Nat):Int),((i + 1:Nat):Int))):=by
  have l2:(G u).length = lnB 1000000000 u:=dgB_len _ _
  have hv:=bdB_lt (B:=1000000000) (by decide) v i
  have hub:=bdB_lt (B:=1000000000) (by decide) u i
  have hbo:=boB_le v u i
  have hd:=less_digit h9 hu i
  have hn:=less_borrow h9 v u i
  have hj:∀ x:Int,x = (bdB 1000000000 v i:Int) - (boB 1000000000 v u i:Int) - (bdB 1000000000 u i:Int) → Dec.big.less.j0 (G v) (G u) (lnB 1000000000 v:Nat) (i:Nat) (dkB 1000000000 i (v - u)) x =
      some (.inl (dkB 1000000000 (i + 1) (v - u),((boB 1000000000 v u (i + 1):Nat):Int),((i + 1:Nat):Int))):=by
    intro x hx
    unfold Dec.big.less.j0
    by_cases hneg:x < 0
    · have c:(bdB 1000000000 v i:Int) - (boB 1000000000 v u i:Int) - (bdB 1000000000 u i:Int) < 0:=by omega
      rw [if_pos c] at hd hn
      rw [hn]
      refine letT (decide_eq_true hneg) (letV (y:=((bdB 1000000000 (v - u) i:Nat):Int)) ?_ (chkE ?_ (letV (dk_push _ _ rfl) (letV (y:=((i + 1:Nat):Int)) ?_ rfl))))
      · rw [wi (by omega) (by omega),hd,hx]; rfl
      · rw [dkB_len]; show (i + 1) * 8 ≤ _; omega
      · rw [wi (by omega) (by omega)]; rfl
    · have c:¬ (bdB 1000000000 v i:Int) - (boB 1000000000 v u i:Int) - (bdB 1000000000 u i:Int) < 0:=by omega
      rw [if_neg c] at hd hn
      rw [hn]
      refine letF (decide_eq_false hneg) (chkE ?_ (letV (dk_push _ _ (by rw [hd,hx])) (letV (y:=((i + 1:Nat):Int)) ?_ rfl)))
      · rw [dkB_len]; show (i + 1) * 8 ≤ _; omega
      · rw [wi (by omega) (by omega)]; rfl
  unfold Dec.big.less.s0
  refine letT (decide_eq_true (by omega)) (chkE (Int.natCast_nonneg _) (bindE (a:=((bdB 1000000000 v i:Nat):Int)) (dgB_get hi) (letV (wi (by clear hd hn; omega) (by clear hd hn; omega)) (letV (y:=((lnB 1000000000 u:Nat):Int)) (by rw [l2]) ?_))))
  by_cases hi2:i < lnB 1000000000 u
  · exact letT (decide_eq_true (by omega)) (chkE (Int.natCast_nonneg _) (bindE (a:=((bdB 1000000000 u i:Nat):Int)) (dgB_get hi2) (letV (wi (by clear hd hn; omega) (by clear hd hn; omega)) (hj _ rfl))))
  · refine letF (decide_eq_false (by omega)) (hj _ ?_)
    have:=bdB_high (n:=u) (i:=i) h9 (by omega)
    omega
theorem less_eq (v u:Nat) (hb:lnB 1000000000 v ≤ 100000) (hu:u ≤ v):Dec.big.less (G v) (G u) = some (G (v - u)):=by
  have l1:(G v).length = lnB 1000000000 v:=dgB_len _ _
  unfold Dec.big.less
  refine letV (y:=((lnB 1000000000 v:Nat):Int)) (by rw [l1]) ?_
  unfold Dec.big.less.l0
  have key:=loopO_run (step:=fun x:(List Int) × Int × Int=>Dec.big.less.s0 (G v) (G u) (lnB 1000000000 v:Nat) x.1 x.2.1 x.2.2) (r:=some (G (v - u)))
    (fun i=>(dkB 1000000000 i (v - u),((boB 1000000000 v u i:Nat):Int),((i:Nat):Int))) (lnB 1000000000 v) (fun i hi=>less_s0 hb hu hi) ?_
  · simp only [dkB_zero,boB_zero] at key; exact key
  refine loopO_end ?_
  show Dec.big.less.s0 (G v) (G u) (lnB 1000000000 v:Nat) (dkB 1000000000 (lnB 1000000000 v) (v - u)) (boB 1000000000 v u (lnB 1000000000 v):Nat) (lnB 1000000000 v:Nat) = _
  unfold Dec.big.less.s0
  refine letF (decide_eq_false (by omega)) ?_
  rw [trim_eq (lnB_mono h9 (Nat.sub_le _ _)) (by omega)]; rfl
end Go.Q
namespace Go.Q
open Go
set_option maxRecDepth 10000
theorem least {P:Nat → Prop} (h:∃ n,P n):∃ n,P n ∧ ∀ i,i < n → ¬ P i:=by
  obtain ⟨n,hn⟩:=h
  induction n using Nat.strongRecOn with
  | ind n ih =>
    by_cases hx:∃ i,i < n ∧ P i
    · obtain ⟨i,h1,h2⟩:=hx; exact ih i h1 h2
    · exact ⟨n,hn,fun i hi hp=>hx ⟨i,hi,hp⟩⟩
theorem i_or {a b:Nat} (ha:a < 4611686018427387904) (hb:b < 4611686018427387904):IntKind.i64.wrap (((BitVec.ofInt IntKind.i64.bits (a:Int) ||| BitVec.ofInt IntKind.i64.bits (b:Int)).toNat:Nat):Int) = ((a ||| b:Nat):Int):=by
  have h1:(BitVec.ofInt IntKind.i64.bits (a:Int)).toNat = a:=bv_nat a (by omega)
  have h2:(BitVec.ofInt IntKind.i64.bits (b:Int)).toNat = b:=bv_nat b (by omega)
  have h3:a ||| b < 2 ^ 62:=Nat.or_lt_two_pow ha hb
  rw [BitVec.toNat_or,h1,h2]
  exact wN (Nat.lt_trans h3 (by decide))
theorem half_step {n d:Nat} (hd:0 < d):if d ≤ n % (2 * d) then n % d = n % (2 * d) - d ∧ n / d = 2 * (n / (2 * d)) + 1 else n % d = n % (2 * d) ∧ n / d = 2 * (n / (2 * d)):=by
  have h1:=Nat.mod_add_div n (2 * d)
  have h2:=Nat.mod_lt n (show 0 < 2 * d by omega)
  generalize n / (2 * d) = q at *
  generalize n % (2 * d) = r at *
  have e:2 * d * q = 2 * q * d:=by rw [Nat.mul_assoc,Nat.mul_assoc,Nat.mul_comm d q]
  rw [e] at h1
  split
  · rename_i h
    have hn:n = (2 * q + 1) * d + (r - d):=by
      rw [Nat.add_mul,Nat.one_mul]
      generalize 2 * q * d = t at *
      omega
    have:=div_end hn (by omega)
    exact ⟨this.2,this.1⟩
  · rename_i h
    have hn:n = (2 * q) * d + r:=by
      generalize 2 * q * d = t at *
      omega
    have:=div_end hn (by omega)
    exact ⟨this.2,this.1⟩
def lnOk (v:Nat):Prop:=lnB 1000000000 v ≤ 90000
theorem lnOk_pow {v e:Nat} (he:e ≤ 2600000) (hv:v ≤ 2 ^ e):lnOk v:=by
  obtain ⟨N,hN⟩:∃ N,N = 89999:=⟨_,rfl⟩
  show lnB 1000000000 v ≤ 90000
  rw [show 90000 = N + 1 by omega]
  refine (lnB_iff h9 _ _).1 (Nat.lt_of_le_of_lt hv ?_)
  have h1:(2:Nat) ^ e ≤ (2 ^ 29) ^ N:=by rw [← Nat.pow_mul]; exact Nat.pow_le_pow_right (by decide) (by omega)
  have h2:((2:Nat) ^ 29) ^ N ≤ 1000000000 ^ N:=Nat.pow_le_pow_left (by decide) _
  exact Nat.lt_of_le_of_lt (Nat.le_trans h1 h2) (Nat.pow_lt_pow_right (by decide) (by omega))
theorem quot_l2 (b' c':Nat) (e:Int) (hc:0 < c') (h1:b' < c' * 2 ^ 62) (hb:lnOk b') (hbc:lnOk (c' * 2 ^ 62)) :
    Dec.quotient.l2 (G c') e (G b') 0 61 = some (((b' / c':Nat):Int),e,decide (b' % c' ≠ 0)):=by
  unfold lnOk at hb hbc
  unfold Dec.quotient.l2
  have key:=loopO_run (step:=fun x:(List Int) × Int × Int=>Dec.quotient.s2 (G c') e x.1 x.2.1 x.2.2) (r:=some (((b' / c':Nat):Int),e,decide (b' % c' ≠ 0)))
    (fun j=>(G (b' % (c' * 2 ^ (62 - j))),((b' / (c' * 2 ^ (62 - j)) * 2 ^ (62 - j):Nat):Int),((61:Int) - (j:Int)))) 62 ?_ ?_
  · simp only [Nat.sub_zero,Nat.mod_eq_of_lt h1,Nat.div_eq_of_lt h1,Nat.zero_mul] at key; exact key
  · intro j hj
    obtain ⟨i,hi⟩:∃ i,i = 61 - j:=⟨_,rfl⟩
    have e1:62 - j = i + 1:=by omega
    have e2:62 - (j + 1) = i:=by omega
    have e3:(61:Int) - (j:Int) = (i:Int):=by omega
    have hd:0 < c' * 2 ^ i:=Nat.mul_pos hc (Nat.two_pow_pos _)
    have ed:c' * 2 ^ (i + 1) = 2 * (c' * 2 ^ i):=by rw [Nat.pow_succ,Nat.mul_comm 2,Nat.mul_assoc]
    have hs:=half_step (n:=b') hd
    have hcl:lnB 1000000000 (c' * 2 ^ i) ≤ 90000:=Nat.le_trans (lnB_mono h9 (Nat.mul_le_mul_left c' (Nat.pow_le_pow_right (by decide) (by omega)))) hbc
    have hrl:lnB 1000000000 (b' % (c' * 2 ^ (i + 1))) ≤ 90000:=Nat.le_trans (lnB_mono h9 (Nat.mod_le _ _)) hb
    have hpw:2 ^ i ≤ 2 ^ 61:=Nat.pow_le_pow_right (by decide) (by omega)
    have hq:b' / (c' * 2 ^ (i + 1)) * 2 ^ (i + 1) < 2 ^ 62:=by
      have hx:b' / (c' * 2 ^ (i + 1)) * 2 ^ (i + 1) ≤ b' / c':=by
        rw [← Nat.div_div_eq_div_mul]; exact Nat.div_mul_le_self _ _
      have hy:b' / c' < 2 ^ 62:=(Nat.div_lt_iff_lt_mul hc).2 (by rw [Nat.mul_comm]; exact h1)
      exact Nat.lt_of_le_of_lt hx hy
    show Dec.quotient.s2 (G c') e (G (b' % (c' * 2 ^ (62 - j)))) ((b' / (c' * 2 ^ (62 - j)) * 2 ^ (62 - j):Nat):Int) ((61:Int) - (j:Int)) = some (.inl (G (b' % (c' * 2 ^ (62 - (j + 1)))),((b' / (c' * 2 ^ (62 - (j + 1))) * 2 ^ (62 - (j + 1)):Nat):Int),(61:Int) - ((j + 1:Nat):Int)))
    rw [e1,e2,e3]
    obtain ⟨r,hr,h3,h4⟩:=compare_eq (b' % (c' * 2 ^ (i + 1))) (c' * 2 ^ i) (by omega) (by omega)
    unfold Dec.quotient.s2
    refine letT (decide_eq_true (by omega)) (bindE (power_eq c' 2 i (by decide) (by decide) (by omega) (by omega)) (bindE hr ?_))
    by_cases hle:c' * 2 ^ i ≤ b' % (c' * 2 ^ (i + 1))
    · rw [if_pos (by rw [← ed]; exact hle),← ed] at hs
      refine letT (decide_eq_true (by omega)) (bindE (less_eq _ _ (by omega) hle) (chkE (by omega) (letV (y:=((2 ^ i:Nat):Int)) ?_ (letV (y:=((b' / (c' * 2 ^ i) * 2 ^ i:Nat):Int)) ?_ (letV (wi (by omega) (by omega)) ?_)))))
      · have:min (i:Int).toNat IntKind.i64.bits = i:=by show min i 64 = i; omega
        rw [this,Int.one_mul]
        exact (congrArg _ (Int.natCast_pow 2 i).symm).trans (wN (Nat.lt_of_le_of_lt hpw (by decide)))
      · have hlt:2 ^ i < 2 ^ (i + 1):=Nat.pow_lt_pow_right (by decide) (by omega)
        rw [i_or (Nat.lt_of_lt_of_le hq (by decide)) (Nat.lt_of_le_of_lt hpw (by decide)),or_add hlt,hs.2]
        congr 1
        rw [Nat.add_mul,Nat.one_mul,Nat.pow_succ,Nat.mul_comm 2,Nat.mul_assoc,Nat.mul_comm (2 ^ i) 2]
      · rw [hs.1,show (61:Int) - ((j + 1:Nat):Int) = (i:Int) - 1 by omega]
    · rw [if_neg (by rw [← ed]; exact hle),← ed] at hs
      refine letF (decide_eq_false (by omega)) (letV (wi (by omega) (by omega)) ?_)
      rw [hs.1,hs.2,show (61:Int) - ((j + 1:Nat):Int) = (i:Int) - 1 by omega]
      have:2 * (b' / (c' * 2 ^ (i + 1))) * 2 ^ i = b' / (c' * 2 ^ (i + 1)) * 2 ^ (i + 1):=by rw [Nat.pow_succ,Nat.mul_comm 2,Nat.mul_assoc,Nat.mul_comm (2 ^ i) 2]
      rw [this]
  · refine loopO_end ?_
    show Dec.quotient.s2 (G c') e (G (b' % (c' * 2 ^ (62 - 62)))) ((b' / (c' * 2 ^ (62 - 62)) * 2 ^ (62 - 62):Nat):Int) ((61:Int) - ((62:Nat):Int)) = _
    unfold Dec.quotient.s2
    refine letF rfl ?_
    simp only [Nat.sub_self,Nat.pow_zero,Nat.mul_one]
    have hl:(G (b' % c')).length = lnB 1000000000 (b' % c'):=dgB_len _ _
    have hz:decide (((lnB 1000000000 (b' % c'):Nat):Int) > 0) = decide (b' % c' ≠ 0):=by
      have:=lnB_eq0 h9 (n:=b' % c')
      rw [decide_eq_decide]
      constructor
      · intro h hh; rw [this.2 hh] at h; omega
      · intro h; have:lnB 1000000000 (b' % c') ≠ 0:=fun hh=>h (this.1 hh); omega
    show Option.map Sum.inr (letk (((G (b' % c')).length:Int)) fun t52=>letk (decide (t52 > (0:Int))) fun t53=>some (((b' / c':Nat):Int),e,t53)) = some (Sum.inr (((b' / c':Nat):Int),e,decide (b' % c' ≠ 0)))
    rw [hl,← hz]; rfl
theorem quot_l1 (b' c:Nat) (e:Int) (hc:0 < c) (hb:lnOk b') (hbc:lnOk (c * 2 ^ 64 * 2 ^ lnB 2 b')) (he:-1000000 ≤ e ∧ e ≤ 1000000) (hl2:lnB 2 b' ≤ 1000000) :
    ∃ a:Nat,(0 < a → c * 2 ^ 61 * 2 ^ a ≤ b') ∧ b' < c * 2 ^ a * 2 ^ 62 ∧ Dec.quotient.l1 (G b') (G c) e (G (c * 2 ^ 60)) = some (((b' / (c * 2 ^ a):Nat):Int),e + a,decide (b' % (c * 2 ^ a) ≠ 0)):=by
  obtain ⟨a,h1,h2⟩:=least (P:=fun a=>b' < c * 2 ^ a * 2 ^ 62) ⟨lnB 2 b',by
    have:=lt_lnB (B:=2) (by decide) b'
    have h3:1 * 2 ^ lnB 2 b' * 1 ≤ c * 2 ^ lnB 2 b' * 2 ^ 62:=Nat.mul_le_mul (Nat.mul_le_mul_right _ hc) (by decide)
    omega⟩
  have hal:a ≤ lnB 2 b':=by
    rcases Nat.lt_or_ge (lnB 2 b') a with h | h
    · exfalso
      have h3:=h2 _ h
      have:=lt_lnB (B:=2) (by decide) b'
      have h4:1 * 2 ^ lnB 2 b' * 1 ≤ c * 2 ^ lnB 2 b' * 2 ^ 62:=Nat.mul_le_mul (Nat.mul_le_mul_right _ hc) (by decide)
      omega
    · exact h
  have hlow:∀ i,i ≤ a → ∀ s,s ≤ 64 → lnB 1000000000 (c * 2 ^ i * 2 ^ s) ≤ 90000:=by
    intro i hi s hs
    refine Nat.le_trans (lnB_mono h9 ?_) hbc
    rw [Nat.mul_right_comm]
    exact Nat.mul_le_mul (Nat.mul_le_mul_left c (Nat.pow_le_pow_right (by decide) hs)) (Nat.pow_le_pow_right (by decide) (by omega))
  have hc2:∀ i,i ≤ a → lnB 1000000000 (c * 2 ^ i) ≤ 90000:=fun i hi=>by
    have:=hlow i hi 0 (by decide); rwa [Nat.pow_zero,Nat.mul_one] at this
  have hp4:∀ i,c * 2 ^ i * 2 ^ 60 * 4 = c * 2 ^ i * 2 ^ 62:=fun i=>by rw [Nat.mul_assoc (c * 2 ^ i)]
  have hp2:∀ i,c * 2 ^ i * 2 ^ 60 * 2 = c * 2 ^ (i + 1) * 2 ^ 60:=fun i=>by rw [show 2 ^ (i + 1) = 2 ^ i * 2 from Nat.pow_succ ..,Nat.mul_right_comm,Nat.mul_assoc c]
  refine ⟨a,?_,h1,?_⟩
  · intro ha
    have:=h2 (a - 1) (by omega)
    have e:c * 2 ^ 61 * 2 ^ a = c * 2 ^ (a - 1) * 2 ^ 62:=by
      obtain ⟨k,rfl⟩:∃ k,a = k + 1:=⟨a - 1,by omega⟩
      rw [Nat.add_sub_cancel,Nat.mul_right_comm,Nat.pow_succ,← Nat.mul_assoc,Nat.mul_assoc (c * 2 ^ k)]
    omega
  · unfold Dec.quotient.l1
    have key:=loopO_run (step:=fun x:(List Int) × Int × (List Int)=>Dec.quotient.s1 (G b') x.1 x.2.1 x.2.2) (r:=some (((b' / (c * 2 ^ a):Nat):Int),e + a,decide (b' % (c * 2 ^ a) ≠ 0)))
      (fun i=>(G (c * 2 ^ i),e + (i:Int),G (c * 2 ^ i * 2 ^ 60))) a ?_ ?_
    · have e0:e + ((0:Nat):Int) = e:=by omega
      simp only [Nat.pow_zero,Nat.mul_one,e0] at key; exact key
    · intro i hi
      show Dec.quotient.s1 (G b') (G (c * 2 ^ i)) (e + (i:Int)) (G (c * 2 ^ i * 2 ^ 60)) = _
      have t1:=times_eq (c * 2 ^ i * 2 ^ 60) 4 (by decide) (Nat.le_trans (hlow i (by omega) 60 (by decide)) (by decide))
      have t2:=times_eq (c * 2 ^ i) 2 (by decide) (Nat.le_trans (hc2 i (by omega)) (by decide))
      have t3:=times_eq (c * 2 ^ i * 2 ^ 60) 2 (by decide) (Nat.le_trans (hlow i (by omega) 60 (by decide)) (by decide))
      rw [hp4] at t1
      rw [hp2] at t3
      rw [Nat.mul_assoc,← Nat.pow_succ] at t2
      obtain ⟨r,hr,h3,h4⟩:=compare_eq b' (c * 2 ^ i * 2 ^ 62) (Nat.le_trans hb (by decide)) (Nat.le_trans (hlow i (by omega) 62 (by decide)) (by decide))
      have hn:=h2 i hi
      unfold Dec.quotient.s1
      refine bindE t1 (bindE hr (letT (decide_eq_true (by omega)) (bindE t2 (bindE t3 (letV (wi (by omega) (by omega)) ?_)))))
      rw [show e + (i:Int) + 1 = e + ((i + 1:Nat):Int) by omega]
    · refine loopO_end ?_
      show Dec.quotient.s1 (G b') (G (c * 2 ^ a)) (e + (a:Int)) (G (c * 2 ^ a * 2 ^ 60)) = _
      have t1:=times_eq (c * 2 ^ a * 2 ^ 60) 4 (by decide) (Nat.le_trans (hlow a (by omega) 60 (by decide)) (by decide))
      rw [hp4] at t1
      obtain ⟨r,hr,h3,h4⟩:=compare_eq b' (c * 2 ^ a * 2 ^ 62) (Nat.le_trans hb (by decide)) (Nat.le_trans (hlow a (by omega) 62 (by decide)) (by decide))
      unfold Dec.quotient.s1
      refine bindE t1 (bindE hr (letF (decide_eq_false (by omega)) ?_))
      rw [quot_l2 b' (c * 2 ^ a) (e + a) (Nat.mul_pos hc (Nat.two_pow_pos _)) h1 hb (hlow a (by omega) 62 (by decide))]; rfl
theorem quot_eq (b c:Nat) (hb0:0 < b) (hc0:0 < c) {E:Nat} (hE:E = 30000) (hb:b < 2 ^ E) (hc:c < 2 ^ E) :
    ∃ k a m:Nat,2 ^ 60 ≤ m ∧ m < 2 ^ 62 ∧ m = b * 2 ^ k / (c * 2 ^ a) ∧ k ≤ 30060 ∧ a ≤ 60060 ∧
      Dec.quotient (G b) (G c) = some ((m:Int),(a:Int) - k,decide (b * 2 ^ k % (c * 2 ^ a) ≠ 0)):=by
  obtain ⟨Z,hZ⟩:∃ Z,Z = 200000:=⟨_,rfl⟩
  obtain ⟨W,hW⟩:∃ W,W = E + (E + 60):=⟨_,rfl⟩
  have hpow:∀ v:Nat,v ≤ 2 ^ Z → lnOk v:=fun v hv=>lnOk_pow (by omega) hv
  obtain ⟨k,h1,h2⟩:=least (P:=fun k=>c * 2 ^ 60 ≤ b * 2 ^ k) ⟨E + 60,by
    have h3:c * 2 ^ 60 ≤ 2 ^ E * 2 ^ 60:=Nat.mul_le_mul_right _ (Nat.le_of_lt hc)
    rw [← Nat.pow_add] at h3
    have h4:1 * 2 ^ (E + 60) ≤ b * 2 ^ (E + 60):=Nat.mul_le_mul_right _ hb0
    exact Nat.le_trans h3 (by rw [Nat.one_mul] at h4; exact h4)⟩
  have hk:k ≤ E + 60:=by
    rcases Nat.lt_or_ge (E + 60) k with h | h
    · exfalso
      refine h2 _ h ?_
      have h3:c * 2 ^ 60 ≤ 2 ^ E * 2 ^ 60:=Nat.mul_le_mul_right _ (Nat.le_of_lt hc)
      rw [← Nat.pow_add] at h3
      have h4:1 * 2 ^ (E + 60) ≤ b * 2 ^ (E + 60):=Nat.mul_le_mul_right _ hb0
      exact Nat.le_trans h3 (by rw [Nat.one_mul] at h4; exact h4)
    · exact h
  have hbk:∀ i,i ≤ k → b * 2 ^ i ≤ 2 ^ W:=fun i hi=>by
    have:=Nat.mul_le_mul (Nat.le_of_lt hb) (Nat.pow_le_pow_right (show 0 < 2 by decide) (Nat.le_trans hi hk))
    rw [← Nat.pow_add] at this
    rw [hW]; exact this
  have hl2:lnB 2 (b * 2 ^ k) ≤ W + 1:=(lnB_iff (by decide) _ _).1 (Nat.lt_of_le_of_lt (hbk k (Nat.le_refl _)) (Nat.pow_lt_pow_right (by decide) (by omega)))
  have hle:∀ i,i ≤ k → b * 2 ^ i ≤ 2 ^ Z:=fun i hi=>Nat.le_trans (hbk i hi) (Nat.pow_le_pow_right (by decide) (by omega))
  have hcb:lnOk (c * 2 ^ 64 * 2 ^ lnB 2 (b * 2 ^ k)):=by
    refine hpow _ ?_
    have:=Nat.mul_le_mul (Nat.mul_le_mul_right (2 ^ 64) (Nat.le_of_lt hc)) (Nat.pow_le_pow_right (show 0 < 2 by decide) hl2)
    rw [← Nat.pow_add,← Nat.pow_add] at this
    exact Nat.le_trans this (Nat.pow_le_pow_right (by decide) (by omega))
  have hc60:lnOk (c * 2 ^ 60):=by
    refine hpow _ ?_
    have:=Nat.mul_le_mul_right (2 ^ 60) (Nat.le_of_lt hc)
    rw [← Nat.pow_add] at this
    exact Nat.le_trans this (Nat.pow_le_pow_right (by decide) (by omega))
  obtain ⟨a,ha1,ha2,ha3⟩:=quot_l1 (b * 2 ^ k) c (-(k:Int)) hc0 (hpow _ (hle k (Nat.le_refl _))) hcb ⟨by omega,by omega⟩ (by omega)
  have hda:0 < c * 2 ^ a:=Nat.mul_pos hc0 (Nat.two_pow_pos _)
  refine ⟨k,a,b * 2 ^ k / (c * 2 ^ a),?_,?_,rfl,by omega,?_,?_⟩
  · rw [Nat.le_div_iff_mul_le hda,Nat.mul_comm]
    rcases Nat.eq_zero_or_pos a with rfl | h
    · rw [Nat.pow_zero,Nat.mul_one]; exact h1
    · refine Nat.le_trans ?_ (ha1 h)
      rw [Nat.mul_right_comm]
      exact Nat.mul_le_mul_right _ (Nat.mul_le_mul_left _ (by decide))
  · exact (Nat.div_lt_iff_lt_mul hda).2 (by rw [Nat.mul_comm (2 ^ 62)]; exact ha2)
  · rcases Nat.eq_zero_or_pos a with rfl | h
    · omega
    · have h3:=Nat.le_trans (ha1 h) (hbk k (Nat.le_refl _))
      rcases Nat.lt_or_ge W a with h4 | h4
      · exfalso
        have h5:1 * 2 ^ a ≤ c * 2 ^ 61 * 2 ^ a:=Nat.mul_le_mul_right _ (Nat.mul_pos hc0 (by decide))
        rw [Nat.one_mul] at h5
        have h6:=(Nat.pow_le_pow_iff_right (show 1 < 2 by decide)).1 (Nat.le_trans h5 h3)
        omega
      · omega
  · unfold Dec.quotient
    refine bindE (power_eq c 2 60 (by decide) (by decide) (by decide) (Nat.le_trans hc60 (by decide))) ?_
    unfold Dec.quotient.l0
    have key:=loopO_run (step:=fun x:(List Int) × Int=>Dec.quotient.s0 (G c) (G (c * 2 ^ 60)) x.1 x.2) (r:=some (((b * 2 ^ k / (c * 2 ^ a):Nat):Int),(a:Int) - k,decide (b * 2 ^ k % (c * 2 ^ a) ≠ 0)))
      (fun i=>(G (b * 2 ^ i),-(i:Int))) k ?_ ?_
    · have e0:-((0:Nat):Int) = 0:=by omega
      simp only [Nat.pow_zero,Nat.mul_one,e0] at key; exact key
    · intro i hi
      show Dec.quotient.s0 (G c) (G (c * 2 ^ 60)) (G (b * 2 ^ i)) (-(i:Int)) = _
      have t1:=times_eq (b * 2 ^ i) 2 (by decide) (Nat.le_trans (hpow _ (hle i (by omega))) (by decide))
      rw [Nat.mul_assoc,← Nat.pow_succ] at t1
      obtain ⟨r,hr,h3,h4⟩:=compare_eq (b * 2 ^ i) (c * 2 ^ 60) (Nat.le_trans (hpow _ (hle i (by omega))) (by decide)) (Nat.le_trans hc60 (by decide))
      have hn:=h2 i hi
      unfold Dec.quotient.s0
      refine bindE hr (letT (decide_eq_true (by omega)) (bindE t1 (letV (wi (by omega) (by omega)) ?_)))
      rw [show -(i:Int) - 1 = -((i + 1:Nat):Int) by omega]
    · refine loopO_end ?_
      show Dec.quotient.s0 (G c) (G (c * 2 ^ 60)) (G (b * 2 ^ k)) (-(k:Int)) = _
      obtain ⟨r,hr,h3,h4⟩:=compare_eq (b * 2 ^ k) (c * 2 ^ 60) (Nat.le_trans (hpow _ (hle k (Nat.le_refl _))) (by decide)) (Nat.le_trans hc60 (by decide))
      unfold Dec.quotient.s0
      refine bindE hr (letF (decide_eq_false (by omega)) ?_)
      rw [ha3,show -(k:Int) + a = (a:Int) - k by omega]; rfl
end Go.Q
namespace Go.Q
open Go
set_option maxRecDepth 10000
theorem dgQ_b {c:UInt8} (h:dgQ c = true):48 ≤ c.toNat ∧ c.toNat ≤ 57:=by
  unfold dgQ at h
  simpa only [Bool.and_eq_true,decide_eq_true_eq] using h
theorem parse_dgQ:∀ (l:BS) (a:Nat),l.all dgQ = true → a * 10 ^ l.length + 10 ^ l.length ≤ 10 ^ 18 → Lib.parseUint10 a l = .ok (a * 10 ^ l.length + vd l)
  | [],a,_,_=>by unfold Lib.parseUint10; rw [vd_nil]; simp
  | c :: r,a,h,hb=>by
    simp only [List.all_cons,Bool.and_eq_true] at h
    obtain ⟨d1,d2⟩:=dgQ_b h.1
    have hp:0 < 10 ^ r.length:=Nat.pow_pos (by omega)
    rw [List.length_cons,Nat.pow_succ] at hb
    have hmul:a * (10 ^ r.length * 10) = (10 * a) * 10 ^ r.length:=by rw [Nat.mul_comm (10 ^ r.length),← Nat.mul_assoc,Nat.mul_comm a]
    rw [hmul] at hb
    have hmul2:(10 * a + (c.toNat - 48)) * 10 ^ r.length = 10 * a * 10 ^ r.length + (c.toNat - 48) * 10 ^ r.length:=Nat.add_mul _ _ _
    have h9:(c.toNat - 48) * 10 ^ r.length ≤ 9 * 10 ^ r.length:=Nat.mul_le_mul_right _ (by omega)
    have ha:10 * a ≤ 10 * a * 10 ^ r.length:=Nat.le_mul_of_pos_right _ hp
    unfold Lib.parseUint10
    rw [if_pos ⟨d1,d2⟩,if_neg (by omega),if_neg (by omega)]
    rw [show a * 10 + (c.toNat - 48) = 10 * a + (c.toNat - 48) by omega]
    rw [parse_dgQ r _ h.2 (by rw [hmul2]; omega),vd_cons,hmul2,List.length_cons,Nat.pow_succ,hmul]
    unfold cv
    congr 1
    omega
theorem atoi_dgQ {l:BS} (hl:l.length ≤ 17) (h0:l ≠ []) (ha:l.all dgQ = true):Strconv.Atoi (B l) = some ((vd l:Int),()):=by
  have hA:Lib.atoiAll l = .ok (vd l:Int):=by
    cases l with
    | nil=>exact absurd rfl h0
    | cons c r =>
      have hc:dgQ c = true:=by simp only [List.all_cons,Bool.and_eq_true] at ha; exact ha.1
      obtain ⟨d1,d2⟩:=dgQ_b hc
      have h5:10 ^ (c :: r).length ≤ 10 ^ 17:=Nat.pow_le_pow_right (by omega) hl
      have hpd:=parse_dgQ (c :: r) 0 ha (by omega)
      have hb2:=vd_lt (c :: r) ha
      unfold Lib.atoiAll Lib.parseMag
      simp only
      rw [if_neg (by omega:¬ (c.toNat = 43 ∨ c.toNat = 45)),if_neg (by simp),hpd]
      simp only
      rw [Nat.zero_mul,Nat.zero_add,if_neg (by omega),if_neg (by omega),if_neg (by omega)]
  unfold Strconv.Atoi
  rw [chk_pos (show (B l).size ≤ _ by rw [B_size]; omega),L_B,hA]
theorem whole_s0 {l:BS} {i:Nat} (ha:l.all dgQ = true) (hl:l.length ≤ 100000) (hi:9 * i < l.length) :
    Dec.whole.s0 (B l) (dkB 1000000000 i (vd l)) ((l.length:Int) - ((9 * i:Nat):Int)) = some (.inl (dkB 1000000000 (i + 1) (vd l),(l.length:Int) - ((9 * (i + 1):Nat):Int))):=by
  have hs:(B l).size = l.length:=B_size l
  have hx:L ((B l).extract (l.length - 9 * i - 9) (l.length - 9 * i)) = (l.take (l.length - 9 * i)).drop (l.length - 9 * i - 9):=by rw [L_ext,L_B]
  have hat:=atoi_dgQ (l:=(l.take (l.length - 9 * i)).drop (l.length - 9 * i - 9)) (by rw [List.length_drop,List.length_take]; omega)
    (by intro h0; have:=congrArg List.length h0; rw [List.length_drop,List.length_take,List.length_nil] at this; omega) (all_drop _ (all_take _ ha))
  rw [vd_part ha hi] at hat
  unfold Dec.whole.s0
  refine letT (decide_eq_true (by omega)) (letV (wi (by omega) (by omega)) (letV (y:=((l.length - 9 * i - 9:Nat):Int)) ?_ (chkE ?_ (letV (y:=(B l).extract (l.length - 9 * i - 9) (l.length - 9 * i)) ?_ (bindE (a:=(((bdB 1000000000 (vd l) i:Nat):Int),())) ?_ (chkE ?_ (letV (dk_push _ _ rfl) (letV (wi (by omega) (by omega)) ?_))))))))
  · split <;> omega
  · rw [hs]; omega
  · congr 1; omega
  · rw [← B_L ((B l).extract _ _),hx]; exact hat
  · rw [dkB_len]; show (i + 1) * 8 ≤ _; omega
  · rw [show (l.length:Int) - ((9 * i:Nat):Int) - 9 = (l.length:Int) - ((9 * (i + 1):Nat):Int) by omega]
theorem whole_eq {l:BS} (ha:l.all dgQ = true) (hl:l.length ≤ 100000):Dec.whole (B l) = some (G (vd l)):=by
  unfold Dec.whole
  refine letV (y:=(l.length:Int)) (by rw [B_size]) ?_
  unfold Dec.whole.l0
  have key:=loopO_run (step:=fun x:(List Int) × Int=>Dec.whole.s0 (B l) x.1 x.2) (r:=some (G (vd l)))
    (fun i=>(dkB 1000000000 i (vd l),(l.length:Int) - ((9 * i:Nat):Int))) ((l.length + 8) / 9) (fun i hi=>whole_s0 ha hl (by omega)) ?_
  · have e0:(l.length:Int) - ((9 * 0:Nat):Int) = (l.length:Int):=by omega
    simp only [e0,dkB_zero] at key; exact key
  · refine loopO_end ?_
    show Dec.whole.s0 (B l) (dkB 1000000000 ((l.length + 8) / 9) (vd l)) ((l.length:Int) - ((9 * ((l.length + 8) / 9):Nat):Int)) = _
    unfold Dec.whole.s0
    refine letF (decide_eq_false (by omega)) ?_
    rw [trim_eq (parts_end ha (by omega)) (by omega)]; rfl
theorem Make_eq {kind mode:Int} {p w:Nat} (h:kindS kind p w) (hm:0 ≤ mode ∧ mode < 4) {sign e:Int} {m:Nat} (hs:sign = 0 ∨ sign = 1) (h0:0 < m) (h1:m < 9223372036854775808) (he:-2000 ≤ e ∧ e ≤ 2000) :
    Flt.Make kind mode sign m e = some ((rndS p w mode sign m e false).1,(rndS p w mode sign m e false).2,0):=by
  have hk:=h.ok
  have er:=round_eq hk (mode:=mode) (e:=e) (more:=false) (hi:=0) (lo:=m) hs (by decide) (by omega) (by omega) (by omega) (by omega) (by intro q; cases q)
  rw [Nat.zero_mul,Nat.zero_add] at er
  unfold Flt.Make
  refine bindE (of_eq h) (letF rfl (letF (decide_eq_false (by omega)) (letF (decide_eq_false (by omega)) (letF (decide_eq_false (by omega)) (letF (decide_eq_false (by omega)) (letF (decide_eq_false (by omega)) (letF (decide_eq_false (by omega)) (letF (decide_eq_false (by omega)) ?_))))))))
  unfold Flt.Make.j0
  refine letF (beq_eq_false_iff_ne.2 (by omega)) (letV (y:=(m:Int)) ?_ (bindE (a:=rndS p w mode sign m e false) er rfl))
  exact wu (by omega) (by omega)
theorem rndF_two {p w N:Nat} {mode sign e:Int} (hN:0 < N):rndF p w mode sign (N * 2 ^ e.toNat) (2 ^ (-e).toNat) = rndS p w mode sign N e false:=by
  obtain ⟨a,ha⟩:∃ a,a = e.toNat:=⟨_,rfl⟩
  obtain ⟨b,hb⟩:∃ b,b = (-e).toNat:=⟨_,rfl⟩
  obtain ⟨K,hK⟩:∃ K,K = (lstS p w).natAbs + 1:=⟨_,rfl⟩
  rw [← ha,← hb]
  have hd:0 < 2 ^ b:=Nat.two_pow_pos b
  have e1:N * 2 ^ a * 2 ^ (b + K) = N * 2 ^ (a + K) * 2 ^ b:=by rw [Nat.mul_assoc,Nat.mul_assoc,← Nat.pow_add,← Nat.pow_add]; congr 2; omega
  have hu:unF (N * 2 ^ a) (2 ^ b) (b + K) = N * 2 ^ (a + K):=by unfold unF; rw [e1,Nat.mul_div_cancel _ hd]
  have hl:leF (N * 2 ^ a) (2 ^ b) (b + K) = false:=by unfold leF; rw [e1,Nat.mul_mod_left]; rfl
  have hdp:Deep p w (N * 2 ^ a) (2 ^ b) (b + K):=deep_of (by rw [hu]; exact Nat.mul_pos hN (Nat.two_pow_pos _)) (.inr (by omega))
  rw [rndF_eq hd hdp]
  unfold rndJ
  rw [hu,hl]
  have:=rndS_shift (p:=p) (w:=w) (N:=N) (k:=a + K) (mode:=mode) (sign:=sign) (e:=e) hN
  rw [show e - ((a + K:Nat):Int) = -((b + K:Nat):Int) by omega] at this
  exact this
def shD (l:BS):BS:=l.dropWhile (· == 48)
theorem shD_split (l:BS):∃ k,l = List.replicate k 48 ++ shD l:=by
  induction l with
  | nil=>exact ⟨0,rfl⟩
  | cons c r ih =>
    unfold shD
    rw [List.dropWhile_cons]
    split
    · rename_i h
      have:=eq_of_beq h
      subst this
      obtain ⟨k,hk⟩:=ih
      refine ⟨k + 1,?_⟩
      rw [List.replicate_succ,List.cons_append]
      exact congrArg _ hk
    · exact ⟨0,rfl⟩
theorem shD_vd (l:BS):vd (shD l) = vd l:=by
  obtain ⟨k,hk⟩:=shD_split l
  have:=congrArg vd hk
  rw [vd_append,vd_zeros,Nat.zero_mul,Nat.zero_add] at this
  exact this.symm
theorem shD_all {l:BS} (h:l.all dgQ = true):(shD l).all dgQ = true:=by
  obtain ⟨k,hk⟩:=shD_split l
  rw [hk,List.all_append,Bool.and_eq_true] at h
  exact h.2
theorem shD_len (l:BS):(shD l).length ≤ l.length:=by
  obtain ⟨k,hk⟩:=shD_split l
  have:=congrArg List.length hk
  rw [List.length_append,List.length_replicate] at this
  omega
theorem shD_head {l:BS} {c:UInt8} {r:BS} (h:shD l = c :: r):c ≠ 48:=by
  have h1:=List.head?_dropWhile_not (fun x:UInt8=>x == 48) l
  unfold shD at h
  rw [h] at h1
  simpa using h1
theorem vd_low {c:UInt8} {r:BS} (hc:c ≠ 48) (ha:(c :: r).all dgQ = true):10 ^ r.length ≤ vd (c :: r):=by
  have h1:dgQ c = true:=by simp only [List.all_cons,Bool.and_eq_true] at ha; exact ha.1
  have h2:cv c ≠ 0:=fun h=>hc ((cv_zero h1).1 h)
  rw [vd_cons]
  have:1 * 10 ^ r.length ≤ cv c * 10 ^ r.length:=Nat.mul_le_mul_right _ (by omega)
  omega
theorem shD_nil {l:BS} (h:l.all dgQ = true):shD l = [] ↔ vd l = 0:=by
  constructor
  · intro e; rw [← shD_vd,e]; rfl
  · intro e
    cases hs:shD l with
    | nil=>rfl
    | cons c r =>
      have hc:=shD_head hs
      have:=vd_low hc (hs ▸ shD_all h)
      rw [← hs,shD_vd,e] at this
      have:=Nat.pow_pos (n:=r.length) (show 0 < 10 by decide)
      omega
end Go.Q
namespace Go.Q
open Go
set_option maxRecDepth 10000
theorem condT {ρ:Type} {x:Bool} {A B:Option ρ} {r:Option ρ} (hx:x = true) (h:A = r):(bif x then A else B) = r:=by subst hx; exact h
theorem condF {ρ:Type} {x:Bool} {A B:Option ρ} {r:Option ρ} (hx:x = false) (h:B = r):(bif x then A else B) = r:=by subst hx; exact h
theorem ten_le_two (n:Nat):10 ^ n ≤ 2 ^ (4 * n):=by rw [Nat.pow_mul]; exact Nat.pow_le_pow_left (by decide) n
theorem TL_eq (l:BS):Strs.TrimLeft (B l) ⟨#[48]⟩ = some (B (shD l)):=by
  unfold Strs.TrimLeft
  rw [chk_pos rfl,L_B]; rfl
theorem B_one:([1]:List Int) = G 1:=by
  unfold G dgB
  rw [show lnB 1000000000 1 = 1 from (by rw [lnB_pos h9 (by decide),show 1 / 1000000000 = 0 from rfl,lnB_zero])]
  rfl
theorem round_j0 {kind mode:Int} {p w:Nat} (h:kindS kind p w) (hm:0 ≤ mode ∧ mode < 4) {sign:Int} (hs:sign = 0 ∨ sign = 1) {b c:Nat} (hb:0 < b) (hc:0 < c) {F:Nat} (hF:F = 30000) (hb1:b < 2 ^ F) (hc1:c < 2 ^ F)
    {E:Nat} (hE:E = 1700) (h1:b ≤ c * 2 ^ E) (h2:c ≤ b * 2 ^ E) :
    Dec.round.j0 kind mode sign (G b) (G c) = some ((rndF p w mode sign b c).1,(rndF p w mode sign b c).2,0):=by
  obtain ⟨k,a,m,m1,m2,hm1,hk,ha,hq⟩:=quot_eq b c hb hc hF hb1 hc1
  have hda:0 < c * 2 ^ a:=Nat.mul_pos hc (Nat.two_pow_pos _)
  have hp:p ≤ 53:=by rcases h with ⟨_,rfl,_⟩ | ⟨_,rfl,_⟩ | ⟨_,rfl,_⟩ <;> decide
  have hbl:61 ≤ bl m:=by
    rcases Nat.lt_or_ge (bl m) 61 with hx | hx
    · have h3:=bl_lt m
      have h4:2 ^ bl m ≤ 2 ^ 60:=Nat.pow_le_pow_right (by decide) (by clear hb1 hc1 h1 h2 hq; omega)
      clear hb1 hc1 h1 h2 hq
      omega
    · exact hx
  have hea:(a:Int) - k ≤ 1700:=by
    have e1:2 ^ 60 * (c * 2 ^ a) ≤ b * 2 ^ k:=by
      have:=(Nat.le_div_iff_mul_le hda).1 (hm1 ▸ m1); exact this
    have e2:2 ^ 60 * (c * 2 ^ a) ≤ c * 2 ^ E * 2 ^ k:=Nat.le_trans e1 (Nat.mul_le_mul_right _ h1)
    have e3:2 ^ 60 * 2 ^ a ≤ 2 ^ E * 2 ^ k:=by
      refine Nat.le_of_mul_le_mul_left ?_ hc
      rw [← Nat.mul_assoc,← Nat.mul_assoc,Nat.mul_comm c,Nat.mul_assoc]; exact e2
    rw [← Nat.pow_add,← Nat.pow_add] at e3
    have:=(Nat.pow_le_pow_iff_right (show 1 < 2 by decide)).1 e3
    clear hb1 hc1 h1 h2 e1 e2 e3 hq
    omega
  have hek:(k:Int) - a ≤ 1800:=by
    have e1:b * 2 ^ k < 2 ^ 62 * (c * 2 ^ a):=(Nat.div_lt_iff_lt_mul hda).1 (hm1 ▸ m2)
    have e2:b * 2 ^ k < 2 ^ 62 * (b * 2 ^ E * 2 ^ a):=Nat.lt_of_lt_of_le e1 (Nat.mul_le_mul_left _ (Nat.mul_le_mul_right _ h2))
    have e3:2 ^ k < 2 ^ 62 * (2 ^ E * 2 ^ a):=by
      refine Nat.lt_of_mul_lt_mul_left (a:=b) ?_
      rw [← Nat.mul_assoc,Nat.mul_comm b (2 ^ 62),Nat.mul_assoc,← Nat.mul_assoc b]; exact e2
    rw [← Nat.pow_add,← Nat.pow_add] at e3
    have:=(Nat.pow_lt_pow_iff_right (show 1 < 2 by decide)).1 e3
    clear hb1 hc1 h1 h2 e1 e2 e3 hq
    omega
  have hd:0 < lastS p w m ((a:Int) - k) - ((a:Int) - k):=by
    have:=(lastS_ge p w m ((a:Int) - k)).2
    clear hb1 hc1 h1 h2 hq
    omega
  have hr:=quot_rnd (p:=p) (w:=w) (mode:=mode) (sign:=sign) hc hm1 rfl rfl (by clear hb1 hc1 h1 h2 hq; omega)
  have hst:=rnd_sticky (p:=p) (w:=w) (m:=m) (mode:=mode) (sign:=sign) (rest:=decide (b * 2 ^ k % (c * 2 ^ a) ≠ 0)) (by clear hb1 hc1 h1 h2 hq; omega) hd
  rw [hr,← hst]
  unfold Dec.round.j0
  refine bindE hq (letV (y:=((m * 2:Nat):Int)) ((congrArg _ (Int.natCast_mul m 2).symm).trans (wN (by clear hb1 hc1 h1 h2 hq hr hst; omega))) ?_)
  have hea2:(a:Int) - k - 1 ≤ 2000:=by clear hb1 hc1 h1 h2; omega
  have hek2:-2000 ≤ (a:Int) - k - 1:=by clear hb1 hc1 h1 h2; omega
  clear hb1 hc1 h1 h2 hq hr hst
  cases decide (b * 2 ^ k % (c * 2 ^ a) ≠ 0) with
  | true =>
    refine condT rfl ?_
    exact letV (y:=((m * 2 + 1:Nat):Int)) ((congrArg _ (Int.natCast_add (m * 2) 1).symm).trans (wN (by omega))) (letV (wi (by omega) (by omega)) (bindE (Make_eq h hm hs (by omega) (by omega) ⟨by omega,by omega⟩) rfl))
  | false =>
    refine condF rfl ?_
    exact letV (wi (by omega) (by omega)) (bindE (Make_eq h hm hs (by omega) (by omega) ⟨by omega,by omega⟩) rfl)
def atD (l:BS) (x:Int):Int:=x - ((l.length - (shD l).length:Nat):Int)
theorem round_head {kind mode sign:Int} {l:BS} {x:Int} {r:Option (Int × Int × Int)} (hl:l.length ≤ 1000) (hx:-100000 ≤ x ∧ x ≤ 100000) (hv:0 < vd l) (ha:l.all dgQ = true)
    (h:(letk (decide (atD l x > (400:Int))) fun t40 =>
    bif t40 then
      Option.bind (Flt.Make kind mode sign 1 2000) fun (t44_0,t44_1,t44_2) =>
      some (t44_0,t44_1,t44_2)
    else
      letk (decide (atD l x < ((-400):Int))) fun t50 =>
      bif t50 then
        Option.bind (Flt.Make kind mode sign 1 (-2000)) fun (t54_0,t54_1,t54_2) =>
        some (t54_0,t54_1,t54_2)
      else
        Option.bind (Dec.whole (B (shD l))) fun t59 =>
        letk ((B (shD l)).size:Int) fun t63 =>
        letk (IntKind.i64.wrap (atD l x - t63)) fun t64 =>
        letk (decide (t64 ≥ (0:Int))) fun t66 =>
        bif t66 then
          Option.bind (Dec.big.power t59 10 t64) fun t69 =>
          Dec.round.j0 kind mode sign t69 ([1])
        else
          letk (IntKind.i64.wrap (0 - t64)) fun t72 =>
          Option.bind (Dec.big.power ([1]) 10 t72) fun t73 =>
          Dec.round.j0 kind mode sign t59 t73) = r):Dec.round kind mode sign (B l) x = r:=by
  have hsl:=shD_len l
  unfold Dec.round
  refine bindE (TL_eq l) (letV (y:=(l.length:Int)) (by rw [B_size]) (letV (y:=((shD l).length:Int)) (by rw [B_size]) (letV (y:=((l.length - (shD l).length:Nat):Int)) ?_ (letV (y:=atD l x) ?_ (letF ?_ h)))))
  · rw [wi (by omega) (by omega)]; omega
  · exact wi (by omega) (by omega)
  · rw [show (⟨#[]⟩:ByteArray) = B [] from rfl,beq_L,L_B]
    cases hs:shD l with
    | nil=>have:=(shD_nil ha).1 hs; omega
    | cons c r=>rfl
theorem round_in {kind mode:Int} {p w:Nat} (h:kindS kind p w) (hm:0 ≤ mode ∧ mode < 4) {sign:Int} (hs:sign = 0 ∨ sign = 1) {l:BS} (ha:l.all dgQ = true) (hl:l.length ≤ 1000) {x:Int} (hx:-100000 ≤ x ∧ x ≤ 100000) (hv:0 < vd l)
    (h1:-400 ≤ atD l x) (h2:atD l x ≤ 400) :
    Dec.round kind mode sign (B l) x = some ((rndF p w mode sign (vd l * 10 ^ (x - l.length).toNat) (10 ^ ((l.length:Int) - x).toNat)).1,(rndF p w mode sign (vd l * 10 ^ (x - l.length).toNat) (10 ^ ((l.length:Int) - x).toNat)).2,0):=by
  have hsl:=shD_len l
  have ed:atD l x - ((shD l).length:Int) = x - l.length:=by unfold atD; omega
  have hup:vd l < 10 ^ (shD l).length:=by have:=vd_lt (shD l) (shD_all ha); rwa [shD_vd] at this
  have hlo:10 ^ ((shD l).length - 1) ≤ vd l ∧ 0 < (shD l).length:=by
    cases hsd:shD l with
    | nil=>have:=(shD_nil ha).1 hsd; omega
    | cons c r =>
      have:=vd_low (shD_head hsd) (hsd ▸ shD_all ha)
      rw [← hsd,shD_vd] at this
      exact ⟨this,by rw [List.length_cons]; omega⟩
  obtain ⟨Q,hQ⟩:∃ Q,Q = 4000:=⟨_,rfl⟩
  obtain ⟨Q1,hQ1⟩:∃ Q,Q = 1600:=⟨_,rfl⟩
  obtain ⟨Q2,hQ2⟩:∃ Q,Q = 5600:=⟨_,rfl⟩
  obtain ⟨E,hE⟩:∃ E,E = 1700:=⟨_,rfl⟩
  obtain ⟨F,hF⟩:∃ F,F = 30000:=⟨_,rfl⟩
  obtain ⟨T,hT⟩:∃ T,T = 400:=⟨_,rfl⟩
  have hup2:vd l < 2 ^ Q:=Nat.lt_of_lt_of_le hup (Nat.le_trans (ten_le_two _) (Nat.pow_le_pow_right (by decide) (by omega)))
  refine round_head hl hx hv ha (letF (decide_eq_false (by omega)) (letF (decide_eq_false (by omega)) (bindE (a:=G (vd l)) ?_ (letV (y:=((shD l).length:Int)) (by rw [B_size]) (letV (y:=x - l.length) ?_ ?_)))))
  · rw [whole_eq (shD_all ha) (by omega),shD_vd]
  · rw [wi (by omega) (by omega)]; exact ed
  · by_cases hpos:x - l.length ≥ 0
    · have hn:(x - l.length).toNat ≤ 400:=by omega
      have hpw:10 ^ (x - l.length).toNat ≤ 2 ^ Q1:=Nat.le_trans (ten_le_two _) (Nat.pow_le_pow_right (by decide) (by omega))
      have hp0:0 < 10 ^ (x - l.length).toNat:=Nat.pow_pos (by decide)
      have hb:vd l * 10 ^ (x - l.length).toNat < 2 ^ Q1:=by
        have hq:vd l * 10 ^ (x - l.length).toNat < 10 ^ (shD l).length * 10 ^ (x - l.length).toNat:=Nat.mul_lt_mul_of_pos_right hup hp0
        rw [← Nat.pow_add] at hq
        exact Nat.lt_of_lt_of_le hq (Nat.le_trans (ten_le_two _) (Nat.pow_le_pow_right (by decide) (by omega)))
      refine letT (decide_eq_true hpos) (bindE (a:=G (vd l * 10 ^ (x - l.length).toNat)) ?_ ?_)
      · have:=power_eq (vd l) 10 (x - l.length).toNat (by decide) (by decide) (by omega) (Nat.le_trans (lnOk_pow (e:=Q1) (by omega) (Nat.le_of_lt hb)) (by decide))
        rw [Int.toNat_of_nonneg hpos] at this; exact this
      · have ez:((l.length:Int) - x).toNat = 0:=by omega
        rw [B_one,ez,Nat.pow_zero]
        refine round_j0 h hm hs (Nat.mul_pos hv hp0) (by decide) hF (Nat.lt_trans hb (Nat.pow_lt_pow_right (by decide) (by omega))) (Nat.one_lt_two_pow (by omega)) hE ?_ ?_
        · rw [Nat.one_mul]; exact Nat.le_trans (Nat.le_of_lt hb) (Nat.pow_le_pow_right (by decide) (by omega))
        · exact Nat.mul_pos (Nat.mul_pos hv hp0) (Nat.two_pow_pos _)
    · have hn:((l.length:Int) - x).toNat ≤ 1400:=by omega
      have hpw:10 ^ ((l.length:Int) - x).toNat < 2 ^ (Q2 + 1):=Nat.lt_of_le_of_lt (Nat.le_trans (ten_le_two _) (Nat.pow_le_pow_right (by decide) (show 4 * ((l.length:Int) - x).toNat ≤ Q2 by omega))) (Nat.pow_lt_pow_right (by decide) (by omega))
      have hp0:0 < 10 ^ ((l.length:Int) - x).toNat:=Nat.pow_pos (by decide)
      refine letF (decide_eq_false hpos) (letV (y:=(l.length:Int) - x) ?_ (bindE (a:=G (10 ^ ((l.length:Int) - x).toNat)) ?_ ?_))
      · rw [wi (by omega) (by omega)]; omega
      · have:=power_eq 1 10 ((l.length:Int) - x).toNat (by decide) (by decide) (by omega) (by rw [Nat.one_mul]; exact Nat.le_trans (lnOk_pow (e:=Q2 + 1) (by omega) (Nat.le_of_lt hpw)) (by decide))
        rw [Int.toNat_of_nonneg (by omega),Nat.one_mul,← B_one] at this; exact this
      · have ez:(x - (l.length:Int)).toNat = 0:=by omega
        rw [ez,Nat.pow_zero,Nat.mul_one]
        refine round_j0 h hm hs hv hp0 hF (Nat.lt_trans hup2 (Nat.pow_lt_pow_right (by decide) (by omega))) (Nat.lt_trans hpw (Nat.pow_lt_pow_right (by decide) (by omega))) hE ?_ ?_
        · have e1:10 ^ (shD l).length ≤ 10 ^ ((l.length:Int) - x).toNat * 10 ^ T:=by rw [← Nat.pow_add]; exact Nat.pow_le_pow_right (by decide) (by omega)
          exact Nat.le_trans (Nat.le_of_lt hup) (Nat.le_trans e1 (Nat.mul_le_mul_left _ (Nat.le_trans (ten_le_two _) (Nat.pow_le_pow_right (by decide) (by omega)))))
        · have e1:10 ^ ((l.length:Int) - x).toNat ≤ 10 ^ ((shD l).length - 1) * 10 ^ (T + 1):=by rw [← Nat.pow_add]; exact Nat.pow_le_pow_right (by decide) (by omega)
          exact Nat.le_trans e1 (Nat.mul_le_mul hlo.1 (Nat.le_trans (ten_le_two _) (Nat.pow_le_pow_right (by decide) (by omega))))
theorem round_up {kind mode:Int} {p w:Nat} (h:kindS kind p w) (hm:0 ≤ mode ∧ mode < 4) {sign:Int} (hs:sign = 0 ∨ sign = 1) {l:BS} (ha:l.all dgQ = true) (hl:l.length ≤ 1000) {x:Int} (hx:-100000 ≤ x ∧ x ≤ 100000) (hv:0 < vd l) (h1:400 < atD l x) :
    Dec.round kind mode sign (B l) x = some ((rndS p w mode sign 1 2000 false).1,(rndS p w mode sign 1 2000 false).2,0) :=
  round_head hl hx hv ha (letT (decide_eq_true h1) (bindE (Make_eq (m:=1) h hm hs (by decide) (by decide) (by decide)) rfl))
theorem round_down {kind mode:Int} {p w:Nat} (h:kindS kind p w) (hm:0 ≤ mode ∧ mode < 4) {sign:Int} (hs:sign = 0 ∨ sign = 1) {l:BS} (ha:l.all dgQ = true) (hl:l.length ≤ 1000) {x:Int} (hx:-100000 ≤ x ∧ x ≤ 100000) (hv:0 < vd l) (h1:atD l x < -400) :
    Dec.round kind mode sign (B l) x = some ((rndS p w mode sign 1 (-2000) false).1,(rndS p w mode sign 1 (-2000) false).2,0) :=
  round_head hl hx hv ha (letF (decide_eq_false (by omega)) (letT (decide_eq_true h1) (bindE (Make_eq (m:=1) h hm hs (by decide) (by decide) (by decide)) rfl)))
theorem round_any {kind:Int} {p w:Nat} (h:kindS kind p w) {l:BS} (ha:l.all dgQ = true) (hl:l.length ≤ 1000) {x:Int} (hx:-100000 ≤ x ∧ x ≤ 100000) (hv:0 < vd l) :
    ∃ num den:Nat,0 < num ∧ 0 < den ∧ ∀ mode sign,0 ≤ mode ∧ mode < 4 → sign = 0 ∨ sign = 1 → Dec.round kind mode sign (B l) x = some ((rndF p w mode sign num den).1,(rndF p w mode sign num den).2,0):=by
  rcases Int.lt_or_le 400 (atD l x) with h1 | h1
  · obtain ⟨z,hz⟩:∃ z:Int,z = 2000:=⟨_,rfl⟩
    refine ⟨1 * 2 ^ z.toNat,2 ^ (-z).toNat,Nat.mul_pos (by decide) (Nat.two_pow_pos _),Nat.two_pow_pos _,fun mode sign hm hs=>?_⟩
    rw [rndF_two (by decide),hz,round_up h hm hs ha hl hx hv h1]
  · rcases Int.lt_or_le (atD l x) (-400) with h2 | h2
    · obtain ⟨z,hz⟩:∃ z:Int,z = -2000:=⟨_,rfl⟩
      refine ⟨1 * 2 ^ z.toNat,2 ^ (-z).toNat,Nat.mul_pos (by decide) (Nat.two_pow_pos _),Nat.two_pow_pos _,fun mode sign hm hs=>?_⟩
      rw [rndF_two (by decide),hz,round_down h hm hs ha hl hx hv h2]
    · exact ⟨_,_,Nat.mul_pos hv (Nat.pow_pos (by decide)),Nat.pow_pos (by decide),fun mode sign hm hs=>round_in h hm hs ha hl hx hv h2 h1⟩
end Go.Q
