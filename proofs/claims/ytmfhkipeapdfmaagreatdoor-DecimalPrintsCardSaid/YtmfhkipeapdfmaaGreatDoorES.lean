import Derived.Test.YtmfhkipeapdfmaaGreatDoorER
import Derived.Test.YtmfhkipeapdfmaaGreatDoorAB
import Derived.Test.YtmfhkipeapdfmaaGreatDoorAC
import Derived.Test.YtmfhkipeapdfmaaGreatDoorDQ
import Derived.Test.YtmfhkipeapdfmaaGreatDoorDR
namespace Go.Q
open Go
set_option maxRecDepth 10000
def fm (p w:Nat):quadratref02.Form:=⟨p,w⟩
theorem fBias {p w:Nat} (h:OkS p w):Ref2.Form.bias (fm p w) = some (biasS w):=by
  rcases h with ⟨rfl,rfl⟩ | ⟨rfl,rfl⟩ | ⟨rfl,rfl⟩ <;> (unfold Ref2.Form.bias; exact letV rfl (chkE (by decide) (letV rfl (letV rfl rfl))))
theorem fTop {p w:Nat} (h:OkS p w):Ref2.Form.top (fm p w) = some ((2 ^ w - 1:Nat):Int):=by
  rcases h with ⟨rfl,rfl⟩ | ⟨rfl,rfl⟩ | ⟨rfl,rfl⟩ <;> (unfold Ref2.Form.top; exact chkE (by decide) (letV rfl (letV rfl rfl)))
theorem FormOf_eq {kind:Int} {p w:Nat} (h:kindS kind p w):Ref2.FormOf kind = some (fm p w,true):=by
  rcases h with ⟨rfl,rfl,rfl⟩ | ⟨rfl,rfl,rfl⟩ | ⟨rfl,rfl,rfl⟩ <;> rfl
theorem FormOf_no {kind:Int} (h:¬ (kind = 2 ∨ kind = 4 ∨ kind = 8)):Ref2.FormOf kind = some (⟨0,0⟩,false):=by
  unfold Ref2.FormOf
  exact letF (beq_false_of_ne (by omega)) (letF (beq_false_of_ne (by omega)) (letF (beq_false_of_ne (by omega)) rfl))
theorem ln_bl (v:Nat):lnB 4294967296 v ≤ bl v / 32 + 1:=by
  refine (lnB_iff h32 _ _).1 (Nat.lt_of_lt_of_le (bl_lt v) ?_)
  rw [show (4294967296:Nat) = 2 ^ 32 by decide,← Nat.pow_mul]
  exact Nat.pow_le_pow_right (by decide) (by omega)
theorem rs_zero {t d:Nat}:rsC t d = 0 ↔ t = 0:=by
  unfold rsC
  split
  · omega
  · split
    · omega
    · split <;> omega
theorem aw0 (mode sign:Int) (odd:Bool):awayS mode sign odd 0 = false:=by
  unfold awayS
  split
  · rfl
  · split
    · rfl
    · split <;> rfl
theorem rAway_eq {mode sign:Int} (hm:0 ≤ mode ∧ mode < 4) {odd:Bool} {t d:Nat} (ht:bl t ≤ 100000) (hd:bl d ≤ 100000):Ref2.away mode sign odd (Nt t) (Nt d) = some (awayS mode sign odd (rsC t d)):=by
  have l1:=ln_bl t
  have l2:=ln_bl d
  have lt2:bl (t * 2 ^ 1) ≤ 100001:=by
    rcases Nat.eq_zero_or_pos t with rfl | h
    · rw [Nat.zero_mul,bl_zero]; omega
    · rw [bl_shift h]; omega
  have l3:=ln_bl (t * 2 ^ 1)
  unfold Ref2.away
  rcases Nat.eq_zero_or_pos t with rfl | h0
  · rw [show rsC 0 d = 0 from rfl,show Nt 0 = [] from dgB_zero _]
    refine letV rfl (letT rfl ?_)
    unfold Ref2.away.j1
    rw [aw0]; rfl
  · have hne:rsC t d ≠ 0:=fun e=>by rw [rs_zero] at e; omega
    have hlen:(Nt t).length ≠ 0:=by rw [Nt_len]; have:=lnB_gt h32 h0; omega
    refine letV rfl (letF (beq_false_of_ne (by omega)) ?_)
    have hpos:decide (0 < rsC t d) = true:=decide_eq_true (by omega)
    obtain rfl | rfl | rfl | rfl:mode = 0 ∨ mode = 1 ∨ mode = 2 ∨ mode = 3:=by omega
    · refine letV rfl ?_
      show Ref2.away.j0 (Nt t) (Nt d) odd = _
      unfold Ref2.away.j0
      refine bindE (up_eq (k:=1) (by omega)) (bindE (ncomp_eq _ _ (by omega) (by omega)) ?_)
      rw [Nat.pow_one]
      by_cases c1:2 * t < d
      · have r1:rsC t d = 1:=by unfold rsC; rw [if_neg (by omega),if_pos c1]
        have r2:cmpI (t * 2) d = -1:=by unfold cmpI; rw [if_pos (by omega)]
        rw [r1,r2]; exact letF rfl (letF rfl rfl)
      · by_cases c2:2 * t = d
        · have r1:rsC t d = 2:=by unfold rsC; rw [if_neg (by omega),if_neg c1,if_pos c2]
          have r2:cmpI (t * 2) d = 0:=by unfold cmpI; rw [if_neg (by omega),if_pos (by omega)]
          rw [r1,r2]; exact letF rfl (letT rfl rfl)
        · have r1:rsC t d = 3:=by unfold rsC; rw [if_neg (by omega),if_neg c1,if_neg c2]
          have r2:cmpI (t * 2) d = 1:=by unfold cmpI; rw [if_neg (by omega),if_neg (by omega)]
          rw [r1,r2]; exact letT rfl rfl
    · exact letV rfl rfl
    · refine letV rfl ?_
      show some (sign == (1:Int)) = some (decide (0 < rsC t d) && decide (sign = 1))
      rw [hpos,Bool.true_and]; rfl
    · refine letV rfl ?_
      show some (sign == (0:Int)) = some (decide (0 < rsC t d) && decide (sign = 0))
      rw [hpos,Bool.true_and]; rfl
theorem bias_pow {p w:Nat} (h:OkS p w):2 * biasS w + 1 = ((2 ^ w - 1:Nat):Int) ∧ 1 ≤ biasS w ∧ biasS w ≤ 1023 ∧ 31 ≤ 2 ^ w - 1:=by
  rcases h with ⟨rfl,rfl⟩ | ⟨rfl,rfl⟩ | ⟨rfl,rfl⟩ <;> decide
end Go.Q
namespace Go.Q
open Go
set_option maxRecDepth 10000
end Go.Q
namespace Go.Q
open Go
set_option maxRecDepth 10000
theorem beqN (c:UInt8) (n:Nat) (hn:n < 256):(((c.toNat:Nat):Int) == (n:Int)) = (c == UInt8.ofNat n):=by
  rw [Bool.eq_iff_iff,beq_iff_eq,beq_iff_eq]
  constructor
  · intro h; apply UInt8.toNat_inj.1; rw [UInt8.toNat_ofNat_of_lt' hn]; omega
  · rintro rfl; rw [UInt8.toNat_ofNat_of_lt' hn]
theorem head_sz (c:UInt8) (r:BS):(B (c :: r)).size = r.length + 1 ∧ bt (B (c :: r)) 0 = (c.toNat:Int) ∧ (B (c :: r)).extract (1:Int).toNat (B (c :: r)).size = B r :=
  ⟨B_size _,bt_B (c :: r) 0 (by simp),drop_B (c :: r) 1⟩
end Go.Q
namespace Go.Q
open Go
set_option maxRecDepth 10000
theorem bl_mul (a b:Nat):bl (a * b) ≤ bl a + bl b:=by
  refine bl_le_iff.2 ?_
  rw [Nat.pow_add]
  exact Nat.mul_lt_mul'' (bl_lt a) (bl_lt b)
theorem bl_ten (k:Nat):bl (10 ^ k) ≤ 4 * k + 1:=by
  refine bl_le_iff.2 (Nat.lt_of_le_of_lt (ten_le_two k) (Nat.pow_lt_pow_right (by decide) (by omega)))
theorem bl_mono {a b:Nat} (h:a ≤ b):bl a ≤ bl b:=bl_le_iff.2 (Nat.lt_of_le_of_lt h (bl_lt b))
theorem tim {a b:Nat} (ha:bl a ≤ 60000) (hb:bl b ≤ 60000):Ref2.times (Nt a) (Nt b) = some (Nt (a * b)):=by
  have h1:=ln_bl a
  have h2:=ln_bl b
  exact ntimes_eq a b (by omega)
theorem rpower_eq {n:Nat} (hn:n ≤ 5000):Ref2.power (n:Int) = some (Nt (10 ^ n)):=by
  have t9:∀ k:Nat,k ≤ 10000 → Ref2.times (Nt (10 ^ k)) (Nt 1000000000) = some (Nt (10 ^ (k + 9))):=fun k hk=>by
    have h1:=bl_ten k
    rw [Nat.pow_add]; exact tim (by omega) (by decide)
  have t1:∀ k:Nat,k ≤ 10000 → Ref2.times (Nt (10 ^ k)) (Nt 10) = some (Nt (10 ^ (k + 1))):=fun k hk=>by
    have h1:=bl_ten k
    rw [Nat.pow_succ]; exact tim (by omega) (by decide)
  have hl1:∀ r k:Nat,r ≤ 100 → k + r ≤ 9100 → Ref2.power.l1 (r:Int) (Nt (10 ^ k)) = some (Nt (10 ^ (k + r))):=by
    intro r
    induction r with
    | zero =>
      intro k _ _
      unfold Ref2.power.l1
      refine loopO_end ?_
      show Ref2.power.s1 ((0:Nat):Int) (Nt (10 ^ k)) = _
      unfold Ref2.power.s1
      exact letF rfl rfl
    | succ r ih =>
      intro k h1 h2
      unfold Ref2.power.l1
      refine loopO_next (t:=((r:Int),Nt (10 ^ (k + 1)))) ?_ ?_
      · show Ref2.power.s1 ((r + 1:Nat):Int) (Nt (10 ^ k)) = _
        unfold Ref2.power.s1
        exact letT (decide_eq_true (by omega)) (bindE (small_eq (n:=10) (by decide)) (bindE (t1 k (by omega)) (letV (isub r (by omega)) rfl)))
      · have:=ih (k + 1) (by omega) (by omega)
        rw [show k + 1 + r = k + (r + 1) by omega] at this
        exact this
  have hl0:∀ m r k:Nat,r < 9 → k + 9 * m + r ≤ 9000 → Ref2.power.l0 ((9 * m + r:Nat):Int) (Nt (10 ^ k)) = some (Nt (10 ^ (k + (9 * m + r)))):=by
    intro m
    induction m with
    | zero =>
      intro r k h1 h2
      rw [Nat.mul_zero,Nat.zero_add]
      unfold Ref2.power.l0
      refine loopO_end ?_
      show Ref2.power.s0 (r:Int) (Nt (10 ^ k)) = _
      unfold Ref2.power.s0
      refine letF (decide_eq_false (by omega)) ?_
      rw [hl1 r k (by omega) (by omega)]; rfl
    | succ m ih =>
      intro r k h1 h2
      unfold Ref2.power.l0
      refine loopO_next (t:=(((9 * m + r:Nat):Int),Nt (10 ^ (k + 9)))) ?_ ?_
      · show Ref2.power.s0 ((9 * (m + 1) + r:Nat):Int) (Nt (10 ^ k)) = _
        unfold Ref2.power.s0
        refine letT (decide_eq_true (by omega)) (bindE (small_eq (n:=1000000000) (by decide)) (bindE (t9 k (by omega)) (letV (y:=((9 * m + r:Nat):Int)) ?_ rfl)))
        rw [wi (by omega) (by omega)]; omega
      · have:=ih r (k + 9) h1 (by omega)
        rw [show k + 9 + (9 * m + r) = k + (9 * (m + 1) + r) by omega] at this
        exact this
  unfold Ref2.power
  refine bindE (small_eq (n:=1) (by decide)) ?_
  have:=hl0 (n / 9) (n % 9) 0 (by omega) (by omega)
  rw [show 9 * (n / 9) + n % 9 = n by omega,Nat.zero_add] at this
  exact this
end Go.Q
