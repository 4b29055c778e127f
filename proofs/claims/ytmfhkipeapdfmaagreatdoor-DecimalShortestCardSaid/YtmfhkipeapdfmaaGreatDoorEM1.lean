import Derived.Test.YtmfhkipeapdfmaaGreatDoorES
import Derived.Test.YtmfhkipeapdfmaaGreatDoorDR
namespace Go.Q
open Go
set_option maxRecDepth 10000
def codeS (p w s k:Nat):Int:=IntKind.i64.wrap (((s * 2 ^ (p + w - 1) + k:Nat):Int))
theorem wi_ng {x:Int} (h:9223372036854775808 ≤ x) (h2:x < 18446744073709551616):IntKind.i64.wrap x = x - 18446744073709551616:=by
  rw [IntKind.wrap_i64]; omega
theorem wrap_u {v:Nat} (hv:v < 18446744073709551616):(IntKind.i64.wrap (v:Int) % 18446744073709551616).toNat = v ∧ I64 (IntKind.i64.wrap (v:Int)):=by
  unfold I64
  rcases Nat.lt_or_ge v 9223372036854775808 with q | q
  · rw [wi (by omega) (by omega)]; omega
  · rw [wi_ng (by omega) (by omega)]; omega
theorem pack_code (p w s E f:Nat):packS p w (s:Int) E f = codeS p w s (E * 2 ^ (p - 1) + f):=by
  unfold packS codeS
  rw [show ((s:Int)).toNat = s from rfl,Nat.add_assoc]
theorem code_facts {p w:Nat} (h:OkS p w) {s k:Nat} (hs:s < 2) (hk:k ≤ (2 ^ w - 1) * 2 ^ (p - 1)) :
    I64 (codeS p w s k) ∧ bitsOk p w (codeS p w s k) ∧ sgnS p w (codeS p w s k % 18446744073709551616).toNat = s ∧ sizeS p w (codeS p w s k) = k:=by
  obtain ⟨a1,a2,a3,a4,a5,_⟩:=h.facts
  have hpw:2 ^ (p + w - 1) = 2 ^ w * 2 ^ (p - 1):=by rw [← Nat.pow_add]; congr 1; omega
  have hp1:=Nat.two_pow_pos (p - 1)
  have hk2:k < 2 ^ (p + w - 1):=by
    have e:(2 ^ w - 1) * 2 ^ (p - 1) + 2 ^ (p - 1) = 2 ^ (p + w - 1):=by
      rw [hpw]
      have:=Nat.two_pow_pos w
      have h2:=Nat.add_mul (2 ^ w - 1) 1 (2 ^ (p - 1))
      rw [Nat.one_mul,show 2 ^ w - 1 + 1 = 2 ^ w by omega] at h2
      exact h2.symm
    omega
  have hpp:2 ^ (p + w) = 2 * 2 ^ (p + w - 1):=by rw [Nat.mul_comm,← Nat.pow_succ]; congr 1; omega
  have hu:s * 2 ^ (p + w - 1) + k < 2 ^ (p + w):=by
    have:=Nat.mul_le_mul_right (2 ^ (p + w - 1)) (show s ≤ 1 by omega)
    omega
  have h64:2 ^ (p + w) ≤ 18446744073709551616:=by rw [show (18446744073709551616:Nat) = 2 ^ 64 by decide]; exact Nat.pow_le_pow_right (by decide) a3
  obtain ⟨hm,hI⟩:=wrap_u (Nat.lt_of_lt_of_le hu h64)
  rw [show IntKind.i64.wrap (((s * 2 ^ (p + w - 1) + k:Nat):Int)) = codeS p w s k from rfl] at hm hI
  refine ⟨?_,?_,?_,?_⟩
  · exact hI
  · unfold bitsOk; rw [hm]; rintro ⟨_,h2⟩; omega
  · rw [hm]; unfold sgnS
    rw [Nat.mul_comm,Nat.mul_add_div (Nat.two_pow_pos _),Nat.div_eq_of_lt hk2,Nat.add_zero,Nat.mod_eq_of_lt hs]
  · unfold sizeS; rw [hm,Nat.mul_comm,Nat.mul_add_mod,Nat.mod_eq_of_lt hk2]
theorem code_inj {p w:Nat} (h:OkS p w) {s k k2:Nat} (hs:s < 2) (hk:k ≤ (2 ^ w - 1) * 2 ^ (p - 1)) (hk2:k2 ≤ (2 ^ w - 1) * 2 ^ (p - 1)) (e:codeS p w s k = codeS p w s k2):k = k2:=by
  have h1:=(code_facts h hs hk).2.2.2
  have h2:=(code_facts h hs hk2).2.2.2
  rw [e] at h1; omega
end Go.Q
