import Derived.Test.YtmfhkipeapdfmaaGreatDoorDQ
namespace Go.Q
open Go Go.Proofs
set_option maxRecDepth 10000
theorem dec_ds:∀ u:Nat,0 < u → Lib.decDigits u = ds u:=by
  intro u
  induction u using Nat.strongRecOn with
  | ind u ih =>
    intro hu
    rw [Lib.decDigits,ds_pos hu]
    by_cases h:u < 10
    · rw [dif_pos h,Nat.mod_eq_of_lt h,Nat.div_eq_of_lt h,ds_zero]; rfl
    · rw [dif_neg h,ih (u / 10) (by omega) (by omega)]; rfl
theorem itoa_ds {n:Nat} (h:0 < n):Lib.itoa (n:Int) = ds n:=by rw [Lib.itoa_nonneg,dec_ds n h]
theorem itoa_zero:Lib.itoa 0 = [48]:=by
  have:=Lib.itoa_nonneg 0
  rw [show ((0:Nat):Int) = 0 from rfl] at this
  rw [this,Lib.decDigits_one (by decide)]; rfl
theorem itoa_vd (n:Nat):vd (Lib.itoa (n:Int)) = n ∧ (Lib.itoa (n:Int)).all dgQ = true:=by
  rcases Nat.eq_zero_or_pos n with rfl | h
  · rw [show ((0:Nat):Int) = 0 from rfl,itoa_zero]; exact ⟨rfl,rfl⟩
  · rw [itoa_ds h]; exact ⟨vd_ds n,ds_all n⟩
theorem itoa_len {n k:Nat} (h:n < 10 ^ k) (hk:0 < k):(Lib.itoa (n:Int)).length ≤ k:=by
  rcases Nat.eq_zero_or_pos n with rfl | h0
  · rw [show ((0:Nat):Int) = 0 from rfl,itoa_zero]; exact hk
  · rw [itoa_ds h0,ds_len]; exact (lnB_iff (by decide) _ _).1 h
theorem itoa_nine:∀ x:Int,0 ≤ x → x < 1000000000 → (Lib.itoa x).length ≤ 9:=by
  intro x h0 h1
  obtain ⟨n,rfl⟩:∃ n:Nat,x = n:=⟨x.toNat,by omega⟩
  exact itoa_len (by omega) (by decide)
theorem Itoa_eq {n:Nat} (h:n < 9223372036854775808):Strconv.Itoa (n:Int) = some (B (Lib.itoa (n:Int))):=by
  unfold Strconv.Itoa
  rw [chk_pos (by omega)]
theorem repeat_zero (k:Nat):Lib.repeatL [48] k = (List.replicate k 48:BS):=by
  induction k with
  | zero=>rfl
  | succ k ih=>rw [List.replicate_succ,← ih]; rfl
theorem nineI_eq {d:Nat} (h:d < 1000000000):nineI (d:Int) = nine d:=by
  unfold nineI nine
  rw [repeat_zero]
  rcases Nat.eq_zero_or_pos d with rfl | h0
  · rw [show ((0:Nat):Int) = 0 from rfl,itoa_zero,ds_zero]; rfl
  · rw [itoa_ds h0]
theorem ok_G {v:Nat} (h:lnB 1000000000 v ≤ 100000):okD (G v):=by
  have hl:(G v).length = lnB 1000000000 v:=dgB_len _ _
  refine ⟨by omega,fun i=>?_,itoa_nine⟩
  rcases Nat.lt_or_ge i (lnB 1000000000 v) with hi | hi
  · have e:(G v)[i]? = some ((bdB 1000000000 v i:Nat):Int):=dgB_get hi
    rw [e,Option.getD_some]
    have:=bdB_lt (B:=1000000000) (by decide) v i
    omega
  · rw [List.getElem?_eq_none (by omega)]; decide
theorem outS_parts (v:Nat) (hz:∀ i:Nat,0 ≤ (G v)[i]?.getD 0 ∧ (G v)[i]?.getD 0 < 1000000000):∀ j k:Nat,j + k = lnB 1000000000 v → outS (Bk.upto (d9 (G v) hz) j) ++ parts9 v k = parts9 v (lnB 1000000000 v)
  | 0,k,h=>by
    have e:k = lnB 1000000000 v:=by omega
    subst e
    rfl
  | j + 1,k,h=>by
    have hl:(G v).length = lnB 1000000000 v:=dgB_len _ _
    have e:Bk.upto (d9 (G v) hz) (j + 1) = Bk.upto (d9 (G v) hz) j ++ [d9 (G v) hz j]:=Bk.upto_succ _ _
    have hp:parts9 v (k + 1) = nine (bdB 1000000000 v k) ++ parts9 v k:=rfl
    have hd:nineI (d9 (G v) hz j).1.2 = nine (bdB 1000000000 v k):=by
      have e1:(d9 (G v) hz j).1.2 = ((bdB 1000000000 v k:Nat):Int):=by
        show (G v)[(G v).length - 1 - j]?.getD 0 = _
        have ek:(G v).length - 1 - j = k:=by omega
        have eg:(G v)[k]? = some ((bdB 1000000000 v k:Nat):Int):=dgB_get (by omega)
        rw [ek,eg,Option.getD_some]
      rw [e1,nineI_eq (bd9_lt v k)]
    rw [e,outS_snoc,hd,List.append_assoc,← hp]
    exact outS_parts v hz j (k + 1) (by omega)
theorem digits_eq {v:Nat} (h:lnB 1000000000 v ≤ 100000):Dec.big.digits (G v) = some (B (ds v)):=by
  unfold Dec.big.digits
  rw [dif_pos (ok_G h)]
  have hl:(G v).length = lnB 1000000000 v:=dgB_len _ _
  have:=outS_parts v (ok_G h).2.1 (lnB 1000000000 v) 0 (by omega)
  rw [show parts9 v 0 = [] from rfl,List.append_nil] at this
  rw [hl,this]
  unfold Lib.trimLeftB
  rw [parts9_all (Nat.le_refl _)]
def trD (l:BS):BS:=(l.reverse.dropWhile (· == 48)).reverse
theorem TR_eq {l:BS} (h:l.length ≤ 9223372036854775807):Strs.TrimRight (B l) ⟨#[48]⟩ = some (B (trD l)):=by
  unfold Strs.TrimRight
  rw [chk_pos ⟨by rw [B_size]; exact h,rfl⟩,L_B]; rfl
theorem trD_split (l:BS):∃ k,l = trD l ++ List.replicate k 48:=by
  obtain ⟨k,hk⟩:=shD_split l.reverse
  refine ⟨k,?_⟩
  have:=congrArg List.reverse hk
  rw [List.reverse_reverse,List.reverse_append,List.reverse_replicate] at this
  exact this
end Go.Q
