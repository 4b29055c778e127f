import Derived.Test.YtmfhkipeapdfmaaGreatDoorED2
namespace Go.Q
open Go
set_option maxRecDepth 10000
def spT (x:float.number):ByteArray × Bool:=if x.class_ = 3 then (B nanB,true) else if x.class_ = 2 then (B (if x.sign = 1 then 45 :: infB else infB),true) else (⟨#[]⟩,false)
theorem num_cases {p w:Nat} {a:Int} :
    (expS p w (uS a) = 2 ^ w - 1 ∧ frcS p (uS a) = 0 ∧ (numS p w a).class_ = 2) ∨ (expS p w (uS a) = 2 ^ w - 1 ∧ frcS p (uS a) ≠ 0 ∧ (numS p w a).class_ = 3) ∨ (expS p w (uS a) ≠ 2 ^ w - 1 ∧ ((numS p w a).class_ = 0 ∨ (numS p w a).class_ = 1)):=by
  have hn:numS p w a = readS p w (uS a):=rfl
  rw [hn]
  unfold readS
  by_cases c1:expS p w (uS a) = 2 ^ w - 1
  · by_cases c2:frcS p (uS a) = 0
    · rw [if_pos ⟨c1,c2⟩]; exact .inl ⟨c1,c2,rfl⟩
    · rw [if_neg (fun h=>c2 h.2),if_pos c1]; exact .inr (.inl ⟨c1,c2,rfl⟩)
  · rw [if_neg (fun h=>c1 h.1),if_neg c1]
    refine .inr (.inr ⟨c1,?_⟩)
    split
    · exact .inl rfl
    · split <;> exact .inr rfl
theorem numS_sgn (p w:Nat) (a:Int):(numS p w a).sign = sgnS p w (uS a):=by
  have hn:numS p w a = readS p w (uS a):=rfl
  rw [hn]
  unfold readS
  repeat' split
  all_goals rfl
theorem sgn_lt (p w:Nat) (a:Int):sgnS p w (uS a) < 2:=Nat.mod_lt _ (by decide)
theorem rSpecial {p w:Nat} (h:OkS p w) {a:Int} (hb:bitsOk p w a):Ref2.Form.special (fm p w) a = some (spT (numS p w a)):=by
  have hexp:expS p w (uS a) < 2 ^ w:=Nat.mod_lt _ (Nat.two_pow_pos _)
  have hs:=numS_sgn p w a
  have hs2:=sgn_lt p w a
  unfold Ref2.Form.special spT
  rcases num_cases (p:=p) (w:=w) (a:=a) with ⟨c1,c2,c3⟩ | ⟨c1,c2,c3⟩ | ⟨c1,c3⟩
  · rw [if_neg (by rw [c3]; decide),if_pos c3]
    refine bindE (fParts h hb) (bindE (fTop h) (letF (decide_eq_false (by rw [c1]; omega)) (letF (by rw [c2]; rfl) ?_)))
    rcases Nat.eq_zero_or_pos (sgnS p w (uS a)) with q | q
    · rw [hs,q]; exact letF rfl rfl
    · rw [hs,show sgnS p w (uS a) = 1 by omega]; exact letT rfl rfl
  · rw [if_pos c3]
    exact bindE (fParts h hb) (bindE (fTop h) (letF (decide_eq_false (by rw [c1]; omega)) (letT (bne_iff_ne.2 (by omega)) rfl)))
  · rw [if_neg (by omega),if_neg (by omega)]
    exact bindE (fParts h hb) (bindE (fTop h) (letT (decide_eq_true (by omega)) rfl))
theorem rMinus {p w:Nat} (h:OkS p w) {a:Int} (hb:bitsOk p w a):Ref2.Form.minus (fm p w) a = some (B (minD (numS p w a).sign)):=by
  have hs2:=sgn_lt p w a
  rw [numS_sgn]
  unfold Ref2.Form.minus
  refine bindE (fParts h hb) ?_
  rcases Nat.eq_zero_or_pos (sgnS p w (uS a)) with q | q
  · rw [q]; exact letF rfl rfl
  · rw [show sgnS p w (uS a) = 1 by omega]; exact letT rfl rfl
theorem class_no {kind:Int} {p w:Nat} (h:kindS kind p w) {a:Int} (hb:bitsOk p w a):((numS p w a).class_ = 0 → Flt.Class kind a = some (B [122,101,114,111])) ∧ ((numS p w a).class_ = 3 → Flt.Class kind a = some (B bNone)):=by
  refine ⟨fun hc=>?_,fun hc=>?_⟩
  · unfold Flt.Class
    exact bindE (two_eq h (by decide) hb hb) (letF rfl (letT (by rw [hc]; rfl) rfl))
  · unfold Flt.Class
    exact bindE (two_eq h (by decide) hb hb) (letF rfl (letF (by rw [hc]; rfl) (letF (by rw [hc]; rfl) (letT (by rw [hc]; rfl) rfl))))
theorem dSpecial {kind:Int} {p w:Nat} (h:kindS kind p w) {a:Int} (hi:I64 a) (hb:bitsOk p w a):Dec.special kind a = some (spT (numS p w a)):=by
  rcases num_cases (p:=p) (w:=w) (a:=a) with ⟨c1,c2,c3⟩ | ⟨c1,c2,c3⟩ | ⟨c1,c3 | c3⟩
  · have hpk:=pack_self h.ok hi hb
    have hs:=numS_sgn p w a
    have hs2:=sgn_lt p w a
    rw [c1,c2] at hpk
    unfold spT
    rw [if_neg (by rw [c3]; decide),if_pos c3,hs,← hpk]
    clear hpk hs c1 c2 c3 hb
    generalize sgnS p w (uS a) = s at *
    obtain rfl | rfl:s = 0 ∨ s = 1:=by omega
    · rcases h with ⟨rfl,rfl,rfl⟩ | ⟨rfl,rfl,rfl⟩ | ⟨rfl,rfl,rfl⟩ <;> exact (Dec.special.c_le _ _).of (by kernel_rfl)
    · rcases h with ⟨rfl,rfl,rfl⟩ | ⟨rfl,rfl,rfl⟩ | ⟨rfl,rfl,rfl⟩ <;> exact (Dec.special.c_le _ _).of (by kernel_rfl)
  · unfold Dec.special spT
    rw [if_pos c3]
    exact bindE ((class_no h hb).2 c3) (letT (bq bNone bNone rfl) rfl)
  · unfold Dec.special spT
    rw [if_neg (by rw [c3]; decide),if_neg (by rw [c3]; decide)]
    exact bindE ((class_no h hb).1 c3) (letF (bq _ bNone rfl) (letF (bq _ bInf rfl) rfl))
  · unfold spT
    rw [if_neg (by rw [c3]; decide),if_neg (by rw [c3]; decide)]
    exact special_eq h hb c3
theorem parts_zero {kind:Int} {p w:Nat} (h:kindS kind p w) {a:Int} (hb:bitsOk p w a) (hc:(numS p w a).class_ = 0):Dec.parts kind a = some ((numS p w a).sign,B [],0):=by
  have hf:Dec.isFinite kind a = some false:=by
    unfold Dec.isFinite
    exact bindE ((class_no h hb).1 hc) (letF (bq _ bLeast rfl) (letV (bq _ bNormal rfl) rfl))
  have hp:Flt.Parts kind a = some ((numS p w a).sign,0,0,0):=by
    unfold Flt.Parts
    refine bindE (two_eq h (by decide) hb hb) (letF rfl (letF (by rw [hc]; rfl) (letV (y:=false) (by rw [hc]; rfl) ?_)))
    unfold Flt.Parts.j1
    exact condF rfl (letT (by rw [hc]; rfl) rfl)
  unfold Dec.parts
  exact bindE hf (condF rfl (bindE hp rfl))
theorem itoa_dig {n:Nat} (h:n < 10):Lib.itoa (n:Int) = [dc n]:=by
  rcases Nat.eq_zero_or_pos n with rfl | h0
  · rw [show (((0:Nat):Int)) = 0 from rfl,itoa_zero]; rfl
  · rw [itoa_ds h0,ds_pos h0,Nat.div_eq_of_lt h,ds_zero,Nat.mod_eq_of_lt h]; rfl
theorem itoa_split {n:Nat} (h:10 ≤ n):Lib.itoa (n:Int) = Lib.itoa ((n / 10:Nat):Int) ++ Lib.itoa ((n % 10:Nat):Int):=by
  rw [itoa_ds (by omega),ds_pos (by omega),itoa_ds (n:=n / 10) (by omega),itoa_dig (Nat.mod_lt n (by decide))]
theorem whole_F (K:Nat):∀ (m n:Nat),n < 10 ^ (m + 1) → m ≤ 15 → (Rec51.at_ (K + m + 1)).f51 (n:Int) = some (B (Lib.itoa (n:Int))):=by
  intro m
  induction m with
  | zero =>
    intro n hn _
    rw [Nat.pow_one] at hn
    have h10:(⟨#[48,49,50,51,52,53,54,55,56,57]⟩:ByteArray).size = 10:=rfl
    show Ref2.whole.F (Rec51.at_ (K + 0)) (n:Int) = _
    unfold Ref2.whole.F
    refine letF (decide_eq_false (by omega)) (letT (decide_eq_true (by omega)) (letV (iadd n 1 (by omega)) (chkE ⟨by omega,by omega,by rw [h10]; omega⟩ (letV (dig_str n hn) ?_))))
    rw [itoa_dig hn]
  | succ m ih =>
    intro n hn hm
    have hp:10 ^ (m + 1 + 1) ≤ 10 ^ 17:=Nat.pow_le_pow_right (by decide) (by omega)
    have e17:(10:Nat) ^ 17 = 100000000000000000:=by decide
    have h10:(⟨#[48,49,50,51,52,53,54,55,56,57]⟩:ByteArray).size = 10:=rfl
    show Ref2.whole.F (Rec51.at_ (K + m + 1)) (n:Int) = _
    unfold Ref2.whole.F
    refine letF (decide_eq_false (by omega)) ?_
    by_cases c:n < 10
    · refine letT (decide_eq_true (by omega)) (letV (iadd n 1 (by omega)) (chkE ⟨by omega,by omega,by rw [h10]; omega⟩ (letV (dig_str n c) ?_)))
      rw [itoa_dig c]
    · have h1:n / 10 < 10 ^ (m + 1):=by rw [Nat.div_lt_iff_lt_mul (by decide),← Nat.pow_succ]; exact hn
      have h2:n % 10 < 10 ^ (m + 1):=Nat.lt_of_lt_of_le (Nat.mod_lt n (by decide)) (by have:=Nat.pow_le_pow_right (n:=10) (by decide) (show 1 ≤ m + 1 by omega); omega)
      have r1:=ih (n / 10) h1 (by omega)
      have r2:=ih (n % 10) h2 (by omega)
      have l1:(Lib.itoa ((n / 10:Nat):Int)).length ≤ m + 1:=itoa_len h1 (by omega)
      have l2:(Lib.itoa ((n % 10:Nat):Int)).length ≤ m + 1:=itoa_len h2 (by omega)
      refine letF (decide_eq_false (by omega)) (chkE (by decide) (letV (y:=((n / 10:Nat):Int)) ?_ (bindE r1 (chkE (by decide) (letV (y:=((n % 10:Nat):Int)) ?_ (bindE r2 (chkE ?_ (letV (B_app _ _) ?_))))))))
      · rw [Int.tdiv_eq_ediv_of_nonneg (by omega),wi (by omega) (by omega)]; rfl
      · rw [Int.tmod_eq_emod_of_nonneg (by omega)]; rfl
      · rw [B_size,B_size]; omega
      · rw [itoa_split (n:=n) (by omega)]
theorem whole_nat {n:Nat} (h:n < 100000):Ref2.whole (n:Int) = some (B (Lib.itoa (n:Int))):=whole_F 99999995 4 n h (by decide)
end Go.Q
