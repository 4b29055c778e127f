import Derived.Test.YtmfhkipeapdfmaaGreatDoorDQ6
import Derived.Test.YtmfhkipeapdfmaaGreatDoorAB
import Derived.Test.YtmfhkipeapdfmaaGreatDoorZU
namespace Go.Q
open Go
set_option maxRecDepth 10000
theorem away0 (mode sign:Int) (odd:Bool):awayS mode sign odd 0 = false:=by
  unfold awayS
  split
  · simp
  · split
    · simp
    · split <;> simp
def uS (a:Int):Nat:=(a % 18446744073709551616).toNat
theorem bits_split {p w u:Nat} (h:OkS p w) (hu:u < 2 ^ (p + w)):sgnS p w u * 2 ^ (p + w - 1) + expS p w u * 2 ^ (p - 1) + frcS p u = u ∧ sgnS p w u < 2:=by
  obtain ⟨h1,h2,h3,h4,h5,h6⟩:=h.facts
  have e1:u / 2 ^ (p - 1) * 2 ^ (p - 1) + frcS p u = u:=by unfold frcS; rw [Nat.mul_comm]; exact Nat.div_add_mod _ _
  have e2:u / 2 ^ (p + w - 1) * 2 ^ w + expS p w u = u / 2 ^ (p - 1):=by
    unfold expS
    have:u / 2 ^ (p + w - 1) = u / 2 ^ (p - 1) / 2 ^ w:=by rw [Nat.div_div_eq_div_mul,← Nat.pow_add]; congr 2; omega
    rw [this,Nat.mul_comm]; exact Nat.div_add_mod _ _
  have e3:u / 2 ^ (p + w - 1) < 2:=by
    rw [Nat.div_lt_iff_lt_mul (Nat.two_pow_pos _),← Nat.pow_succ']
    rw [show (p + w - 1).succ = p + w by omega]; exact hu
  have e4:sgnS p w u = u / 2 ^ (p + w - 1):=by unfold sgnS; exact Nat.mod_eq_of_lt e3
  refine ⟨?_,by omega⟩
  have e5:2 ^ (p + w - 1) = 2 ^ w * 2 ^ (p - 1):=by rw [← Nat.pow_add]; congr 1; omega
  have e6:u / 2 ^ (p + w - 1) * 2 ^ (p + w - 1) = u / 2 ^ (p + w - 1) * 2 ^ w * 2 ^ (p - 1):=by rw [Nat.mul_assoc,← e5]
  rw [e4,e6,← Nat.add_mul,e2,e1]
def I6 (a:Int):Prop:=-9223372036854775808 ≤ a ∧ a < 9223372036854775808
theorem uS_lt {p w:Nat} (h:OkS p w) {a:Int} (hb:bitsOk p w a):uS a < 2 ^ (p + w):=by
  have h64:uS a < 18446744073709551616:=by unfold uS; omega
  unfold bitsOk at hb
  rcases h with ⟨rfl,rfl⟩ | ⟨rfl,rfl⟩ | ⟨rfl,rfl⟩
  · have:=fun hc=>hb ⟨by decide,hc⟩; exact Nat.lt_of_not_le this
  · have:=fun hc=>hb ⟨by decide,hc⟩; exact Nat.lt_of_not_le this
  · exact h64
theorem pack_self {p w:Nat} (h:OkS p w) {a:Int} (hi:I6 a) (hb:bitsOk p w a):packS p w ((sgnS p w (uS a):Nat):Int) (expS p w (uS a)) (frcS p (uS a)) = a:=by
  have:=(bits_split h (uS_lt h hb)).1
  unfold packS
  rw [Int.toNat_natCast,this]
  unfold uS I6 at *
  show IntKind.i64.wrap ((a % 18446744073709551616).toNat:Int) = a
  rw [IntKind.wrap_i64]
  omega
theorem rnd_self {p w:Nat} (h:OkS p w) {mode a:Int} (hi:I6 a) (hb:bitsOk p w a) (hc:(numS p w a).class_ = 1) :
    rndS p w mode (numS p w a).sign (numS p w a).m.toNat (numS p w a).e false = (a,0):=by
  obtain ⟨h1,h2,h3,h4,h5,h6⟩:=h.facts
  have hbb:0 ≤ biasS w ∧ ((2 ^ w:Nat):Int) = 2 * biasS w + 2:=by rcases h with ⟨rfl,rfl⟩ | ⟨rfl,rfl⟩ | ⟨rfl,rfl⟩ <;> decide
  have hb2:((2:Int) ^ w) = ((2 ^ w:Nat):Int):=by push_cast; rfl
  have hlst:lstS p w = 2 - biasS w - p:=rfl
  have hpp:2 ^ p = 2 ^ (p - 1) * 2:=by rw [← Nat.pow_succ]; congr 1; omega
  have hp0:=Nat.two_pow_pos (p - 1)
  have hps:=pack_self h hi hb
  have hF:frcS p (uS a) < 2 ^ (p - 1):=Nat.mod_lt _ hp0
  have hE:expS p w (uS a) < 2 ^ w:=Nat.mod_lt _ (Nat.two_pow_pos w)
  have hn:numS p w a = readS p w (uS a):=rfl
  rw [hn] at hc ⊢
  unfold readS at hc ⊢
  split at hc
  · cases hc
  · rename_i c1
    split at hc
    · cases hc
    · rename_i c2
      split at hc
      · cases hc
      · rename_i c3
        rw [if_neg c1,if_neg c2,if_neg c3]
        split at hc
        · rename_i c4
          rw [if_pos c4]
          simp only [Int.toNat_natCast]
          have hm0:0 < frcS p (uS a):=by omega
          have hbl:bl (frcS p (uS a)) ≤ p - 1:=bl_le_iff.2 hF
          have hlast:lastS p w (frcS p (uS a)) (lstS p w) = lstS p w:=by unfold lastS highS; omega
          unfold rndS
          simp only [hlast,Int.sub_self,Int.le_refl,if_true,Int.neg_zero,Int.toNat_zero,Nat.pow_zero,Nat.mul_one]
          unfold finS
          simp only [away0,Bool.false_eq_true,if_false,Nat.lt_irrefl]
          rw [if_neg (show ¬ frcS p (uS a) = 2 ^ p by omega),if_pos hF]
          rw [c4] at hps
          rw [hps]
        · rename_i c4
          rw [if_neg c4]
          simp only [Int.toNat_natCast]
          have hbl:bl (frcS p (uS a) + 2 ^ (p - 1)) = p:=by
            have:=bl_uniq (n:=frcS p (uS a) + 2 ^ (p - 1)) (k:=p - 1) (by omega) (by rw [show p - 1 + 1 = p by omega]; omega)
            omega
          have hlast:lastS p w (frcS p (uS a) + 2 ^ (p - 1)) ((expS p w (uS a):Int) - biasS w - p + 1) = (expS p w (uS a):Int) - biasS w - p + 1:=by unfold lastS highS; rw [hbl]; omega
          unfold rndS
          simp only [hlast,Int.sub_self,Int.le_refl,if_true,Int.neg_zero,Int.toNat_zero,Nat.pow_zero,Nat.mul_one]
          unfold finS
          simp only [away0,Bool.false_eq_true,if_false,Nat.lt_irrefl]
          rw [if_neg (show ¬ frcS p (uS a) + 2 ^ (p - 1) = 2 ^ p by omega),if_neg (show ¬ frcS p (uS a) + 2 ^ (p - 1) < 2 ^ (p - 1) by omega),if_neg (show ¬ frcS p (uS a) + 2 ^ (p - 1) = 2 ^ p by omega)]
          have hEm:expS p w (uS a) ≠ 2 ^ w - 1:=fun he=>by
            by_cases hf0:frcS p (uS a) = 0
            · exact c1 ⟨he,hf0⟩
            · exact c2 he
          rw [if_pos (by omega),show ((expS p w (uS a):Int) - biasS w - p + 1 + p - 1 + biasS w).toNat = expS p w (uS a) by omega,Nat.add_sub_cancel,hps]
theorem ctz_div {m:Nat} (h0:0 < m) (h:m < 18446744073709551616):∃ k,m = k * 2 ^ Lib.ctz 64 m ∧ 0 < k ∧ Lib.ctz 64 m < 64:=by
  obtain ⟨q,h1,h2⟩:=Lib.ctzFrom_spec 64 m h0 h
  have e:Lib.ctz 64 m = Lib.ctzFrom 64 m:=if_neg (by omega)
  rw [← e] at h1 h2
  exact ⟨2 * q + 1,by rw [Nat.mul_comm]; exact h1,by omega,h2⟩
theorem Parts_eq {kind:Int} {p w:Nat} (h:kindS kind p w) {a:Int} (hb:bitsOk p w a) (hc:(numS p w a).class_ = 1) :
    ∃ m t:Nat,0 < m ∧ t < 64 ∧ m < 2 ^ p ∧ (numS p w a).m = ((m * 2 ^ t:Nat):Int) ∧ Flt.Parts kind a = some ((numS p w a).sign,(m:Int),(numS p w a).e + t,0):=by
  have hk:=h.ok
  obtain ⟨h1,h2,h3,h4,h5,h6⟩:=hk.facts
  obtain ⟨M,eM,m0,m1,e0,e1,mn⟩:=(numS_ok hk a).mag hc
  have hp63:2 ^ p ≤ 2 ^ 53:=Nat.pow_le_pow_right (by decide) (by rcases hk with ⟨rfl,_⟩ | ⟨rfl,_⟩ | ⟨rfl,_⟩ <;> decide)
  have hbi:0 ≤ biasS w ∧ biasS w < 2000:=by rcases hk with ⟨rfl,rfl⟩ | ⟨rfl,rfl⟩ | ⟨rfl,rfl⟩ <;> decide
  have hlst:lstS p w = 2 - biasS w - p:=rfl
  obtain ⟨k,hk1,hk2,hk3⟩:=ctz_div (m:=M) m0 (by omega)
  have hkM:k ≤ M:=by
    have:k * 1 ≤ k * 2 ^ Lib.ctz 64 M:=Nat.mul_le_mul_left _ (Nat.two_pow_pos _)
    omega
  refine ⟨k,Lib.ctz 64 M,hk2,hk3,by omega,by rw [eM,← hk1],?_⟩
  unfold Flt.Parts
  refine bindE (two_eq h (by decide) hb hb) (letF rfl (letF ?_ ?_))
  · rw [hc]; rfl
  · refine letV (y:=false) (by rw [hc]; rfl) ?_
    unfold Flt.Parts.j1
    refine condF rfl (letF (by rw [hc]; rfl) ?_)
    unfold Flt.Parts.j0
    refine bindE (a:=((Lib.ctz 64 M:Nat):Int)) ?_ (chkE (Int.natCast_nonneg _) (letV (y:=(k:Int)) ?_ (letV (y:=(k:Int)) (wi (by omega) (by omega)) (letV (wi (by omega) (by omega)) rfl))))
    · unfold Bits.TrailingZeros64
      rw [eM,chk_pos (by omega),Int.toNat_natCast]
    · show Int.fdiv _ _ = _
      rw [Int.toNat_natCast,show min (Lib.ctz 64 M) IntKind.u64.bits = Lib.ctz 64 M from Nat.min_eq_left (Nat.le_of_lt hk3),eM]
      have:((2:Int) ^ Lib.ctz 64 M) = ((2 ^ Lib.ctz 64 M:Nat):Int):=by push_cast; rfl
      rw [this,Int.fdiv_eq_ediv_of_nonneg _ (Int.natCast_nonneg _),← Int.natCast_ediv]
      congr 1
      generalize Lib.ctz 64 M = t at *
      rw [hk1]
      exact Nat.mul_div_cancel _ (Nat.two_pow_pos _)
def Fr (a b c d:Nat):Prop:=a * d = c * b
theorem Class_eq {kind:Int} {p w:Nat} (h:kindS kind p w) {a:Int} (hb:bitsOk p w a) (hc:(numS p w a).class_ = 1) :
    Flt.Class kind a = some (B [108,101,97,115,116]) ∨ Flt.Class kind a = some (B [110,111,114,109,97,108]):=by
  have hk:=h.ok
  obtain ⟨h1,h2,h3,h4,h5,h6⟩:=hk.facts
  have key:∀ r,(letk (IntKind.i64.wrap ((p:Int) - (1:Int))) fun t38 =>
          chk (0 ≤ t38) <|
          letk (IntKind.u64.wrap ((1:Int) * 2 ^ (min t38.toNat (IntKind.u64).bits))) fun t39 =>
          letk (decide ((numS p w a).m < t39)) fun t40 =>
          bif t40 then
            some ⟨#[108,101,97,115,116]⟩
          else
            some (⟨#[110,111,114,109,97,108]⟩:ByteArray)) = r → Flt.Class kind a = r:=by
    intro r hr
    unfold Flt.Class
    exact bindE (two_eq h (by decide) hb hb) (letF rfl (letF (by rw [hc]; rfl) (letF (by rw [hc]; rfl) (letF (by rw [hc]; rfl) hr))))
  rcases Bool.eq_false_or_eq_true (decide ((numS p w a).m < IntKind.u64.wrap ((1:Int) * 2 ^ (min ((p:Int) - 1).toNat (IntKind.u64).bits)))) with hx | hx
  · exact .inl (key _ (letV (wi (by omega) (by omega)) (chkE (by omega) (letV rfl (letT hx rfl)))))
  · exact .inr (key _ (letV (wi (by omega) (by omega)) (chkE (by omega) (letV rfl (letF hx rfl)))))
theorem bq (a b:BS) {r:Bool} (h:(a == b) = r):((B a).toList == (B b).toList) = r:=by rw [toList_L,toList_L,L_B,L_B]; exact h
def bLeast:BS:=[108,101,97,115,116]
def bNormal:BS:=[110,111,114,109,97,108]
def bNone:BS:=[110,111,110,101]
def bInf:BS:=[105,110,102,105,110,105,116,101]
theorem isFinite_eq {kind:Int} {p w:Nat} (h:kindS kind p w) {a:Int} (hb:bitsOk p w a) (hc:(numS p w a).class_ = 1):Dec.isFinite kind a = some true:=by
  unfold Dec.isFinite
  rcases Class_eq h hb hc with e | e
  · exact bindE e (letT (bq bLeast bLeast rfl) rfl)
  · exact bindE e (letF (bq bNormal bLeast rfl) (letV (bq bNormal bNormal rfl) rfl))
theorem special_eq {kind:Int} {p w:Nat} (h:kindS kind p w) {a:Int} (hb:bitsOk p w a) (hc:(numS p w a).class_ = 1):Dec.special kind a = some (⟨#[]⟩,false):=by
  unfold Dec.special
  rcases Class_eq h hb hc with e | e
  · exact bindE e (letF (bq bLeast bNone rfl) (letF (bq bLeast bInf rfl) rfl))
  · exact bindE e (letF (bq bNormal bNone rfl) (letF (bq bNormal bInf rfl) rfl))
structure Own (p w:Nat) (a:Int) (D:BS) (X:Int):Prop where
  all:D.all dgQ = true
  head:∀ c r,D = c :: r → c ≠ 48
  last:∀ c r,D = r ++ [c] → c ≠ 48
  ne:D ≠ []
  fr:Fr (vd D * 10 ^ (X - D.length).toNat) (10 ^ ((D.length:Int) - X).toNat) ((numS p w a).m.toNat * 2 ^ (numS p w a).e.toNat) (2 ^ (-(numS p w a).e).toNat)
  low:(numS p w a).e ≤ X - D.length ∨ 0 ≤ X - D.length
  len:D.length ≤ 1200
  lenX:-3000 ≤ X ∧ X ≤ 3000
theorem trD_last {l r:BS} {c:UInt8} (h:trD l = r ++ [c]):c ≠ 48:=by
  have e:l.reverse.dropWhile (· == 48) = c :: r.reverse:=by
    have:=congrArg List.reverse h
    unfold trD at this
    rw [List.reverse_reverse,List.reverse_append] at this
    exact this
  exact shD_head e
theorem ds_head {n:Nat} {c:UInt8} {r:BS} (h:ds n = c :: r):c ≠ 48:=by
  have e:=ds_vd (ds n) (ds_all n)
  rw [vd_ds,h] at e
  intro h0
  subst h0
  have hl:=congrArg List.length e
  have:=(List.dropWhile_sublist (fun x:UInt8=>x == 48) (l:=r)).length_le
  rw [List.dropWhile_cons,if_pos (by decide),List.length_cons] at hl
  omega
theorem exact_fr {m t k V D:Nat} {e:Int} {L:Int} (hV:V = D * 10 ^ k) (hv:V = m * 2 ^ (e + t).toNat * 5 ^ (-(e + t)).toNat) (hL:L = (k:Int) + min (e + t) 0) :
    Fr (D * 10 ^ L.toNat) (10 ^ (-L).toNat) (m * 2 ^ t * 2 ^ e.toNat) (2 ^ (-e).toNat):=by
  unfold Fr
  have h10:∀ n,10 ^ n = 2 ^ n * 5 ^ n:=fun n=>by rw [← Nat.mul_pow]
  have hp:0 < 10 ^ k:=Nat.pow_pos (by decide)
  refine Nat.eq_of_mul_eq_mul_right hp ?_
  have e1:D * 10 ^ L.toNat * 2 ^ (-e).toNat * 10 ^ k = V * (10 ^ L.toNat * 2 ^ (-e).toNat):=by
    rw [hV,Nat.mul_assoc,Nat.mul_assoc,Nat.mul_assoc,Nat.mul_comm (10 ^ k),Nat.mul_assoc]
  rw [e1,hv,h10,h10,h10]
  obtain ⟨A,hA⟩:∃ A,A = (e + t).toNat:=⟨_,rfl⟩
  obtain ⟨C,hC⟩:∃ C,C = (-(e + t)).toNat:=⟨_,rfl⟩
  obtain ⟨x,hx⟩:∃ x,x = L.toNat:=⟨_,rfl⟩
  obtain ⟨y,hy⟩:∃ y,y = (-L).toNat:=⟨_,rfl⟩
  obtain ⟨f,hf⟩:∃ f,f = (-e).toNat:=⟨_,rfl⟩
  obtain ⟨g,hg⟩:∃ g,g = e.toNat:=⟨_,rfl⟩
  rw [← hA,← hC,← hx,← hy,← hf,← hg]
  have q1:A + x + f = t + g + y + k:=by omega
  have q2:C + x = y + k:=by omega
  have l1:m * 2 ^ A * 5 ^ C * (2 ^ x * 5 ^ x * 2 ^ f) = m * (2 ^ (A + x + f) * 5 ^ (C + x)):=by
    rw [Nat.pow_add,Nat.pow_add,Nat.pow_add]
    simp only [Nat.mul_assoc,Nat.mul_comm,Nat.mul_left_comm]
  have l2:m * 2 ^ t * 2 ^ g * (2 ^ y * 5 ^ y) * (2 ^ k * 5 ^ k) = m * (2 ^ (t + g + y + k) * 5 ^ (y + k)):=by
    rw [Nat.pow_add,Nat.pow_add,Nat.pow_add,Nat.pow_add]
    simp only [Nat.mul_assoc,Nat.mul_comm,Nat.mul_left_comm]
  rw [l1,l2,q1,q2]
theorem exact_eq {kind:Int} {p w:Nat} (h:kindS kind p w) {a:Int} (hb:bitsOk p w a) (hc:(numS p w a).class_ = 1) :
    ∃ D X,Dec.exact kind a = some ((numS p w a).sign,B D,X) ∧ Own p w a D X:=by
  have hk:=h.ok
  obtain ⟨h1,h2,h3,h4,h5,h6⟩:=hk.facts
  obtain ⟨M,eM,m0,m1,e0,e1,mn⟩:=(numS_ok hk a).mag hc
  have hp63:2 ^ p ≤ 2 ^ 53:=Nat.pow_le_pow_right (by decide) (by rcases hk with ⟨rfl,_⟩ | ⟨rfl,_⟩ | ⟨rfl,_⟩ <;> decide)
  have hbi:0 ≤ biasS w ∧ biasS w < 1024:=by rcases hk with ⟨rfl,rfl⟩ | ⟨rfl,rfl⟩ | ⟨rfl,rfl⟩ <;> decide
  have hlst:lstS p w = 2 - biasS w - p:=rfl
  obtain ⟨m,t,hm0,ht,hmp,hmt,hP⟩:=Parts_eq h hb hc
  obtain ⟨e,he⟩:∃ e,e = (numS p w a).e:=⟨_,rfl⟩
  rw [← he] at e0 e1 hP
  obtain ⟨V,hV⟩:∃ V,V = m * 2 ^ (e + t).toNat * 5 ^ (-(e + t)).toNat:=⟨_,rfl⟩
  have hV0:0 < V:=by rw [hV]; exact Nat.mul_pos (Nat.mul_pos hm0 (Nat.two_pow_pos _)) (Nat.pow_pos (by decide))
  obtain ⟨N,hN⟩:∃ N,N = 1200:=⟨_,rfl⟩
  have hVb:V < 10 ^ N:=by
    have q1:2 ^ (e + t).toNat ≤ 10 ^ (e + t).toNat:=Nat.pow_le_pow_left (by decide) _
    have q2:5 ^ (-(e + t)).toNat ≤ 10 ^ (-(e + t)).toNat:=Nat.pow_le_pow_left (by decide) _
    have q3:m < 10 ^ 16:=by omega
    have q4:m * 2 ^ (e + t).toNat ≤ m * 10 ^ (e + t).toNat:=Nat.mul_le_mul_left _ q1
    have q5:V ≤ m * 10 ^ (e + t).toNat * 10 ^ (-(e + t)).toNat:=by rw [hV]; exact Nat.mul_le_mul q4 q2
    rw [Nat.mul_assoc,← Nat.pow_add] at q5
    have q6:m * 10 ^ ((e + t).toNat + (-(e + t)).toNat) < 10 ^ 16 * 10 ^ ((e + t).toNat + (-(e + t)).toNat):=Nat.mul_lt_mul_of_pos_right q3 (Nat.pow_pos (by decide))
    rw [← Nat.pow_add] at q6
    exact Nat.lt_of_le_of_lt q5 (Nat.lt_of_lt_of_le q6 (Nat.pow_le_pow_right (by decide) (by omega)))
  have hlen:(ds V).length ≤ N:=by rw [ds_len]; exact (lnB_iff (by decide) _ _).1 hVb
  have hlV:lnB 1000000000 V ≤ 100000:=by
    refine Nat.le_trans ((lnB_iff h9 N _).1 (Nat.lt_of_lt_of_le hVb (Nat.pow_le_pow_left (by decide) _))) (by omega)
  obtain ⟨k,hkz⟩:=trD_split (ds V)
  have hvd:=congrArg vd hkz
  rw [vd_ds,vd_append,vd_zeros,List.length_replicate,Nat.add_zero] at hvd
  have hll:=congrArg List.length hkz
  rw [List.length_append,List.length_replicate] at hll
  have hall:(trD (ds V)).all dgQ = true:=by
    have:=ds_all V
    rw [hkz,List.all_append,Bool.and_eq_true] at this
    exact this.1
  have hne:trD (ds V) ≠ []:=fun h0=>by rw [h0,vd_nil] at hvd; omega
  have hX:((ds V).length:Int) + min (e + t) 0 - (trD (ds V)).length = (k:Int) + min (e + t) 0:=by omega
  have hj:Dec.exact.j0 (numS p w a).sign (min (e + t) 0) (G V) = some ((numS p w a).sign,B (trD (ds V)),((ds V).length:Int) + min (e + t) 0):=by
    unfold Dec.exact.j0
    refine bindE (digits_eq hlV) (bindE (TR_eq (by omega)) (letV (y:=((ds V).length:Int)) (by rw [B_size]) (letV (wi (by omega) (by omega)) rfl)))
  refine ⟨trD (ds V),((ds V).length:Int) + min (e + t) 0,?_,hall,?_,fun c r hh=>trD_last hh,hne,?_,?_,by omega,by omega⟩
  · unfold Dec.exact
    obtain ⟨iv,ia⟩:=itoa_vd m
    have hwh:=whole_eq ia (by have:=itoa_len (n:=m) (k:=20) (by omega) (by decide); omega)
    rw [iv] at hwh
    refine bindE hP (bindE (Itoa_eq (by omega)) (bindE hwh ?_))
    rcases Int.lt_or_le (e + t) 0 with hx | hx
    · have eV:V = m * 5 ^ (-(e + t)).toNat:=by rw [hV,show (e + t).toNat = 0 by omega,Nat.pow_zero,Nat.mul_one]
      have hpw:=power_eq m 5 (-(e + t)).toNat (by decide) (by decide) (by omega) (by rw [← eV]; exact hlV)
      rw [Int.toNat_of_nonneg (by omega),← eV] at hpw
      refine letF (decide_eq_false (by omega)) (letV (y:=-(e + t)) (by rw [wi (by omega) (by omega)]; omega) (bindE hpw ?_))
      rw [Int.min_eq_left (by omega)] at hj
      rw [Int.min_eq_left (by omega)]
      exact hj
    · have eV:V = m * 2 ^ (e + t).toNat:=by rw [hV,show (-(e + t)).toNat = 0 by omega,Nat.pow_zero,Nat.mul_one]
      have hpw:=power_eq m 2 (e + t).toNat (by decide) (by decide) (by omega) (by rw [← eV]; exact hlV)
      rw [Int.toNat_of_nonneg (by omega),← eV] at hpw
      refine letT (decide_eq_true (by omega)) (bindE hpw ?_)
      rw [Int.min_eq_right (by omega)] at hj
      rw [Int.min_eq_right (by omega)]
      exact hj
  · intro c r hh
    refine ds_head (n:=V) (r:=r ++ List.replicate k 48) ?_
    rw [hkz,hh]; rfl
  · rw [← he,hmt,Int.toNat_natCast,hX,show ((trD (ds V)).length:Int) - (((ds V).length:Int) + min (e + t) 0) = -((k:Int) + min (e + t) 0) by omega]
    exact exact_fr hvd hV rfl
  · rw [← he]; omega
end Go.Q
namespace Go.Q
open Go
set_option maxRecDepth 10000
def hd (c:UInt8):BS → Bool | d :: _=>d == c | []=>false
def infB:BS:=[105,110,102]
def nanB:BS:=[110,97,110]
inductive DecT where
  | word (sign:Int) (w:BS)
  | num (sign:Int) (d:BS) (x:Int)
end Go.Q
namespace Go.Q
open Go
set_option maxRecDepth 10000
theorem bt_B (l:BS) (i:Nat) (h:i < l.length):bt (B l) (i:Int) = ((l[i]).toNat:Int):=by
  rw [bt_L,L_B,Int.toNat_natCast,List.getD_eq_getElem?_getD,List.getElem?_eq_getElem h]; rfl
theorem take_B (l:BS) (n:Nat):(B l).extract 0 n = B (l.take n):=by rw [← B_L ((B l).extract 0 n),L_take,L_B]
theorem drop_B (l:BS) (n:Nat):(B l).extract n (B l).size = B (l.drop n):=by rw [← B_L ((B l).extract n (B l).size),L_drop,L_B]
theorem nil_eq (l:BS):((B l).toList == (⟨#[]⟩:ByteArray).toList) = decide (l = []):=by
  rw [show (⟨#[]⟩:ByteArray) = B [] from rfl,toList_L,toList_L,L_B,L_B]
  cases l <;> rfl
theorem eqB (l m:BS):((B l).toList == (B m).toList) = decide (l = m):=by
  rw [toList_L,toList_L,L_B,L_B]
  by_cases h:l = m
  · rw [decide_eq_true h,h]; exact beq_self_eq_true _
  · rw [decide_eq_false h]; exact beq_eq_false_iff_ne.2 h
end Go.Q
namespace Go.Q
open Go
set_option maxRecDepth 10000
end Go.Q
namespace Go.Q
open Go
set_option maxRecDepth 10000
theorem B_app (a b:BS):B a ++ B b = B (a ++ b):=by rw [← B_L (B a ++ B b),L_app,L_B,L_B]
theorem rep0 {k:Nat} (hk:k ≤ 1000000):Strs.Repeat ⟨#[48]⟩ (k:Int) = some (B (List.replicate k 48)):=by
  unfold Strs.Repeat
  rw [chk_pos,show L (⟨#[48]⟩:ByteArray) = [48] from rfl,Int.toNat_natCast,repeat_zero]
  refine ⟨by omega,by omega,?_⟩
  show 1 * (k:Int).toNat ≤ _
  omega
def minD (sg:Int):BS:=if sg = 1 then [45] else []
theorem minus_eq {sg:Int} (hs:sg = 0 ∨ sg = 1):Dec.minus sg = some (B (minD sg)):=by
  rcases hs with rfl | rfl <;> rfl
def ptD (sg:Int) (S:BS) (d:Nat):BS:=minD sg ++ S.take (S.length - d) ++ [46] ++ S.drop (S.length - d)
end Go.Q
namespace Go.Q
open Go
set_option maxRecDepth 10000
def awD (mode sign:Int) (D:BS) (n:Nat):Bool :=
  if D.length ≤ n then false
  else if mode = 0 then decide (10 ^ (D.drop n).length < 2 * vd (D.drop n)) || (decide (10 ^ (D.drop n).length = 2 * vd (D.drop n)) && decide (vd (D.take n) % 2 = 1))
  else if mode = 2 then sign == 1 else if mode = 3 then sign == 0 else false
theorem vd_last {r:BS} (ha:r.all dgQ = true) (hne:r ≠ []) (hl:∀ c q,r = q ++ [c] → c ≠ 48):0 < vd r:=by
  have e:r = r.dropLast ++ [r.getLast hne]:=(List.dropLast_concat_getLast hne).symm
  have hc:=hl _ _ e
  have hd:dgQ (r.getLast hne) = true:=List.all_eq_true.1 ha _ (List.getLast_mem hne)
  rw [e,vd_append]
  have h1:vd [r.getLast hne] = cv (r.getLast hne):=by rw [vd_cons]; simp [vd_nil]
  rw [h1]
  have:cv (r.getLast hne) ≠ 0:=fun h=>hc ((cv_zero hd).1 h)
  omega
theorem dAway_eq {mode sign:Int} {D:BS} {n:Nat} (ha:D.all dgQ = true) (hl:∀ c q,D = q ++ [c] → c ≠ 48) (hD:D.length ≤ 100000):Dec.away mode sign (B D) n = some (awD mode sign D n):=by
  have hs:(B D).size = D.length:=B_size D
  unfold Dec.away awD
  refine letV (y:=(D.length:Int)) (by rw [hs]) ?_
  by_cases h:D.length ≤ n
  · rw [if_pos h]; exact letT (decide_eq_true (by omega)) rfl
  · rw [if_neg h]
    refine letF (decide_eq_false (by omega)) ?_
    by_cases m0:mode = 0
    · rw [if_pos m0]
      refine letT (by rw [m0]; rfl) (letF (decide_eq_false (by omega)) ?_)
      have hn:n < D.length:=by omega
      have hdr:D.drop n = D[n] :: D.drop (n + 1):=List.drop_eq_getElem_cons hn
      have hc:dgQ D[n] = true:=List.all_eq_true.1 ha _ (List.getElem_mem hn)
      have hr:(D.drop (n + 1)).all dgQ = true:=all_drop _ ha
      have hp:D.drop (n + 1) ≠ [] → 0 < vd (D.drop (n + 1)):=fun hne=>vd_last hr hne (fun c q hq=>by
        refine hl c (D.take (n + 1) ++ q) ?_
        rw [List.append_assoc,← hq,List.take_append_drop])
      obtain ⟨t1,t2⟩:=tail_half hc hr hp
      have hrn:D.drop (n + 1) = [] ↔ ¬ (n + 1 < D.length):=by rw [List.drop_eq_nil_iff]; omega
      rw [hdr,List.length_cons]
      have hb:bt (B D) (n:Int) = (D[n].toNat:Int):=bt_B D n hn
      refine chkE (by omega) (letV hb ?_)
      by_cases c1:D[n].toNat < 53
      · refine letT (decide_eq_true (by omega)) ?_
        rw [decide_eq_false (by rw [t1]; omega),decide_eq_false (by rw [t2]; omega)]; rfl
      · refine letF (decide_eq_false (by omega)) ?_
        have key:∀ odd:Bool,odd = decide (vd (D.take n) % 2 = 1) → Dec.away.j1 (B D) (n:Int) odd = some (decide (10 ^ ((D.drop (n + 1)).length + 1) < 2 * vd (D[n] :: D.drop (n + 1))) || (decide (10 ^ ((D.drop (n + 1)).length + 1) = 2 * vd (D[n] :: D.drop (n + 1))) && decide (vd (D.take n) % 2 = 1))):=by
          intro odd ho
          unfold Dec.away.j1
          refine chkE (by omega) (letV hb ?_)
          by_cases c2:53 < D[n].toNat
          · rw [decide_eq_true (t1.2 (.inl c2))]
            exact letT (decide_eq_true (by omega)) rfl
          · refine letF (decide_eq_false (by omega)) (letV (wi (by omega) (by omega)) (letV (y:=(D.length:Int)) (by rw [hs]) ?_))
            by_cases c3:n + 1 < D.length
            · rw [decide_eq_true (t1.2 (.inr ⟨by omega,fun hx=>(hrn.1 hx) c3⟩))]
              exact letT (decide_eq_true (by omega)) rfl
            · have hx:=hrn.2 c3
              have hno:¬ 10 ^ ((D.drop (n + 1)).length + 1) < 2 * vd (D[n] :: D.drop (n + 1)):=fun q=>(t1.1 q).elim c2 fun q=>q.2 hx
              rw [decide_eq_false hno,decide_eq_true (t2.2 ⟨by omega,hx⟩)]
              refine letF (decide_eq_false (by omega)) ?_
              rw [ho]; rfl
        unfold Dec.away.j0
        by_cases hn0:0 < n
        · have hb2:bt (B D) ((n - 1:Nat):Int) = (D[n - 1].toNat:Int):=bt_B D (n - 1) (by omega)
          have hc2:dgQ D[n - 1] = true:=List.all_eq_true.1 ha _ (List.getElem_mem (by omega))
          have hq:=dgQ_b hc2
          have htk:vd (D.take n) = vd (D.take (n - 1)) * 10 + cv D[n - 1]:=by
            have e:D.take n = D.take (n - 1) ++ [D[n - 1]]:=by
              have:=List.take_append_getElem (l:=D) (i:=n - 1) (by omega)
              rw [show n - 1 + 1 = n by omega] at this
              exact this.symm
            rw [e,vd_append]
            have h1:vd [D[n - 1]] = cv D[n - 1]:=by rw [vd_cons]; simp [vd_nil]
            rw [h1]; rfl
          refine letT (decide_eq_true (by omega)) (letV (y:=((n - 1:Nat):Int)) (by rw [wi (by omega) (by omega)]; omega) (chkE (by omega) (letV hb2 (letV (y:=((cv D[n - 1]:Nat):Int)) ?_ (chkE (by decide) (letV (y:=((cv D[n - 1] % 2:Nat):Int)) ?_ (letV rfl (key _ ?_))))))))
          · unfold cv
            show ((D[n - 1].toNat:Int) - 48) % 256 = _
            omega
          · rw [Int.tmod_eq_emod_of_nonneg (by omega)]; rfl
          · rw [htk,Bool.eq_iff_iff,beq_iff_eq,decide_eq_true_eq]; omega
        · refine letF (decide_eq_false (by omega)) (key _ ?_)
          rw [show n = 0 by omega,List.take_zero,vd_nil]; rfl
    · rw [if_neg m0]
      refine letF (beq_eq_false_iff_ne.2 m0) ?_
      by_cases m2:mode = 2
      · rw [if_pos m2]; exact letT (by rw [m2]; rfl) (letV rfl rfl)
      · rw [if_neg m2]
        refine letF (beq_eq_false_iff_ne.2 m2) ?_
        by_cases m3:mode = 3
        · rw [if_pos m3]; exact letT (by rw [m3]; rfl) (letV rfl rfl)
        · rw [if_neg m3]; exact letF (beq_eq_false_iff_ne.2 m3) rfl
def toI (l:BS):List Int:=l.map fun c=>(c.toNat:Int)
theorem cut_l0 (hk:∀ x:UInt8,x < 57 → (x + 1).toNat = x.toNat + 1):∀ (r:BS) (k:Nat),r.length + k ≤ 1000000 → r.all dgQ = true → Dec.cut.l0 (toI (r.reverse ++ List.replicate k 48)) ((r.length:Int) - 1) = some (B ((incR r).reverse ++ List.replicate k 48))
  | [],k,hb,_=>by
    unfold Dec.cut.l0
    refine loopO_end ?_
    show Dec.cut.s0 (toI (List.replicate k 48)) (-1) = _
    unfold Dec.cut.s0
    refine letF rfl ?_
    have e:ofInts (toI (List.replicate k 48)) = B (List.replicate k 48):=ofInts_nat _
    show Option.map Sum.inr (letk (ofInts (toI (List.replicate k 48))) fun t53=>chk ((((⟨#[49]⟩:ByteArray).size + t53.size:Nat):Int) ≤ 9223372036854775807) <| letk ((⟨#[49]⟩:ByteArray) ++ t53) fun t54=>some t54) = _
    have h2:(letk (ofInts (toI (List.replicate k 48))) fun t53=>chk ((((⟨#[49]⟩:ByteArray).size + t53.size:Nat):Int) ≤ 9223372036854775807) <| letk ((⟨#[49]⟩:ByteArray) ++ t53) fun t54=>some t54) = some (B ([49] ++ List.replicate k 48)):=by
      refine letV e (chkE ?_ (letV (B_app [49] _) rfl))
      have h1:(⟨#[49]⟩:ByteArray).size = 1:=rfl
      have h3:(B (List.replicate k 48)).size = k:=by rw [B_size,List.length_replicate]
      rw [h1,h3]; simp at hb; omega
    rw [h2]; rfl
  | c :: r,k,hb,ha=>by
    rw [List.length_cons] at hb
    simp only [List.all_cons,Bool.and_eq_true] at ha
    have hq:=dgQ_b ha.1
    have hlen:(toI ((c :: r).reverse ++ List.replicate k 48)).length = r.length + 1 + k:=by
      unfold toI; simp; omega
    have hsp:(c :: r).reverse ++ List.replicate k 48 = r.reverse ++ c :: List.replicate k 48:=by simp
    have hget:(toI ((c :: r).reverse ++ List.replicate k 48))[0 + ((r.length:Int)).toNat]? = some (c.toNat:Int):=by
      unfold toI
      rw [hsp,Int.toNat_natCast,Nat.zero_add,List.getElem?_map,List.getElem?_append_right (by simp)]; simp
    have hset:∀ d:UInt8,(toI ((c :: r).reverse ++ List.replicate k 48)).set (0 + ((r.length:Int)).toNat) (d.toNat:Int) = toI (r.reverse ++ d :: List.replicate k 48):=by
      intro d
      unfold toI
      rw [hsp,Int.toNat_natCast,Nat.zero_add,List.map_append,List.set_append_right _ _ (by simp)]; simp
    have e1:((r.length + 1:Nat):Int) - 1 = (r.length:Int):=by omega
    by_cases h9:c < 57
    · have hi:incR (c :: r) = (c + 1) :: r:=by unfold incR; rw [if_pos h9]
      have h9n:c.toNat < 57:=h9
      unfold Dec.cut.l0
      refine loopO_end ?_
      show Dec.cut.s0 _ (((r.length + 1:Nat):Int) - 1) = _
      rw [e1]
      unfold Dec.cut.s0
      refine letT (decide_eq_true (by omega)) (chkE (by rw [hlen]; omega) (letV rfl (bindE hget (letT (decide_eq_true (by omega)) (chkE (by rw [hlen]; omega) (letV rfl (bindE hget (letV (y:=(((c + 1:UInt8).toNat:Nat):Int)) ?_ (chkE (by rw [hlen]; omega) (letV rfl (bindE hget (letV (hset _) (letV (y:=B (r.reverse ++ (c + 1) :: List.replicate k 48)) (ofInts_nat _) ?_)))))))))))))
      · rw [hk c h9]
        show ((c.toNat:Int) + 1) % 256 = _
        omega
      · rw [hi]; simp
    · have hi:incR (c :: r) = 48 :: incR r:=by rw [incR,if_neg h9]
      have h9n:¬ c.toNat < 57:=h9
      have ih:=cut_l0 hk r (k + 1) (by omega) ha.2
      unfold Dec.cut.l0 at ih ⊢
      refine loopO_next (t:=(toI (r.reverse ++ List.replicate (k + 1) 48),(r.length:Int) - 1)) ?_ ?_
      · show Dec.cut.s0 _ (((r.length + 1:Nat):Int) - 1) = _
        rw [e1]
        unfold Dec.cut.s0
        refine letT (decide_eq_true (by omega)) (chkE (by rw [hlen]; omega) (letV rfl (bindE hget (letF (decide_eq_false (by omega)) (chkE (by rw [hlen]; omega) (letV rfl (bindE hget (letV (hset 48) (letV (wi (by omega) (by omega)) ?_)))))))))
        rw [List.replicate_succ]
      · rw [ih,hi,List.reverse_cons,List.append_assoc,List.replicate_succ]; rfl
theorem u8_succ (x:UInt8) (h:x < 57):(x + 1).toNat = x.toNat + 1:=by
  have:x.toNat < 57:=h
  rw [UInt8.toNat_add]
  show (x.toNat + 1) % 256 = _
  omega
def rdD (D:BS) (n:Nat) (more:Bool):BS:=if more = true then incD (topD D n) else topD D n
theorem cut_eq {D:BS} {n:Nat} {more:Bool} (ha:D.all dgQ = true) (hD:D.length ≤ 100000) (hn:n ≤ 100000):Dec.cut (B D) (n:Int) more = some (B (rdD D n more)):=by
  have hs:(B D).size = D.length:=B_size D
  have hj:∀ s:BS,n ≤ s.length → s.take n = topD D n → Dec.cut.j0 n (B s) more = some (B (rdD D n more)):=by
    intro s h1 h3
    have h2:(B s).size = s.length:=B_size s
    unfold Dec.cut.j0
    refine chkE (by omega) (letV (y:=B (topD D n)) ?_ ?_)
    · rw [Int.toNat_natCast,take_B,h3]
    · unfold rdD
      cases more with
      | false=>exact letT rfl rfl
      | true =>
        refine letF rfl (letV (y:=toI (topD D n)) rfl (letV (wi (by omega) (by omega)) ?_))
        have:=cut_l0 u8_succ (topD D n).reverse 0 (by rw [List.length_reverse,topD_len]; omega) (by rw [List.all_reverse]; exact topD_dig ha n)
        simp only [List.reverse_reverse,List.replicate_zero,List.append_nil,List.length_reverse,topD_len] at this
        exact this
  unfold Dec.cut
  refine letV (y:=(n:Int)) (by split <;> omega) (letV (y:=(D.length:Int)) (by rw [hs]) ?_)
  rcases Nat.lt_or_ge D.length n with hlt | hge
  · refine letT (decide_eq_true (by omega)) (letV (y:=(D.length:Int)) (by rw [hs]) (letV (y:=((n - D.length:Nat):Int)) (by rw [wi (by omega) (by omega)]; omega) (bindE (rep0 (by omega)) (chkE ?_ (letV (B_app _ _) (hj _ ?_ ?_))))))
    · rw [B_size,B_size,List.length_replicate]; omega
    · rw [List.length_append,List.length_replicate]; omega
    · unfold topD
      rw [List.take_of_length_le (by rw [List.length_append,List.length_replicate]; omega),List.take_of_length_le (by omega)]
  · refine letF (decide_eq_false (by omega)) (hj D hge ?_)
    unfold topD
    rw [show n - D.length = 0 by omega,List.replicate_zero,List.append_nil]
theorem to_eq {D:BS} {n:Nat} {X:Int} {more:Bool} (ha:D.all dgQ = true) (hD:D.length ≤ 100000) (hn:n ≤ 100000) (hX:-100000 ≤ X ∧ X ≤ 100000) :
    Dec.to (B D) X (n:Int) more = some (if (rdD D n more).length > n then (B ((rdD D n more).take n),X + 1) else (B (rdD D n more),X)):=by
  have hs:(B (rdD D n more)).size = (rdD D n more).length:=B_size _
  unfold Dec.to
  refine bindE (cut_eq ha hD hn) (letV (y:=((rdD D n more).length:Int)) (by rw [hs]) ?_)
  by_cases h:(rdD D n more).length > n
  · rw [if_pos h]
    exact letT (decide_eq_true (by omega)) (chkE (by omega) (letV (y:=B ((rdD D n more).take n)) (by rw [Int.toNat_natCast,take_B]) (letV (wi (by omega) (by omega)) rfl)))
  · rw [if_neg h]; exact letF (decide_eq_false (by omega)) rfl
end Go.Q
namespace Go.Q
open Go
set_option maxRecDepth 100000
set_option maxHeartbeats 4000000
def sizeS (p w:Nat) (a:Int):Nat:=(a % 18446744073709551616).toNat % 2 ^ (p + w - 1)
section
variable {t36:Int} {y n1 n0:Nat}
end
def bd (n i:Nat):Nat:=n / 2 ^ i % 2
theorem letkE {α ρ:Type} (x:α) (X:α → Option ρ):letk x X = X x:=Eq.trans rfl rfl
section
variable {kind:Int} {p w:Nat} (h:kindS kind p w)
include h
end
section
variable {c:Int} (hc:c = 0 ∨ c = 1 ∨ c = 2 ∨ c = 3)
include hc
end
def I64 (a:Int):Prop:=-9223372036854775808 ≤ a ∧ a < 9223372036854775808
theorem rValid_eq {kind:Int} {p w:Nat} (h:kindS kind p w) {a:Int} (ha:I64 a):Ref1.Valid kind a = some (@decide (bitsOk p w a) (Classical.propDecidable _)):=by
  unfold I64 at ha
  unfold Ref1.Valid bitsOk
  simp only [letkE]
  rcases h with ⟨rfl,rfl,rfl⟩ | ⟨rfl,rfl,rfl⟩ | ⟨rfl,rfl,rfl⟩
  · rw [show ((2:Int) == 2) = true from rfl,cond_true]
    by_cases h0:0 ≤ a
    · rw [decide_eq_true (show a ≥ 0 from h0),cond_true]
      congr 1
      rw [decide_eq_decide]
      have:(2:Nat) ^ (11 + 5) = 65536:=by decide
      omega
    · rw [decide_eq_false (show ¬ a ≥ 0 from h0),cond_false]
      congr 1
      symm
      rw [decide_eq_false_iff_not]
      have:(2:Nat) ^ (11 + 5) = 65536:=by decide
      omega
  · rw [show ((4:Int) == 2) = false from rfl,cond_false,show ((4:Int) == 4) = true from rfl,cond_true]
    by_cases h0:0 ≤ a
    · rw [decide_eq_true (show a ≥ 0 from h0),cond_true]
      congr 1
      rw [decide_eq_decide]
      have:(2:Nat) ^ (24 + 8) = 4294967296:=by decide
      omega
    · rw [decide_eq_false (show ¬ a ≥ 0 from h0),cond_false]
      congr 1
      symm
      rw [decide_eq_false_iff_not]
      have:(2:Nat) ^ (24 + 8) = 4294967296:=by decide
      omega
  · rw [show ((8:Int) == 2) = false from rfl,cond_false,show ((8:Int) == 4) = false from rfl,cond_false]
    congr 1
    rw [show ((8:Int) == 8) = true from rfl]
    symm
    exact @decide_eq_true _ (_) (by omega)
theorem asked_ok {kind mode:Int} {p w:Nat} (h:kindS kind p w) (hm:0 ≤ mode ∧ mode < 4) {a b:Int} (ha:I64 a) (hb:I64 b) (ka:bitsOk p w a) (kb:bitsOk p w b):Ref1.asked kind mode a b = some true:=by
  unfold Ref1.asked Ref1.IsMode
  rw [rValid_eq h ha,rValid_eq h hb,@decide_eq_true _ (_) ka,@decide_eq_true _ (_) kb]
  simp only [letkE]
  rw [decide_eq_true (show mode ≥ 0 from hm.1),decide_eq_true (show mode ≤ 3 by omega)]; rfl
section
variable {kind mode:Int} {p w:Nat} (h:kindS kind p w) (hm:0 ≤ mode ∧ mode < 4)
include h hm
end
section
variable {kind mode:Int} {p w:Nat} (h:kindS kind p w)
include h
end
theorem numS_sign {p w:Nat} (a:Int):(numS p w a).sign = sgnS p w (a % 18446744073709551616).toNat:=by
  unfold numS readS
  repeat' split
  all_goals rfl
section
variable {kind mode:Int} {p w:Nat} (h:kindS kind p w)
include h
end
end Go.Q
