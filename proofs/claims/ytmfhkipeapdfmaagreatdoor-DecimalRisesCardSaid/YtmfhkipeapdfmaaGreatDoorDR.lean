import Derived.Test.YtmfhkipeapdfmaaGreatDoorDQ6
import Derived.Test.YtmfhkipeapdfmaaGreatDoorAB
import Derived.Test.YtmfhkipeapdfmaaGreatDoorZU
namespace Go.Q
open Go
set_option maxRecDepth 10000
def uS (a:Int):Nat:=(a % 18446744073709551616).toNat
theorem bits_split {p w u:Nat} (h:OkS p w) (hu:u < 2 ^ (p + w)):sgnS p w u * 2 ^ (p + w - 1) + expS p w u * 2 ^ (p - 1) + frcS p u = u ∧ sgnS p w u < 2:=by
  obtain ⟨h1,h2,h3,h4,h5,h6⟩:=h.facts
  have e1:u / 2 ^ (p - 1) * 2 ^ (p - 1) + frcS p u = u:=by unfold frcS; rw [Nat.mul_comm]; exact Nat.div_add_mod _ _
  have e2:u / 2 ^ (p + w - 1) * 2 ^ w + expS p w u = u / 2 ^ (p - 1):=by
    unfold expS
    have:u / 2 ^ (p + w - 1) = u / 2 ^ (p - 1) / 2 ^ w:=by rw [Nat.div_div_eq_div_mul,← Nat.pow_add]; congr 2; omega
    rw [this,Nat.mul_comm]; exact Nat.div_add_mod _ _
  have e3:u / 2 ^ (p + w - 1) < 2:=by
    rw [Nat.div_lt_iff_lt_mul (Nat.two_pow_pos _),← Nat.pow_succ']
    rw [show (p + w - 1).succ = p + w by omega]; exact hu
  have e4:sgnS p w u = u / 2 ^ (p + w - 1):=by unfold sgnS; exact Nat.mod_eq_of_lt e3
  refine ⟨?_,by omega⟩
  have e5:2 ^ (p + w - 1) = 2 ^ w * 2 ^ (p - 1):=by rw [← Nat.pow_add]; congr 1; omega
  have e6:u / 2 ^ (p + w - 1) * 2 ^ (p + w - 1) = u / 2 ^ (p + w - 1) * 2 ^ w * 2 ^ (p - 1):=by rw [Nat.mul_assoc,← e5]
  rw [e4,e6,← Nat.add_mul,e2,e1]
theorem uS_lt {p w:Nat} (h:OkS p w) {a:Int} (hb:bitsOk p w a):uS a < 2 ^ (p + w):=by
  have h64:uS a < 18446744073709551616:=by unfold uS; omega
  unfold bitsOk at hb
  rcases h with ⟨rfl,rfl⟩ | ⟨rfl,rfl⟩ | ⟨rfl,rfl⟩
  · have:=fun hc=>hb ⟨by decide,hc⟩; exact Nat.lt_of_not_le this
  · have:=fun hc=>hb ⟨by decide,hc⟩; exact Nat.lt_of_not_le this
  · exact h64
theorem ctz_div {m:Nat} (h0:0 < m) (h:m < 18446744073709551616):∃ k,m = k * 2 ^ Lib.ctz 64 m ∧ 0 < k ∧ Lib.ctz 64 m < 64:=by
  obtain ⟨q,h1,h2⟩:=Lib.ctzFrom_spec 64 m h0 h
  have e:Lib.ctz 64 m = Lib.ctzFrom 64 m:=if_neg (by omega)
  rw [← e] at h1 h2
  exact ⟨2 * q + 1,by rw [Nat.mul_comm]; exact h1,by omega,h2⟩
theorem Parts_eq {kind:Int} {p w:Nat} (h:kindS kind p w) {a:Int} (hb:bitsOk p w a) (hc:(numS p w a).class_ = 1) :
    ∃ m t:Nat,0 < m ∧ t < 64 ∧ m < 2 ^ p ∧ (numS p w a).m = ((m * 2 ^ t:Nat):Int) ∧ Flt.Parts kind a = some ((numS p w a).sign,(m:Int),(numS p w a).e + t,0):=by
  have hk:=h.ok
  obtain ⟨h1,h2,h3,h4,h5,h6⟩:=hk.facts
  obtain ⟨M,eM,m0,m1,e0,e1,mn⟩:=(numS_ok hk a).mag hc
  have hp63:2 ^ p ≤ 2 ^ 53:=Nat.pow_le_pow_right (by decide) (by rcases hk with ⟨rfl,_⟩ | ⟨rfl,_⟩ | ⟨rfl,_⟩ <;> decide)
  have hbi:0 ≤ biasS w ∧ biasS w < 2000:=by rcases hk with ⟨rfl,rfl⟩ | ⟨rfl,rfl⟩ | ⟨rfl,rfl⟩ <;> decide
  have hlst:lstS p w = 2 - biasS w - p:=rfl
  obtain ⟨k,hk1,hk2,hk3⟩:=ctz_div (m:=M) m0 (by omega)
  have hkM:k ≤ M:=by
    have:k * 1 ≤ k * 2 ^ Lib.ctz 64 M:=Nat.mul_le_mul_left _ (Nat.two_pow_pos _)
    omega
  refine ⟨k,Lib.ctz 64 M,hk2,hk3,by omega,by rw [eM,← hk1],?_⟩
  unfold Flt.Parts
  refine bindE (two_eq h (by decide) hb hb) (letF rfl (letF ?_ ?_))
  · rw [hc]; rfl
  · refine letV (y:=false) (by rw [hc]; rfl) ?_
    unfold Flt.Parts.j1
    refine condF rfl (letF (by rw [hc]; rfl) ?_)
    unfold Flt.Parts.j0
    refine bindE (a:=((Lib.ctz 64 M:Nat):Int)) ?_ (chkE (Int.natCast_nonneg _) (letV (y:=(k:Int)) ?_ (letV (y:=(k:Int)) (wi (by omega) (by omega)) (letV (wi (by omega) (by omega)) rfl))))
    · unfold Bits.TrailingZeros64
      rw [eM,chk_pos (by omega),Int.toNat_natCast]
    · show Int.fdiv _ _ = _
      rw [Int.toNat_natCast,show min (Lib.ctz 64 M) IntKind.u64.bits = Lib.ctz 64 M from Nat.min_eq_left (Nat.le_of_lt hk3),eM]
      have:((2:Int) ^ Lib.ctz 64 M) = ((2 ^ Lib.ctz 64 M:Nat):Int):=by push_cast; rfl
      rw [this,Int.fdiv_eq_ediv_of_nonneg _ (Int.natCast_nonneg _),← Int.natCast_ediv]
      congr 1
      generalize Lib.ctz 64 M = t at *
      rw [hk1]
      exact Nat.mul_div_cancel _ (Nat.two_pow_pos _)
def Fr (a b c d:Nat):Prop:=a * d = c * b
theorem Class_eq {kind:Int} {p w:Nat} (h:kindS kind p w) {a:Int} (hb:bitsOk p w a) (hc:(numS p w a).class_ = 1) :
    Flt.Class kind a = some (B [108,101,97,115,116]) ∨ Flt.Class kind a = some (B [110,111,114,109,97,108]):=by
  have hk:=h.ok
  obtain ⟨h1,h2,h3,h4,h5,h6⟩:=hk.facts
  have key:∀ r,(letk (IntKind.i64.wrap ((p:Int) - (1:Int))) fun t38 =>
          chk (0 ≤ t38) <|
          letk (IntKind.u64.wrap ((1:Int) * 2 ^ (min t38.toNat (IntKind.u64).bits))) fun t39 =>
          letk (decide ((numS p w a).m < t39)) fun t40 =>
          bif t40 then
            some ⟨#[108,101,97,115,116]⟩
          else
            some (⟨#[110,111,114,109,97,108]⟩:ByteArray)) = r → Flt.Class kind a = r:=by
    intro r hr
    unfold Flt.Class
    exact bindE (two_eq h (by decide) hb hb) (letF rfl (letF (by rw [hc]; rfl) (letF (by rw [hc]; rfl) (letF (by rw [hc]; rfl) hr))))
  rcases Bool.eq_false_or_eq_true (decide ((numS p w a).m < IntKind.u64.wrap ((1:Int) * 2 ^ (min ((p:Int) - 1).toNat (IntKind.u64).bits)))) with hx | hx
  · exact .inl (key _ (letV (wi (by omega) (by omega)) (chkE (by omega) (letV rfl (letT hx rfl)))))
  · exact .inr (key _ (letV (wi (by omega) (by omega)) (chkE (by omega) (letV rfl (letF hx rfl)))))
theorem bq (a b:BS) {r:Bool} (h:(a == b) = r):((B a).toList == (B b).toList) = r:=by rw [toList_L,toList_L,L_B,L_B]; exact h
def bLeast:BS:=[108,101,97,115,116]
def bNormal:BS:=[110,111,114,109,97,108]
def bNone:BS:=[110,111,110,101]
def bInf:BS:=[105,110,102,105,110,105,116,101]
theorem isFinite_eq {kind:Int} {p w:Nat} (h:kindS kind p w) {a:Int} (hb:bitsOk p w a) (hc:(numS p w a).class_ = 1):Dec.isFinite kind a = some true:=by
  unfold Dec.isFinite
  rcases Class_eq h hb hc with e | e
  · exact bindE e (letT (bq bLeast bLeast rfl) rfl)
  · exact bindE e (letF (bq bNormal bLeast rfl) (letV (bq bNormal bNormal rfl) rfl))
structure Own (p w:Nat) (a:Int) (D:BS) (X:Int):Prop where
  all:D.all dgQ = true
  head:∀ c r,D = c :: r → c ≠ 48
  last:∀ c r,D = r ++ [c] → c ≠ 48
  ne:D ≠ []
  fr:Fr (vd D * 10 ^ (X - D.length).toNat) (10 ^ ((D.length:Int) - X).toNat) ((numS p w a).m.toNat * 2 ^ (numS p w a).e.toNat) (2 ^ (-(numS p w a).e).toNat)
  low:(numS p w a).e ≤ X - D.length ∨ 0 ≤ X - D.length
  len:D.length ≤ 1200
  lenX:-3000 ≤ X ∧ X ≤ 3000
theorem trD_last {l r:BS} {c:UInt8} (h:trD l = r ++ [c]):c ≠ 48:=by
  have e:l.reverse.dropWhile (· == 48) = c :: r.reverse:=by
    have:=congrArg List.reverse h
    unfold trD at this
    rw [List.reverse_reverse,List.reverse_append] at this
    exact this
  exact shD_head e
theorem ds_head {n:Nat} {c:UInt8} {r:BS} (h:ds n = c :: r):c ≠ 48:=by
  have e:=ds_vd (ds n) (ds_all n)
  rw [vd_ds,h] at e
  intro h0
  subst h0
  have hl:=congrArg List.length e
  have:=(List.dropWhile_sublist (fun x:UInt8=>x == 48) (l:=r)).length_le
  rw [List.dropWhile_cons,if_pos (by decide),List.length_cons] at hl
  omega
theorem exact_fr {m t k V D:Nat} {e:Int} {L:Int} (hV:V = D * 10 ^ k) (hv:V = m * 2 ^ (e + t).toNat * 5 ^ (-(e + t)).toNat) (hL:L = (k:Int) + min (e + t) 0) :
    Fr (D * 10 ^ L.toNat) (10 ^ (-L).toNat) (m * 2 ^ t * 2 ^ e.toNat) (2 ^ (-e).toNat):=by
  unfold Fr
  have h10:∀ n,10 ^ n = 2 ^ n * 5 ^ n:=fun n=>by rw [← Nat.mul_pow]
  have hp:0 < 10 ^ k:=Nat.pow_pos (by decide)
  refine Nat.eq_of_mul_eq_mul_right hp ?_
  have e1:D * 10 ^ L.toNat * 2 ^ (-e).toNat * 10 ^ k = V * (10 ^ L.toNat * 2 ^ (-e).toNat):=by
    rw [hV,Nat.mul_assoc,Nat.mul_assoc,Nat.mul_assoc,Nat.mul_comm (10 ^ k),Nat.mul_assoc]
  rw [e1,hv,h10,h10,h10]
  obtain ⟨A,hA⟩:∃ A,A = (e + t).toNat:=⟨_,rfl⟩
  obtain ⟨C,hC⟩:∃ C,C = (-(e + t)).toNat:=⟨_,rfl⟩
  obtain ⟨x,hx⟩:∃ x,x = L.toNat:=⟨_,rfl⟩
  obtain ⟨y,hy⟩:∃ y,y = (-L).toNat:=⟨_,rfl⟩
  obtain ⟨f,hf⟩:∃ f,f = (-e).toNat:=⟨_,rfl⟩
  obtain ⟨g,hg⟩:∃ g,g = e.toNat:=⟨_,rfl⟩
  rw [← hA,← hC,← hx,← hy,← hf,← hg]
  have q1:A + x + f = t + g + y + k:=by omega
  have q2:C + x = y + k:=by omega
  have l1:m * 2 ^ A * 5 ^ C * (2 ^ x * 5 ^ x * 2 ^ f) = m * (2 ^ (A + x + f) * 5 ^ (C + x)):=by
    rw [Nat.pow_add,Nat.pow_add,Nat.pow_add]
    simp only [Nat.mul_assoc,Nat.mul_comm,Nat.mul_left_comm]
  have l2:m * 2 ^ t * 2 ^ g * (2 ^ y * 5 ^ y) * (2 ^ k * 5 ^ k) = m * (2 ^ (t + g + y + k) * 5 ^ (y + k)):=by
    rw [Nat.pow_add,Nat.pow_add,Nat.pow_add,Nat.pow_add]
    simp only [Nat.mul_assoc,Nat.mul_comm,Nat.mul_left_comm]
  rw [l1,l2,q1,q2]
theorem exact_eq {kind:Int} {p w:Nat} (h:kindS kind p w) {a:Int} (hb:bitsOk p w a) (hc:(numS p w a).class_ = 1) :
    ∃ D X,Dec.exact kind a = some ((numS p w a).sign,B D,X) ∧ Own p w a D X:=by
  have hk:=h.ok
  obtain ⟨h1,h2,h3,h4,h5,h6⟩:=hk.facts
  obtain ⟨M,eM,m0,m1,e0,e1,mn⟩:=(numS_ok hk a).mag hc
  have hp63:2 ^ p ≤ 2 ^ 53:=Nat.pow_le_pow_right (by decide) (by rcases hk with ⟨rfl,_⟩ | ⟨rfl,_⟩ | ⟨rfl,_⟩ <;> decide)
  have hbi:0 ≤ biasS w ∧ biasS w < 1024:=by rcases hk with ⟨rfl,rfl⟩ | ⟨rfl,rfl⟩ | ⟨rfl,rfl⟩ <;> decide
  have hlst:lstS p w = 2 - biasS w - p:=rfl
  obtain ⟨m,t,hm0,ht,hmp,hmt,hP⟩:=Parts_eq h hb hc
  obtain ⟨e,he⟩:∃ e,e = (numS p w a).e:=⟨_,rfl⟩
  rw [← he] at e0 e1 hP
  obtain ⟨V,hV⟩:∃ V,V = m * 2 ^ (e + t).toNat * 5 ^ (-(e + t)).toNat:=⟨_,rfl⟩
  have hV0:0 < V:=by rw [hV]; exact Nat.mul_pos (Nat.mul_pos hm0 (Nat.two_pow_pos _)) (Nat.pow_pos (by decide))
  obtain ⟨N,hN⟩:∃ N,N = 1200:=⟨_,rfl⟩
  have hVb:V < 10 ^ N:=by
    have q1:2 ^ (e + t).toNat ≤ 10 ^ (e + t).toNat:=Nat.pow_le_pow_left (by decide) _
    have q2:5 ^ (-(e + t)).toNat ≤ 10 ^ (-(e + t)).toNat:=Nat.pow_le_pow_left (by decide) _
    have q3:m < 10 ^ 16:=by omega
    have q4:m * 2 ^ (e + t).toNat ≤ m * 10 ^ (e + t).toNat:=Nat.mul_le_mul_left _ q1
    have q5:V ≤ m * 10 ^ (e + t).toNat * 10 ^ (-(e + t)).toNat:=by rw [hV]; exact Nat.mul_le_mul q4 q2
    rw [Nat.mul_assoc,← Nat.pow_add] at q5
    have q6:m * 10 ^ ((e + t).toNat + (-(e + t)).toNat) < 10 ^ 16 * 10 ^ ((e + t).toNat + (-(e + t)).toNat):=Nat.mul_lt_mul_of_pos_right q3 (Nat.pow_pos (by decide))
    rw [← Nat.pow_add] at q6
    exact Nat.lt_of_le_of_lt q5 (Nat.lt_of_lt_of_le q6 (Nat.pow_le_pow_right (by decide) (by omega)))
  have hlen:(ds V).length ≤ N:=by rw [ds_len]; exact (lnB_iff (by decide) _ _).1 hVb
  have hlV:lnB 1000000000 V ≤ 100000:=by
    refine Nat.le_trans ((lnB_iff h9 N _).1 (Nat.lt_of_lt_of_le hVb (Nat.pow_le_pow_left (by decide) _))) (by omega)
  obtain ⟨k,hkz⟩:=trD_split (ds V)
  have hvd:=congrArg vd hkz
  rw [vd_ds,vd_append,vd_zeros,List.length_replicate,Nat.add_zero] at hvd
  have hll:=congrArg List.length hkz
  rw [List.length_append,List.length_replicate] at hll
  have hall:(trD (ds V)).all dgQ = true:=by
    have:=ds_all V
    rw [hkz,List.all_append,Bool.and_eq_true] at this
    exact this.1
  have hne:trD (ds V) ≠ []:=fun h0=>by rw [h0,vd_nil] at hvd; omega
  have hX:((ds V).length:Int) + min (e + t) 0 - (trD (ds V)).length = (k:Int) + min (e + t) 0:=by omega
  have hj:Dec.exact.j0 (numS p w a).sign (min (e + t) 0) (G V) = some ((numS p w a).sign,B (trD (ds V)),((ds V).length:Int) + min (e + t) 0):=by
    unfold Dec.exact.j0
    refine bindE (digits_eq hlV) (bindE (TR_eq (by omega)) (letV (y:=((ds V).length:Int)) (by rw [B_size]) (letV (wi (by omega) (by omega)) rfl)))
  refine ⟨trD (ds V),((ds V).length:Int) + min (e + t) 0,?_,hall,?_,fun c r hh=>trD_last hh,hne,?_,?_,by omega,by omega⟩
  · unfold Dec.exact
    obtain ⟨iv,ia⟩:=itoa_vd m
    have hwh:=whole_eq ia (by have:=itoa_len (n:=m) (k:=20) (by omega) (by decide); omega)
    rw [iv] at hwh
    refine bindE hP (bindE (Itoa_eq (by omega)) (bindE hwh ?_))
    rcases Int.lt_or_le (e + t) 0 with hx | hx
    · have eV:V = m * 5 ^ (-(e + t)).toNat:=by rw [hV,show (e + t).toNat = 0 by omega,Nat.pow_zero,Nat.mul_one]
      have hpw:=power_eq m 5 (-(e + t)).toNat (by decide) (by decide) (by omega) (by rw [← eV]; exact hlV)
      rw [Int.toNat_of_nonneg (by omega),← eV] at hpw
      refine letF (decide_eq_false (by omega)) (letV (y:=-(e + t)) (by rw [wi (by omega) (by omega)]; omega) (bindE hpw ?_))
      rw [Int.min_eq_left (by omega)] at hj
      rw [Int.min_eq_left (by omega)]
      exact hj
    · have eV:V = m * 2 ^ (e + t).toNat:=by rw [hV,show (-(e + t)).toNat = 0 by omega,Nat.pow_zero,Nat.mul_one]
      have hpw:=power_eq m 2 (e + t).toNat (by decide) (by decide) (by omega) (by rw [← eV]; exact hlV)
      rw [Int.toNat_of_nonneg (by omega),← eV] at hpw
      refine letT (decide_eq_true (by omega)) (bindE hpw ?_)
      rw [Int.min_eq_right (by omega)] at hj
      rw [Int.min_eq_right (by omega)]
      exact hj
  · intro c r hh
    refine ds_head (n:=V) (r:=r ++ List.replicate k 48) ?_
    rw [hkz,hh]; rfl
  · rw [← he,hmt,Int.toNat_natCast,hX,show ((trD (ds V)).length:Int) - (((ds V).length:Int) + min (e + t) 0) = -((k:Int) + min (e + t) 0) by omega]
    exact exact_fr hvd hV rfl
  · rw [← he]; omega
end Go.Q
namespace Go.Q
open Go
set_option maxRecDepth 10000
def hd (c:UInt8):BS → Bool | d :: _=>d == c | []=>false
inductive DecT where
  | word (sign:Int) (w:BS)
  | num (sign:Int) (d:BS) (x:Int)
end Go.Q
namespace Go.Q
open Go
set_option maxRecDepth 10000
theorem bt_B (l:BS) (i:Nat) (h:i < l.length):bt (B l) (i:Int) = ((l[i]).toNat:Int):=by
  rw [bt_L,L_B,Int.toNat_natCast,List.getD_eq_getElem?_getD,List.getElem?_eq_getElem h]; rfl
theorem take_B (l:BS) (n:Nat):(B l).extract 0 n = B (l.take n):=by rw [← B_L ((B l).extract 0 n),L_take,L_B]
theorem eqB (l m:BS):((B l).toList == (B m).toList) = decide (l = m):=by
  rw [toList_L,toList_L,L_B,L_B]
  by_cases h:l = m
  · rw [decide_eq_true h,h]; exact beq_self_eq_true _
  · rw [decide_eq_false h]; exact beq_eq_false_iff_ne.2 h
end Go.Q
namespace Go.Q
open Go
set_option maxRecDepth 10000
end Go.Q
namespace Go.Q
open Go
set_option maxRecDepth 10000
theorem bitsOk0 {p w:Nat}:bitsOk p w 0:=by
  unfold bitsOk
  rintro ⟨_,h⟩
  rw [show ((0:Int) % 18446744073709551616).toNat = 0 from rfl] at h
  have:=Nat.two_pow_pos (p + w)
  omega
theorem isKind_eq {kind mode:Int} {p w:Nat} (h:kindS kind p w) (hm:0 ≤ mode ∧ mode < 4):Dec.isKind kind mode = some true:=by
  unfold Dec.isKind
  have hv:=(Valid_eq h 0).trans (congrArg some (@decide_eq_true _ (Classical.propDecidable _) bitsOk0))
  exact bindE hv (condT rfl (letT (decide_eq_true (by omega)) (letV (decide_eq_true (by omega)) rfl)))
theorem B_app (a b:BS):B a ++ B b = B (a ++ b):=by rw [← B_L (B a ++ B b),L_app,L_B,L_B]
theorem rep0 {k:Nat} (hk:k ≤ 1000000):Strs.Repeat ⟨#[48]⟩ (k:Int) = some (B (List.replicate k 48)):=by
  unfold Strs.Repeat
  rw [chk_pos,show L (⟨#[48]⟩:ByteArray) = [48] from rfl,Int.toNat_natCast,repeat_zero]
  refine ⟨by omega,by omega,?_⟩
  show 1 * (k:Int).toNat ≤ _
  omega
end Go.Q
namespace Go.Q
open Go
set_option maxRecDepth 10000
def awD (mode sign:Int) (D:BS) (n:Nat):Bool :=
  if D.length ≤ n then false
  else if mode = 0 then decide (10 ^ (D.drop n).length < 2 * vd (D.drop n)) || (decide (10 ^ (D.drop n).length = 2 * vd (D.drop n)) && decide (vd (D.take n) % 2 = 1))
  else if mode = 2 then sign == 1 else if mode = 3 then sign == 0 else false
theorem vd_last {r:BS} (ha:r.all dgQ = true) (hne:r ≠ []) (hl:∀ c q,r = q ++ [c] → c ≠ 48):0 < vd r:=by
  have e:r = r.dropLast ++ [r.getLast hne]:=(List.dropLast_concat_getLast hne).symm
  have hc:=hl _ _ e
  have hd:dgQ (r.getLast hne) = true:=List.all_eq_true.1 ha _ (List.getLast_mem hne)
  rw [e,vd_append]
  have h1:vd [r.getLast hne] = cv (r.getLast hne):=by rw [vd_cons]; simp [vd_nil]
  rw [h1]
  have:cv (r.getLast hne) ≠ 0:=fun h=>hc ((cv_zero hd).1 h)
  omega
theorem dAway_eq {mode sign:Int} {D:BS} {n:Nat} (ha:D.all dgQ = true) (hl:∀ c q,D = q ++ [c] → c ≠ 48) (hD:D.length ≤ 100000):Dec.away mode sign (B D) n = some (awD mode sign D n):=by
  have hs:(B D).size = D.length:=B_size D
  unfold Dec.away awD
  refine letV (y:=(D.length:Int)) (by rw [hs]) ?_
  by_cases h:D.length ≤ n
  · rw [if_pos h]; exact letT (decide_eq_true (by omega)) rfl
  · rw [if_neg h]
    refine letF (decide_eq_false (by omega)) ?_
    by_cases m0:mode = 0
    · rw [if_pos m0]
      refine letT (by rw [m0]; rfl) (letF (decide_eq_false (by omega)) ?_)
      have hn:n < D.length:=by omega
      have hdr:D.drop n = D[n] :: D.drop (n + 1):=List.drop_eq_getElem_cons hn
      have hc:dgQ D[n] = true:=List.all_eq_true.1 ha _ (List.getElem_mem hn)
      have hr:(D.drop (n + 1)).all dgQ = true:=all_drop _ ha
      have hp:D.drop (n + 1) ≠ [] → 0 < vd (D.drop (n + 1)):=fun hne=>vd_last hr hne (fun c q hq=>by
        refine hl c (D.take (n + 1) ++ q) ?_
        rw [List.append_assoc,← hq,List.take_append_drop])
      obtain ⟨t1,t2⟩:=tail_half hc hr hp
      have hrn:D.drop (n + 1) = [] ↔ ¬ (n + 1 < D.length):=by rw [List.drop_eq_nil_iff]; omega
      rw [hdr,List.length_cons]
      have hb:bt (B D) (n:Int) = (D[n].toNat:Int):=bt_B D n hn
      refine chkE (by omega) (letV hb ?_)
      by_cases c1:D[n].toNat < 53
      · refine letT (decide_eq_true (by omega)) ?_
        rw [decide_eq_false (by rw [t1]; omega),decide_eq_false (by rw [t2]; omega)]; rfl
      · refine letF (decide_eq_false (by omega)) ?_
        have key:∀ odd:Bool,odd = decide (vd (D.take n) % 2 = 1) → Dec.away.j1 (B D) (n:Int) odd = some (decide (10 ^ ((D.drop (n + 1)).length + 1) < 2 * vd (D[n] :: D.drop (n + 1))) || (decide (10 ^ ((D.drop (n + 1)).length + 1) = 2 * vd (D[n] :: D.drop (n + 1))) && decide (vd (D.take n) % 2 = 1))):=by
          intro odd ho
          unfold Dec.away.j1
          refine chkE (by omega) (letV hb ?_)
          by_cases c2:53 < D[n].toNat
          · rw [decide_eq_true (t1.2 (.inl c2))]
            exact letT (decide_eq_true (by omega)) rfl
          · refine letF (decide_eq_false (by omega)) (letV (wi (by omega) (by omega)) (letV (y:=(D.length:Int)) (by rw [hs]) ?_))
            by_cases c3:n + 1 < D.length
            · rw [decide_eq_true (t1.2 (.inr ⟨by omega,fun hx=>(hrn.1 hx) c3⟩))]
              exact letT (decide_eq_true (by omega)) rfl
            · have hx:=hrn.2 c3
              have hno:¬ 10 ^ ((D.drop (n + 1)).length + 1) < 2 * vd (D[n] :: D.drop (n + 1)):=fun q=>(t1.1 q).elim c2 fun q=>q.2 hx
              rw [decide_eq_false hno,decide_eq_true (t2.2 ⟨by omega,hx⟩)]
              refine letF (decide_eq_false (by omega)) ?_
              rw [ho]; rfl
        unfold Dec.away.j0
        by_cases hn0:0 < n
        · have hb2:bt (B D) ((n - 1:Nat):Int) = (D[n - 1].toNat:Int):=bt_B D (n - 1) (by omega)
          have hc2:dgQ D[n - 1] = true:=List.all_eq_true.1 ha _ (List.getElem_mem (by omega))
          have hq:=dgQ_b hc2
          have htk:vd (D.take n) = vd (D.take (n - 1)) * 10 + cv D[n - 1]:=by
            have e:D.take n = D.take (n - 1) ++ [D[n - 1]]:=by
              have:=List.take_append_getElem (l:=D) (i:=n - 1) (by omega)
              rw [show n - 1 + 1 = n by omega] at this
              exact this.symm
            rw [e,vd_append]
            have h1:vd [D[n - 1]] = cv D[n - 1]:=by rw [vd_cons]; simp [vd_nil]
            rw [h1]; rfl
          refine letT (decide_eq_true (by omega)) (letV (y:=((n - 1:Nat):Int)) (by rw [wi (by omega) (by omega)]; omega) (chkE (by omega) (letV hb2 (letV (y:=((cv D[n - 1]:Nat):Int)) ?_ (chkE (by decide) (letV (y:=((cv D[n - 1] % 2:Nat):Int)) ?_ (letV rfl (key _ ?_))))))))
          · unfold cv
            show ((D[n - 1].toNat:Int) - 48) % 256 = _
            omega
          · rw [Int.tmod_eq_emod_of_nonneg (by omega)]; rfl
          · rw [htk,Bool.eq_iff_iff,beq_iff_eq,decide_eq_true_eq]; omega
        · refine letF (decide_eq_false (by omega)) (key _ ?_)
          rw [show n = 0 by omega,List.take_zero,vd_nil]; rfl
    · rw [if_neg m0]
      refine letF (beq_eq_false_iff_ne.2 m0) ?_
      by_cases m2:mode = 2
      · rw [if_pos m2]; exact letT (by rw [m2]; rfl) (letV rfl rfl)
      · rw [if_neg m2]
        refine letF (beq_eq_false_iff_ne.2 m2) ?_
        by_cases m3:mode = 3
        · rw [if_pos m3]; exact letT (by rw [m3]; rfl) (letV rfl rfl)
        · rw [if_neg m3]; exact letF (beq_eq_false_iff_ne.2 m3) rfl
def toI (l:BS):List Int:=l.map fun c=>(c.toNat:Int)
theorem cut_l0 (hk:∀ x:UInt8,x < 57 → (x + 1).toNat = x.toNat + 1):∀ (r:BS) (k:Nat),r.length + k ≤ 1000000 → r.all dgQ = true → Dec.cut.l0 (toI (r.reverse ++ List.replicate k 48)) ((r.length:Int) - 1) = some (B ((incR r).reverse ++ List.replicate k 48))
  | [],k,hb,_=>by
    unfold Dec.cut.l0
    refine loopO_end ?_
    show Dec.cut.s0 (toI (List.replicate k 48)) (-1) = _
    unfold Dec.cut.s0
    refine letF rfl ?_
    have e:ofInts (toI (List.replicate k 48)) = B (List.replicate k 48):=ofInts_nat _
    show Option.map Sum.inr (letk (ofInts (toI (List.replicate k 48))) fun t53=>chk ((((⟨#[49]⟩:ByteArray).size + t53.size:Nat):Int) ≤ 9223372036854775807) <| letk ((⟨#[49]⟩:ByteArray) ++ t53) fun t54=>some t54) = _
    have h2:(letk (ofInts (toI (List.replicate k 48))) fun t53=>chk ((((⟨#[49]⟩:ByteArray).size + t53.size:Nat):Int) ≤ 9223372036854775807) <| letk ((⟨#[49]⟩:ByteArray) ++ t53) fun t54=>some t54) = some (B ([49] ++ List.replicate k 48)):=by
      refine letV e (chkE ?_ (letV (B_app [49] _) rfl))
      have h1:(⟨#[49]⟩:ByteArray).size = 1:=rfl
      have h3:(B (List.replicate k 48)).size = k:=by rw [B_size,List.length_replicate]
      rw [h1,h3]; simp at hb; omega
    rw [h2]; rfl
  | c :: r,k,hb,ha=>by
    rw [List.length_cons] at hb
    simp only [List.all_cons,Bool.and_eq_true] at ha
    have hq:=dgQ_b ha.1
    have hlen:(toI ((c :: r).reverse ++ List.replicate k 48)).length = r.length + 1 + k:=by
      unfold toI; simp; omega
    have hsp:(c :: r).reverse ++ List.replicate k 48 = r.reverse ++ c :: List.replicate k 48:=by simp
    have hget:(toI ((c :: r).reverse ++ List.replicate k 48))[0 + ((r.length:Int)).toNat]? = some (c.toNat:Int):=by
      unfold toI
      rw [hsp,Int.toNat_natCast,Nat.zero_add,List.getElem?_map,List.getElem?_append_right (by simp)]; simp
    have hset:∀ d:UInt8,(toI ((c :: r).reverse ++ List.replicate k 48)).set (0 + ((r.length:Int)).toNat) (d.toNat:Int) = toI (r.reverse ++ d :: List.replicate k 48):=by
      intro d
      unfold toI
      rw [hsp,Int.toNat_natCast,Nat.zero_add,List.map_append,List.set_append_right _ _ (by simp)]; simp
    have e1:((r.length + 1:Nat):Int) - 1 = (r.length:Int):=by omega
    by_cases h9:c < 57
    · have hi:incR (c :: r) = (c + 1) :: r:=by unfold incR; rw [if_pos h9]
      have h9n:c.toNat < 57:=h9
      unfold Dec.cut.l0
      refine loopO_end ?_
      show Dec.cut.s0 _ (((r.length + 1:Nat):Int) - 1) = _
      rw [e1]
      unfold Dec.cut.s0
      refine letT (decide_eq_true (by omega)) (chkE (by rw [hlen]; omega) (letV rfl (bindE hget (letT (decide_eq_true (by omega)) (chkE (by rw [hlen]; omega) (letV rfl (bindE hget (letV (y:=(((c + 1:UInt8).toNat:Nat):Int)) ?_ (chkE (by rw [hlen]; omega) (letV rfl (bindE hget (letV (hset _) (letV (y:=B (r.reverse ++ (c + 1) :: List.replicate k 48)) (ofInts_nat _) ?_)))))))))))))
      · rw [hk c h9]
        show ((c.toNat:Int) + 1) % 256 = _
        omega
      · rw [hi]; simp
    · have hi:incR (c :: r) = 48 :: incR r:=by rw [incR,if_neg h9]
      have h9n:¬ c.toNat < 57:=h9
      have ih:=cut_l0 hk r (k + 1) (by omega) ha.2
      unfold Dec.cut.l0 at ih ⊢
      refine loopO_next (t:=(toI (r.reverse ++ List.replicate (k + 1) 48),(r.length:Int) - 1)) ?_ ?_
      · show Dec.cut.s0 _ (((r.length + 1:Nat):Int) - 1) = _
        rw [e1]
        unfold Dec.cut.s0
        refine letT (decide_eq_true (by omega)) (chkE (by rw [hlen]; omega) (letV rfl (bindE hget (letF (decide_eq_false (by omega)) (chkE (by rw [hlen]; omega) (letV rfl (bindE hget (letV (hset 48) (letV (wi (by omega) (by omega)) ?_)))))))))
        rw [List.replicate_succ]
      · rw [ih,hi,List.reverse_cons,List.append_assoc,List.replicate_succ]; rfl
theorem u8_succ (x:UInt8) (h:x < 57):(x + 1).toNat = x.toNat + 1:=by
  have:x.toNat < 57:=h
  rw [UInt8.toNat_add]
  show (x.toNat + 1) % 256 = _
  omega
def rdD (D:BS) (n:Nat) (more:Bool):BS:=if more = true then incD (topD D n) else topD D n
theorem cut_eq {D:BS} {n:Nat} {more:Bool} (ha:D.all dgQ = true) (hD:D.length ≤ 100000) (hn:n ≤ 100000):Dec.cut (B D) (n:Int) more = some (B (rdD D n more)):=by
  have hs:(B D).size = D.length:=B_size D
  have hj:∀ s:BS,n ≤ s.length → s.take n = topD D n → Dec.cut.j0 n (B s) more = some (B (rdD D n more)):=by
    intro s h1 h3
    have h2:(B s).size = s.length:=B_size s
    unfold Dec.cut.j0
    refine chkE (by omega) (letV (y:=B (topD D n)) ?_ ?_)
    · rw [Int.toNat_natCast,take_B,h3]
    · unfold rdD
      cases more with
      | false=>exact letT rfl rfl
      | true =>
        refine letF rfl (letV (y:=toI (topD D n)) rfl (letV (wi (by omega) (by omega)) ?_))
        have:=cut_l0 u8_succ (topD D n).reverse 0 (by rw [List.length_reverse,topD_len]; omega) (by rw [List.all_reverse]; exact topD_dig ha n)
        simp only [List.reverse_reverse,List.replicate_zero,List.append_nil,List.length_reverse,topD_len] at this
        exact this
  unfold Dec.cut
  refine letV (y:=(n:Int)) (by split <;> omega) (letV (y:=(D.length:Int)) (by rw [hs]) ?_)
  rcases Nat.lt_or_ge D.length n with hlt | hge
  · refine letT (decide_eq_true (by omega)) (letV (y:=(D.length:Int)) (by rw [hs]) (letV (y:=((n - D.length:Nat):Int)) (by rw [wi (by omega) (by omega)]; omega) (bindE (rep0 (by omega)) (chkE ?_ (letV (B_app _ _) (hj _ ?_ ?_))))))
    · rw [B_size,B_size,List.length_replicate]; omega
    · rw [List.length_append,List.length_replicate]; omega
    · unfold topD
      rw [List.take_of_length_le (by rw [List.length_append,List.length_replicate]; omega),List.take_of_length_le (by omega)]
  · refine letF (decide_eq_false (by omega)) (hj D hge ?_)
    unfold topD
    rw [show n - D.length = 0 by omega,List.replicate_zero,List.append_nil]
theorem to_eq {D:BS} {n:Nat} {X:Int} {more:Bool} (ha:D.all dgQ = true) (hD:D.length ≤ 100000) (hn:n ≤ 100000) (hX:-100000 ≤ X ∧ X ≤ 100000) :
    Dec.to (B D) X (n:Int) more = some (if (rdD D n more).length > n then (B ((rdD D n more).take n),X + 1) else (B (rdD D n more),X)):=by
  have hs:(B (rdD D n more)).size = (rdD D n more).length:=B_size _
  unfold Dec.to
  refine bindE (cut_eq ha hD hn) (letV (y:=((rdD D n more).length:Int)) (by rw [hs]) ?_)
  by_cases h:(rdD D n more).length > n
  · rw [if_pos h]
    exact letT (decide_eq_true (by omega)) (chkE (by omega) (letV (y:=B ((rdD D n more).take n)) (by rw [Int.toNat_natCast,take_B]) (letV (wi (by omega) (by omega)) rfl)))
  · rw [if_neg h]; exact letF (decide_eq_false (by omega)) rfl
end Go.Q
namespace Go.Q
open Go
set_option maxRecDepth 100000
set_option maxHeartbeats 4000000
def sizeS (p w:Nat) (a:Int):Nat:=(a % 18446744073709551616).toNat % 2 ^ (p + w - 1)
def placeS (p w:Nat) (a:Int):Int:=if sgnS p w (a % 18446744073709551616).toNat = 1 then -(sizeS p w a:Int) else sizeS p w a
theorem mask_eq {p w:Nat} (h:OkS p w) (a:Int):IntKind.u64.wrap (((BitVec.ofInt IntKind.u64.bits (IntKind.u64.wrap a) &&& BitVec.ofInt IntKind.u64.bits (IntKind.u64.wrap (IntKind.u64.wrap ((1:Int) * 2 ^ (min (((p:Int) + w - 1)).toNat IntKind.u64.bits)) - 1))).toNat:Nat):Int) = (sizeS p w a:Int):=by
  obtain ⟨h1,h2,h3,h4,h5,h6⟩:=h.facts
  obtain ⟨e1,e2⟩:=wrap_toNat a
  have hp:=pw_lt (a:=p + w - 1) (Nat.le_refl _) (by omega)
  have h0:=Nat.two_pow_pos (p + w - 1)
  rw [e1,u_shl' (a:=1) (k:=p + w - 1) (x:=1) rfl (by omega),Nat.one_mul,Nat.mod_eq_of_lt hp]
  rw [wu (x:=((2 ^ (p + w - 1):Nat):Int) - 1) (by omega) (by omega)]
  rw [u_and' (b:=2 ^ (p + w - 1) - 1) rfl (by omega) e2 (by omega),Nat.and_two_pow_sub_one_eq_mod]
  rfl
theorem size_lt {p w:Nat} (h:OkS p w) (a:Int):(sizeS p w a:Int) < 9223372036854775808:=by
  obtain ⟨h1,h2,h3,h4,h5,h6⟩:=h.facts
  have:sizeS p w a < 2 ^ (p + w - 1):=Nat.mod_lt _ (Nat.two_pow_pos _)
  have h2:2 ^ (p + w - 1) ≤ 2 ^ 63:=Nat.pow_le_pow_right (by decide) (by omega)
  have h3:(2:Nat) ^ 63 = 9223372036854775808:=by decide
  omega
def cmpS (p w:Nat) (a b:Int) (x y:float.number):Int :=
  if x.class_ = 3 ∨ y.class_ = 3 then 2 else if x.class_ = 0 ∧ y.class_ = 0 then 0 else if placeS p w a < placeS p w b then -1 else if placeS p w b < placeS p w a then 1 else 0
theorem wnat {n:Nat} (h:n < 18446744073709551616):IntKind.u64.wrap (n:Int) = (n:Int):=by
  rw [wuN,Nat.mod_eq_of_lt h]
theorem tdiv_nat (a b:Nat):(a:Int).tdiv (b:Int) = ((a / b:Nat):Int):=by
  rw [Int.tdiv_eq_ediv_of_nonneg (Int.natCast_nonneg _)]; rfl
theorem tmod_nat (a b:Nat):(a:Int).tmod (b:Int) = ((a % b:Nat):Int):=by
  rw [Int.tmod_eq_emod_of_nonneg (Int.natCast_nonneg _)]; rfl
section
variable {t36:Int} {y n1 n0:Nat}
end
def bd (n i:Nat):Nat:=n / 2 ^ i % 2
def dk (k n:Nat):List Int:=(List.range k).map fun i=>((bd n i:Nat):Int)
def dg (n:Nat):List Int:=dk (bl n) n
theorem bd_lt (n i:Nat):bd n i < 2:=Nat.mod_lt _ (by decide)
theorem dk_len (k n:Nat):(dk k n).length = k:=by simp [dk]
theorem dk_succ (k n:Nat):dk (k + 1) n = dk k n ++ [((bd n k:Nat):Int)]:=by
  unfold dk
  rw [List.range_succ,List.map_append]; rfl
theorem bd_high {n i:Nat} (h:bl n ≤ i):n / 2 ^ i = 0:=Nat.div_eq_of_lt (bl_le_iff.1 h)
theorem div_low {n i:Nat} (h:i < bl n):0 < n / 2 ^ i:=by
  have h0:0 < n:=by
    rcases Nat.eq_zero_or_pos n with h1 | h1
    · rw [h1] at h; cases h
    · exact h1
  have:=bl_le h0
  rw [Nat.lt_iff_add_one_le,Nat.zero_add,Nat.le_div_iff_mul_le (Nat.two_pow_pos i),Nat.one_mul]
  exact Nat.le_trans (Nat.pow_le_pow_right (by decide) (by omega)) this
theorem div_succ (n i:Nat):n / 2 ^ (i + 1) = n / 2 ^ i / 2:=by rw [Nat.pow_succ,Nat.div_div_eq_div_mul]
theorem Of_l0 {N:Nat} (hN:N < 18446744073709551616):∀ m i:Nat,i + m = bl N → Ref1.Of.l0 (dk i N) ((N / 2 ^ i:Nat):Int) = some (dg N):=by
  have hb:bl N ≤ 64:=bl_le_iff.2 hN
  intro m
  induction m with
  | zero =>
    intro i h
    rw [Ref1.Of.l0,loopO_eq,Ref1.Of.s0]
    simp only [letk]
    rw [bd_high (by omega),decide_eq_false (by decide)]
    simp only [cond]
    rw [show i = bl N by omega]; rfl
  | succ m ih =>
    intro i h
    have h1:=div_low (n:=N) (i:=i) (by omega)
    have h2:=Nat.div_le_self N (2 ^ i)
    rw [Ref1.Of.l0,loopO_eq,Ref1.Of.s0]
    simp only [letk]
    rw [decide_eq_true (show ((N / 2 ^ i:Nat):Int) > 0 by omega)]
    simp only [cond]
    rw [chk_pos (by decide),chk_pos (by rw [List.length_singleton,dk_len]; omega),chk_pos (by decide)]
    rw [show ((N / 2 ^ i:Nat):Int).tmod 2 = ((bd N i:Nat):Int) from tmod_nat _ 2,show ((N / 2 ^ i:Nat):Int).tdiv 2 = ((N / 2 ^ i / 2:Nat):Int) from tdiv_nat _ 2,← div_succ]
    have h3:=bd_lt N i
    have h4:=Nat.div_le_self N (2 ^ (i + 1))
    rw [show IntKind.u8.wrap ((bd N i:Nat):Int) = ((bd N i:Nat):Int) by show ((bd N i:Nat):Int) % 256 = _; omega,wnat (Nat.lt_of_le_of_lt h4 hN),← dk_succ,Option.bind_some,Sum.elim_inl]
    exact ih (i + 1) (by omega)
theorem Of_eq {N:Nat} (hN:N < 18446744073709551616) {x:Int} (hx:IntKind.u64.wrap x = N):Ref1.Of x = some (dg N):=by
  unfold Ref1.Of
  simp only [letk]
  rw [hx]
  have:=Of_l0 hN (bl N) 0 (by omega)
  rw [Nat.pow_zero,Nat.div_one] at this
  exact this
theorem letkE {α ρ:Type} (x:α) (X:α → Option ρ):letk x X = X x:=Eq.trans rfl rfl
theorem cnT {α:Type} (x y:α):cond true x y = x:=Eq.trans rfl rfl
theorem cnF {α:Type} (x y:α):cond false x y = y:=Eq.trans rfl rfl
theorem bindS {α β:Type} (x:α) (f:α → Option β):Option.bind (some x) f = f x:=Eq.trans rfl rfl
theorem Digits_eq {kind:Int} {p w:Nat} (h:kindS kind p w):Ref1.Digits kind = some (p:Int):=by
  rcases h with ⟨rfl,rfl,rfl⟩ | ⟨rfl,rfl,rfl⟩ | ⟨rfl,rfl,rfl⟩ <;> rfl
theorem Bias_eq {kind:Int} {p w:Nat} (h:kindS kind p w):Ref1.Bias kind = some (biasS w):=by
  rcases h with ⟨rfl,rfl,rfl⟩ | ⟨rfl,rfl,rfl⟩ | ⟨rfl,rfl,rfl⟩ <;> rfl
theorem rleast_eq {kind:Int} {p w:Nat} (h:kindS kind p w):Ref1.least kind = some (lstS p w):=by
  unfold Ref1.least
  rw [Bias_eq h,Digits_eq h]
  rcases h with ⟨rfl,rfl,rfl⟩ | ⟨rfl,rfl,rfl⟩ | ⟨rfl,rfl,rfl⟩ <;> rfl
theorem kindS.eight {kind:Int} {p w:Nat} (h:kindS kind p w):8 * kind = ((p + w:Nat):Int):=by
  rcases h with ⟨rfl,rfl,rfl⟩ | ⟨rfl,rfl,rfl⟩ | ⟨rfl,rfl,rfl⟩ <;> rfl
section
variable {kind:Int} {p w:Nat} (h:kindS kind p w)
include h
end
def classN (c:Int):ByteArray:=if c = 0 then ⟨#[122,101,114,111]⟩ else if c = 1 then ⟨#[102,105,110,105,116,101]⟩ else if c = 2 then ⟨#[105,110,102,105,110,105,116,101]⟩ else ⟨#[110,111,110,101]⟩
noncomputable def takS (x:float.number):quadratref01.float:=⟨classN x.class_,if x.class_ = 3 then 0 else x.sign,dg x.m.toNat,x.e⟩
structure NumZ (p w:Nat) (x:float.number):Prop extends NumOk p w x where
  nil:x.class_ ≠ 1 → x.m = 0 ∧ x.e = 0
theorem numS_z {p w:Nat} (h:OkS p w) (a:Int):NumZ p w (numS p w a):=by
  refine ⟨numS_ok h a,?_⟩
  unfold numS readS
  repeat' split
  all_goals first
    | exact fun _=>⟨rfl,rfl⟩
    | exact fun q=>absurd rfl q
theorem t_none:(⟨#[110,111,110,101]⟩:ByteArray).toList = [110,111,110,101]:=by rw [Lib.toList_data]
theorem t_inf:(⟨#[105,110,102,105,110,105,116,101]⟩:ByteArray).toList = [105,110,102,105,110,105,116,101]:=by rw [Lib.toList_data]
theorem t_zero:(⟨#[122,101,114,111]⟩:ByteArray).toList = [122,101,114,111]:=by rw [Lib.toList_data]
theorem t_fin:(⟨#[102,105,110,105,116,101]⟩:ByteArray).toList = [102,105,110,105,116,101]:=by rw [Lib.toList_data]
section
variable {c:Int} (hc:c = 0 ∨ c = 1 ∨ c = 2 ∨ c = 3)
include hc
theorem what_none:((classN c).toList == (⟨#[110,111,110,101]⟩:ByteArray).toList) = decide (c = 3):=by
  unfold classN
  rcases hc with rfl | rfl | rfl | rfl <;> simp only [t_none,t_inf,t_zero,t_fin,if_true,if_false,show ¬ ((1:Int) = 0) by decide,show ¬ ((2:Int) = 0) by decide,show ¬ ((3:Int) = 0) by decide,show ¬ ((2:Int) = 1) by decide,show ¬ ((3:Int) = 1) by decide,show ¬ ((3:Int) = 2) by decide] <;> rfl
end
def I64 (a:Int):Prop:=-9223372036854775808 ≤ a ∧ a < 9223372036854775808
theorem rValid_eq {kind:Int} {p w:Nat} (h:kindS kind p w) {a:Int} (ha:I64 a):Ref1.Valid kind a = some (@decide (bitsOk p w a) (Classical.propDecidable _)):=by
  unfold I64 at ha
  unfold Ref1.Valid bitsOk
  simp only [letkE]
  rcases h with ⟨rfl,rfl,rfl⟩ | ⟨rfl,rfl,rfl⟩ | ⟨rfl,rfl,rfl⟩
  · rw [show ((2:Int) == 2) = true from rfl,cond_true]
    by_cases h0:0 ≤ a
    · rw [decide_eq_true (show a ≥ 0 from h0),cond_true]
      congr 1
      rw [decide_eq_decide]
      have:(2:Nat) ^ (11 + 5) = 65536:=by decide
      omega
    · rw [decide_eq_false (show ¬ a ≥ 0 from h0),cond_false]
      congr 1
      symm
      rw [decide_eq_false_iff_not]
      have:(2:Nat) ^ (11 + 5) = 65536:=by decide
      omega
  · rw [show ((4:Int) == 2) = false from rfl,cond_false,show ((4:Int) == 4) = true from rfl,cond_true]
    by_cases h0:0 ≤ a
    · rw [decide_eq_true (show a ≥ 0 from h0),cond_true]
      congr 1
      rw [decide_eq_decide]
      have:(2:Nat) ^ (24 + 8) = 4294967296:=by decide
      omega
    · rw [decide_eq_false (show ¬ a ≥ 0 from h0),cond_false]
      congr 1
      symm
      rw [decide_eq_false_iff_not]
      have:(2:Nat) ^ (24 + 8) = 4294967296:=by decide
      omega
  · rw [show ((8:Int) == 2) = false from rfl,cond_false,show ((8:Int) == 4) = false from rfl,cond_false]
    congr 1
    rw [show ((8:Int) == 8) = true from rfl]
    symm
    exact @decide_eq_true _ (_) (by omega)
theorem asked_ok {kind mode:Int} {p w:Nat} (h:kindS kind p w) (hm:0 ≤ mode ∧ mode < 4) {a b:Int} (ha:I64 a) (hb:I64 b) (ka:bitsOk p w a) (kb:bitsOk p w b):Ref1.asked kind mode a b = some true:=by
  unfold Ref1.asked Ref1.IsMode
  rw [rValid_eq h ha,rValid_eq h hb,@decide_eq_true _ (_) ka,@decide_eq_true _ (_) kb]
  simp only [letkE]
  rw [decide_eq_true (show mode ≥ 0 from hm.1),decide_eq_true (show mode ≤ 3 by omega)]; rfl
theorem taken_eq {kind:Int} {p w:Nat} (h:kindS kind p w) {a:Int} (hb:bitsOk p w a):Ref1.taken kind a = some (takS (numS p w a)):=by
  obtain ⟨h1,h2,h3,h4,h5,h6⟩:=h.ok.facts
  obtain ⟨e1,e2⟩:=wrap_toNat a
  unfold numS
  generalize hu:(a % 18446744073709551616).toNat = u at *
  have hpw:u < 2 ^ (p + w):=by
    unfold bitsOk at hb
    rw [hu] at hb
    by_cases q:p + w < 64
    · by_cases q2:2 ^ (p + w) ≤ u
      · exact absurd ⟨q,q2⟩ hb
      · omega
    · rw [show p + w = 64 by omega,pow64]; exact e2
  have hE:expS p w u < 2 ^ w:=Nat.mod_lt _ (Nat.two_pow_pos w)
  have hF:frcS p u < 2 ^ (p - 1):=Nat.mod_lt _ (Nat.two_pow_pos _)
  have hS:sgnS p w u < 2:=Nat.mod_lt _ (by decide)
  have hp53:2 ^ p ≤ 2 ^ 53:=Nat.pow_le_pow_right (by decide) h4
  have hp53':(2:Nat) ^ 53 = 9007199254740992:=by decide
  have hpp:2 ^ p = 2 ^ (p - 1) * 2:=by rw [← Nat.pow_succ]; congr 1; omega
  have hw11:2 ^ w ≤ 2 ^ 11:=Nat.pow_le_pow_right (by decide) h5
  have hw11':(2:Nat) ^ 11 = 2048:=by decide
  have hp0:=Nat.two_pow_pos (p - 1)
  have hw0:=Nat.two_pow_pos w
  have hbb:0 ≤ biasS w ∧ biasS w < 2000:=by rcases h.ok with ⟨rfl,rfl⟩ | ⟨rfl,rfl⟩ | ⟨rfl,rfl⟩ <;> decide
  unfold Ref1.taken
  rw [Digits_eq h,h.eight,Option.bind_some]
  simp only [letkE,Option.bind_some]
  rw [wi (x:=((p + w:Nat):Int)) (by omega) (by omega),show ((p + w:Nat):Int) - (p:Int) = (w:Int) by omega,wi (x:=(w:Int)) (by omega) (by omega),wi (x:=(p:Int) - 1) (by omega) (by omega),wi (x:=((p + w:Nat):Int) - 1) (by omega) (by omega),e1]
  rw [chk_pos (by omega),chk_pos (by omega),chk_pos (by omega),chk_pos (by omega),chk_pos (by omega)]
  have hpm:2 ^ (p - 1) % 18446744073709551616 = 2 ^ (p - 1):=Nat.mod_eq_of_lt (by omega)
  have hwm:2 ^ w % 18446744073709551616 = 2 ^ w:=Nat.mod_eq_of_lt (by omega)
  rw [u_shl' (a:=1) (k:=p - 1) (x:=1) (y:=(p:Int) - 1) rfl (by omega),Nat.one_mul,hpm,u_shl' (a:=1) (k:=w) (x:=1) (y:=(w:Int)) rfl rfl,Nat.one_mul,hwm]
  rw [show ((2 ^ (p - 1):Nat):Int) - 1 = ((2 ^ (p - 1) - 1:Nat):Int) by omega,show ((2 ^ w:Nat):Int) - 1 = ((2 ^ w - 1:Nat):Int) by omega]
  rw [wnat (n:=2 ^ (p - 1) - 1) (by omega),wnat (n:=2 ^ w - 1) (by omega)]
  rw [u_shr' (a:=u) (k:=p - 1) (y:=(p:Int) - 1) rfl (by omega) e2,u_shr' (a:=u) (k:=p + w - 1) (y:=((p + w:Nat):Int) - 1) rfl (by omega) e2]
  have d1:u / 2 ^ (p - 1) < 18446744073709551616:=Nat.lt_of_le_of_lt (Nat.div_le_self _ _) e2
  have d2:u / 2 ^ (p + w - 1) < 18446744073709551616:=Nat.lt_of_le_of_lt (Nat.div_le_self _ _) e2
  rw [u_and' (a:=u) (b:=2 ^ (p - 1) - 1) rfl rfl e2 (by omega),Nat.and_two_pow_sub_one_eq_mod,u_and' (a:=u / 2 ^ (p - 1)) (b:=2 ^ w - 1) rfl rfl d1 (by omega),Nat.and_two_pow_sub_one_eq_mod,u_and' (a:=u / 2 ^ (p + w - 1)) (b:=1) (y:=1) rfl rfl d2 (by decide),Nat.and_one_is_mod]
  rw [show u % 2 ^ (p - 1) = frcS p u from rfl,show u / 2 ^ (p - 1) % 2 ^ w = expS p w u from rfl,show u / 2 ^ (p + w - 1) % 2 = sgnS p w u from rfl]
  rw [wi (x:=((frcS p u:Nat):Int)) (by omega) (by omega),wi (x:=((expS p w u:Nat):Int)) (by omega) (by omega),wi (x:=((sgnS p w u:Nat):Int)) (by omega) (by omega)]
  have hone:∀ k:Nat,k ≤ 53 → ∀ K:Int,K = k → IntKind.i64.wrap ((1:Int) * 2 ^ (min K.toNat IntKind.i64.bits)) = ((2 ^ k:Nat):Int):=by
    intro k hk K hK
    subst hK
    have h2k:2 ^ k ≤ 2 ^ 53:=Nat.pow_le_pow_right (by decide) hk
    have:((1:Int) * 2 ^ (min ((k:Int)).toNat IntKind.i64.bits)) = ((2 ^ k:Nat):Int):=by
      rw [Int.toNat_natCast,show min k IntKind.i64.bits = k from Nat.min_eq_left (by show k ≤ 64; omega)]
      rw [Int.one_mul,Int.natCast_pow]; rfl
    rw [this]
    clear this
    generalize 2 ^ k = z at *
    rw [wi (x:=(z:Int)) (by omega) (by omega)]
  rw [hone w (by omega) _ (by omega),wi (x:=((2 ^ w:Nat):Int) - 1) (by omega) (by omega)]
  have j2:∀ l:List Int,Ref1.taken.j2 kind p (frcS p u:Nat) (expS p w u:Nat) (sgnS p w u:Nat) l false = if expS p w u = 0 then some ⟨⟨#[102,105,110,105,116,101]⟩,(sgnS p w u:Nat),dg (frcS p u),lstS p w⟩ else some ⟨⟨#[102,105,110,105,116,101]⟩,(sgnS p w u:Nat),dg (frcS p u + 2 ^ (p - 1)),(expS p w u:Int) - biasS w - p + 1⟩:=by
    intro l
    unfold Ref1.taken.j2
    rw [cond_false]
    simp only [letkE]
    by_cases hz:expS p w u = 0
    · rw [if_pos hz,show (((expS p w u:Nat):Int) == 0) = true from by rw [hz]; rfl,cond_true,Of_eq (N:=frcS p u) (by omega) (wnat (by omega)),Option.bind_some,rleast_eq h]; rfl
    · rw [if_neg hz,show (((expS p w u:Nat):Int) == 0) = false from by rw [beq_eq_false_iff_ne]; omega,cond_false]
      unfold Ref1.taken.j0
      simp only [letkE]
      rw [wi (x:=(p:Int) - 1) (by omega) (by omega),chk_pos (by omega),hone (p - 1) (by omega) _ (by omega),wi (x:=((2 ^ (p - 1):Nat):Int) + ((frcS p u:Nat):Int)) (by omega) (by omega)]
      rw [show ((2 ^ (p - 1):Nat):Int) + ((frcS p u:Nat):Int) = ((frcS p u + 2 ^ (p - 1):Nat):Int) by omega,Of_eq (N:=frcS p u + 2 ^ (p - 1)) (by omega) (wnat (by omega)),Option.bind_some,Bias_eq h,Option.bind_some]
      rw [wi (x:=((expS p w u:Nat):Int) - biasS w) (by omega) (by omega),wi (x:=((expS p w u:Nat):Int) - biasS w - p) (by omega) (by omega),wi (x:=((expS p w u:Nat):Int) - biasS w - p + 1) (by omega) (by omega)]
  by_cases ht:expS p w u = 2 ^ w - 1
  · have hne:¬ expS p w u = 0:=by
      have:2 ^ 5 ≤ 2 ^ w:=Nat.pow_le_pow_right (by decide) h2
      have:(2:Nat) ^ 5 = 32:=by decide
      omega
    rw [show (((expS p w u:Nat):Int) == ((2 ^ w:Nat):Int) - 1) = true from by rw [beq_iff_eq]; omega,cond_true]
    by_cases hf:frcS p u = 0
    · have hR:readS p w u = ⟨2,sgnS p w u,0,0⟩:=by unfold readS; rw [if_pos ⟨ht,hf⟩]
      rw [show (((frcS p u:Nat):Int) == 0) = true from by rw [hf]; rfl,hR]
      rfl
    · have hR:readS p w u = ⟨3,sgnS p w u,0,0⟩:=by unfold readS; rw [if_neg (fun q=>hf q.2),if_pos ht]
      rw [show (((frcS p u:Nat):Int) == 0) = false from by rw [beq_eq_false_iff_ne]; omega,hR]
      unfold Ref1.taken.j1
      rw [cond_false]
      simp only [letkE]
      rw [chk_pos (by omega),hone w (by omega) _ (by omega),wi (x:=((2 ^ w:Nat):Int) - 1) (by omega) (by omega)]
      rw [show (((expS p w u:Nat):Int) == ((2 ^ w:Nat):Int) - 1) = true from by rw [beq_iff_eq]; omega,cond_true]; rfl
  · rw [show (((expS p w u:Nat):Int) == ((2 ^ w:Nat):Int) - 1) = false from by rw [beq_eq_false_iff_ne]; omega,cond_false]
    unfold Ref1.taken.j1
    rw [cond_false]
    simp only [letkE]
    rw [chk_pos (by omega),hone w (by omega) _ (by omega),wi (x:=((2 ^ w:Nat):Int) - 1) (by omega) (by omega)]
    rw [show (((expS p w u:Nat):Int) == ((2 ^ w:Nat):Int) - 1) = false from by rw [beq_eq_false_iff_ne]; omega,cond_false]
    by_cases hz:expS p w u = 0
    · rw [show (((expS p w u:Nat):Int) == 0) = true from by rw [hz]; rfl,cond_true]
      by_cases hf:frcS p u = 0
      · have hR:readS p w u = ⟨0,sgnS p w u,0,0⟩:=by unfold readS; rw [if_neg (fun q=>ht q.1),if_neg ht,if_pos ⟨hz,hf⟩]
        rw [show (((frcS p u:Nat):Int) == 0) = true from by rw [hf]; rfl,hR]; rfl
      · have hR:readS p w u = ⟨1,sgnS p w u,frcS p u,lstS p w⟩:=by unfold readS; rw [if_neg (fun q=>ht q.1),if_neg ht,if_neg (fun q=>hf q.2),if_pos hz]
        rw [show (((frcS p u:Nat):Int) == 0) = false from by rw [beq_eq_false_iff_ne]; omega,j2,if_pos hz,hR]; rfl
    · have hR:readS p w u = ⟨1,sgnS p w u,((frcS p u + 2 ^ (p - 1):Nat):Int),(expS p w u:Int) - biasS w - p + 1⟩:=by unfold readS; rw [if_neg (fun q=>ht q.1),if_neg ht,if_neg (fun q=>hz q.1),if_neg hz]
      rw [show (((expS p w u:Nat):Int) == 0) = false from by rw [beq_eq_false_iff_ne]; omega,cond_false,j2,if_neg hz,hR]; rfl
section
variable {kind mode:Int} {p w:Nat} (h:kindS kind p w) (hm:0 ≤ mode ∧ mode < 4)
include h hm
end
section
variable {kind mode:Int} {p w:Nat} (h:kindS kind p w)
include h
end
theorem numS_sign {p w:Nat} (a:Int):(numS p w a).sign = sgnS p w (a % 18446744073709551616).toNat:=by
  unfold numS readS
  repeat' split
  all_goals rfl
section
variable {kind mode:Int} {p w:Nat} (h:kindS kind p w)
include h
theorem rsize_eq {a:Int}:Ref1.size kind a = some (sizeS p w a:Int):=by
  obtain ⟨h1,h2,h3,h4,h5,h6⟩:=h.ok.facts
  have hs:=size_lt h.ok a
  have hk:=mask_eq h.ok a
  unfold Ref1.size
  rw [h.eight]
  simp only [letkE]
  rw [wi (x:=((p + w:Nat):Int)) (by omega) (by omega),wi (x:=((p + w:Nat):Int) - 1) (by omega) (by omega),chk_pos (by omega)]
  rw [show (((p + w:Nat):Int) - 1) = ((p:Int) + w - 1) by omega,hk,wi (x:=(sizeS p w a:Int)) (by omega) (by omega)]
theorem size_zero {a:Int} (c:(numS p w a).class_ = 0):sizeS p w a = 0:=by
  obtain ⟨h1,h2,h3,h4,h5,h6⟩:=h.ok.facts
  unfold numS readS at c
  generalize hu:(a % 18446744073709551616).toNat = u at *
  have hz:expS p w u = 0 ∧ frcS p u = 0:=by
    by_cases q1:expS p w u = 2 ^ w - 1 ∧ frcS p u = 0
    · rw [if_pos q1] at c; cases c
    · rw [if_neg q1] at c
      by_cases q2:expS p w u = 2 ^ w - 1
      · rw [if_pos q2] at c; cases c
      · rw [if_neg q2] at c
        by_cases q3:expS p w u = 0 ∧ frcS p u = 0
        · exact q3
        · rw [if_neg q3] at c
          by_cases q4:expS p w u = 0
          · rw [if_pos q4] at c; cases c
          · rw [if_neg q4] at c; cases c
  unfold sizeS
  rw [hu,show p + w - 1 = (p - 1) + w by omega,Nat.pow_add,Nat.mod_mul]
  rw [show u % 2 ^ (p - 1) = 0 from hz.2,show u / 2 ^ (p - 1) % 2 ^ w = 0 from hz.1,Nat.mul_zero]
theorem rCompare_eq {a b:Int} (ha:I64 a) (hb:I64 b) (ka:bitsOk p w a) (kb:bitsOk p w b):Ref1.Compare kind a b = some (cmpS p w a b (numS p w a) (numS p w b),0):=by
  have sa:=size_lt h.ok a
  have sb:=size_lt h.ok b
  have hx:=numS_z h.ok a
  have hy:=numS_z h.ok b
  unfold Ref1.Compare
  rw [asked_ok h (by decide) ha hb ka kb,bindS,taken_eq h ka,taken_eq h kb]
  simp only [letkE,Bool.not_true,cnF,bindS]
  rw [show (takS (numS p w a)).what = classN (numS p w a).class_ from rfl,show (takS (numS p w b)).what = classN (numS p w b).class_ from rfl,what_none hx.cls,what_none hy.cls]
  unfold cmpS
  by_cases cx:(numS p w a).class_ = 3
  · rw [decide_eq_true cx,cnT,if_pos (.inl cx)]
  · rw [decide_eq_false cx,cnF]
    by_cases cy:(numS p w b).class_ = 3
    · rw [decide_eq_true cy,cnT,if_pos (.inr cy)]
    · rw [decide_eq_false cy,cnF,if_neg (by rintro (q | q); exact cx q; exact cy q)]
      unfold Ref1.Compare.j0
      rw [rsize_eq h,bindS,rsize_eq h,bindS]
      simp only [letkE]
      have e1:(takS (numS p w a)).sign = sgnS p w (a % 18446744073709551616).toNat:=by unfold takS; simp only; rw [if_neg cx,numS_sign]
      have e2:(takS (numS p w b)).sign = sgnS p w (b % 18446744073709551616).toNat:=by unfold takS; simp only; rw [if_neg cy,numS_sign]
      have j2:Ref1.Compare.j2 (placeS p w a) (placeS p w b) = some (if (numS p w a).class_ = 0 ∧ (numS p w b).class_ = 0 then 0 else if placeS p w a < placeS p w b then -1 else if placeS p w b < placeS p w a then 1 else 0,0):=by
        unfold Ref1.Compare.j2
        simp only [letkE]
        by_cases cz:(numS p w a).class_ = 0 ∧ (numS p w b).class_ = 0
        · rw [if_pos cz]
          have z1:=size_zero h cz.1
          have z2:=size_zero h cz.2
          have p1:placeS p w a = 0:=by unfold placeS; rw [z1]; split <;> rfl
          have p2:placeS p w b = 0:=by unfold placeS; rw [z2]; split <;> rfl
          rw [p1,p2]; rfl
        · rw [if_neg cz]
          by_cases c1:placeS p w a < placeS p w b
          · rw [decide_eq_true c1,cnT,if_pos c1]
          · rw [decide_eq_false c1,cnF,if_neg c1]
            by_cases c2:placeS p w b < placeS p w a
            · rw [decide_eq_true (show placeS p w a > placeS p w b from c2),cnT,if_pos c2]
            · rw [decide_eq_false (show ¬ placeS p w a > placeS p w b from c2),cnF,if_neg c2]
      have pa:∀ q:Nat,q = sgnS p w (a % 18446744073709551616).toNat → placeS p w a = if q = 1 then -(sizeS p w a:Int) else sizeS p w a:=by rintro q rfl; rfl
      have pb:∀ q:Nat,q = sgnS p w (b % 18446744073709551616).toNat → placeS p w b = if q = 1 then -(sizeS p w b:Int) else sizeS p w b:=by rintro q rfl; rfl
      have pa:=pa _ rfl
      have pb:=pb _ rfl
      rw [e1]
      unfold Ref1.Compare.j1
      simp only [letkE]
      rw [e2]
      generalize sgnS p w (a % 18446744073709551616).toNat = s at *
      generalize sgnS p w (b % 18446744073709551616).toNat = t at *
      rw [show ((s:Int) == 1) = decide (s = 1) from beq_nat _ 1,show ((t:Int) == 1) = decide (t = 1) from beq_nat _ 1,wi (x:=0 - (sizeS p w a:Int)) (by omega) (by omega),wi (x:=0 - (sizeS p w b:Int)) (by omega) (by omega),Int.zero_sub,Int.zero_sub]
      rw [pa,pb] at j2
      rw [pa,pb]
      by_cases q1:s = 1 <;> by_cases q2:t = 1
      · simp only [decide_eq_true q1,decide_eq_true q2,cnT,if_pos q1,if_pos q2] at j2 ⊢; exact j2
      · simp only [decide_eq_true q1,decide_eq_false q2,cnT,cnF,if_pos q1,if_neg q2] at j2 ⊢; exact j2
      · simp only [decide_eq_false q1,decide_eq_true q2,cnT,cnF,if_neg q1,if_pos q2] at j2 ⊢; exact j2
      · simp only [decide_eq_false q1,decide_eq_false q2,cnF,if_neg q1,if_neg q2] at j2 ⊢; exact j2
end
end Go.Q
