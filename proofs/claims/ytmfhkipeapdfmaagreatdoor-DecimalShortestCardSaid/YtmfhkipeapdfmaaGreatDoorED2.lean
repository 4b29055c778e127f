import Derived.Test.YtmfhkipeapdfmaaGreatDoorED1
import Derived.Test.YtmfhkipeapdfmaaGreatDoorDX
import Derived.Test.YtmfhkipeapdfmaaGreatDoorDFE
namespace Go.Q
open Go
set_option maxRecDepth 10000
def Ten (num den:Nat) (X:Int):Prop:=∀ n:Int,num * 10 ^ (-n).toNat < den * 10 ^ n.toNat ↔ X ≤ n
theorem ten_of {num den A L:Nat} {X:Int} (hd:0 < den) (h:A * 10 ^ (X - L).toNat * den = num * 10 ^ ((L:Int) - X).toNat) (h1:10 ^ (L - 1) ≤ A) (h2:A < 10 ^ L) (hL:0 < L):Ten num den X:=by
  intro n
  have hp:0 < 10 ^ ((L:Int) - X).toNat:=Nat.pow_pos (by decide)
  have e1:num * 10 ^ (-n).toNat * 10 ^ ((L:Int) - X).toNat = den * (A * 10 ^ ((X - L).toNat + (-n).toNat)):=by
    rw [Nat.mul_right_comm,← h,Nat.pow_add]
    simp only [Nat.mul_assoc,Nat.mul_comm,Nat.mul_left_comm]
  have e2:den * 10 ^ n.toNat * 10 ^ ((L:Int) - X).toNat = den * 10 ^ (n.toNat + ((L:Int) - X).toNat):=by rw [Nat.mul_assoc,← Nat.pow_add]
  have key:num * 10 ^ (-n).toNat < den * 10 ^ n.toNat ↔ A * 10 ^ ((X - L).toNat + (-n).toNat) < 10 ^ (n.toNat + ((L:Int) - X).toNat):=by
    rw [← Nat.mul_lt_mul_right hp,e1,e2,Nat.mul_lt_mul_left hd]
  rw [key]
  constructor
  · intro hh
    rcases Int.lt_or_le n X with h3 | h3
    · exfalso
      have h4:10 ^ (n.toNat + ((L:Int) - X).toNat) ≤ 10 ^ (L - 1 + ((X - L).toNat + (-n).toNat)):=Nat.pow_le_pow_right (by decide) (by omega)
      have h5:=Nat.mul_le_mul_right (10 ^ ((X - L).toNat + (-n).toNat)) h1
      rw [← Nat.pow_add] at h5
      omega
    · exact h3
  · intro hh
    have h5:=Nat.mul_lt_mul_of_pos_right h2 (show 0 < 10 ^ ((X - L).toNat + (-n).toNat) from Nat.pow_pos (by decide))
    rw [← Nat.pow_add] at h5
    exact Nat.lt_of_lt_of_le h5 (Nat.pow_le_pow_right (by decide) (by omega))
theorem below_eq {num den:Nat} {X sg n:Int} (h:Ten num den X) (h1:bl num ≤ 20000) (h2:bl den ≤ 20000) (hn:-3000 ≤ n ∧ n ≤ 3000):Ref2.fraction.below ⟨sg,Nt num,Nt den⟩ n = some (decide (X ≤ n)):=by
  have hl1:=ln_bl num
  have hl2:=ln_bl den
  have dec:∀ a b:Nat,decide (cmpI a b < 0) = decide (a < b):=fun a b=>by
    unfold cmpI
    by_cases c:a < b
    · rw [if_pos c,decide_eq_true c]; rfl
    · rw [if_neg c,decide_eq_false c]; split <;> rfl
  unfold Ref2.fraction.below
  by_cases c:n ≥ 0
  · have hp:=rpower_eq (n:=n.toNat) (by omega)
    rw [Int.toNat_of_nonneg c] at hp
    have hb:=bl_ten n.toNat
    have hm:=bl_mul den (10 ^ n.toNat)
    have hl3:=ln_bl (den * 10 ^ n.toNat)
    refine letT (decide_eq_true c) (bindE hp (bindE (tim (by omega) (by omega)) (bindE (ncomp_eq _ _ (by omega) (by omega)) (letV (y:=decide (X ≤ n)) ?_ rfl))))
    rw [dec]
    refine decide_eq_decide.2 ?_
    have:=h n
    rwa [show (-n).toNat = 0 by omega,Nat.pow_zero,Nat.mul_one] at this
  · have hp:=rpower_eq (n:=(-n).toNat) (by omega)
    rw [Int.toNat_of_nonneg (by omega)] at hp
    have hb:=bl_ten (-n).toNat
    have hm:=bl_mul num (10 ^ (-n).toNat)
    have hl3:=ln_bl (num * 10 ^ (-n).toNat)
    refine letF (decide_eq_false c) (letV (y:=-n) (by rw [wi (by omega) (by omega)]; omega) (bindE hp (bindE (tim (by omega) (by omega)) (bindE (ncomp_eq _ _ (by omega) (by omega)) (letV (y:=decide (X ≤ n)) ?_ rfl)))))
    rw [dec]
    refine decide_eq_decide.2 ?_
    have:=h n
    rwa [show n.toNat = 0 by omega,Nat.pow_zero,Nat.mul_one] at this
section
variable {num den:Nat} {X sg:Int} (h:Ten num den X) (h1:bl num ≤ 20000) (h2:bl den ≤ 20000) (hX:-500 ≤ X ∧ X ≤ 500)
include h h1 h2 hX
theorem size_l1:∀ m:Nat,m ≤ 1900 → Ref2.fraction.size.l1 sg (Nt num) (Nt den) (X + m) = some X:=by
  intro m
  induction m with
  | zero =>
    intro _
    unfold Ref2.fraction.size.l1
    refine loopO_end ?_
    show Ref2.fraction.size.s1 sg (Nt num) (Nt den) (X + (0:Nat)) = _
    rw [show X + ((0:Nat):Int) = X by omega]
    unfold Ref2.fraction.size.s1
    refine letV (y:=X - 1) (wi (by omega) (by omega)) (bindE (below_eq h h1 h2 (by omega)) ?_)
    rw [decide_eq_false (by omega)]; rfl
  | succ m ih =>
    intro hm
    unfold Ref2.fraction.size.l1
    refine loopO_next (t:=(sg,Nt num,Nt den,X + m)) ?_ (ih (by omega))
    show Ref2.fraction.size.s1 sg (Nt num) (Nt den) (X + ((m + 1:Nat):Int)) = _
    unfold Ref2.fraction.size.s1
    have e:X + ((m + 1:Nat):Int) - 1 = X + m:=by omega
    refine letV (y:=X + m) (by rw [wi (by omega) (by omega),e]) (bindE (below_eq h h1 h2 (by omega)) ?_)
    rw [decide_eq_true (by omega)]
    exact condT rfl (letV (y:=X + m) (by rw [wi (by omega) (by omega),e]) rfl)
theorem size_l0:∀ (m:Nat) (n:Int),m ≤ 1900 → -800 ≤ n ∧ n ≤ 800 → (n + m = X ∨ X ≤ n ∧ m = 0) → Ref2.fraction.size.l0 sg (Nt num) (Nt den) n = some X:=by
  intro m
  induction m with
  | zero =>
    intro n _ hn hh
    have hle:X ≤ n:=by omega
    unfold Ref2.fraction.size.l0
    refine loopO_end ?_
    show Ref2.fraction.size.s0 sg (Nt num) (Nt den) n = _
    unfold Ref2.fraction.size.s0
    refine bindE (below_eq h h1 h2 (by omega)) ?_
    rw [decide_eq_true hle]
    refine letF rfl ?_
    have:=size_l1 h h1 h2 hX (sg:=sg) (n - X).toNat (by omega)
    rw [show X + ((n - X).toNat:Int) = n by omega] at this
    rw [this]; rfl
  | succ m ih =>
    intro n hm hn hh
    have hlt:n < X:=by omega
    unfold Ref2.fraction.size.l0
    refine loopO_next (t:=(sg,Nt num,Nt den,n + 1)) ?_ ?_
    · show Ref2.fraction.size.s0 sg (Nt num) (Nt den) n = _
      unfold Ref2.fraction.size.s0
      refine bindE (below_eq h h1 h2 (by omega)) ?_
      rw [decide_eq_false (by omega)]
      exact letT rfl (letV (wi (by omega) (by omega)) rfl)
    · exact ih (n + 1) (by omega) (by omega) (by omega)
theorem size_eq (hb:-1300 ≤ (bl num:Int) - bl den ∧ (bl num:Int) - bl den ≤ 1300):Ref2.fraction.size ⟨sg,Nt num,Nt den⟩ = some X:=by
  have hl1:=ln_bl num
  have hl2:=ln_bl den
  obtain ⟨z,hz,hz2⟩:∃ z:Int,(((bl num:Int) - bl den) * 30103).tdiv 100000 = z ∧ -500 ≤ z ∧ z ≤ 500:=by
    refine ⟨_,rfl,?_⟩
    generalize (bl num:Int) - bl den = y at hb
    rcases Int.lt_or_le y 0 with h3 | h3
    · have e:(y * 30103).tdiv 100000 = -((-y * 30103).tdiv 100000):=by rw [show -y * 30103 = -(y * 30103) by omega,Int.neg_tdiv]; omega
      rw [e,Int.tdiv_eq_ediv_of_nonneg (by omega)]; omega
    · rw [Int.tdiv_eq_ediv_of_nonneg (by omega)]; omega
  unfold Ref2.fraction.size
  refine bindE (bits_eq (v:=num) (by omega)) (bindE (bits_eq (v:=den) (by omega)) (letV (wi (by omega) (by omega)) (letV (wi (by omega) (by omega)) (chkE (by decide) (letV (y:=z) ?_ (letV (y:=z - 1) (wi (by omega) (by omega)) ?_))))))
  · rw [hz,wi (by omega) (by omega)]
  · rcases Int.lt_or_le (z - 1) X with h3 | h3
    · exact size_l0 h h1 h2 hX (X - (z - 1)).toNat (z - 1) (by omega) (by omega) (by omega)
    · exact size_l0 h h1 h2 hX 0 (z - 1) (by omega) (by omega) (by omega)
end
theorem rscaled {num den:Nat} (hd:0 < den) (h1:bl num ≤ 10000) (h2:bl den ≤ 10000) {mode sg:Int} (hm:0 ≤ mode ∧ mode < 4) {j:Int} (hj:-2000 ≤ j ∧ j ≤ 2000) {Q r d:Nat} (hQ:Q = num * 10 ^ j.toNat / (den * 10 ^ (-j).toNat)) (hr:r = num * 10 ^ j.toNat % (den * 10 ^ (-j).toNat)) (hdd:d = den * 10 ^ (-j).toNat) :
    Ref2.fraction.scaled ⟨sg,Nt num,Nt den⟩ mode j = some (Nt (if awayS mode sg (decide (Q % 2 = 1)) (rsC r d) = true then Q + 1 else Q)) ∧ bl Q ≤ 18001 ∧ bl (Q + 1) ≤ 18002:=by
  have t1:=bl_ten j.toNat
  have t2:=bl_ten (-j).toNat
  have m1:=bl_mul num (10 ^ j.toNat)
  have m2:=bl_mul den (10 ^ (-j).toNat)
  have d0:0 < den * 10 ^ (-j).toNat:=Nat.mul_pos hd (Nat.pow_pos (by decide))
  have hbd:bl d ≤ 30000:=by rw [hdd]; omega
  have hbr:bl r ≤ 30000:=by rw [hr]; exact Nat.le_trans (bl_mono (Nat.le_of_lt (Nat.mod_lt _ d0))) (by omega)
  have hbQ:bl Q ≤ 18001:=by rw [hQ]; exact Nat.le_trans (bl_mono (Nat.div_le_self _ _)) (by omega)
  have hbQ1:bl (Q + 1) ≤ 18002:=by
    have:bl (Q + 1) ≤ bl Q + 1:=bl_le_iff.2 (by have:=bl_lt Q; have:=Nat.two_pow_pos (bl Q); rw [Nat.pow_succ]; omega)
    omega
  refine ⟨?_,hbQ,hbQ1⟩
  have l1:=ln_bl (num * 10 ^ j.toNat)
  have l2:=ln_bl (den * 10 ^ (-j).toNat)
  have l3:=ln_bl Q
  have hj0:Ref2.fraction.scaled.j0 mode sg (Nt num) (Nt den) (Nt (num * 10 ^ j.toNat)) (Nt (den * 10 ^ (-j).toNat)) = some (Nt (if awayS mode sg (decide (Q % 2 = 1)) (rsC r d) = true then Q + 1 else Q)):=by
    unfold Ref2.fraction.scaled.j0
    refine bindE (divide_eq d0 (by omega) (by omega)) ?_
    rw [← hQ,← hr,← hdd]
    have hplus:Ref2.plus (Nt Q) 1 = some (Nt (Q + 1)):=plus_eq (b:=1) (by decide) (by omega)
    have hfin:∀ odd,odd = decide (Q % 2 = 1) → (Option.bind (Ref2.away mode sg odd (Nt r) (Nt d)) fun t47=>bif t47 then Option.bind (Ref2.plus (Nt Q) 1) fun t49=>some t49 else some (Nt Q)) = some (Nt (if awayS mode sg (decide (Q % 2 = 1)) (rsC r d) = true then Q + 1 else Q)):=by
      intro odd ho
      refine bindE (rAway_eq hm (by omega) (by omega)) ?_
      rw [ho]
      cases awayS mode sg (decide (Q % 2 = 1)) (rsC r d) with
      | true=>exact condT rfl (bindE hplus rfl)
      | false=>exact condF rfl rfl
    rcases Nat.eq_zero_or_pos Q with h0 | h0
    · refine letV (y:=0) (by rw [h0,show Nt 0 = [] from dgB_zero _]; rfl) (letF rfl (hfin false ?_))
      rw [h0]; rfl
    · have hl:=lnB_gt h32 h0
      have g:(Nt Q)[0]? = some ((bdB 4294967296 Q 0:Nat):Int):=dgB_get hl
      have hb0:bdB 4294967296 Q 0 = Q % 4294967296:=by unfold bdB; rw [Nat.pow_zero,Nat.div_one]
      refine letV (y:=((lnB 4294967296 Q:Nat):Int)) (by rw [Nt_len]) (letT (decide_eq_true (by omega)) (chkE (by decide) (bindE g (chkE (by decide) (letV rfl (letV rfl (hfin _ ?_)))))))
      rw [hb0,Int.tmod_eq_emod_of_nonneg (by omega)]
      by_cases c:Q % 2 = 1
      · rw [decide_eq_true c]; exact beq_iff_eq.2 (by omega)
      · rw [decide_eq_false c]; exact beq_false_of_ne (by omega)
  unfold Ref2.fraction.scaled
  by_cases c:j ≥ 0
  · have hp:=rpower_eq (n:=j.toNat) (by omega)
    rw [Int.toNat_of_nonneg c] at hp
    have e:Nt den = Nt (den * 10 ^ (-j).toNat):=by rw [show (-j).toNat = 0 by omega,Nat.pow_zero,Nat.mul_one]
    refine letT (decide_eq_true c) (bindE hp (bindE (tim (by omega) (by omega)) ?_))
    show Ref2.fraction.scaled.j0 mode sg (Nt num) (Nt den) (Nt (num * 10 ^ j.toNat)) (Nt den) = _
    rw [← hj0,← e]
  · have hp:=rpower_eq (n:=(-j).toNat) (by omega)
    rw [Int.toNat_of_nonneg (by omega)] at hp
    have e:Nt num = Nt (num * 10 ^ j.toNat):=by rw [show j.toNat = 0 by omega,Nat.pow_zero,Nat.mul_one]
    refine letF (decide_eq_false c) (letV (y:=-j) (by rw [wi (by omega) (by omega)]; omega) (bindE hp (bindE (tim (by omega) (by omega)) ?_)))
    show Ref2.fraction.scaled.j0 mode sg (Nt num) (Nt den) (Nt num) (Nt (den * 10 ^ (-j).toNat)) = _
    rw [← hj0,← e]
theorem own_eq {p w:Nat} {a:Int} {D:BS} {X:Int} (h:Own p w a D X):vd D * 10 ^ (X - D.length).toNat * 2 ^ (-(numS p w a).e).toNat = (numS p w a).m.toNat * 2 ^ (numS p w a).e.toNat * 10 ^ ((D.length:Int) - X).toNat:=h.fr
theorem own_ten {p w:Nat} {a:Int} {D:BS} {X:Int} (h:Own p w a D X):Ten ((numS p w a).m.toNat * 2 ^ (numS p w a).e.toNat) (2 ^ (-(numS p w a).e).toNat) X:=by
  obtain ⟨h1,h2⟩:=own_low2 h
  exact ten_of (Nat.two_pow_pos _) (own_eq h) h1 (vd_lt D h.all) h2
theorem own_is {p w:Nat} {a:Int} {D:BS} {X:Int} (h:Own p w a D X):Is10 ((numS p w a).m.toNat * 2 ^ (numS p w a).e.toNat) (2 ^ (-(numS p w a).e).toNat) (vd D) (X - D.length):=by
  unfold Is10
  rw [show (-(X - (D.length:Int))).toNat = ((D.length:Int) - X).toNat by omega,← own_eq h]
  simp only [Nat.mul_assoc,Nat.mul_comm,Nat.mul_left_comm]
theorem own_bits {p w:Nat} (h:OkS p w) {a:Int} (hc:(numS p w a).class_ = 1):0 < (numS p w a).m.toNat * 2 ^ (numS p w a).e.toNat ∧ bl ((numS p w a).m.toNat * 2 ^ (numS p w a).e.toNat) ≤ 1100 ∧ bl (2 ^ (-(numS p w a).e).toNat) ≤ 1100:=by
  obtain ⟨M,eM,m0,m1,hp,e0,e1⟩:=num_lim h hc
  rw [eM,show ((M:Int)).toNat = M from rfl]
  have hM:bl M ≤ p:=bl_le_iff.2 m1
  have h1:bl (M * 2 ^ (numS p w a).e.toNat) = bl M + (numS p w a).e.toNat:=bl_shift m0
  have h2:bl (1 * 2 ^ (-(numS p w a).e).toNat) = bl 1 + (-(numS p w a).e).toNat:=bl_shift (by decide)
  rw [Nat.one_mul,show bl 1 = 1 by decide] at h2
  exact ⟨Nat.mul_pos m0 (Nat.two_pow_pos _),by omega,by omega⟩
theorem away_same {D:BS} (ha:D.all dgQ = true) (hl:∀ c r,D = r ++ [c] → c ≠ 48) {n r d:Nat} {mode sg:Int} (hm:0 ≤ mode ∧ mode < 4) (hs:sg = 0 ∨ sg = 1) (hd:0 < d) (hrd:r * 10 ^ (D.drop n).length = vd (D.drop n) * d) :
    awayS mode sg (decide (vd (topD D n) % 2 = 1)) (rsC r d) = awD mode sg D n:=by
  obtain ⟨f1,f2,f3⟩:=frac_half (b:=d) (d:=10 ^ (D.drop n).length) hd (Nat.pow_pos (by decide)) hrd
  unfold awD
  by_cases c:D.length ≤ n
  · rw [if_pos c]
    have:vd (D.drop n) = 0:=by rw [List.drop_of_length_le c]; rfl
    rw [rs_zero.2 (f3.2 this),aw0]
  · rw [if_neg c]
    have hne:D.drop n ≠ []:=by rw [Ne,List.drop_eq_nil_iff]; omega
    have hpos:0 < vd (D.drop n):=vd_last (all_drop n ha) hne (fun c' q hq=>hl c' (D.take n ++ q) (by rw [List.append_assoc,← hq,List.take_append_drop]))
    have hr0:r ≠ 0:=fun h=>by have:=f3.1 h; omega
    have ht:topD D n = D.take n:=by unfold topD; rw [show n - D.length = 0 by omega,List.replicate_zero,List.append_nil]
    rw [ht]
    have hp0:decide (0 < rsC r d) = true:=decide_eq_true (Nat.pos_of_ne_zero fun h=>hr0 (rs_zero.1 h))
    obtain rfl | rfl | rfl | rfl:mode = 0 ∨ mode = 1 ∨ mode = 2 ∨ mode = 3:=by omega
    · unfold awayS
      rw [if_pos rfl,if_pos rfl]
      have q1:decide (rsC r d = 3) = decide (10 ^ (D.drop n).length < 2 * vd (D.drop n)):=by
        refine decide_eq_decide.2 ?_
        rw [← f1]
        unfold rsC
        rw [if_neg hr0]
        split
        · omega
        · split <;> omega
      have q2:decide (rsC r d = 2) = decide (10 ^ (D.drop n).length = 2 * vd (D.drop n)):=by
        refine decide_eq_decide.2 ?_
        rw [← f2]
        unfold rsC
        rw [if_neg hr0]
        split
        · omega
        · split <;> omega
      rw [q1,q2]
    · rfl
    · unfold awayS
      rw [if_neg (by decide),if_pos rfl,hp0,Bool.true_and]; rfl
    · unfold awayS
      rw [if_neg (by decide),if_neg (by decide),if_pos rfl,hp0,Bool.true_and]; rfl
theorem own_sgn {p w:Nat} (h:OkS p w) {a:Int} (hc:(numS p w a).class_ = 1):(numS p w a).sign = 0 ∨ (numS p w a).sign = 1:=by
  have:=(num_parts h hc).2.2
  have h2:sgnS p w (uS a) < 2:=Nat.mod_lt _ (by decide)
  omega
theorem ds_rdD {D:BS} (ha:D.all dgQ = true) (hh:∀ c r,D = c :: r → c ≠ 48) (hne:D ≠ []) {n:Nat} (hn:1 ≤ n) (more:Bool):ds (RA D n more) = rdD D n more:=by
  have hd:=topD_dig ha n
  have hhead:(topD D n).head? ≠ some 48:=by
    cases hD:D with
    | nil=>exact absurd hD hne
    | cons c r =>
      obtain ⟨m,rfl⟩:∃ m,n = m + 1:=⟨n - 1,by omega⟩
      have ht:topD (c :: r) (m + 1) = c :: topD r m:=by unfold topD; simp
      rw [ht]
      intro e
      exact hh c r hD (Option.some.inj e)
  unfold RA rdD
  cases more with
  | true=>rw [if_pos rfl,if_pos rfl,incD_self hd hhead]
  | false=>rw [if_neg (by decide),if_neg (by decide),Nat.add_zero,ds_self hd hhead]
theorem isBits_eq {kind:Int} {p w:Nat} (h:kindS kind p w) {a:Int} (hi:I64 a):∃ b,Ref2.isBits kind a = some b ∧ (b = true ↔ bitsOk p w a):=by
  unfold I64 at hi
  unfold bitsOk
  rcases h with ⟨rfl,rfl,rfl⟩ | ⟨rfl,rfl,rfl⟩ | ⟨rfl,rfl,rfl⟩
  · unfold Ref2.isBits
    by_cases c:a ≥ 0
    · by_cases c2:a < 65536
      · exact ⟨true,letF rfl (letF rfl (letT rfl (letT (decide_eq_true c) (letV (decide_eq_true c2) rfl)))),fun _=>(by rintro ⟨_,h2⟩; rw [show (2:Nat) ^ (11 + 5) = 65536 by decide] at h2; omega),fun _=>rfl⟩
      · exact ⟨false,letF rfl (letF rfl (letT rfl (letT (decide_eq_true c) (letV (decide_eq_false c2) rfl)))),fun h=>(by cases h),fun h=>absurd ⟨by decide,by rw [show (2:Nat) ^ (11 + 5) = 65536 by decide]; omega⟩ h⟩
    · exact ⟨false,letF rfl (letF rfl (letT rfl (letF (decide_eq_false c) rfl))),fun h=>(by cases h),fun h=>absurd ⟨by decide,by rw [show (2:Nat) ^ (11 + 5) = 65536 by decide]; omega⟩ h⟩
  · unfold Ref2.isBits
    by_cases c:a ≥ 0
    · by_cases c2:a < 4294967296
      · exact ⟨true,letF rfl (letT rfl (letT (decide_eq_true c) (letT (decide_eq_true c2) rfl))),fun _=>(by rintro ⟨_,h2⟩; rw [show (2:Nat) ^ (24 + 8) = 4294967296 by decide] at h2; omega),fun _=>rfl⟩
      · exact ⟨false,letF rfl (letT rfl (letT (decide_eq_true c) (letF (decide_eq_false c2) (letF rfl rfl)))),fun h=>(by cases h),fun h=>absurd ⟨by decide,by rw [show (2:Nat) ^ (24 + 8) = 4294967296 by decide]; omega⟩ h⟩
    · exact ⟨false,letF rfl (letT rfl (letF (decide_eq_false c) (letF rfl rfl))),fun h=>(by cases h),fun h=>absurd ⟨by decide,by rw [show (2:Nat) ^ (24 + 8) = 4294967296 by decide]; omega⟩ h⟩
  · exact ⟨true,rfl,fun _=>(by rintro ⟨h1,_⟩; exact absurd h1 (by decide)),fun _=>rfl⟩
theorem asked_in {kind mode:Int} {p w:Nat} (h:kindS kind p w) (hm:0 ≤ mode ∧ mode < 4) {a:Int} (hi:I64 a) (hb:bitsOk p w a) (hc:(numS p w a).class_ = 1) :
    Ref2.asked kind mode a = some (fm p w,⟨(numS p w a).sign,Nt ((numS p w a).m.toNat * 2 ^ (numS p w a).e.toNat),Nt (2 ^ (-(numS p w a).e).toNat)⟩,true):=by
  obtain ⟨b,e1,e2⟩:=isBits_eq h hi
  rw [e2.2 hb] at e1
  unfold Ref2.asked
  refine bindE (FormOf_eq h) (letF rfl (letF (decide_eq_false (by omega)) (letF (decide_eq_false (by omega)) (bindE e1 (letV rfl ?_)))))
  exact bindE ((fOf h.ok hb).1 hc) rfl
theorem asked_out {kind mode a:Int} (hi:I64 a) (hno:∀ p w,kindS kind p w → 0 ≤ mode ∧ mode < 4 → bitsOk p w a → (numS p w a).class_ ≠ 1):∃ f x,Ref2.asked kind mode a = some (f,x,false):=by
  rcases kind_any kind with ⟨p,w,h⟩ | h
  · unfold Ref2.asked
    by_cases c1:mode < 0
    · exact ⟨_,_,bindE (FormOf_eq h) (letF rfl (letT (decide_eq_true c1) rfl))⟩
    · by_cases c2:mode > 3
      · exact ⟨_,_,bindE (FormOf_eq h) (letF rfl (letF (decide_eq_false c1) (letT (decide_eq_true c2) rfl)))⟩
      · obtain ⟨b,e1,e2⟩:=isBits_eq h hi
        cases b with
        | false=>exact ⟨_,_,bindE (FormOf_eq h) (letF rfl (letF (decide_eq_false c1) (letF (decide_eq_false c2) (bindE e1 (letV rfl rfl)))))⟩
        | true =>
          obtain ⟨q,hq⟩:=(fOf h.ok (e2.1 rfl)).2 (hno p w h (by omega) (e2.1 rfl))
          exact ⟨_,_,bindE (FormOf_eq h) (letF rfl (letF (decide_eq_false c1) (letF (decide_eq_false c2) (bindE e1 (letV rfl (bindE hq rfl))))))⟩
  · exact ⟨_,_,bindE (FormOf_no h) (letT rfl rfl)⟩
end Go.Q
