import Derived.Test.YtmfhkipeapdfmaaGreatDoorED2
namespace Go.Q
open Go
set_option maxRecDepth 10000
def spT (x:float.number):ByteArray × Bool:=if x.class_ = 3 then (B nanB,true) else if x.class_ = 2 then (B (if x.sign = 1 then 45 :: infB else infB),true) else (⟨#[]⟩,false)
theorem num_cases {p w:Nat} {a:Int} :
    (expS p w (uS a) = 2 ^ w - 1 ∧ frcS p (uS a) = 0 ∧ (numS p w a).class_ = 2) ∨ (expS p w (uS a) = 2 ^ w - 1 ∧ frcS p (uS a) ≠ 0 ∧ (numS p w a).class_ = 3) ∨ (expS p w (uS a) ≠ 2 ^ w - 1 ∧ ((numS p w a).class_ = 0 ∨ (numS p w a).class_ = 1)):=by
  have hn:numS p w a = readS p w (uS a):=rfl
  rw [hn]
  unfold readS
  by_cases c1:expS p w (uS a) = 2 ^ w - 1
  · by_cases c2:frcS p (uS a) = 0
    · rw [if_pos ⟨c1,c2⟩]; exact .inl ⟨c1,c2,rfl⟩
    · rw [if_neg (fun h=>c2 h.2),if_pos c1]; exact .inr (.inl ⟨c1,c2,rfl⟩)
  · rw [if_neg (fun h=>c1 h.1),if_neg c1]
    refine .inr (.inr ⟨c1,?_⟩)
    split
    · exact .inl rfl
    · split <;> exact .inr rfl
theorem numS_sgn (p w:Nat) (a:Int):(numS p w a).sign = sgnS p w (uS a):=by
  have hn:numS p w a = readS p w (uS a):=rfl
  rw [hn]
  unfold readS
  repeat' split
  all_goals rfl
theorem sgn_lt (p w:Nat) (a:Int):sgnS p w (uS a) < 2:=Nat.mod_lt _ (by decide)
theorem rSpecial {p w:Nat} (h:OkS p w) {a:Int} (hb:bitsOk p w a):Ref2.Form.special (fm p w) a = some (spT (numS p w a)):=by
  have hexp:expS p w (uS a) < 2 ^ w:=Nat.mod_lt _ (Nat.two_pow_pos _)
  have hs:=numS_sgn p w a
  have hs2:=sgn_lt p w a
  unfold Ref2.Form.special spT
  rcases num_cases (p:=p) (w:=w) (a:=a) with ⟨c1,c2,c3⟩ | ⟨c1,c2,c3⟩ | ⟨c1,c3⟩
  · rw [if_neg (by rw [c3]; decide),if_pos c3]
    refine bindE (fParts h hb) (bindE (fTop h) (letF (decide_eq_false (by rw [c1]; omega)) (letF (by rw [c2]; rfl) ?_)))
    rcases Nat.eq_zero_or_pos (sgnS p w (uS a)) with q | q
    · rw [hs,q]; exact letF rfl rfl
    · rw [hs,show sgnS p w (uS a) = 1 by omega]; exact letT rfl rfl
  · rw [if_pos c3]
    exact bindE (fParts h hb) (bindE (fTop h) (letF (decide_eq_false (by rw [c1]; omega)) (letT (bne_iff_ne.2 (by omega)) rfl)))
  · rw [if_neg (by omega),if_neg (by omega)]
    exact bindE (fParts h hb) (bindE (fTop h) (letT (decide_eq_true (by omega)) rfl))
theorem rMinus {p w:Nat} (h:OkS p w) {a:Int} (hb:bitsOk p w a):Ref2.Form.minus (fm p w) a = some (B (minD (numS p w a).sign)):=by
  have hs2:=sgn_lt p w a
  rw [numS_sgn]
  unfold Ref2.Form.minus
  refine bindE (fParts h hb) ?_
  rcases Nat.eq_zero_or_pos (sgnS p w (uS a)) with q | q
  · rw [q]; exact letF rfl rfl
  · rw [show sgnS p w (uS a) = 1 by omega]; exact letT rfl rfl
theorem class_no {kind:Int} {p w:Nat} (h:kindS kind p w) {a:Int} (hb:bitsOk p w a):((numS p w a).class_ = 0 → Flt.Class kind a = some (B [122,101,114,111])) ∧ ((numS p w a).class_ = 3 → Flt.Class kind a = some (B bNone)):=by
  refine ⟨fun hc=>?_,fun hc=>?_⟩
  · unfold Flt.Class
    exact bindE (two_eq h (by decide) hb hb) (letF rfl (letT (by rw [hc]; rfl) rfl))
  · unfold Flt.Class
    exact bindE (two_eq h (by decide) hb hb) (letF rfl (letF (by rw [hc]; rfl) (letF (by rw [hc]; rfl) (letT (by rw [hc]; rfl) rfl))))
theorem dSpecial {kind:Int} {p w:Nat} (h:kindS kind p w) {a:Int} (hi:I64 a) (hb:bitsOk p w a):Dec.special kind a = some (spT (numS p w a)):=by
  rcases num_cases (p:=p) (w:=w) (a:=a) with ⟨c1,c2,c3⟩ | ⟨c1,c2,c3⟩ | ⟨c1,c3 | c3⟩
  · have hpk:=pack_self h.ok hi hb
    have hs:=numS_sgn p w a
    have hs2:=sgn_lt p w a
    rw [c1,c2] at hpk
    unfold spT
    rw [if_neg (by rw [c3]; decide),if_pos c3,hs,← hpk]
    clear hpk hs c1 c2 c3 hb
    generalize sgnS p w (uS a) = s at *
    obtain rfl | rfl:s = 0 ∨ s = 1:=by omega
    · rcases h with ⟨rfl,rfl,rfl⟩ | ⟨rfl,rfl,rfl⟩ | ⟨rfl,rfl,rfl⟩ <;> exact (Dec.special.c_le _ _).of (by kernel_rfl)
    · rcases h with ⟨rfl,rfl,rfl⟩ | ⟨rfl,rfl,rfl⟩ | ⟨rfl,rfl,rfl⟩ <;> exact (Dec.special.c_le _ _).of (by kernel_rfl)
  · unfold Dec.special spT
    rw [if_pos c3]
    exact bindE ((class_no h hb).2 c3) (letT (bq bNone bNone rfl) rfl)
  · unfold Dec.special spT
    rw [if_neg (by rw [c3]; decide),if_neg (by rw [c3]; decide)]
    exact bindE ((class_no h hb).1 c3) (letF (bq _ bNone rfl) (letF (bq _ bInf rfl) rfl))
  · unfold spT
    rw [if_neg (by rw [c3]; decide),if_neg (by rw [c3]; decide)]
    exact special_eq h hb c3
theorem parts_zero {kind:Int} {p w:Nat} (h:kindS kind p w) {a:Int} (hb:bitsOk p w a) (hc:(numS p w a).class_ = 0):Dec.parts kind a = some ((numS p w a).sign,B [],0):=by
  have hf:Dec.isFinite kind a = some false:=by
    unfold Dec.isFinite
    exact bindE ((class_no h hb).1 hc) (letF (bq _ bLeast rfl) (letV (bq _ bNormal rfl) rfl))
  have hp:Flt.Parts kind a = some ((numS p w a).sign,0,0,0):=by
    unfold Flt.Parts
    refine bindE (two_eq h (by decide) hb hb) (letF rfl (letF (by rw [hc]; rfl) (letV (y:=false) (by rw [hc]; rfl) ?_)))
    unfold Flt.Parts.j1
    exact condF rfl (letT (by rw [hc]; rfl) rfl)
  unfold Dec.parts
  exact bindE hf (condF rfl (bindE hp rfl))
def padL (k:Nat) (s:BS):BS:=List.replicate (k - s.length) 48 ++ s
theorem padL_step {k:Nat} {s:BS} (h:s.length < k):padL k (48 :: s) = padL k s:=by
  unfold padL
  obtain ⟨m,hm⟩:∃ m,k - s.length = m + 1:=⟨k - s.length - 1,by omega⟩
  rw [hm,List.length_cons,show k - (s.length + 1) = m by omega,List.replicate_succ',List.append_assoc]; rfl
theorem padL_len (k:Nat) (s:BS):(padL k s).length = max k s.length:=by unfold padL; rw [List.length_append,List.length_replicate]; omega
theorem padL_id {k:Nat} {s:BS} (h:k ≤ s.length):padL k s = s:=by unfold padL; rw [show k - s.length = 0 by omega]; rfl
theorem pointed_eq {d:Nat} (hd:d ≤ 1000):∀ (m:Nat) (s:BS),d + 1 - s.length = m → s.length ≤ 100000 → Ref2.pointed.l0 (d:Int) (B s) = some (B ((padL (d + 1) s).take ((padL (d + 1) s).length - d) ++ [46] ++ (padL (d + 1) s).drop ((padL (d + 1) s).length - d))):=by
  intro m
  induction m with
  | zero =>
    intro s hm hl
    have hsz:(B s).size = s.length:=B_size s
    have s1:∀ l:BS,(B l).size = l.length:=B_size
    rw [padL_id (by omega)]
    unfold Ref2.pointed.l0
    refine loopO_end ?_
    show Ref2.pointed.s0 (d:Int) (B s) = _
    unfold Ref2.pointed.s0
    refine letV (y:=(s.length:Int)) (by rw [hsz]) (letF (decide_eq_false (by omega)) (congrArg (Option.map Sum.inr) (?_:_ = some (B (s.take (s.length - d) ++ [46] ++ s.drop (s.length - d))))))
    refine letV (y:=(s.length:Int)) (by rw [hsz]) (letV (y:=((s.length - d:Nat):Int)) (by rw [wi (by omega) (by omega)]; omega) (chkE ⟨Int.natCast_nonneg _,by omega⟩ (letV (take_B s _) (chkE ?_ (letV (B_app _ [46]) (letV (y:=(s.length:Int)) (by rw [hsz]) (letV (y:=((s.length - d:Nat):Int)) (by rw [wi (by omega) (by omega)]; omega) (chkE ⟨Int.natCast_nonneg _,by omega⟩ (letV (drop_B s _) (chkE ?_ (letV (B_app _ _) rfl)))))))))))
    · rw [s1,List.length_take,show (⟨#[46]⟩:ByteArray).size = 1 from rfl]; omega
    · rw [s1,s1,List.length_append,List.length_take,List.length_drop]; simp; omega
  | succ m ih =>
    intro s hm hl
    have hsz:(B s).size = s.length:=B_size s
    unfold Ref2.pointed.l0
    refine loopO_next (t:=B (48 :: s)) ?_ ?_
    · show Ref2.pointed.s0 (d:Int) (B s) = _
      unfold Ref2.pointed.s0
      refine letV (y:=(s.length:Int)) (by rw [hsz]) (letT (decide_eq_true (by omega)) (chkE ?_ (letV (B_app [48] s) rfl)))
      rw [hsz,show (⟨#[48]⟩:ByteArray).size = 1 from rfl]; omega
    · have:=ih (48 :: s) (by rw [List.length_cons]; omega) (by rw [List.length_cons]; omega)
      rw [padL_step (by omega)] at this
      exact this
theorem itoa_dig {n:Nat} (h:n < 10):Lib.itoa (n:Int) = [dc n]:=by
  rcases Nat.eq_zero_or_pos n with rfl | h0
  · rw [show (((0:Nat):Int)) = 0 from rfl,itoa_zero]; rfl
  · rw [itoa_ds h0,ds_pos h0,Nat.div_eq_of_lt h,ds_zero,Nat.mod_eq_of_lt h]; rfl
theorem itoa_split {n:Nat} (h:10 ≤ n):Lib.itoa (n:Int) = Lib.itoa ((n / 10:Nat):Int) ++ Lib.itoa ((n % 10:Nat):Int):=by
  rw [itoa_ds (by omega),ds_pos (by omega),itoa_ds (n:=n / 10) (by omega),itoa_dig (Nat.mod_lt n (by decide))]
theorem whole_F (K:Nat):∀ (m n:Nat),n < 10 ^ (m + 1) → m ≤ 15 → (Rec51.at_ (K + m + 1)).f51 (n:Int) = some (B (Lib.itoa (n:Int))):=by
  intro m
  induction m with
  | zero =>
    intro n hn _
    rw [Nat.pow_one] at hn
    have h10:(⟨#[48,49,50,51,52,53,54,55,56,57]⟩:ByteArray).size = 10:=rfl
    show Ref2.whole.F (Rec51.at_ (K + 0)) (n:Int) = _
    unfold Ref2.whole.F
    refine letF (decide_eq_false (by omega)) (letT (decide_eq_true (by omega)) (letV (iadd n 1 (by omega)) (chkE ⟨by omega,by omega,by rw [h10]; omega⟩ (letV (dig_str n hn) ?_))))
    rw [itoa_dig hn]
  | succ m ih =>
    intro n hn hm
    have hp:10 ^ (m + 1 + 1) ≤ 10 ^ 17:=Nat.pow_le_pow_right (by decide) (by omega)
    have e17:(10:Nat) ^ 17 = 100000000000000000:=by decide
    have h10:(⟨#[48,49,50,51,52,53,54,55,56,57]⟩:ByteArray).size = 10:=rfl
    show Ref2.whole.F (Rec51.at_ (K + m + 1)) (n:Int) = _
    unfold Ref2.whole.F
    refine letF (decide_eq_false (by omega)) ?_
    by_cases c:n < 10
    · refine letT (decide_eq_true (by omega)) (letV (iadd n 1 (by omega)) (chkE ⟨by omega,by omega,by rw [h10]; omega⟩ (letV (dig_str n c) ?_)))
      rw [itoa_dig c]
    · have h1:n / 10 < 10 ^ (m + 1):=by rw [Nat.div_lt_iff_lt_mul (by decide),← Nat.pow_succ]; exact hn
      have h2:n % 10 < 10 ^ (m + 1):=Nat.lt_of_lt_of_le (Nat.mod_lt n (by decide)) (by have:=Nat.pow_le_pow_right (n:=10) (by decide) (show 1 ≤ m + 1 by omega); omega)
      have r1:=ih (n / 10) h1 (by omega)
      have r2:=ih (n % 10) h2 (by omega)
      have l1:(Lib.itoa ((n / 10:Nat):Int)).length ≤ m + 1:=itoa_len h1 (by omega)
      have l2:(Lib.itoa ((n % 10:Nat):Int)).length ≤ m + 1:=itoa_len h2 (by omega)
      refine letF (decide_eq_false (by omega)) (chkE (by decide) (letV (y:=((n / 10:Nat):Int)) ?_ (bindE r1 (chkE (by decide) (letV (y:=((n % 10:Nat):Int)) ?_ (bindE r2 (chkE ?_ (letV (B_app _ _) ?_))))))))
      · rw [Int.tdiv_eq_ediv_of_nonneg (by omega),wi (by omega) (by omega)]; rfl
      · rw [Int.tmod_eq_emod_of_nonneg (by omega)]; rfl
      · rw [B_size,B_size]; omega
      · rw [itoa_split (n:=n) (by omega)]
theorem whole_nat {n:Nat} (h:n < 100000):Ref2.whole (n:Int) = some (B (Lib.itoa (n:Int))):=whole_F 99999995 4 n h (by decide)
theorem fixed_j0 {kind mode a sg:Int} {D T:BS} {X:Int} {d:Nat} {more:Bool} (hsg:sg = 0 ∨ sg = 1) (hsp:Dec.special kind a = some (⟨#[]⟩,false)) (hpt:Dec.parts kind a = some (sg,B D,X)) (hX:-100000 ≤ X ∧ X ≤ 100000) (hd:d ≤ 40)
    (haw:Dec.away mode sg (B D) (X + d) = some more) (hct:Dec.cut (B D) (X + d) more = some (B T)) (hT:T.length ≤ 10000):Dec.Fixed.j0 kind mode a d = some (B (ptD sg (padL (d + 1) T) d),0):=by
  have hml:(minD sg).length ≤ 1:=by unfold minD; split <;> simp
  have s1:∀ l:BS,(B l).size = l.length:=B_size
  have hBT:(B T).size = T.length:=B_size T
  obtain ⟨S,hS⟩:∃ S,S = padL (d + 1) T:=⟨_,rfl⟩
  have hSl:S.length = max (d + 1) T.length:=by rw [hS,padL_len]
  have hBS:(B S).size = S.length:=B_size S
  rw [← hS]
  unfold Dec.Fixed.j0
  refine bindE hsp (condF rfl (bindE hpt (letV (y:=X + d) (wi (by omega) (by omega)) (letV (y:=X + d) (wi (by omega) (by omega)) (bindE haw (bindE hct
    (letV (wi (by omega) (by omega)) (letV (y:=(T.length:Int)) (by rw [hBT]) (letV (y:=(d:Int) + 1 - T.length) (wi (by omega) (by omega)) (letV (y:=((d + 1 - T.length:Nat):Int)) (by split <;> omega) (bindE (rep0 (by omega)) (chkE ?_ (letV (y:=B S) ?_ (bindE (minus_eq hsg)
    (letV (y:=(S.length:Int)) (by rw [hBS]) (letV (y:=((S.length - d:Nat):Int)) (by rw [wi (by omega) (by omega)]; omega) (chkE (by rw [hBS]; omega) (letV (y:=B (S.take (S.length - d))) (take_B S _) (chkE ?_ (letV (B_app _ _) (chkE ?_ (letV (B_app _ [46])
    (letV (y:=(S.length:Int)) (by rw [hBS]) (letV (y:=((S.length - d:Nat):Int)) (by rw [wi (by omega) (by omega)]; omega) (chkE (by rw [hBS]; omega) (letV (y:=B (S.drop (S.length - d))) (drop_B S _) (chkE ?_ (letV (B_app _ _) rfl))))))))))))))))))))))))))))
  · rw [s1,hBT,List.length_replicate]; omega
  · rw [B_app,hS]; rfl
  · rw [s1,s1,List.length_take]; omega
  · rw [s1,List.length_append,List.length_take,show (⟨#[46]⟩:ByteArray).size = 1 from rfl]; omega
  · rw [s1,s1,List.length_append,List.length_append,List.length_take,List.length_drop]; simp; omega
theorem rfixed_j1 {p w:Nat} (h:OkS p w) {a:Int} (hb:bitsOk p w a) {d:Nat} (hd:d ≤ 40) {s:BS} (hs:s.length ≤ 10000):Ref2.Fixed.j1 a d p w (B s) = some (B (ptD (numS p w a).sign (padL (d + 1) s) d),0):=by
  have hml:(minD (numS p w a).sign).length ≤ 1:=by unfold minD; split <;> simp
  have hl:=padL_len (d + 1) s
  unfold Ref2.Fixed.j1
  refine bindE (rMinus h hb) (bindE (pointed_eq (d:=d) (by omega) _ s rfl (by omega)) (chkE ?_ (letV (B_app _ _) ?_)))
  · rw [B_size,B_size]
    simp only [List.length_append,List.length_take,List.length_drop]
    simp; omega
  · unfold ptD
    simp only [List.append_assoc]
def awN (mode sg:Int):Bool:=if mode = 2 then sg == 1 else if mode = 3 then sg == 0 else false
theorem awN_neg {D:BS} {mode sg n:Int} (hm:0 ≤ mode ∧ mode < 4) (hn:n < 0):Dec.away mode sg (B D) n = some (awN mode sg):=by
  have hsz:(B D).size = D.length:=B_size D
  unfold Dec.away
  refine letV (y:=(D.length:Int)) (by rw [hsz]) (letF (decide_eq_false (by omega)) ?_)
  obtain rfl | rfl | rfl | rfl:mode = 0 ∨ mode = 1 ∨ mode = 2 ∨ mode = 3:=by omega
  · exact letT rfl (letT (decide_eq_true hn) rfl)
  · exact letF rfl (letF rfl (letF rfl rfl))
  · exact letF rfl (letT rfl (letV rfl rfl))
  · exact letF rfl (letF rfl (letT rfl (letV rfl rfl)))
theorem cut_neg {D:BS} {n:Int} (hn:n < 0) (more:Bool):Dec.cut (B D) n more = Dec.cut (B D) ((0:Nat):Int) more:=by
  have e:(if (0:Int) > n then (0:Int) else n) = (if (0:Int) > ((0:Nat):Int) then (0:Int) else ((0:Nat):Int)):=by rw [if_pos hn]; rfl
  unfold Dec.cut
  rw [e]
theorem rdD_zero (D:BS) (more:Bool):rdD D 0 more = if more = true then [49] else []:=by
  have:topD D 0 = []:=by unfold topD; simp
  unfold rdD
  rw [this]; cases more <;> rfl
theorem ds_one:ds 1 = [49]:=by rw [ds_pos (by decide),show 1 / 10 = 0 by decide,ds_zero]; rfl
theorem ds_rdD_any {D:BS} (ha:D.all dgQ = true) (hh:∀ c r,D = c :: r → c ≠ 48) (hne:D ≠ []) (n:Nat) (more:Bool):ds (RA D n more) = rdD D n more:=by
  rcases Nat.eq_zero_or_pos n with rfl | hn
  · have:topD D 0 = []:=by unfold topD; simp
    rw [rdD_zero]
    unfold RA
    rw [this,vd_nil]
    cases more with
    | true=>exact ds_one
    | false=>exact ds_zero
  · exact ds_rdD ha hh hne hn more
theorem aw_one {mode sg:Int} (hm:0 ≤ mode ∧ mode < 4) (hs:sg = 0 ∨ sg = 1):awayS mode sg false 1 = awN mode sg:=by
  obtain rfl | rfl | rfl | rfl:mode = 0 ∨ mode = 1 ∨ mode = 2 ∨ mode = 3:=by omega
  · rfl
  · rfl
  · rcases hs with rfl | rfl <;> rfl
  · rcases hs with rfl | rfl <;> rfl
theorem fixed_fin {kind mode:Int} {p w:Nat} (h:kindS kind p w) (hm:0 ≤ mode ∧ mode < 4) {a:Int} (hb:bitsOk p w a) (hc:(numS p w a).class_ = 1) {d:Nat} (hd:d ≤ 40) :
    ∃ t,Dec.Fixed.j0 kind mode a d = some (t,0) ∧ Ref2.Fixed.j0 mode a d p w = some (t,0):=by
  obtain ⟨D,X,he,ho⟩:=exact_eq h hb hc
  have hx:=own_lim h.ok ho hc
  have hl:=ho.len
  have hsg:=own_sgn h.ok hc
  have hpt:Dec.parts kind a = some ((numS p w a).sign,B D,X):=by
    unfold Dec.parts
    exact bindE (isFinite_eq h hb hc) (condT rfl (bindE he rfl))
  have hrs:Ref2.Form.special (fm p w) a = some (⟨#[]⟩,false):=by rw [rSpecial h.ok hb]; unfold spT; rw [if_neg (by rw [hc]; decide),if_neg (by rw [hc]; decide)]
  have go:∀ (s:BS) (v:Nat),s.length ≤ 10000 → Ref2.fraction.scaled ⟨(numS p w a).sign,Nt ((numS p w a).m.toNat * 2 ^ (numS p w a).e.toNat),Nt (2 ^ (-(numS p w a).e).toNat)⟩ mode d = some (Nt v) → bl v ≤ 20000 → ds v = s →
      Ref2.Fixed.j0 mode a d p w = some (B (ptD (numS p w a).sign (padL (d + 1) s) d),0):=by
    intro s v hs h1 h2 h3
    unfold Ref2.Fixed.j0
    refine bindE hrs (condF rfl (bindE ((fOf h.ok hb).1 hc) (condT rfl (bindE h1 (bindE (decimal_eq h2) ?_)))))
    rw [h3]
    exact rfixed_j1 h.ok hb hd hs
  rcases Int.lt_or_le (X + d) 0 with hn | hn
  · refine ⟨_,fixed_j0 (T:=rdD D 0 (awN mode (numS p w a).sign)) hsg (special_eq h hb hc) hpt (by omega) hd (awN_neg hm hn) ((cut_neg hn _).trans (cut_eq ho.all (by omega) (by omega))) (by rw [rdD_zero]; split <;> simp),?_⟩
    obtain ⟨b0,b1,b2⟩:=own_bits h.ok hc
    have hden:=Nat.two_pow_pos (-(numS p w a).e).toNat
    have hd0:0 < 2 ^ (-(numS p w a).e).toNat * 10 ^ (-(d:Int)).toNat:=Nat.mul_pos hden (Nat.pow_pos (by decide))
    obtain ⟨i1,i2⟩:=is10_div hd0 (is10_times (own_is ho) d)
    have hv:0 < vd D:=by have:=(own_low2 ho).1; have:=Nat.pow_pos (n:=D.length - 1) (show 0 < 10 by decide); omega
    obtain ⟨t1,t2,t3⟩:=topD_neg ho.all (t:=X - D.length + d) (by omega) hv
    rw [t1] at i1
    obtain ⟨k1,k2,k3⟩:=rscaled (num:=(numS p w a).m.toNat * 2 ^ (numS p w a).e.toNat) (den:=2 ^ (-(numS p w a).e).toNat) hden (by omega) (by omega) hm (sg:=(numS p w a).sign) (j:=(d:Int)) (by omega) rfl rfl rfl
    obtain ⟨f1,f2,f3⟩:=frac_half hd0 (Nat.pow_pos (n:=(-(X - (D.length:Int) + (d:Int))).toNat) (show 0 < 10 by decide)) i2
    rw [i1] at k1
    have hr:rsC ((numS p w a).m.toNat * 2 ^ (numS p w a).e.toNat * 10 ^ ((d:Int)).toNat % (2 ^ (-(numS p w a).e).toNat * 10 ^ (-(d:Int)).toNat)) (2 ^ (-(numS p w a).e).toNat * 10 ^ (-(d:Int)).toNat) = 1:=by
      have g1:=mt f1.1 (by omega)
      have g2:=mt f2.1 (by omega)
      have g3:=mt f3.1 (by omega)
      unfold rsC
      rw [if_neg g3,if_pos]
      rcases Nat.lt_trichotomy (2 * ((numS p w a).m.toNat * 2 ^ (numS p w a).e.toNat * 10 ^ ((d:Int)).toNat % (2 ^ (-(numS p w a).e).toNat * 10 ^ (-(d:Int)).toNat))) (2 ^ (-(numS p w a).e).toNat * 10 ^ (-(d:Int)).toNat) with q | q | q
      · exact q
      · exact (g2 q.symm).elim
      · exact (g1 q).elim
    rw [hr,show decide ((0:Nat) % 2 = 1) = false from rfl,aw_one hm hsg] at k1
    rw [rdD_zero]
    refine go _ _ (by split <;> simp) k1 ?_ ?_
    · split <;> decide
    · split
      · exact ds_one
      · exact ds_zero
  · obtain ⟨N,hN⟩:∃ N:Nat,(N:Int) = X + d:=⟨(X + d).toNat,by omega⟩
    have hlen:(rdD D N (awD mode (numS p w a).sign D N)).length ≤ N + 1:=by
      unfold rdD
      have h1:=incD_len (topD D N)
      have h2:=topD_len D N
      split <;> omega
    obtain ⟨s1,s2⟩:=own_scaled h.ok hc ho hm (n:=N) (j:=(d:Int)) (by omega) (by omega)
    refine ⟨_,fixed_j0 (more:=awD mode (numS p w a).sign D N) (T:=rdD D N (awD mode (numS p w a).sign D N)) hsg (special_eq h hb hc) hpt (by omega) hd ?_ ?_ (by omega),?_⟩
    · rw [← hN]; exact dAway_eq ho.all ho.last (by omega)
    · rw [← hN]; exact cut_eq ho.all (by omega) (by omega)
    · exact go _ _ (by omega) s1 (by omega) (ds_rdD_any ho.all ho.head ho.ne N _)
end Go.Q
