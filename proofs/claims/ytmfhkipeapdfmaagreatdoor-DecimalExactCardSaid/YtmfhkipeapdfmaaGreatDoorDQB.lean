import Derived.Test.YtmfhkipeapdfmaaGreatDoorDR
import Derived.Test.YtmfhkipeapdfmaaGreatDoorDFE
namespace Go.Q
open Go
set_option maxRecDepth 10000
theorem k2:kindS 2 11 5:=.inl ⟨rfl,rfl,rfl⟩
theorem hd_dig {c x:UInt8} {r:BS} (h:dgQ c = true) (hx:x.toNat < 48):hd x (c :: r) = false:=by
  have:=dgQ_b h
  show (c == x) = false
  refine beq_eq_false_iff_ne.2 fun e=>?_
  subst e; omega
theorem takeW_app {F R:BS} {c:UInt8} (h:F.all dgQ = true) (hc:dgQ c = false):(F ++ c :: R).takeWhile dgQ = F ∧ (F ++ c :: R).dropWhile dgQ = c :: R:=by
  induction F with
  | nil=>rw [List.nil_append,List.takeWhile_cons,List.dropWhile_cons,hc]; exact ⟨rfl,rfl⟩
  | cons x F ih =>
    simp only [List.all_cons,Bool.and_eq_true] at h
    rw [List.cons_append,List.takeWhile_cons,List.dropWhile_cons,h.1]
    exact ⟨congrArg _ (ih h.2).1,(ih h.2).2⟩
theorem takeW_all {R:BS} (h:R.all dgQ = true):R.takeWhile dgQ = R ∧ R.dropWhile dgQ = []:=by
  induction R with
  | nil=>exact ⟨rfl,rfl⟩
  | cons x F ih =>
    simp only [List.all_cons,Bool.and_eq_true] at h
    rw [List.takeWhile_cons,List.dropWhile_cons,h.1]
    exact ⟨congrArg _ (ih h.2).1,(ih h.2).2⟩
theorem prsS_pt {sg:Int} (hs:sg = 0 ∨ sg = 1) {S:BS} {d:Nat} (ha:S.all dgQ = true) (h1:d < S.length) (h2:S.length ≤ 60):prsS (ptD sg S d) = some (.num sg S (-(d:Int))):=by
  obtain ⟨F,hF⟩:∃ F,F = S.take (S.length - d):=⟨_,rfl⟩
  obtain ⟨R,hR⟩:∃ R,R = S.drop (S.length - d):=⟨_,rfl⟩
  have hFR:F ++ R = S:=by rw [hF,hR]; exact List.take_append_drop _ _
  have hFa:F.all dgQ = true:=by rw [hF]; exact all_take _ ha
  have hRa:R.all dgQ = true:=by rw [hR]; exact all_drop _ ha
  have hRl:R.length = d:=by rw [hR,List.length_drop]; omega
  have hFl:0 < F.length:=by rw [hF,List.length_take]; omega
  have hpt:ptD sg S d = minD sg ++ (F ++ 46 :: R):=by unfold ptD; rw [← hF,← hR]; simp
  obtain ⟨c,F',hc⟩:∃ c F',F = c :: F':=by cases F with | nil=>simp at hFl | cons c r=>exact ⟨c,r,rfl⟩
  have hcd:dgQ c = true:=by rw [hc] at hFa; simp only [List.all_cons,Bool.and_eq_true] at hFa; exact hFa.1
  have hun:untD (ptD sg S d) = F ++ 46 :: R ∧ sgnD (ptD sg S d) = sg:=by
    rw [hpt]
    rcases hs with rfl | rfl
    · have e1:hd 45 (F ++ 46 :: R) = false:=by rw [hc]; exact hd_dig hcd (by decide)
      have e2:hd 43 (F ++ 46 :: R) = false:=by rw [hc]; exact hd_dig hcd (by decide)
      have e3:minD 0 ++ (F ++ 46 :: R) = F ++ 46 :: R:=rfl
      rw [e3]
      unfold untD sgnD
      rw [e1,e2]; exact ⟨rfl,rfl⟩
    · exact ⟨rfl,rfl⟩
  unfold prsS
  rw [hun.1,hun.2]
  have hi:¬ (F ++ 46 :: R = infB ∨ F ++ 46 :: R = nanB):=by
    rw [hc]
    rintro (h | h)
    · have:c = 105:=by injection h
      subst this; revert hcd; decide
    · have:c = 110:=by injection h
      subst this; revert hcd; decide
  rw [if_neg hi]
  have hw:=takeW_app (R:=R) hFa (show dgQ 46 = false by decide)
  have hw2:=takeW_all hRa
  have hn:nmT (F ++ 46 :: R) = (F,R,[]):=by
    rw [nmT_of,hw.1,hw.2]
    show (if (46 == (46:UInt8)) = true then (F,R.takeWhile dgQ,R.dropWhile dgQ) else _) = _
    rw [if_pos (by decide),hw2.1,hw2.2]
  rw [dgT_eq,hn]
  simp only [hFR]
  have hcc:¬ (S = [] ∨ 60 < S.length):=by
    rintro (h | h)
    · rw [h] at h1; simp at h1
    · omega
  rw [if_neg hcc]
  show some (DecT.num sg S (0 - (R.length:Int))) = _
  rw [hRl,Int.zero_sub]
theorem Own.vd_low {p w:Nat} {a:Int} {D:BS} {X:Int} (h:Own p w a D X):10 ^ (D.length - 1) ≤ vd D ∧ 0 < D.length:=by
  cases hD:D with
  | nil=>exact absurd hD h.ne
  | cons c r =>
    have:=Go.Q.vd_low (h.head c r hD) (hD ▸ h.all)
    exact ⟨this,by simp⟩
theorem exact_back {a mode:Int} (h0:0 ≤ a) (h1:a < 65536) (hm:0 ≤ mode ∧ mode < 4) (hb:bitsOk 11 5 a) (hc:(numS 11 5 a).class_ = 1) :
    ∃ t,Dec.Fixed 2 mode a 40 = some (t,0) ∧ Dec.Read t 2 mode = some (a,0,0):=by
  obtain ⟨D,X,he,ho⟩:=exact_eq k2 hb hc
  obtain ⟨M,eM,m0,m1,e0,e1,mn⟩:=(numS_ok k2.ok a).mag hc
  have hsg:=(numS_ok k2.ok a).sgn
  obtain ⟨e,hE⟩:∃ e,e = (numS 11 5 a).e:=⟨_,rfl⟩
  have e5:e ≤ 5:=by
    have hn:numS 11 5 a = readS 11 5 (uS a):=rfl
    have hx:expS 11 5 (uS a) < 32:=Nat.mod_lt _ (by decide)
    rw [hE,hn]
    unfold readS
    have hbb:biasS 5 = 15:=by decide
    have hll:lstS 11 5 = -24:=by decide
    split
    · show (0:Int) ≤ 5; omega
    · split
      · show (0:Int) ≤ 5; omega
      · split
        · show (0:Int) ≤ 5; omega
        · split
          · show lstS 11 5 ≤ 5; omega
          · rename_i c1 c2 c3 c4
            show (expS 11 5 (uS a):Int) - biasS 5 - (11:Nat) + 1 ≤ 5
            have:expS 11 5 (uS a) ≠ 31:=fun hh=>by
              by_cases hf:frcS 11 (uS a) = 0
              · exact c1 ⟨hh,hf⟩
              · exact c2 hh
            omega
  have hlst:lstS 11 5 = -24:=by decide
  have hfr:=ho.fr
  unfold Fr at hfr
  rw [eM,Int.toNat_natCast] at hfr
  rw [← hE] at hfr e0
  have hlow:=ho.low
  rw [← hE] at hlow
  have hv:=Own.vd_low ho
  have hM:M < 2 ^ 11:=m1
  have hX:X ≤ 5:=by
    rcases Int.lt_or_le 5 X with hx | hx
    · exfalso
      have hme:M * 2 ^ e.toNat < 2 ^ 11 * 2 ^ 5:=by
        have q1:2 ^ e.toNat ≤ 2 ^ 5:=Nat.pow_le_pow_right (by decide) (by omega)
        have q2:M * 2 ^ e.toNat ≤ M * 2 ^ 5:=Nat.mul_le_mul_left _ q1
        omega
      have q3:vd D * 10 ^ (X - D.length).toNat ≤ M * 2 ^ e.toNat * 10 ^ ((D.length:Int) - X).toNat:=by
        rw [← hfr]; exact Nat.le_mul_of_pos_right _ (Nat.two_pow_pos _)
      have q4:10 ^ (D.length - 1) * 10 ^ (X - D.length).toNat ≤ vd D * 10 ^ (X - D.length).toNat:=Nat.mul_le_mul_right _ hv.1
      have q5:10 ^ 5 * 10 ^ ((D.length:Int) - X).toNat ≤ 10 ^ (D.length - 1) * 10 ^ (X - D.length).toNat:=by
        rw [← Nat.pow_add,← Nat.pow_add]; exact Nat.pow_le_pow_right (by decide) (by omega)
      have q6:10 ^ 5 * 10 ^ ((D.length:Int) - X).toNat ≤ M * 2 ^ e.toNat * 10 ^ ((D.length:Int) - X).toNat:=Nat.le_trans q5 (Nat.le_trans q4 q3)
      have q7:=Nat.le_of_mul_le_mul_right q6 (Nat.pow_pos (by decide))
      omega
    · exact hx
  have hDX:(D.length:Int) ≤ X + 24:=by omega
  obtain ⟨n,hn⟩:∃ n:Nat,X + 40 = n:=⟨(X + 40).toNat,by omega⟩
  obtain ⟨S,hS,hF⟩:=Fixed_no (d:=40) k2 hm hb hc he (by decide) hn (by omega) (by omega)
  have hSl:S.length = 40 + 1 - n + n:=by rw [hS,List.length_append,List.length_append,List.length_replicate,List.length_replicate]; omega
  have hSa:S.all dgQ = true:=by rw [hS,List.all_append,List.all_append,zeros_dig,zeros_dig,ho.all]; rfl
  have hSv:vd S = vd D * 10 ^ (n - D.length):=by
    rw [hS,vd_append,vd_zeros,Nat.zero_mul,Nat.zero_add,vd_append,vd_zeros,List.length_replicate,Nat.add_zero]
  have hvd0:0 < vd D:=Nat.lt_of_lt_of_le (Nat.pow_pos (by decide)) hv.1
  have hSv0:0 < vd S:=by rw [hSv]; exact Nat.mul_pos hvd0 (Nat.pow_pos (by decide))
  have hml:(minD (numS 11 5 a).sign).length ≤ 1:=by unfold minD; split <;> simp
  have hptl:(ptD (numS 11 5 a).sign S 40).length ≤ 1000:=by
    unfold ptD
    simp only [List.length_append,List.length_take,List.length_drop,List.length_singleton]
    omega
  refine ⟨_,hF,Read_num k2 hm hptl (prsS_pt hsg hSa (by omega) (by omega)) ?_⟩
  have hsh:(shD S).length ≤ S.length:=shD_len S
  have hr:=round_in k2 hm hsg hSa (by omega) (x:=-((40:Nat):Int) + S.length) (by omega) hSv0 (by unfold atD; omega) (by unfold atD; omega)
  rw [hr]
  have x1:(-((40:Nat):Int) + S.length - S.length).toNat = 0:=by omega
  have x2:((S.length:Int) - (-((40:Nat):Int) + S.length)).toNat = 40:=by omega
  rw [x1,x2,Nat.pow_zero,Nat.mul_one]
  have hsame:vd S * 2 ^ (-e).toNat = M * 2 ^ e.toNat * 10 ^ 40:=by
    have hp:0 < 10 ^ ((D.length:Int) - X).toNat:=Nat.pow_pos (by decide)
    refine Nat.eq_of_mul_eq_mul_right hp ?_
    have z1:10 ^ (n - D.length) * 10 ^ ((D.length:Int) - X).toNat = 10 ^ 40 * 10 ^ (X - D.length).toNat:=by
      rw [← Nat.pow_add,← Nat.pow_add]; congr 1; omega
    calc vd S * 2 ^ (-e).toNat * 10 ^ ((D.length:Int) - X).toNat = vd D * 2 ^ (-e).toNat * (10 ^ (n - D.length) * 10 ^ ((D.length:Int) - X).toNat):=by
          rw [hSv]; simp only [Nat.mul_assoc,Nat.mul_comm,Nat.mul_left_comm]
      _ = vd D * 10 ^ (X - D.length).toNat * 2 ^ (-e).toNat * 10 ^ 40:=by rw [z1]; simp only [Nat.mul_assoc,Nat.mul_comm,Nat.mul_left_comm]
      _ = _:=by rw [hfr]; simp only [Nat.mul_assoc,Nat.mul_comm,Nat.mul_left_comm]
  have hrs:=rndF_same (p:=11) (w:=5) (mode:=mode) (sign:=(numS 11 5 a).sign) hSv0 (Nat.pow_pos (show 0 < 10 by decide)) (Nat.two_pow_pos (-e).toNat) hsame
  have hself:=rnd_self k2.ok (mode:=mode) (a:=a) ⟨by omega,by omega⟩ hb hc
  rw [eM,Int.toNat_natCast,← hE] at hself
  rw [hrs,rndF_two m0,hself]
end Go.Q
