import Derived.Test.YtmfhkipeapdfmaaGreatDoorBK7
namespace Go.Q
open Go
set_option maxRecDepth 10000
theorem hd_digB {c x:UInt8} {r:BS} (h:dgQ c = true) (hx:x.toNat < 48):hd x (c :: r) = false:=by
  have:=dgQ_b h
  show (c == x) = false
  refine beq_eq_false_iff_ne.2 fun e=>?_
  subst e; omega
theorem takeW_appB {F R:BS} {c:UInt8} (h:F.all dgQ = true) (hc:dgQ c = false):(F ++ c :: R).takeWhile dgQ = F ∧ (F ++ c :: R).dropWhile dgQ = c :: R:=by
  induction F with
  | nil=>rw [List.nil_append,List.takeWhile_cons,List.dropWhile_cons,hc]; exact ⟨rfl,rfl⟩
  | cons x F ih =>
    simp only [List.all_cons,Bool.and_eq_true] at h
    rw [List.cons_append,List.takeWhile_cons,List.dropWhile_cons,h.1]
    exact ⟨congrArg _ (ih h.2).1,(ih h.2).2⟩
theorem takeW_allB {R:BS} (h:R.all dgQ = true):R.takeWhile dgQ = R ∧ R.dropWhile dgQ = []:=by
  induction R with
  | nil=>exact ⟨rfl,rfl⟩
  | cons x F ih =>
    simp only [List.all_cons,Bool.and_eq_true] at h
    rw [List.takeWhile_cons,List.dropWhile_cons,h.1]
    exact ⟨congrArg _ (ih h.2).1,(ih h.2).2⟩
theorem prsS_ptB {sg:Int} (hs:sg = 0 ∨ sg = 1) {S:BS} {d:Nat} (ha:S.all dgQ = true) (h1:d < S.length) (h2:S.length ≤ 60):prsS (ptD sg S d) = some (.num sg S (-(d:Int))):=by
  obtain ⟨F,hF⟩:∃ F,F = S.take (S.length - d):=⟨_,rfl⟩
  obtain ⟨R,hR⟩:∃ R,R = S.drop (S.length - d):=⟨_,rfl⟩
  have hFR:F ++ R = S:=by rw [hF,hR]; exact List.take_append_drop _ _
  have hFa:F.all dgQ = true:=by rw [hF]; exact all_take _ ha
  have hRa:R.all dgQ = true:=by rw [hR]; exact all_drop _ ha
  have hRl:R.length = d:=by rw [hR,List.length_drop]; omega
  have hFl:0 < F.length:=by rw [hF,List.length_take]; omega
  have hpt:ptD sg S d = minD sg ++ (F ++ 46 :: R):=by unfold ptD; rw [← hF,← hR]; simp
  obtain ⟨c,F',hc⟩:∃ c F',F = c :: F':=by cases F with | nil=>simp at hFl | cons c r=>exact ⟨c,r,rfl⟩
  have hcd:dgQ c = true:=by rw [hc] at hFa; simp only [List.all_cons,Bool.and_eq_true] at hFa; exact hFa.1
  have hun:untD (ptD sg S d) = F ++ 46 :: R ∧ sgnD (ptD sg S d) = sg:=by
    rw [hpt]
    rcases hs with rfl | rfl
    · have e1:hd 45 (F ++ 46 :: R) = false:=by rw [hc]; exact hd_digB hcd (by decide)
      have e2:hd 43 (F ++ 46 :: R) = false:=by rw [hc]; exact hd_digB hcd (by decide)
      have e3:minD 0 ++ (F ++ 46 :: R) = F ++ 46 :: R:=rfl
      rw [e3]
      unfold untD sgnD
      rw [e1,e2]; exact ⟨rfl,rfl⟩
    · exact ⟨rfl,rfl⟩
  unfold prsS
  rw [hun.1,hun.2]
  have hi:¬ (F ++ 46 :: R = infB ∨ F ++ 46 :: R = nanB):=by
    rw [hc]
    rintro (h | h)
    · have:c = 105:=by injection h
      subst this; revert hcd; decide
    · have:c = 110:=by injection h
      subst this; revert hcd; decide
  rw [if_neg hi]
  have hw:=takeW_appB (R:=R) hFa (show dgQ 46 = false by decide)
  have hw2:=takeW_allB hRa
  have hn:nmT (F ++ 46 :: R) = (F,R,[]):=by
    rw [nmT_of,hw.1,hw.2]
    show (if (46 == (46:UInt8)) = true then (F,R.takeWhile dgQ,R.dropWhile dgQ) else _) = _
    rw [if_pos (by decide),hw2.1,hw2.2]
  rw [dgT_eq,hn]
  simp only [hFR]
  have hcc:¬ (S = [] ∨ 60 < S.length):=by
    rintro (h | h)
    · rw [h] at h1; simp at h1
    · omega
  rw [if_neg hcc]
  show some (DecT.num sg S (0 - (R.length:Int))) = _
  rw [hRl,Int.zero_sub]
theorem Plain_back {kind:Int} {p w:Nat} (h:kindS kind p w) {a:Int} (hb:bitsOk p w a) (hc:(numS p w a).class_ = 1) {c:BS} {k:Int} {m:Nat} (hm:m ≤ 17) (hS:Dec.Shortest kind a = some ((numS p w a).sign,B c,k,0)) (ho:Short kind p w a c k m) :
    ∃ t f,Dec.Plain kind a = some (t,0) ∧ Dec.Read t kind 0 = some (a,f,0):=by
  obtain ⟨f,hf⟩:=ho.back
  have hsg:=(numS_ok h.ok a).sgn
  have hlen:=ho.len
  have hlim:=ho.lim
  obtain ⟨z,hz,ta,t1,tl,tle⟩:=trim_facts ho.all ho.one ho.low
  have hml:(minD (numS p w a).sign).length ≤ 1:=by unfold minD; split <;> simp
  have hzl:z ≤ 17:=by
    have:=congrArg List.length hz
    rw [List.length_append,List.length_replicate] at this
    omega
  have pad:∀ u v:Nat,u ≤ 200 → v ≤ 200 → Dec.round kind 0 (numS p w a).sign (B (List.replicate u 48 ++ (trD c ++ List.replicate v 48))) (k + u) = some (a,f,0):=by
    intro u v hu hv
    have q:=round_pad (mode:=0) h (by decide) hsg ta t1 tl (by omega) hlim (u:=0) (v:=z) (by decide) (by omega)
    rw [List.replicate_zero,List.nil_append,← hz,show k + ((0:Nat):Int) = k by omega] at q
    exact (round_pad (mode:=0) h (by decide) hsg ta t1 tl (by omega) hlim hu hv).trans (q.symm.trans hf)
  have hv:=(Valid_eq h a).trans (congrArg some (@decide_eq_true _ (Classical.propDecidable _) hb))
  have go:∀ t e,Dec.Plain.j1 (numS p w a).sign k (B (trD c)) e = some (t,0) → e = (decide (k < -3) || decide (k > 9)) → Dec.Plain kind a = some (t,0):=by
    intro t e ht he
    unfold Dec.Plain
    refine bindE hv (letF rfl (bindE (special_eq h hb hc) (condF rfl (bindE hS (letF rfl (bindE (TR_eq (by omega)) ?_))))))
    by_cases h3:k < -3
    · rw [decide_eq_true h3,Bool.true_or] at he
      rw [he] at ht
      exact letT (decide_eq_true h3) ht
    · rw [decide_eq_false h3,Bool.false_or] at he
      exact letF (decide_eq_false h3) (letV he.symm ht)
  by_cases hA:k < -3 ∨ k > 9
  · have ht:=plain_exp hsg t1 (by omega) hlim
    have hex:=exT_itoa (n:=k - 1) (by omega)
    have hR:((trD c).drop 1 ++ List.replicate (2 - (trD c).length) 48).all dgQ = true:=by rw [List.all_append,all_drop 1 ta,zeros_dig]; rfl
    have hFR:(trD c).take 1 ++ ((trD c).drop 1 ++ List.replicate (2 - (trD c).length) 48) = trD c ++ List.replicate (2 - (trD c).length) 48:=by rw [← List.append_assoc,List.take_append_drop]
    have hprs:=prsS_exp hsg (F:=(trD c).take 1) (R:=(trD c).drop 1 ++ List.replicate (2 - (trD c).length) 48) (all_take 1 ta) (by intro q; have:=congrArg List.length q; rw [List.length_take,List.length_nil] at this; omega) hR (by rw [hFR,List.length_append,List.length_replicate]; omega) hex
    rw [hFR] at hprs
    refine ⟨_,f,go _ true ht (by rcases hA with q | q <;> simp [q]),Read_num h (by decide) ?_ hprs ?_⟩
    · have:=itoa_len4 (n:=k - 1) (by omega)
      simp only [List.length_append,List.length_cons,List.length_nil,List.length_replicate,List.length_take,List.length_drop]
      omega
    · have q:=pad 0 (2 - (trD c).length) (by decide) (by omega)
      rw [List.replicate_zero,List.nil_append] at q
      have e:k - 1 - ((((trD c).drop 1 ++ List.replicate (2 - (trD c).length) 48).length:Nat):Int) + (((trD c ++ List.replicate (2 - (trD c).length) 48).length:Nat):Int) = k + ((0:Nat):Int):=by
        simp only [List.length_append,List.length_replicate,List.length_drop]; omega
      rw [e]; exact q
  · have hdec:(false:Bool) = (decide (k < -3) || decide (k > 9)):=by
      rw [decide_eq_false (by omega),decide_eq_false (by omega)]; rfl
    by_cases h0:k ≤ 0
    · have ht:=plain_low hsg t1 (by omega) hlim h0
      obtain ⟨R,hR⟩:∃ R,R = List.replicate (-k).toNat 48 ++ trD c:=⟨_,rfl⟩
      have hRa:R.all dgQ = true:=by rw [hR]; exact (rep_app _ _ ta).1
      have hRl:R.length = (-k).toNat + (trD c).length:=by rw [hR,List.length_append,List.length_replicate]
      rw [← hR] at ht
      have e0:minD (numS p w a).sign ++ [48] ++ [46] ++ R = ptD (numS p w a).sign (48 :: R) R.length:=by
        unfold ptD
        rw [List.length_cons,show R.length + 1 - R.length = 1 by omega]; rfl
      rw [e0] at ht
      have hprs:=prsS_ptB hsg (S:=48 :: R) (d:=R.length) (by rw [List.all_cons,hRa]; rfl) (by rw [List.length_cons]; omega) (by rw [List.length_cons]; omega)
      refine ⟨_,f,go _ false ht hdec,Read_num h (by decide) ?_ hprs ?_⟩
      · unfold ptD
        simp only [List.length_append,List.length_cons,List.length_nil,List.length_take,List.length_drop]
        omega
      · have q:=pad (1 + (-k).toNat) 0 (by omega) (by decide)
        rw [List.replicate_zero,List.append_nil,Nat.add_comm 1,List.replicate_succ,List.cons_append,← hR] at q
        have e:-((R.length:Nat):Int) + (((48 :: R:BS).length:Nat):Int) = k + (((-k).toNat + 1:Nat):Int):=by rw [List.length_cons]; omega
        rw [e]; exact q
    · obtain ⟨n,hn⟩:∃ n:Nat,k = n:=⟨k.toNat,by omega⟩
      have ht:=plain_mid hsg t1 (by omega) hlim (by omega) hn
      obtain ⟨S,hSd⟩:∃ S,S = trD c ++ List.replicate (n + 1 - (trD c).length) 48:=⟨_,rfl⟩
      have hSl:S.length = (trD c).length + (n + 1 - (trD c).length):=by rw [hSd,List.length_append,List.length_replicate]
      have hSa:S.all dgQ = true:=by rw [hSd,List.all_append,ta,zeros_dig]; rfl
      rw [← hSd,← hSl] at ht
      have hprs:=prsS_ptB hsg (S:=S) (d:=S.length - n) hSa (by omega) (by omega)
      refine ⟨_,f,go _ false ht hdec,Read_num h (by decide) ?_ hprs ?_⟩
      · unfold ptD
        simp only [List.length_append,List.length_cons,List.length_nil,List.length_take,List.length_drop]
        omega
      · have q:=pad 0 (n + 1 - (trD c).length) (by decide) (by omega)
        rw [List.replicate_zero,List.nil_append,← hSd] at q
        have e:-((S.length - n:Nat):Int) + ((S.length:Nat):Int) = k + ((0:Nat):Int):=by omega
        rw [e]; exact q
end Go.Q
