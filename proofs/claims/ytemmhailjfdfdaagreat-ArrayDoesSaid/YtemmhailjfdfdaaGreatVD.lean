import Derived.Test.YtemmhailjfdfdaaGreatVB
import Derived.Test.YtemmhailjfdfdaaGreatVC
namespace Go.Q
open Go
set_option maxRecDepth 100000
set_option maxHeartbeats 4000000
theorem any_l0 {l:List Int} {f:Int → Option Bool} {p:Int → Bool} (hf:∀ x ∈ l,f x = some (p x)) (hl:l.length < 4611686018427387904) :
    ∀ m i:Nat,i + m = l.length → ∃ r:Int,Slcs.IndexFunc___int_int_.l0 l l.length f (i:Int) = some r ∧ decide (r ≥ 0) = (l.drop i).any p:=by
  intro m
  induction m with
  | zero =>
    intro i hi
    rw [Slcs.IndexFunc___int_int_.l0,loopO_eq,Slcs.IndexFunc___int_int_.s0]
    simp only [letkE]
    rw [decide_eq_false (show ¬ (i:Int) < (l.length:Int) by omega),condF,List.drop_of_length_le (by omega)]
    exact ⟨-1,rfl,rfl⟩
  | succ m ih =>
    intro i hi
    have hil:i < l.length:=by omega
    rw [Slcs.IndexFunc___int_int_.l0,loopO_eq,Slcs.IndexFunc___int_int_.s0]
    simp only [letkE]
    rw [decide_eq_true (show (i:Int) < (l.length:Int) by omega),condT,chk_pos (by omega),Int.toNat_natCast,List.getElem?_eq_getElem hil,bindS,hf _ (List.getElem_mem hil),bindS,List.drop_eq_getElem_cons hil,List.any_cons]
    cases hp:p l[i]
    · rw [condF,wi (by omega) (by omega),bindS,Sum.elim_inl,Bool.false_or]
      exact ih (i + 1) (by omega)
    · rw [condT,bindS,Sum.elim_inr,Bool.true_or]
      exact ⟨_,rfl,decide_eq_true (by omega)⟩
theorem anyF {l:List Int} {f:Int → Option Bool} {p:Int → Bool} (hf:∀ x ∈ l,f x = some (p x)) (hl:l.length < 4611686018427387904):Slcs.ContainsFunc___int_int_ l f = some (l.any p):=by
  obtain ⟨r,h1,h2⟩:=any_l0 hf hl l.length 0 (by omega)
  unfold Slcs.ContainsFunc___int_int_ Slcs.IndexFunc___int_int_
  simp only [letkE]
  rw [show Slcs.IndexFunc___int_int_.l0 l l.length f 0 = _ from h1,bindS,h2,List.drop_zero]
theorem eq_l0 {l k:List Int} (hk:l.length = k.length) (hl:l.length < 4611686018427387904) :
    ∀ m i:Nat,i + m = l.length → Slcs.Equal___int_int_.l0 l k l.length (i:Int) = some (decide (l.drop i = k.drop i)):=by
  intro m
  induction m with
  | zero =>
    intro i hi
    rw [Slcs.Equal___int_int_.l0,loopO_eq,Slcs.Equal___int_int_.s0]
    simp only [letkE]
    rw [decide_eq_false (show ¬ (i:Int) < (l.length:Int) by omega),condF,bindS,Sum.elim_inr,List.drop_of_length_le (by omega),List.drop_of_length_le (by omega),decide_eq_true rfl]
  | succ m ih =>
    intro i hi
    have hil:i < l.length:=by omega
    have hik:i < k.length:=by omega
    rw [Slcs.Equal___int_int_.l0,loopO_eq,Slcs.Equal___int_int_.s0]
    simp only [letkE,nb1]
    rw [decide_eq_true (show (i:Int) < (l.length:Int) by omega),condT,chk_pos (by omega),Int.toNat_natCast,List.getElem?_eq_getElem hil,bindS,chk_pos (by omega),List.getElem?_eq_getElem hik,bindS,List.drop_eq_getElem_cons hil,List.drop_eq_getElem_cons hik]
    by_cases hp:l[i] = k[i]
    · rw [decide_eq_true hp,Bool.not_true,condF,wi (by omega) (by omega),bindS,Sum.elim_inl]
      rw [show Option.some (decide (l[i] :: l.drop (i + 1) = k[i] :: k.drop (i + 1))) = some (decide (l.drop (i + 1) = k.drop (i + 1))) from by
        congr 1; rw [decide_eq_decide,hp]; constructor
        · intro q; exact (List.cons.inj q).2
        · intro q; rw [q]]
      exact ih (i + 1) (by omega)
    · rw [decide_eq_false hp,Bool.not_false,condT,bindS,Sum.elim_inr,decide_eq_false (fun q=>hp (List.cons.inj q).1)]
theorem eqF {l k:List Int} (hl:l.length < 4611686018427387904):Slcs.Equal___int_int_ l k = some (decide (l = k)):=by
  unfold Slcs.Equal___int_int_
  simp only [letkE,nb1]
  by_cases h:l.length = k.length
  · rw [decide_eq_true (show (l.length:Int) = (k.length:Int) by omega),Bool.not_true,condF]
    have:=eq_l0 h hl l.length 0 (by omega)
    rw [List.drop_zero,List.drop_zero] at this
    exact this
  · rw [decide_eq_false (show ¬ (l.length:Int) = (k.length:Int) by omega),Bool.not_false,condT,decide_eq_false (fun q=>h (by rw [q]))]
def badX (x:Int):Bool:=decide (x < 0) || decide (x > 4000)
def prodL (l:List Int):Int:=l.foldl (· * ·) 1
def szS (l:List Int):Int:=if 3 < l.length ∨ l.any badX = true then -1 else if 4000 < prodL l then -1 else prodL l
theorem badX_f (x:Int):Sec.size_1 x = some (badX x):=by
  unfold Sec.size_1 badX
  simp only [letkE]
  cases decide (x < 0)
  · rfl
  · rfl
theorem mul_bound {a b m n:Int} (a0:0 ≤ a) (b0:0 ≤ b) (ha:a ≤ m) (hb:b ≤ n):0 ≤ a * b ∧ a * b ≤ m * n:=by
  refine ⟨Int.mul_nonneg a0 b0,?_⟩
  exact Int.mul_le_mul ha hb b0 (by omega)
theorem secEnd (l:List Int) (n:Int) (k:Nat) (hk:k = l.length):Sec.size.l0 l l.length n (k:Int) = some (if 4000 < n then -1 else n):=by
  rw [Sec.size.l0,loopO_eq,Sec.size.s0]
  simp only [letkE]
  rw [decide_eq_false (show ¬ (k:Int) < (l.length:Int) by omega),condF]
  by_cases h:4000 < n
  · rw [decide_eq_true (show n > 4000 from h),condT,if_pos h]; rfl
  · rw [decide_eq_false (show ¬ n > 4000 from h),condF,if_neg h]; rfl
theorem secStep (l:List Int) (n x:Int) (k:Nat) (hx:l[k]? = some x) (hl:l.length < 100) (h0:-9223372036854775808 ≤ n * x) (h1:n * x < 9223372036854775808):Sec.size.l0 l l.length n (k:Int) = Sec.size.l0 l l.length (n * x) ((k + 1:Nat):Int):=by
  have hk:k < l.length:=by
    rcases Nat.lt_or_ge k l.length with q | q
    · exact q
    · rw [List.getElem?_eq_none q] at hx; cases hx
  rw [Sec.size.l0,loopO_eq,Sec.size.s0]
  simp only [letkE]
  rw [decide_eq_true (show (k:Int) < (l.length:Int) by omega),condT,chk_pos (by omega),Int.toNat_natCast,hx,bindS,wi h0 h1,wi (by omega) (by omega),bindS,Sum.elim_inl]
  rfl
theorem secSize_eq {l:List Int} (hl:l.length < 4611686018427387904):Sec.size l = some (szS l):=by
  unfold Sec.size szS
  simp only [letkE]
  by_cases h3:3 < l.length
  · rw [decide_eq_true (show (l.length:Int) > 3 by omega),condT,if_pos (.inl h3)]
  · rw [decide_eq_false (show ¬ (l.length:Int) > 3 by omega),condF,anyF (fun x _=>badX_f x) hl,bindS]
    by_cases hb:l.any badX = true
    · rw [hb,condT,if_pos (.inr rfl)]
    · rw [if_neg (by rintro (q | q); exact h3 q; exact hb q)]
      simp only [Bool.not_eq_true] at hb
      rw [hb,condF]
      unfold Sec.size.j0
      simp only [letkE]
      have good:∀ x ∈ l,0 ≤ x ∧ x ≤ 4000:=by
        intro x hx
        have:=List.any_eq_false.1 hb x hx
        unfold badX at this
        simp only [Bool.or_eq_true,decide_eq_true_eq,not_or] at this
        omega
      match l,h3,good with
      | [],_,_=>exact secEnd [] 1 0 rfl
      | [a],_,good =>
        have ga:=good a (by simp)
        rw [show ((0:Int)) = ((0:Nat):Int) from rfl,secStep [a] 1 a 0 rfl (by simp) (by omega) (by omega),secEnd [a] _ 1 rfl]; rfl
      | [a,b],_,good =>
        have ga:=good a (by simp)
        have gb:=good b (by simp)
        have m1:=mul_bound ga.1 gb.1 ga.2 gb.2
        rw [show ((0:Int)) = ((0:Nat):Int) from rfl,secStep [a,b] 1 a 0 rfl (by simp) (by omega) (by omega),Int.one_mul,secStep [a,b] a b 1 rfl (by simp) (by omega) (by omega),secEnd [a,b] _ 2 rfl]
        have:prodL [a,b] = a * b:=by unfold prodL; simp only [List.foldl]; rw [Int.one_mul]
        rw [this]
      | [a,b,c],_,good =>
        have ga:=good a (by simp)
        have gb:=good b (by simp)
        have gc:=good c (by simp)
        have m1:=mul_bound ga.1 gb.1 ga.2 gb.2
        have m2:=mul_bound m1.1 gc.1 m1.2 gc.2
        rw [show ((0:Int)) = ((0:Nat):Int) from rfl,secStep [a,b,c] 1 a 0 rfl (by simp) (by omega) (by omega),Int.one_mul,secStep [a,b,c] a b 1 rfl (by simp) (by omega) (by omega),secStep [a,b,c] (a * b) c 2 rfl (by simp) (by omega) (by omega),secEnd [a,b,c] _ 3 rfl]
        have:prodL [a,b,c] = a * b * c:=by unfold prodL; simp only [List.foldl]; rw [Int.one_mul]
        rw [this]
      | _ :: _ :: _ :: _ :: _,h3,_=>exfalso; simp at h3
end Go.Q
namespace Go.Q
open Go
set_option maxRecDepth 100000
set_option maxHeartbeats 4000000
theorem whEnd (l e st:List Int) (s:Int) (k:Nat) (hk:k = l.length):Sec.Whole.l0 l l.length 0 [] [] 0 e st s (k:Int) = some (⟨0,e,st⟩,0):=by
  rw [Sec.Whole.l0,loopO_eq,Sec.Whole.s0]
  simp only [letkE]
  rw [decide_eq_false (show ¬ (k:Int) < (l.length:Int) by omega),condF]; rfl
theorem whStep (l e st:List Int) (s x:Int) (k:Nat) (hx:l[k]? = some x) (hl:l.length < 100) (hs:st.length < 100) (h0:-9223372036854775808 ≤ s * x) (h1:s * x < 9223372036854775808) :
    Sec.Whole.l0 l l.length 0 [] [] 0 e st s (k:Int) = Sec.Whole.l0 l l.length 0 [] [] 0 e (st ++ [s]) (s * x) ((k + 1:Nat):Int):=by
  have hk:k < l.length:=by
    rcases Nat.lt_or_ge k l.length with q | q
    · exact q
    · rw [List.getElem?_eq_none q] at hx; cases hx
  rw [Sec.Whole.l0,loopO_eq,Sec.Whole.s0]
  simp only [letkE]
  rw [decide_eq_true (show (k:Int) < (l.length:Int) by omega),condT,chk_pos (by omega),Int.toNat_natCast,hx,bindS,chk_pos (by rw [List.length_singleton]; omega),wi h0 h1,wi (by omega) (by omega),bindS,Sum.elim_inl]
  rfl
theorem enEnd (e st:List Int) (a b:Int) (k:Nat) (hk:k = st.length):Sec.ends.l0 ⟨0,e,st⟩ st.length 0 e st a b (k:Int) = some (a,b):=by
  rw [Sec.ends.l0,loopO_eq,Sec.ends.s0]
  simp only [letkE]
  rw [decide_eq_false (show ¬ (k:Int) < (st.length:Int) by omega),condF]; rfl
theorem enStep (e st:List Int) (b x y W:Int) (k:Nat) (hx:st[k]? = some x) (hy:e[k]? = some y) (hl:st.length < 100) (hy0:0 < y ∧ y ≤ 4000) (hW:x * (y - 1) = W) (h0:0 ≤ W) (h1:b + W < 100000000) (hb:0 ≤ b) :
    Sec.ends.l0 ⟨0,e,st⟩ st.length 0 e st 0 b (k:Int) = Sec.ends.l0 ⟨0,e,st⟩ st.length 0 e st 0 (b + W) ((k + 1:Nat):Int):=by
  have hk:k < st.length:=by
    rcases Nat.lt_or_ge k st.length with q | q
    · exact q
    · rw [List.getElem?_eq_none q] at hx; cases hx
  rw [Sec.ends.l0,loopO_eq,Sec.ends.s0]
  simp only [letkE]
  rw [decide_eq_true (show (k:Int) < (st.length:Int) by omega),condT,chk_pos (by omega),Int.toNat_natCast,hx,bindS,chk_pos (by omega),hy,bindS,wi (x:=y - 1) (by omega) (by omega),hW,wi (x:=W) (by omega) (by omega)]
  have e1:(if 0 < W then (0:Int) else W) = 0:=by split <;> omega
  have e2:(if 0 > W then (0:Int) else W) = W:=if_neg (by omega)
  rw [e1,e2,wi (x:=(0:Int) + 0) (by omega) (by omega),wi (x:=b + W) (by omega) (by omega),wi (by omega) (by omega),bindS,Sum.elim_inl]
  rfl
def badS (x:Int):Bool:=!(decide (-2147483648 ≤ x) && decide (x ≤ 2147483648))
theorem badS_f (x:Int):Sec.Valid_1 x = some (badS x):=by
  unfold Sec.Valid_1 Sec.isNumber badS
  simp only [letkE]
  by_cases h:-2147483648 ≤ x
  · rw [decide_eq_true (show x ≥ -2147483648 from h)]; rfl
  · rw [decide_eq_false (show ¬ x ≥ -2147483648 from h)]; rfl
theorem badS_no {x:Int} (h0:-2147483648 ≤ x) (h1:x ≤ 2147483648):badS x = false:=by
  unfold badS; rw [decide_eq_true h0,decide_eq_true h1]; rfl
theorem secValid_of {e st:List Int} {n:Int} (he:e.length < 100) (hs:st.length = e.length) (hz:szS e = n) (hn:0 ≤ n) (hst:∀ x ∈ st,0 ≤ x ∧ x ≤ 2147483648)
    (hend:n ≠ 0 → ∃ g,Sec.ends ⟨0,e,st⟩ = some (0,g) ∧ g ≤ 2147483648):Sec.Size ⟨0,e,st⟩ = some (n,0):=by
  have hv:Sec.Valid ⟨0,e,st⟩ = some true:=by
    unfold Sec.Valid
    simp only [letkE,nb1]
    rw [secSize_eq (by omega),bindS,hz,decide_eq_false (by omega),condF,hs,decide_eq_true rfl,Bool.not_true,condF,show decide ((0:Int) < 0) = false from rfl,condF,anyF (fun x _=>badS_f x) (by omega),bindS]
    have hany:st.any badS = false:=by
      rw [List.any_eq_false]
      intro x hx
      rw [badS_no (by have:=hst x hx; omega) (hst x hx).2]
      decide
    rw [hany,condF]
    unfold Sec.Valid.j0
    simp only [letkE,b1]
    by_cases h0:n = 0
    · rw [decide_eq_true h0,condT]
    · obtain ⟨g,h1,h2⟩:=hend h0
      rw [decide_eq_false h0,condF,show decide ((0:Int) > 2147483648) = false from rfl,condF,h1,bindS]
      dsimp only
      rw [show decide ((0:Int) ≥ 0) = true from rfl,condT,decide_eq_true h2]
  unfold Sec.Size
  simp only [letkE]
  rw [hv,bindS,Bool.not_true,condF,secSize_eq (by omega),bindS,hz]
theorem size_of {l st:List Int} {n:Int} (hl:l.length < 100) (hs:st.length = l.length) (hz:szS l = n) (hn:0 ≤ n) (hst:∀ x ∈ st,0 ≤ x ∧ x ≤ 2147483648)
    (hwh:Sec.Whole.l0 l l.length 0 [] [] 0 l [] 1 0 = some (⟨0,l,st⟩,0)) (hend:n ≠ 0 → ∃ g,Sec.ends ⟨0,l,st⟩ = some (0,g) ∧ g ≤ 2147483648):Arr.size l = some n:=by
  unfold Arr.size Sec.Whole Slcs.Clone___int_int_
  simp only [letkE,nb1]
  rw [secSize_eq (by omega),bindS,hz,decide_eq_false (show ¬ n < 0 by omega),condF,chk_pos (by omega),bindS,hwh,bindS]
  dsimp only
  rw [show (!decide ((0:Int) = 0)) = false from rfl,condF,secValid_of hl hs hz hn hst hend,bindS]
theorem szS_three {l:List Int} (h:0 ≤ szS l):l.length ≤ 3 ∧ (∀ x ∈ l,0 ≤ x ∧ x ≤ 4000) ∧ szS l = prodL l ∧ prodL l ≤ 4000:=by
  unfold szS at *
  by_cases h1:3 < l.length ∨ l.any badX = true
  · rw [if_pos h1] at h; omega
  · rw [if_neg h1] at h ⊢
    by_cases h2:4000 < prodL l
    · rw [if_pos h2] at h; omega
    · rw [if_neg h2]
      refine ⟨by omega,fun x hx=>?_,rfl,by omega⟩
      have hb:l.any badX = false:=by
        cases q:l.any badX
        · rfl
        · exact absurd (.inr q) h1
      have:=List.any_eq_false.1 hb x hx
      unfold badX at this
      simp only [Bool.or_eq_true,decide_eq_true_eq,not_or] at this
      omega
theorem aSize_eq {l:List Int} (hl:l.length < 4611686018427387904):Arr.size l = some (szS l):=by
  by_cases h:0 ≤ szS l
  · obtain ⟨h3,good,hp,hle⟩:=szS_three h
    have hz:szS l = prodL l:=hp
    rw [hp] at h
    rw [hp]
    match l,h3,good,hz,h,hle with
    | [],_,_,hz,h,hle =>
      exact size_of (st:=[]) (by decide) rfl hz h (by simp) (whEnd [] [] [] 1 0 rfl) (fun _=>⟨0,enEnd [] [] 0 0 0 rfl,by decide⟩)
    | [a],_,good,hz,h,hle =>
      have ga:=good a (by simp)
      have hpa:prodL [a] = a:=by unfold prodL; simp only [List.foldl]; rw [Int.one_mul]
      rw [hpa] at hz h hle ⊢
      refine size_of (st:=[1]) (by simp) rfl hz h (by simp) ?_ (fun h0=>⟨a - 1,?_,by omega⟩)
      · refine (whStep [a] [a] [] 1 a 0 rfl (by simp) (by simp) (by omega) (by omega)).trans ?_
        exact whEnd [a] [a] [1] _ 1 rfl
      · unfold Sec.ends
        simp only [letkE]
        have:=enStep [a] [1] 0 1 a (a - 1) 0 rfl rfl (by simp) (by omega) (by omega) (by omega) (by omega) (by omega)
        rw [show Sec.ends.l0 ⟨0,[a],[1]⟩ ([1]:List Int).length 0 [a] [1] 0 0 0 = _ from this,enEnd [a] [1] _ _ 1 rfl,Int.zero_add]
    | [a,b],_,good,hz,h,hle =>
      have ga:=good a (by simp)
      have gb:=good b (by simp)
      have m1:=mul_bound ga.1 gb.1 ga.2 gb.2
      have hpa:prodL [a,b] = a * b:=by unfold prodL; simp only [List.foldl]; rw [Int.one_mul]
      rw [hpa] at hz h hle ⊢
      refine size_of (st:=[1,a]) (by simp) rfl hz h (by simp; omega) ?_ (fun h0=>⟨a * b - 1,?_,by omega⟩)
      · refine (whStep [a,b] [a,b] [] 1 a 0 rfl (by simp) (by simp) (by omega) (by omega)).trans ?_
        rw [Int.one_mul]
        rw [show (([]:List Int) ++ [1]) = [1] from rfl,whStep [a,b] [a,b] [1] a b 1 rfl (by simp) (by simp) (by omega) (by omega)]
        exact whEnd [a,b] [a,b] [1,a] _ 2 rfl
      · have a0:a ≠ 0:=fun q=>h0 (by rw [q,Int.zero_mul])
        have b0:b ≠ 0:=fun q=>h0 (by rw [q,Int.mul_zero])
        have e1:a * (b - 1) = a * b - a:=by rw [Int.mul_sub,Int.mul_one]
        have hge:a ≤ a * b:=by
          have:=Int.mul_le_mul_of_nonneg_left (show 1 ≤ b by omega) ga.1
          rwa [Int.mul_one] at this
        unfold Sec.ends
        simp only [letkE]
        have s1:=enStep [a,b] [1,a] 0 1 a (a - 1) 0 rfl rfl (by simp) (by omega) (by omega) (by omega) (by omega) (by omega)
        have s2:=enStep [a,b] [1,a] (0 + (a - 1)) a b (a * b - a) 1 rfl rfl (by simp) (by omega) e1 (by omega) (by omega) (by omega)
        rw [show Sec.ends.l0 ⟨0,[a,b],[1,a]⟩ ([1,a]:List Int).length 0 [a,b] [1,a] 0 0 0 = _ from s1,s2,enEnd [a,b] [1,a] _ _ 2 rfl]
        congr 2; omega
    | [a,b,c],_,good,hz,h,hle =>
      have ga:=good a (by simp)
      have gb:=good b (by simp)
      have gc:=good c (by simp)
      have m1:=mul_bound ga.1 gb.1 ga.2 gb.2
      have m2:=mul_bound m1.1 gc.1 m1.2 gc.2
      have hpa:prodL [a,b,c] = a * b * c:=by unfold prodL; simp only [List.foldl]; rw [Int.one_mul]
      rw [hpa] at hz h hle ⊢
      refine size_of (st:=[1,a,a * b]) (by simp) rfl hz h (by simp; omega) ?_ (fun h0=>⟨a * b * c - 1,?_,by omega⟩)
      · refine (whStep [a,b,c] [a,b,c] [] 1 a 0 rfl (by simp) (by simp) (by omega) (by omega)).trans ?_
        rw [Int.one_mul]
        rw [show (([]:List Int) ++ [1]) = [1] from rfl,whStep [a,b,c] [a,b,c] [1] a b 1 rfl (by simp) (by simp) (by omega) (by omega)]
        rw [show (([1]:List Int) ++ [a]) = [1,a] from rfl,whStep [a,b,c] [a,b,c] [1,a] (a * b) c 2 rfl (by simp) (by simp) (by omega) (by omega)]
        exact whEnd [a,b,c] [a,b,c] [1,a,a * b] _ 3 rfl
      · have c0:c ≠ 0:=fun q=>h0 (by rw [q,Int.mul_zero])
        have ab0:a * b ≠ 0:=fun q=>h0 (by rw [q,Int.zero_mul])
        have a0:a ≠ 0:=fun q=>ab0 (by rw [q,Int.zero_mul])
        have b0:b ≠ 0:=fun q=>ab0 (by rw [q,Int.mul_zero])
        have e1:a * (b - 1) = a * b - a:=by rw [Int.mul_sub,Int.mul_one]
        have e2:a * b * (c - 1) = a * b * c - a * b:=by rw [Int.mul_sub,Int.mul_one]
        have hge:a ≤ a * b:=by
          have:=Int.mul_le_mul_of_nonneg_left (show 1 ≤ b by omega) ga.1
          rwa [Int.mul_one] at this
        have hge2:a * b ≤ a * b * c:=by
          have:=Int.mul_le_mul_of_nonneg_left (show 1 ≤ c by omega) m1.1
          rwa [Int.mul_one] at this
        unfold Sec.ends
        simp only [letkE]
        have s1:=enStep [a,b,c] [1,a,a * b] 0 1 a (a - 1) 0 rfl rfl (by simp) (by omega) (by omega) (by omega) (by omega) (by omega)
        have s2:=enStep [a,b,c] [1,a,a * b] (0 + (a - 1)) a b (a * b - a) 1 rfl rfl (by simp) (by omega) e1 (by omega) (by omega) (by omega)
        have s3:=enStep [a,b,c] [1,a,a * b] (0 + (a - 1) + (a * b - a)) (a * b) c (a * b * c - a * b) 2 rfl rfl (by simp) (by omega) e2 (by omega) (by omega) (by omega)
        rw [show Sec.ends.l0 ⟨0,[a,b,c],[1,a,a * b]⟩ ([1,a,a * b]:List Int).length 0 [a,b,c] [1,a,a * b] 0 0 0 = _ from s1,s2,s3,enEnd [a,b,c] [1,a,a * b] _ _ 3 rfl]
        congr 2; omega
    | _ :: _ :: _ :: _ :: _,h3,_,_,_,_=>exfalso; simp at h3
  · unfold Arr.size Sec.Whole
    simp only [letkE,nb1]
    rw [secSize_eq hl,bindS,decide_eq_true (show szS l < 0 by omega),condT,bindS]
    dsimp only
    rw [show (!decide ((2:Int) = 0)) = true from rfl,condT]
    have:szS l = -1:=by
      unfold szS at *
      split
      · rfl
      · rename_i h1
        rw [if_neg h1] at h
        split
        · rfl
        · rename_i h2
          rw [if_neg h2] at h
          exfalso
          apply h
          have good:∀ x ∈ l,0 ≤ x:=by
            intro x hx
            have hb:l.any badX = false:=by
              cases q:l.any badX
              · rfl
              · exact absurd (.inr q) h1
            have:=List.any_eq_false.1 hb x hx
            unfold badX at this
            simp only [Bool.or_eq_true,decide_eq_true_eq,not_or] at this
            omega
          unfold prodL
          have gen:∀ (l:List Int) (n:Int),0 ≤ n → (∀ x ∈ l,0 ≤ x) → 0 ≤ l.foldl (· * ·) n:=by
            intro l
            induction l with
            | nil=>intro n hn _; exact hn
            | cons y l ih=>intro n hn hl; exact ih _ (Int.mul_nonneg hn (hl y (by simp))) (fun x hx=>hl x (by simp [hx]))
          exact gen l 1 (by decide) good
    rw [this]
noncomputable def vldS (a:api.Array):Bool:=decide (1 ≤ a.Kind) && (decide (a.Kind ≤ 4) && (decide (szS a.Shape = a.Elems.length) && a.Elems.all (dV a.Kind)))
theorem aValid_eq (a:api.Array) (h1:a.Shape.length < 4611686018427387904) (h2:a.Elems.length < 4611686018427387904):Arr.Valid a = some (vldS a):=by
  unfold Arr.Valid vldS
  simp only [letkE,b1]
  by_cases c1:1 ≤ a.Kind
  · rw [decide_eq_true (show a.Kind ≥ 1 from c1),condT,Bool.true_and]
    by_cases c2:a.Kind ≤ 4
    · rw [decide_eq_true c2,condT,Bool.true_and,aSize_eq h1,bindS]
      by_cases c3:szS a.Shape = a.Elems.length
      · rw [decide_eq_true c3,condT,Bool.true_and,anyF (p:=fun n=>!dV a.Kind n) (fun x _=>by
          unfold Arr.Valid_1
          simp only [letkE]
          rw [aFits_eq,bindS]) h2,bindS]
        congr 1
        rw [List.all_eq_not_any_not]
      · rw [decide_eq_false c3,condF,Bool.false_and]
    · rw [decide_eq_false c2,condF,Bool.false_and]
  · rw [decide_eq_false (show ¬ a.Kind ≥ 1 from c1),condF,Bool.false_and]
end Go.Q
namespace Go.Q
open Go
set_option maxRecDepth 100000
set_option maxHeartbeats 4000000
structure ArrI (a:api.Array):Prop where
  i:∀ n ∈ a.Elems,I64 n
  e:a.Elems.length ≤ 400
  s:a.Shape.length ≤ 50
theorem vld_facts {a:api.Array} (h:vldS a = true):1 ≤ a.Kind ∧ a.Kind ≤ 4 ∧ szS a.Shape = a.Elems.length ∧ ∀ n ∈ a.Elems,ValB a.Kind n:=by
  unfold vldS at h
  simp only [Bool.and_eq_true,decide_eq_true_eq,List.all_eq_true] at h
  exact ⟨h.1,h.2.1,h.2.2.1,fun n hn=>dV_iff.1 (h.2.2.2 n hn)⟩
theorem scalar_eq (a:api.Array):Arr.isScalar a = some (decide (a.Shape.length = 0)):=by
  unfold Arr.isScalar
  simp only [letkE,b1]
  congr 1
  rw [decide_eq_decide]; omega
def ixA (a:api.Array) (i:Nat):Nat:=if a.Shape.length = 0 then 0 else i
theorem aAt_eq {a:api.Array} {i:Nat} (h:ixA a i < a.Elems.length):Arr.at_ a (i:Int) = some ⟨a.Kind,a.Elems[ixA a i]⟩:=by
  unfold Arr.at_ Arr.at_.j0
  rw [show Arr.isScalar ⟨a.Kind,a.Shape,a.Elems⟩ = _ from scalar_eq a,bindS]
  unfold ixA at *
  by_cases hs:a.Shape.length = 0
  · simp only [if_pos hs] at h ⊢
    rw [decide_eq_true hs,condT,chk_pos (by decide),show ((0:Int)).toNat = 0 from rfl,List.getElem?_eq_getElem h,bindS]
  · simp only [if_neg hs] at h ⊢
    rw [decide_eq_false hs,condF,chk_pos (by omega),Int.toNat_natCast,List.getElem?_eq_getElem h,bindS]
def shpS (a b:api.Array):Option (List Int):=if a.Shape.length = 0 then some b.Shape else if b.Shape.length = 0 ∨ a.Shape = b.Shape then some a.Shape else none
theorem clone_ok {l:List Int} (h:l.length ≤ 50):Slcs.Clone___int_int_ l = some l:=by
  unfold Slcs.Clone___int_int_
  rw [chk_pos (by omega)]
theorem shEnd (l:List api.Array) (s:List Int) (f:Bool) (k:Nat) (hk:k = l.length) (hs:s.length ≤ 50):Arr.shaped.l0 l l.length s f (k:Int) = some (s,true):=by
  rw [Arr.shaped.l0,loopO_eq,Arr.shaped.s0]
  simp only [letkE]
  rw [decide_eq_false (show ¬ (k:Int) < (l.length:Int) by omega),condF,clone_ok hs]; rfl
theorem shStep (l:List api.Array) (s:List Int) (f:Bool) (k:Nat) (a:api.Array) (ha:l[k]? = some a) (hl:l.length < 100) (hs:s.length ≤ 50) :
    Arr.shaped.l0 l l.length s f (k:Int) = if a.Shape.length = 0 then Arr.shaped.l0 l l.length s f ((k + 1:Nat):Int)
      else if f = false then Arr.shaped.l0 l l.length a.Shape true ((k + 1:Nat):Int) else if s = a.Shape then Arr.shaped.l0 l l.length s f ((k + 1:Nat):Int) else some ([],false):=by
  have hk:k < l.length:=by
    rcases Nat.lt_or_ge k l.length with q | q
    · exact q
    · rw [List.getElem?_eq_none q] at ha; cases ha
  rw [Arr.shaped.l0,loopO_eq,Arr.shaped.s0]
  simp only [letkE]
  rw [decide_eq_true (show (k:Int) < (l.length:Int) by omega),condT,chk_pos (by omega),Int.toNat_natCast,ha,bindS,show Arr.isScalar ⟨a.Kind,a.Shape,a.Elems⟩ = _ from scalar_eq a,bindS,wi (by omega) (by omega)]
  by_cases h0:a.Shape.length = 0
  · rw [decide_eq_true h0,condT,if_pos h0,bindS,Sum.elim_inl]; rfl
  · rw [decide_eq_false h0,condF,if_neg h0]
    cases f
    · rw [if_pos rfl,Bool.not_false,condT,bindS,Sum.elim_inl]; rfl
    · rw [if_neg (by decide),Bool.not_true,condF,eqF (by omega),bindS]
      by_cases he:s = a.Shape
      · rw [decide_eq_true he,if_pos he,Bool.not_true,condF,bindS,Sum.elim_inl]; rfl
      · rw [decide_eq_false he,if_neg he,Bool.not_false,condT,bindS,Sum.elim_inr]
theorem shaped_eq {a b:api.Array} (ha:ArrI a) (hb:ArrI b):Arr.shaped [a,b] = some (match shpS a b with | some s=>(s,true) | none=>([],false)):=by
  unfold Arr.shaped
  simp only [letkE]
  refine (shStep [a,b] [] false 0 a rfl (by simp) (by simp)).trans ?_
  unfold shpS
  have e1:=fun s f hs=>shStep [a,b] s f 1 b rfl (by simp) hs
  by_cases h1:a.Shape.length = 0
  · rw [if_pos h1,if_pos h1,e1 _ _ (by simp)]
    by_cases h2:b.Shape.length = 0
    · have:b.Shape = []:=List.eq_nil_of_length_eq_zero h2
      rw [if_pos h2,shEnd [a,b] _ _ 2 rfl (by simp),this]
    · rw [if_neg h2,if_pos rfl,shEnd [a,b] _ _ 2 rfl hb.s]
  · rw [if_neg h1,if_pos rfl,if_neg h1,e1 _ _ ha.s]
    by_cases h2:b.Shape.length = 0
    · rw [if_pos h2,if_pos (.inl h2),shEnd [a,b] _ _ 2 rfl ha.s]
    · rw [if_neg h2,if_neg (by decide)]
      by_cases h3:a.Shape = b.Shape
      · rw [if_pos h3,if_pos (.inr h3),shEnd [a,b] _ _ 2 rfl ha.s]
      · rw [if_neg h3,if_neg (by rintro (q | q); exact h2 q; exact h3 q)]
def eachG (kind:Int) (shape:List Int) (g:Nat → api.Value × Int):Nat → Nat → List Int → api.Array × Int
  | 0,_,out=>(⟨kind,shape,out⟩,0)
  | m + 1,i,out=>if (g i).2 ≠ 0 then (⟨0,[],[]⟩,(g i).2) else eachG kind shape g m (i + 1) (out ++ [(g i).1.N])
theorem each_l0 {N:Nat} {kind:Int} {shape:List Int} {f:Int → Option (api.Value × Int)} {g:Nat → api.Value × Int} (hN:N ≤ 4000) (hf:∀ i,i < N → f (i:Int) = some (g i)) :
    ∀ (m i:Nat) (out:List Int),i + m = N → out.length = i → Arr.each.l0 (N:Int) f 0 [] [] kind shape out (i:Int) = some (eachG kind shape g m i out):=by
  intro m
  induction m with
  | zero =>
    intro i out hi ho
    rw [Arr.each.l0,loopO_eq,Arr.each.s0]
    simp only [letkE]
    rw [decide_eq_false (show ¬ (i:Int) < (N:Int) by omega),condF]; rfl
  | succ m ih =>
    intro i out hi ho
    rw [Arr.each.l0,loopO_eq,Arr.each.s0]
    simp only [letkE,nb1]
    rw [decide_eq_true (show (i:Int) < (N:Int) by omega),condT,hf i (by omega),bindS]
    unfold eachG
    by_cases h0:(g i).2 = 0
    · rw [decide_eq_true h0,Bool.not_true,condF,if_neg (fun q=>q h0),chk_pos (by rw [List.length_singleton]; omega),wi (by omega) (by omega),bindS,Sum.elim_inl]
      exact ih (i + 1) _ (by omega) (by simp [ho])
    · rw [decide_eq_false h0,Bool.not_false,condT,if_pos h0,bindS,Sum.elim_inr]
theorem each_eq {kind:Int} {shape:List Int} {f:Int → Option (api.Value × Int)} {g:Nat → api.Value × Int} {N:Nat} (hs:shape.length ≤ 50) (hN:szS shape = N) (hN2:N ≤ 4000) (hf:∀ i,i < N → f (i:Int) = some (g i)) :
    Arr.each kind shape f = some (eachG kind shape g N 0 []):=by
  unfold Arr.each
  rw [aSize_eq (by omega),bindS,hN]
  exact each_l0 hN2 hf N 0 [] (by omega) rfl
theorem shp_elems {a b:api.Array} (ha:ArrI a) (hb:ArrI b) (va:vldS a = true) (vb:vldS b = true) {s:List Int} (h:shpS a b = some s) :
    ∃ N:Nat,szS s = N ∧ N ≤ 400 ∧ s.length ≤ 50 ∧ ∀ i,i < N → ixA a i < a.Elems.length ∧ ixA b i < b.Elems.length:=by
  obtain ⟨_,_,sa,_⟩:=vld_facts va
  obtain ⟨_,_,sb,_⟩:=vld_facts vb
  have nil:szS [] = 1:=by decide
  have one:∀ c:api.Array,c.Shape.length = 0 → szS c.Shape = c.Elems.length → c.Elems.length = 1:=by
    intro c h0 h1
    rw [List.eq_nil_of_length_eq_zero h0,nil] at h1
    omega
  unfold shpS at h
  unfold ixA
  by_cases h1:a.Shape.length = 0
  · rw [if_pos h1] at h
    cases h
    have:=one a h1 sa
    refine ⟨b.Elems.length,sb,hb.e,hb.s,fun i hi=>⟨by rw [if_pos h1]; omega,?_⟩⟩
    by_cases h2:b.Shape.length = 0
    · rw [if_pos h2]; omega
    · rw [if_neg h2]; exact hi
  · rw [if_neg h1] at h
    by_cases h2:b.Shape.length = 0 ∨ a.Shape = b.Shape
    · rw [if_pos h2] at h
      cases h
      refine ⟨a.Elems.length,sa,ha.e,ha.s,fun i hi=>⟨by rw [if_neg h1]; exact hi,?_⟩⟩
      by_cases h3:b.Shape.length = 0
      · rw [if_pos h3]; have:=one b h3 sb; omega
      · rw [if_neg h3]
        rw [h2.resolve_left h3] at sa
        omega
    · rw [if_neg h2] at h; cases h
theorem Do_1_eq {op:ByteArray} {a b:api.Array} {i:Nat} (h1:ixA a i < a.Elems.length) (h2:ixA b i < b.Elems.length):Arr.Do_1 (i:Int) op a b = Arr.one op ⟨a.Kind,a.Elems[ixA a i]⟩ ⟨b.Kind,b.Elems[ixA b i]⟩:=by
  unfold Arr.Do_1
  rw [aAt_eq h1,bindS,aAt_eq h2,bindS]
  cases Arr.one op ⟨a.Kind,a.Elems[ixA a i]⟩ ⟨b.Kind,b.Elems[ixA b i]⟩ <;> rfl
noncomputable def elemV (op:ByteArray) (a b:api.Array) (i:Nat):api.Value × Int :=
  (Arr.one op ⟨a.Kind,(a.Elems[ixA a i]?).getD 0⟩ ⟨b.Kind,(b.Elems[ixA b i]?).getD 0⟩).getD (⟨0,0⟩,0)
section
variable {op:ByteArray} {a b:api.Array} (ha:ArrI a) (hb:ArrI b) (va:vldS a = true) (vb:vldS b = true)
include ha hb va vb
theorem elem_eq (hk:kindC (opC (L op)) a.Kind b.Kind ≠ 0) {i:Nat} (h1:ixA a i < a.Elems.length) (h2:ixA b i < b.Elems.length) :
    Arr.one op ⟨a.Kind,a.Elems[ixA a i]⟩ ⟨b.Kind,b.Elems[ixA b i]⟩ = some (elemV op a b i) ∧ ((elemV op a b i).2 = 0 → (elemV op a b i).1.Kind = kindC (opC (L op)) a.Kind b.Kind):=by
  obtain ⟨_,_,_,fa⟩:=vld_facts va
  obtain ⟨_,_,_,fb⟩:=vld_facts vb
  have ma:=List.getElem_mem h1
  have mb:=List.getElem_mem h2
  obtain ⟨r,e,hr⟩:=one_some (op:=op) (a:=⟨a.Kind,a.Elems[ixA a i]⟩) (b:=⟨b.Kind,b.Elems[ixA b i]⟩) (ha.i _ ma) (hb.i _ mb) (fa _ ma) (fb _ mb) hk
  have:elemV op a b i = r:=by
    unfold elemV
    rw [List.getElem?_eq_getElem h1,List.getElem?_eq_getElem h2,Option.getD_some,Option.getD_some,e,Option.getD_some]
  rw [this]
  exact ⟨e,hr⟩
theorem Do_ok (hk:kindC (opC (L op)) a.Kind b.Kind ≠ 0) {s:List Int} (hs:shpS a b = some s) {N:Nat} (hN:szS s = N) (hN4:N ≤ 400) (hsl:s.length ≤ 50) (hix:∀ i,i < N → ixA a i < a.Elems.length ∧ ixA b i < b.Elems.length) :
    Arr.Do op a b = some (eachG (kindC (opC (L op)) a.Kind b.Kind) s (elemV op a b) N 0 []):=by
  unfold Arr.Do Arr.Do.j1 Arr.Do.j0
  rw [show Arr.Valid ⟨a.Kind,a.Shape,a.Elems⟩ = _ from aValid_eq a (by have:=ha.s; omega) (by have:=ha.e; omega),bindS,show Arr.Valid ⟨b.Kind,b.Shape,b.Elems⟩ = _ from aValid_eq b (by have:=hb.s; omega) (by have:=hb.e; omega),va,vb]
  simp only [letkE,Bool.not_true,condF,bindS,aKind_eq,b1]
  rw [decide_eq_false hk,condF,show Arr.shaped [⟨a.Kind,a.Shape,a.Elems⟩,⟨b.Kind,b.Shape,b.Elems⟩] = _ from shaped_eq ha hb,hs,bindS]
  dsimp only
  rw [Bool.not_true,condF,each_eq hsl hN (by omega) (g:=elemV op a b) (fun i hi=>by
    obtain ⟨x1,x2⟩:=hix i hi
    exact (Do_1_eq x1 x2).trans (elem_eq ha hb va vb hk x1 x2).1),bindS]
theorem Do_noshape (hk:kindC (opC (L op)) a.Kind b.Kind ≠ 0) (hs:shpS a b = none):Arr.Do op a b = some (⟨0,[],[]⟩,30):=by
  unfold Arr.Do Arr.Do.j1 Arr.Do.j0
  rw [show Arr.Valid ⟨a.Kind,a.Shape,a.Elems⟩ = _ from aValid_eq a (by have:=ha.s; omega) (by have:=ha.e; omega),bindS,show Arr.Valid ⟨b.Kind,b.Shape,b.Elems⟩ = _ from aValid_eq b (by have:=hb.s; omega) (by have:=hb.e; omega),va,vb]
  simp only [letkE,Bool.not_true,condF,bindS,aKind_eq,b1]
  rw [decide_eq_false hk,condF,show Arr.shaped [⟨a.Kind,a.Shape,a.Elems⟩,⟨b.Kind,b.Shape,b.Elems⟩] = _ from shaped_eq ha hb,hs,bindS]
  rfl
theorem Do_nokind (hk:kindC (opC (L op)) a.Kind b.Kind = 0):Arr.Do op a b = some (⟨0,[],[]⟩,70):=by
  unfold Arr.Do Arr.Do.j1 Arr.Do.j0
  rw [show Arr.Valid ⟨a.Kind,a.Shape,a.Elems⟩ = _ from aValid_eq a (by have:=ha.s; omega) (by have:=ha.e; omega),bindS,show Arr.Valid ⟨b.Kind,b.Shape,b.Elems⟩ = _ from aValid_eq b (by have:=hb.s; omega) (by have:=hb.e; omega),va,vb]
  simp only [letkE,Bool.not_true,condF,bindS,aKind_eq,b1]
  rw [decide_eq_true hk,condT]
end
theorem Do_bad {op:ByteArray} {a b:api.Array} (ha:ArrI a) (hb:ArrI b) (h:vldS a = false ∨ vldS b = false):Arr.Do op a b = some (⟨0,[],[]⟩,2):=by
  unfold Arr.Do Arr.Do.j1
  rw [show Arr.Valid ⟨a.Kind,a.Shape,a.Elems⟩ = _ from aValid_eq a (by have:=ha.s; omega) (by have:=ha.e; omega),bindS,show Arr.Valid ⟨b.Kind,b.Shape,b.Elems⟩ = _ from aValid_eq b (by have:=hb.s; omega) (by have:=hb.e; omega)]
  simp only [letkE,bindS]
  cases hva:vldS a
  · rfl
  · have:=h.resolve_left (by rw [hva]; decide)
    rw [this]; rfl
end Go.Q
