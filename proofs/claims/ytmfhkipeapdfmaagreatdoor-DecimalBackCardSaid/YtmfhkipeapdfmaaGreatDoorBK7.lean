import Derived.Test.YtmfhkipeapdfmaaGreatDoorBL
namespace Go.Q
open Go
set_option maxRecDepth 10000
theorem trim_facts {c:BS} (ha:c.all dgQ = true) (h1:1 ≤ c.length) (hl:10 ^ (c.length - 1) ≤ vd c):∃ z,c = trD c ++ List.replicate z 48 ∧ (trD c).all dgQ = true ∧ 1 ≤ (trD c).length ∧ 10 ^ ((trD c).length - 1) ≤ vd (trD c) ∧ (trD c).length ≤ c.length:=by
  obtain ⟨z,hz⟩:=trD_split c
  have hal:(trD c).all dgQ = true:=by
    have:=ha
    rw [hz,List.all_append,Bool.and_eq_true] at this
    exact this.1
  have hlen:=congrArg List.length hz
  rw [List.length_append,List.length_replicate] at hlen
  have hv:=congrArg vd hz
  rw [vd_append,vd_zeros,List.length_replicate,Nat.add_zero] at hv
  have hpos:1 ≤ (trD c).length:=by
    rcases Nat.eq_zero_or_pos (trD c).length with q | q
    · rw [List.length_eq_zero_iff] at q
      rw [q,vd_nil,Nat.zero_mul] at hv
      have:=Nat.pow_pos (n:=c.length - 1) (show 0 < 10 by decide)
      omega
    · exact q
  refine ⟨z,hz,hal,hpos,?_,by omega⟩
  rw [hv,show c.length - 1 = (trD c).length - 1 + z by omega,Nat.pow_add] at hl
  exact Nat.le_of_mul_le_mul_right hl (Nat.pow_pos (by decide))
theorem exT_plain {e:BS} (he:e ≠ []) (hl:e.length ≤ 4) (ha:e.all dgQ = true):exT e = some (vd e:Int):=by
  obtain ⟨c,r,hc⟩:∃ c r,e = c :: r:=by cases e with | nil=>exact absurd rfl he | cons c r=>exact ⟨c,r,rfl⟩
  have hcd:dgQ c = true:=by rw [hc] at ha; simp only [List.all_cons,Bool.and_eq_true] at ha; exact ha.1
  have hh:∀ x:UInt8,x.toNat < 48 → hd x e = false:=fun x hx=>by
    rw [hc]
    have:=dgQ_b hcd
    show (c == x) = false
    refine beq_eq_false_iff_ne.2 fun q=>?_
    subst q; omega
  unfold exT
  simp only [hh 45 (by decide),hh 43 (by decide),Bool.or_self,Bool.false_eq_true,if_false]
  rw [if_neg]
  rintro (q | q | q)
  · exact he q
  · omega
  · rw [ha] at q; cases q
theorem exT_itoa {n:Int} (hn:-999 ≤ n ∧ n ≤ 999):exT (Lib.itoa n) = some n:=by
  rcases Int.lt_or_le n 0 with h | h
  · obtain ⟨u,rfl⟩:∃ u:Nat,n = -(u:Int):=⟨n.natAbs,by omega⟩
    rw [Lib.itoa_neg u (by omega),← Lib.itoa_nonneg u,itoa_ds (by omega)]
    rw [exT_sgn (.inl rfl) (ds_ne (by omega)) (by rw [← itoa_ds (by omega)]; have:=itoa_len (n:=u) (k:=3) (by omega) (by decide); omega) (ds_all u),if_pos rfl,vd_ds]
  · obtain ⟨u,rfl⟩:∃ u:Nat,n = (u:Int):=⟨n.toNat,by omega⟩
    obtain ⟨iv,ia⟩:=itoa_vd u
    have hne:(Lib.itoa (u:Int)) ≠ []:=by
      rcases Nat.eq_zero_or_pos u with q | q
      · rw [q,show ((0:Nat):Int) = 0 from rfl,itoa_zero]; exact List.cons_ne_nil _ _
      · rw [itoa_ds q]; exact ds_ne q
    rw [exT_plain hne (by have:=itoa_len (n:=u) (k:=3) (by omega) (by decide); omega) ia,iv]
theorem Itoa_any {n:Int} (hn:-999 ≤ n ∧ n ≤ 999):Strconv.Itoa n = some (B (Lib.itoa n)):=by
  unfold Strconv.Itoa
  rw [chk_pos (by omega)]
theorem itoa_len4 {n:Int} (hn:-999 ≤ n ∧ n ≤ 999):(Lib.itoa n).length ≤ 4:=by
  rcases Int.lt_or_le n 0 with h | h
  · obtain ⟨u,rfl⟩:∃ u:Nat,n = -(u:Int):=⟨n.natAbs,by omega⟩
    rw [Lib.itoa_neg u (by omega),← Lib.itoa_nonneg u,List.length_cons]
    have:=itoa_len (n:=u) (k:=3) (by omega) (by decide); omega
  · obtain ⟨u,rfl⟩:∃ u:Nat,n = (u:Int):=⟨n.toNat,by omega⟩
    have:=itoa_len (n:=u) (k:=3) (by omega) (by decide); omega
variable {sg:Int} (hs:sg = 0 ∨ sg = 1) {c:BS} {k:Int} (h1:1 ≤ c.length) (hl:c.length ≤ 17) (hk:-400 ≤ k ∧ k ≤ 400)
include hs h1 hl hk
theorem plain_exp:Dec.Plain.j1 sg k (B c) true = some (B (minD sg ++ c.take 1 ++ [46] ++ (c.drop 1 ++ List.replicate (2 - c.length) 48) ++ [69] ++ Lib.itoa (k - 1)),0):=by
  have sz:∀ l:BS,(B l).size = l.length:=B_size
  have hml:(minD sg).length ≤ 1:=by unfold minD; split <;> simp
  have hi:=itoa_len4 (n:=k - 1) (by omega)
  have k46:(⟨#[46]⟩:ByteArray).size = 1:=rfl
  have k69:(⟨#[69]⟩:ByteArray).size = 1:=rfl
  unfold Dec.Plain.j1
  refine condT rfl (bindE (minus_eq hs) (chkE (by rw [sz]; omega) (letV (y:=B (c.take 1)) (take_B c 1) (chkE (by rw [sz,sz,List.length_take]; omega) (letV (B_app _ _) (chkE (by rw [sz,List.length_append,List.length_take]; omega) (letV (B_app _ [46]) (chkE (by rw [sz]; omega) (letV (y:=B (c.drop 1)) (drop_B c 1)
    (chkE (by rw [sz,sz]; simp; omega) (letV (B_app _ _) (letV (y:=(c.length:Int)) (by rw [sz]) (letV (wi (by omega) (by omega)) (letV (y:=if (c.length:Int) - 1 < 1 then (c.length:Int) - 1 else 1) rfl (letV (y:=((2 - c.length:Nat):Int)) ?_ (bindE (rep0 (by omega)) (chkE (by rw [sz,sz]; simp; omega) (letV (B_app _ _)
    (chkE (by rw [sz]; simp; omega) (letV (B_app _ [69]) (letV (wi (by omega) (by omega)) (bindE (Itoa_any (by omega)) (chkE (by rw [sz,sz]; simp; omega) (letV (B_app _ _) ?_))))))))))))))))))))))))
  · split <;> rw [wi (by omega) (by omega)] <;> omega
  · congr 3
    simp
theorem plain_low (hk0:k ≤ 0):Dec.Plain.j1 sg k (B c) false = some (B (minD sg ++ [48] ++ [46] ++ (List.replicate (-k).toNat 48 ++ c)),0):=by
  have sz:∀ l:BS,(B l).size = l.length:=B_size
  have hml:(minD sg).length ≤ 1:=by unfold minD; split <;> simp
  have k2:(⟨#[48,46]⟩:ByteArray).size = 2:=rfl
  unfold Dec.Plain.j1
  refine condF rfl (letT (decide_eq_true hk0) (bindE (minus_eq hs) (chkE (by rw [sz]; omega) (letV (B_app _ [48,46]) (letV (y:=(((-k).toNat:Nat):Int)) (by rw [wi (by omega) (by omega)]; omega) (bindE (rep0 (by omega)) (chkE (by rw [sz,sz]; simp; omega) (letV (B_app _ _) (chkE (by rw [sz,sz]; simp; omega) (letV (B_app _ _) ?_))))))))))
  congr 3
  simp
theorem plain_mid (hk0:0 < k) {n:Nat} (hn:k = n):Dec.Plain.j1 sg k (B c) false = some (B (ptD sg (c ++ List.replicate (n + 1 - c.length) 48) (c.length + (n + 1 - c.length) - n)),0):=by
  have sz:∀ l:BS,(B l).size = l.length:=B_size
  have hml:(minD sg).length ≤ 1:=by unfold minD; split <;> simp
  obtain ⟨S,hS⟩:∃ S,S = c ++ List.replicate (n + 1 - c.length) 48:=⟨_,rfl⟩
  have hSl:S.length = c.length + (n + 1 - c.length):=by rw [hS,List.length_append,List.length_replicate]
  have k1:(⟨#[46]⟩:ByteArray).size = 1:=rfl
  unfold Dec.Plain.j1
  refine condF rfl (letF (decide_eq_false (by omega)) ?_)
  unfold Dec.Plain.j0
  refine letV (wi (by omega) (by omega)) (letV (y:=(c.length:Int)) (by rw [sz]) (letV (wi (by omega) (by omega)) (letV (y:=((n + 1 - c.length:Nat):Int)) (by split <;> omega) (bindE (rep0 (by omega)) (chkE (by rw [sz,sz]; simp; omega) (letV (y:=B S) (by rw [B_app,← hS]) (bindE (minus_eq hs)
    (chkE (by rw [sz]; omega) (letV (y:=B (S.take n)) (by rw [hn,Int.toNat_natCast,take_B]) (chkE (by rw [sz,sz,List.length_take]; omega) (letV (B_app _ _) (chkE (by rw [sz,List.length_append,List.length_take]; omega) (letV (B_app _ [46]) (chkE (by rw [sz]; omega) (letV (y:=B (S.drop n)) (by rw [hn,Int.toNat_natCast,drop_B]) (chkE (by rw [sz,sz]; simp; omega) (letV (B_app _ _) ?_)))))))))))))))))
  rw [← hS]
  unfold ptD
  rw [show S.length - (c.length + (n + 1 - c.length) - n) = n by omega]
end Go.Q
