import Derived.Test.YtmfhkipeapdfmaaGreatDoorES
import Derived.Test.YtmfhkipeapdfmaaGreatDoorDX
namespace Go.Q
open Go
set_option maxRecDepth 10000
theorem frac_l0 {s:BS} (hl:s.length ≤ 100) (ha:s.all dgQ = true) (x x0 sg:Int) (w dd:BS) {R:Option (quadratref02.fraction × Bool)}
    (hR:(Option.bind (Ref2.nat.trim (Nt (vd s))) fun t53=>letk (decide (x ≥ (0:Int))) fun t55=>bif t55 then
      Option.bind (Ref2.power x) fun t60=>Option.bind (Ref2.times t53 t60) fun t61=>Option.bind (Ref2.small 1) fun t62=>some ((⟨sg,t61,t62⟩:quadratref02.fraction),true)
    else letk (IntKind.i64.wrap (0 - x)) fun t68=>Option.bind (Ref2.power t68) fun t69=>some ((⟨sg,t53,t69⟩:quadratref02.fraction),true)) = R):∀ (r a:BS),s = a ++ r →
    Ref2.text.fraction.l0 (B s) x sg (B dd) x0 (B w) 0 [] [] (Nt (vd a)) (a.length:Int) = R:=by
  have hsz:(B s).size = s.length:=B_size s
  intro r
  induction r with
  | nil =>
    intro a h1
    rw [List.append_nil] at h1
    subst h1
    unfold Ref2.text.fraction.l0
    refine loopO_stop ?_
    show Ref2.text.fraction.s0 (B s) x sg (B dd) x0 (B w) 0 [] [] (Nt (vd s)) (s.length:Int) = _
    unfold Ref2.text.fraction.s0
    refine letV (y:=(s.length:Int)) (by rw [hsz]) (letF (decide_eq_false (by omega)) ?_)
    exact congrArg (Option.map Sum.inr) hR
  | cons c r ih =>
    intro a h1
    have hb:=bt_at h1
    have hlen:s.length = a.length + (r.length + 1):=by rw [h1,List.length_append,List.length_cons]
    have ha2:a.all dgQ = true ∧ dgQ c = true:=by
      rw [h1,List.all_append,List.all_cons] at ha
      simp only [Bool.and_eq_true] at ha
      exact ⟨ha.1,ha.2.1⟩
    have hbl:=bl_vd ha2.1
    have hcv:=cv_lt ha2.2
    have e:vd (a ++ [c]) = vd a * 10 + cv c:=by rw [vd_append]; show vd a * 10 ^ 1 + (10 * 0 + cv c) = _; omega
    have h10:bl (vd a * 10) ≤ bl (vd a) + bl 10:=bl_mul _ _
    have hb10:bl 10 = 4:=by decide
    have hln:=ln_bl (vd a * 10)
    have key:=ih (a ++ [c]) (by rw [h1,List.append_assoc]; rfl)
    unfold Ref2.text.fraction.l0
    refine loopO_next (t:=(sg,B dd,x0,B w,0,[],[],Nt (vd (a ++ [c])),(((a ++ [c]).length:Nat):Int))) ?_ key
    show Ref2.text.fraction.s0 (B s) x sg (B dd) x0 (B w) 0 [] [] (Nt (vd a)) (a.length:Int) = _
    unfold Ref2.text.fraction.s0
    refine letV (y:=(s.length:Int)) (by rw [hsz]) (letT (decide_eq_true (by omega)) (bindE (small_eq (n:=10) (by decide)) (bindE (tim (by omega) (by decide)) (chkE ⟨Int.natCast_nonneg _,by omega⟩ (letV hb (letV (cv_u8 ha2.2) (letV (y:=((cv c:Nat):Int)) ?_ (bindE (plus_eq (v:=vd a * 10) (b:=cv c) (by omega) (by omega)) (letV (y:=(((a ++ [c]).length:Nat):Int)) ?_ ?_)))))))))
    · rw [w32,Nat.mod_eq_of_lt (by omega)]
    · rw [List.length_append,wi (by omega) (by omega)]; rfl
    · rw [e]
theorem frac_end {v:Nat} (hv:bl v ≤ 2000) {x:Int} (hx:-500 ≤ x ∧ x ≤ 500) (sg:Int) :
    (Option.bind (Ref2.nat.trim (Nt v)) fun t53=>letk (decide (x ≥ (0:Int))) fun t55=>bif t55 then
      Option.bind (Ref2.power x) fun t60=>Option.bind (Ref2.times t53 t60) fun t61=>Option.bind (Ref2.small 1) fun t62=>some ((⟨sg,t61,t62⟩:quadratref02.fraction),true)
    else letk (IntKind.i64.wrap (0 - x)) fun t68=>Option.bind (Ref2.power t68) fun t69=>some ((⟨sg,t53,t69⟩:quadratref02.fraction),true)) =
      some (⟨sg,Nt (v * 10 ^ x.toNat),Nt (10 ^ (-x).toNat)⟩,true):=by
  have hln:=ln_bl v
  have ht:Ref2.nat.trim (Nt v) = some (Nt v):=ntrim_eq (k:=lnB 4294967296 v) (Nat.le_refl _) (by omega)
  refine bindE ht ?_
  by_cases c:x ≥ 0
  · have hp:=rpower_eq (n:=x.toNat) (by omega)
    rw [Int.toNat_of_nonneg c] at hp
    have hb:=bl_ten x.toNat
    refine letT (decide_eq_true c) (bindE hp (bindE (tim (by omega) (by omega)) (bindE (small_eq (n:=1) (by decide)) ?_)))
    rw [show (-x).toNat = 0 by omega,Nat.pow_zero]
  · have hp:=rpower_eq (n:=(-x).toNat) (by omega)
    rw [Int.toNat_of_nonneg (by omega)] at hp
    refine letF (decide_eq_false c) (letV (y:=-x) (by rw [wi (by omega) (by omega)]; omega) (bindE hp ?_))
    rw [show x.toNat = 0 by omega,Nat.pow_zero,Nat.mul_one]
theorem frac_j1 {s:BS} (hl:s.length ≤ 100) (ha:s.all dgQ = true) {x:Int} (hx:-500 ≤ x ∧ x ≤ 500) (x0 sg:Int) (w dd:BS) :
    Ref2.text.fraction.j1 sg (B dd) x0 (B w) 0 [] [] (B s) x = some (⟨sg,Nt (vd s * 10 ^ x.toNat),Nt (10 ^ (-x).toNat)⟩,true):=by
  have hb:=bl_vd ha
  unfold Ref2.text.fraction.j1
  have key:=frac_l0 hl ha x x0 sg w dd (frac_end (v:=vd s) (by omega) hx sg) s [] rfl
  rw [show Nt (vd []) = [] from dgB_zero _] at key
  exact key
def vxD (d:BS) (x:Int):Nat × Int:=if ((shD d).length:Int) + x < -400 then (1,-401) else if ((shD d).length:Int) + x > 401 then (1,401) else (vd d,x)
theorem frac_strip (x0 sg:Int) (w dd:BS):∀ (l:BS),l.length ≤ 10000 → Ref2.text.fraction.l1 sg (B dd) x0 (B w) 0 [] [] (B l) = Ref2.text.fraction.j0 sg (B dd) x0 (B w) 0 [] [] (B (shD l))
  | [],_=>by
    unfold Ref2.text.fraction.l1
    refine loopO_stop ?_
    show Ref2.text.fraction.s1 sg (B dd) x0 (B w) 0 [] [] (B []) = _
    unfold Ref2.text.fraction.s1
    exact letV (y:=0) rfl (letF rfl rfl)
  | c :: r,hl=>by
    rw [List.length_cons] at hl
    obtain ⟨h1,h2,h3⟩:=head_sz c r
    have e48:=beqN c 48 (by decide)
    unfold Ref2.text.fraction.l1
    cases h48:(c == 48) with
    | true =>
      have hsh:shD (c :: r) = shD r:=by unfold shD; rw [List.dropWhile_cons,h48]; rfl
      rw [hsh,← frac_strip x0 sg w dd r (by omega)]
      refine loopO_next (t:=(sg,B dd,x0,B w,0,[],[],B r)) ?_ rfl
      show Ref2.text.fraction.s1 sg (B dd) x0 (B w) 0 [] [] (B (c :: r)) = _
      unfold Ref2.text.fraction.s1
      exact letV (y:=((r.length + 1:Nat):Int)) (by rw [h1]) (letT (decide_eq_true (by omega)) (chkE (by omega) (letV h2 (letT (e48.trans h48) (chkE (by omega) (letV h3 rfl))))))
    | false =>
      have hsh:shD (c :: r) = c :: r:=by unfold shD; rw [List.dropWhile_cons,h48]; rfl
      rw [hsh]
      refine loopO_stop ?_
      show Ref2.text.fraction.s1 sg (B dd) x0 (B w) 0 [] [] (B (c :: r)) = _
      unfold Ref2.text.fraction.s1
      exact letV (y:=((r.length + 1:Nat):Int)) (by rw [h1]) (letT (decide_eq_true (by omega)) (chkE (by omega) (letV h2 (letF (e48.trans h48) rfl))))
theorem rfrac_pos {d w:BS} {sg x:Int} (ha:d.all dgQ = true) (hl:d.length ≤ 100) (hx:-20000 ≤ x ∧ x ≤ 20000) (hv:0 < vd d) :
    Ref2.text.fraction ⟨sg,B d,x,B w⟩ = some (⟨sg,Nt ((vxD d x).1 * 10 ^ (vxD d x).2.toNat),Nt (10 ^ (-(vxD d x).2).toNat)⟩,true):=by
  have hs:=shD_len d
  have hne:shD d ≠ []:=fun h=>by have:=(shD_nil ha).1 h; omega
  have hsz:(B (shD d)).size = (shD d).length:=B_size _
  unfold Ref2.text.fraction
  refine (frac_strip x sg w d d (by omega)).trans ?_
  unfold Ref2.text.fraction.j0
  refine letF (by rw [nil_eq]; exact decide_eq_false hne) (letV (y:=((shD d).length:Int)) (by rw [hsz]) (letV (y:=((shD d).length:Int) + x) (wi (by omega) (by omega)) ?_))
  unfold vxD
  by_cases c1:((shD d).length:Int) + x < -400
  · rw [if_pos c1]
    obtain ⟨X,hX⟩:∃ X:Int,X = -401:=⟨_,rfl⟩
    refine letT (decide_eq_true c1) ?_
    rw [← hX]
    exact frac_j1 (s:=[49]) (by decide) (by decide) (by omega) x sg w d
  · rw [if_neg c1]
    refine letF (decide_eq_false c1) (letV (y:=((shD d).length:Int)) (by rw [hsz]) (letV (y:=((shD d).length:Int) + x) (wi (by omega) (by omega)) ?_))
    by_cases c2:((shD d).length:Int) + x > 401
    · rw [if_pos c2]
      obtain ⟨X,hX⟩:∃ X:Int,X = 401:=⟨_,rfl⟩
      refine letT (decide_eq_true c2) ?_
      rw [← hX]
      exact frac_j1 (s:=[49]) (by decide) (by decide) (by omega) x sg w d
    · rw [if_neg c2]
      refine letF (decide_eq_false c2) ?_
      have:=frac_j1 (s:=shD d) (by omega) (shD_all ha) (x:=x) (by omega) x sg w d
      rw [shD_vd] at this
      exact this
theorem atD_len {d:BS} {x:Int}:atD d (x + d.length) = x + (shD d).length:=by
  have:=shD_len d
  unfold atD; omega
theorem two_tenF (n:Nat):2 ^ (3 * n) ≤ 10 ^ n:=by rw [Nat.pow_mul]; exact Nat.pow_le_pow_left (by decide) n
theorem bl_ge {a k:Nat} (h:2 ^ k ≤ a):k < bl a:=by
  rcases Nat.lt_or_ge k (bl a) with h1 | h1
  · exact h1
  · have:=bl_le_iff.1 h1; omega
theorem same_round {kind mode:Int} {p w:Nat} (h:kindS kind p w) (hm:0 ≤ mode ∧ mode < 4) {s:Nat} (hs:s < 2) {d:BS} {x:Int} (ha:d.all dgQ = true) (hl:d.length ≤ 100) (hx:-20000 ≤ x ∧ x ≤ 20000) (hv:0 < vd d) :
    Dec.round kind mode s (B d) (x + d.length) = some ((rndF p w mode s ((vxD d x).1 * 10 ^ (vxD d x).2.toNat) (10 ^ (-(vxD d x).2).toNat)).1,(rndF p w mode s ((vxD d x).1 * 10 ^ (vxD d x).2.toNat) (10 ^ (-(vxD d x).2).toNat)).2,0):=by
  have hat:=atD_len (d:=d) (x:=x)
  have hsl:=shD_len d
  have hsg:(s:Int) = 0 ∨ (s:Int) = 1:=by omega
  have hlo:10 ^ ((shD d).length - 1) ≤ vd d ∧ 0 < (shD d).length:=by
    cases hsd:shD d with
    | nil=>have:=(shD_nil ha).1 hsd; omega
    | cons c r =>
      have:=vd_low (shD_head hsd) (hsd ▸ shD_all ha)
      rw [← hsd,shD_vd] at this
      exact ⟨this,by rw [List.length_cons]; omega⟩
  obtain ⟨X,hX⟩:∃ X:Nat,X = 401:=⟨_,rfl⟩
  obtain ⟨K,hK⟩:∃ K:Nat,K = 1100:=⟨_,rfl⟩
  have hten:∀ n:Nat,3 * n < bl (10 ^ n):=fun n=>bl_ge (two_tenF n)
  unfold vxD
  by_cases c1:((shD d).length:Int) + x < -400
  · obtain ⟨z,hz⟩:∃ z:Int,z = -2000:=⟨_,rfl⟩
    obtain ⟨Z,hZ⟩:∃ Z:Int,Z = -401:=⟨_,rfl⟩
    rw [if_pos c1,← hZ,round_down h hm hsg ha (by omega) (by omega) hv (by omega)]
    have e1:rndS p w mode s 1 (-2000) false = rndF p w mode s (1 * 10 ^ Z.toNat) (10 ^ (-Z).toNat):=by
      rw [← hz,← rndF_two (by decide),show Z.toNat = 0 by omega,show (-Z).toNat = X by omega]
      have hp1:(2:Nat) ^ K < 2 ^ (-z).toNat:=Nat.pow_lt_pow_right (by decide) (by omega)
      have hp2:(2:Nat) ^ K < 10 ^ X:=Nat.lt_of_lt_of_le (Nat.pow_lt_pow_right (by decide) (by omega)) (two_tenF X)
      rw [rnd_tiny h.ok (by rw [show z.toNat = 0 by omega]; decide) (Nat.two_pow_pos _) hK (by rw [show z.toNat = 0 by omega,Nat.pow_zero,Nat.mul_one,Nat.one_mul]; exact hp1)]
      rw [rnd_tiny h.ok (by decide) (Nat.pow_pos (by decide)) hK (by rw [Nat.pow_zero,Nat.mul_one,Nat.one_mul]; exact hp2)]
    rw [e1]
  · rw [if_neg c1]
    by_cases c2:((shD d).length:Int) + x > 401
    · obtain ⟨z,hz⟩:∃ z:Int,z = 2000:=⟨_,rfl⟩
      obtain ⟨Z,hZ⟩:∃ Z:Int,Z = 401:=⟨_,rfl⟩
      rw [if_pos c2,← hZ,round_up h hm hsg ha (by omega) (by omega) hv (by omega)]
      have e1:rndS p w mode s 1 2000 false = rndF p w mode s (1 * 10 ^ Z.toNat) (10 ^ (-Z).toNat):=by
        rw [← hz,← rndF_two (by decide),show Z.toNat = X by omega,show (-Z).toNat = 0 by omega,show (-z).toNat = 0 by omega]
        have h1:=hten X
        have h2:z.toNat < bl (2 ^ z.toNat):=bl_ge (Nat.le_refl _)
        have h3:bl 1 = 1:=by decide
        rw [rnd_great h.ok (by rw [Nat.one_mul]; exact Nat.two_pow_pos _) (by decide) (by rw [Nat.one_mul,Nat.pow_zero]; omega)]
        rw [rnd_great h.ok (by rw [Nat.one_mul]; exact Nat.pow_pos (by decide)) (by decide) (by rw [Nat.one_mul,Nat.pow_zero]; omega)]
      rw [e1]
    · rw [if_neg c2]
      by_cases c3:((shD d).length:Int) + x = 401
      · rw [round_up h hm hsg ha (by omega) (by omega) hv (by omega)]
        obtain ⟨z,hz⟩:∃ z:Int,z = 2000:=⟨_,rfl⟩
        have e1:rndS p w mode s 1 2000 false = rndF p w mode s (vd d * 10 ^ x.toNat) (10 ^ (-x).toNat):=by
          rw [← hz,← rndF_two (by decide),show (-x).toNat = 0 by omega,show (-z).toNat = 0 by omega]
          have hge:10 ^ (X - 1) ≤ vd d * 10 ^ x.toNat:=by
            have:=Nat.mul_le_mul_right (10 ^ x.toNat) hlo.1
            rw [← Nat.pow_add] at this
            rwa [show (shD d).length - 1 + x.toNat = X - 1 by omega] at this
          have h1:=hten (X - 1)
          have h4:=bl_mono hge
          have h2:z.toNat < bl (2 ^ z.toNat):=bl_ge (Nat.le_refl _)
          have h3:bl 1 = 1:=by decide
          rw [rnd_great h.ok (by rw [Nat.one_mul]; exact Nat.two_pow_pos _) (by decide) (by rw [Nat.one_mul,Nat.pow_zero]; omega)]
          rw [rnd_great h.ok (Nat.mul_pos hv (Nat.pow_pos (by decide))) (by decide) (by rw [Nat.pow_zero]; omega)]
        rw [e1]
      · rw [round_in h hm hsg ha (by omega) (by omega) hv (by omega) (by omega)]
        have e1:x + (d.length:Int) - d.length = x:=by omega
        have e2:(d.length:Int) - (x + d.length) = -x:=by omega
        rw [e1,e2]
theorem vx_bits {d:BS} {x:Int} (ha:d.all dgQ = true) (hl:d.length ≤ 100) (hv:0 < vd d):0 < (vxD d x).1 * 10 ^ (vxD d x).2.toNat ∧ 0 < 10 ^ (-(vxD d x).2).toNat ∧ bl ((vxD d x).1 * 10 ^ (vxD d x).2.toNat) ≤ 20000 ∧ bl (10 ^ (-(vxD d x).2).toNat) ≤ 20000:=by
  have hb:=bl_vd ha
  have hsl:=shD_len d
  have h2:=bl_mul (vxD d x).1 (10 ^ (vxD d x).2.toNat)
  have h3:=bl_ten (vxD d x).2.toNat
  have h4:=bl_ten (-(vxD d x).2).toNat
  have h5:-501 ≤ (vxD d x).2 ∧ (vxD d x).2 ≤ 401:=by
    unfold vxD
    split
    · exact ⟨by decide,by decide⟩
    · split
      · exact ⟨by decide,by decide⟩
      · show -501 ≤ x ∧ x ≤ 401; omega
  have h6:0 < (vxD d x).1 ∧ bl (vxD d x).1 ≤ 10000:=by
    unfold vxD
    split
    · exact ⟨by decide,by decide⟩
    · split
      · exact ⟨by decide,by decide⟩
      · exact ⟨hv,by show bl (vd d) ≤ _; omega⟩
  exact ⟨Nat.mul_pos h6.1 (Nat.pow_pos (by decide)),Nat.pow_pos (by decide),by omega,by omega⟩
end Go.Q
