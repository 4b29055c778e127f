import Derived.Test.YtmfhkipeapdfmaaGreatDoorES
import Derived.Test.YtmfhkipeapdfmaaGreatDoorDFR
import Derived.Test.YtmfhkipeapdfmaaGreatDoorDX
namespace Go.Q
open Go
set_option maxRecDepth 10000
theorem frac_l0 {s:BS} (hl:s.length ≤ 100) (ha:s.all dgQ = true) (x x0 sg:Int) (w dd:BS) {R:Option (quadratref02.fraction × Bool)}
    (hR:(Option.bind (Ref2.nat.trim (Nt (vd s))) fun t53=>letk (decide (x ≥ (0:Int))) fun t55=>bif t55 then
      Option.bind (Ref2.power x) fun t60=>Option.bind (Ref2.times t53 t60) fun t61=>Option.bind (Ref2.small 1) fun t62=>some ((⟨sg,t61,t62⟩:quadratref02.fraction),true)
    else letk (IntKind.i64.wrap (0 - x)) fun t68=>Option.bind (Ref2.power t68) fun t69=>some ((⟨sg,t53,t69⟩:quadratref02.fraction),true)) = R):∀ (r a:BS),s = a ++ r →
    Ref2.text.fraction.l0 (B s) x sg (B dd) x0 (B w) 0 [] [] (Nt (vd a)) (a.length:Int) = R:=by
  have hsz:(B s).size = s.length:=B_size s
  intro r
  induction r with
  | nil =>
    intro a h1
    rw [List.append_nil] at h1
    subst h1
    unfold Ref2.text.fraction.l0
    refine loopO_stop ?_
    show Ref2.text.fraction.s0 (B s) x sg (B dd) x0 (B w) 0 [] [] (Nt (vd s)) (s.length:Int) = _
    unfold Ref2.text.fraction.s0
    refine letV (y:=(s.length:Int)) (by rw [hsz]) (letF (decide_eq_false (by omega)) ?_)
    exact congrArg (Option.map Sum.inr) hR
  | cons c r ih =>
    intro a h1
    have hb:=bt_at h1
    have hlen:s.length = a.length + (r.length + 1):=by rw [h1,List.length_append,List.length_cons]
    have ha2:a.all dgQ = true ∧ dgQ c = true:=by
      rw [h1,List.all_append,List.all_cons] at ha
      simp only [Bool.and_eq_true] at ha
      exact ⟨ha.1,ha.2.1⟩
    have hbl:=bl_vd ha2.1
    have hcv:=cv_lt ha2.2
    have e:vd (a ++ [c]) = vd a * 10 + cv c:=by rw [vd_append]; show vd a * 10 ^ 1 + (10 * 0 + cv c) = _; omega
    have h10:bl (vd a * 10) ≤ bl (vd a) + bl 10:=bl_mul _ _
    have hb10:bl 10 = 4:=by decide
    have hln:=ln_bl (vd a * 10)
    have key:=ih (a ++ [c]) (by rw [h1,List.append_assoc]; rfl)
    unfold Ref2.text.fraction.l0
    refine loopO_next (t:=(sg,B dd,x0,B w,0,[],[],Nt (vd (a ++ [c])),(((a ++ [c]).length:Nat):Int))) ?_ key
    show Ref2.text.fraction.s0 (B s) x sg (B dd) x0 (B w) 0 [] [] (Nt (vd a)) (a.length:Int) = _
    unfold Ref2.text.fraction.s0
    refine letV (y:=(s.length:Int)) (by rw [hsz]) (letT (decide_eq_true (by omega)) (bindE (small_eq (n:=10) (by decide)) (bindE (tim (by omega) (by decide)) (chkE ⟨Int.natCast_nonneg _,by omega⟩ (letV hb (letV (cv_u8 ha2.2) (letV (y:=((cv c:Nat):Int)) ?_ (bindE (plus_eq (v:=vd a * 10) (b:=cv c) (by omega) (by omega)) (letV (y:=(((a ++ [c]).length:Nat):Int)) ?_ ?_)))))))))
    · rw [w32,Nat.mod_eq_of_lt (by omega)]
    · rw [List.length_append,wi (by omega) (by omega)]; rfl
    · rw [e]
theorem frac_end {v:Nat} (hv:bl v ≤ 2000) {x:Int} (hx:-500 ≤ x ∧ x ≤ 500) (sg:Int) :
    (Option.bind (Ref2.nat.trim (Nt v)) fun t53=>letk (decide (x ≥ (0:Int))) fun t55=>bif t55 then
      Option.bind (Ref2.power x) fun t60=>Option.bind (Ref2.times t53 t60) fun t61=>Option.bind (Ref2.small 1) fun t62=>some ((⟨sg,t61,t62⟩:quadratref02.fraction),true)
    else letk (IntKind.i64.wrap (0 - x)) fun t68=>Option.bind (Ref2.power t68) fun t69=>some ((⟨sg,t53,t69⟩:quadratref02.fraction),true)) =
      some (⟨sg,Nt (v * 10 ^ x.toNat),Nt (10 ^ (-x).toNat)⟩,true):=by
  have hln:=ln_bl v
  have ht:Ref2.nat.trim (Nt v) = some (Nt v):=ntrim_eq (k:=lnB 4294967296 v) (Nat.le_refl _) (by omega)
  refine bindE ht ?_
  by_cases c:x ≥ 0
  · have hp:=rpower_eq (n:=x.toNat) (by omega)
    rw [Int.toNat_of_nonneg c] at hp
    have hb:=bl_ten x.toNat
    refine letT (decide_eq_true c) (bindE hp (bindE (tim (by omega) (by omega)) (bindE (small_eq (n:=1) (by decide)) ?_)))
    rw [show (-x).toNat = 0 by omega,Nat.pow_zero]
  · have hp:=rpower_eq (n:=(-x).toNat) (by omega)
    rw [Int.toNat_of_nonneg (by omega)] at hp
    refine letF (decide_eq_false c) (letV (y:=-x) (by rw [wi (by omega) (by omega)]; omega) (bindE hp ?_))
    rw [show x.toNat = 0 by omega,Nat.pow_zero,Nat.mul_one]
theorem frac_j1 {s:BS} (hl:s.length ≤ 100) (ha:s.all dgQ = true) {x:Int} (hx:-500 ≤ x ∧ x ≤ 500) (x0 sg:Int) (w dd:BS) :
    Ref2.text.fraction.j1 sg (B dd) x0 (B w) 0 [] [] (B s) x = some (⟨sg,Nt (vd s * 10 ^ x.toNat),Nt (10 ^ (-x).toNat)⟩,true):=by
  have hb:=bl_vd ha
  unfold Ref2.text.fraction.j1
  have key:=frac_l0 hl ha x x0 sg w dd (frac_end (v:=vd s) (by omega) hx sg) s [] rfl
  rw [show Nt (vd []) = [] from dgB_zero _] at key
  exact key
def vxD (d:BS) (x:Int):Nat × Int:=if ((shD d).length:Int) + x < -400 then (1,-401) else if ((shD d).length:Int) + x > 401 then (1,401) else (vd d,x)
theorem frac_strip (x0 sg:Int) (w dd:BS):∀ (l:BS),l.length ≤ 1000 → Ref2.text.fraction.l1 sg (B dd) x0 (B w) 0 [] [] (B l) = Ref2.text.fraction.j0 sg (B dd) x0 (B w) 0 [] [] (B (shD l))
  | [],_=>by
    unfold Ref2.text.fraction.l1
    refine loopO_stop ?_
    show Ref2.text.fraction.s1 sg (B dd) x0 (B w) 0 [] [] (B []) = _
    unfold Ref2.text.fraction.s1
    exact letV (y:=0) rfl (letF rfl rfl)
  | c :: r,hl=>by
    rw [List.length_cons] at hl
    obtain ⟨h1,h2,h3⟩:=head_sz c r
    have e48:=beqN c 48 (by decide)
    unfold Ref2.text.fraction.l1
    cases h48:(c == 48) with
    | true =>
      have hsh:shD (c :: r) = shD r:=by unfold shD; rw [List.dropWhile_cons,h48]; rfl
      rw [hsh,← frac_strip x0 sg w dd r (by omega)]
      refine loopO_next (t:=(sg,B dd,x0,B w,0,[],[],B r)) ?_ rfl
      show Ref2.text.fraction.s1 sg (B dd) x0 (B w) 0 [] [] (B (c :: r)) = _
      unfold Ref2.text.fraction.s1
      exact letV (y:=((r.length + 1:Nat):Int)) (by rw [h1]) (letT (decide_eq_true (by omega)) (chkE (by omega) (letV h2 (letT (e48.trans h48) (chkE (by omega) (letV h3 rfl))))))
    | false =>
      have hsh:shD (c :: r) = c :: r:=by unfold shD; rw [List.dropWhile_cons,h48]; rfl
      rw [hsh]
      refine loopO_stop ?_
      show Ref2.text.fraction.s1 sg (B dd) x0 (B w) 0 [] [] (B (c :: r)) = _
      unfold Ref2.text.fraction.s1
      exact letV (y:=((r.length + 1:Nat):Int)) (by rw [h1]) (letT (decide_eq_true (by omega)) (chkE (by omega) (letV h2 (letF (e48.trans h48) rfl))))
theorem rfrac_zero {d w:BS} {sg x:Int} (ha:d.all dgQ = true) (hl:d.length ≤ 100) (hv:vd d = 0):Ref2.text.fraction ⟨sg,B d,x,B w⟩ = some (⟨0,[],[]⟩,false):=by
  unfold Ref2.text.fraction
  refine (frac_strip x sg w d d (by omega)).trans ?_
  rw [(shD_nil ha).2 hv]
  unfold Ref2.text.fraction.j0
  exact letT (by rw [nil_eq]; rfl) rfl
theorem rfrac_pos {d w:BS} {sg x:Int} (ha:d.all dgQ = true) (hl:d.length ≤ 100) (hx:-20000 ≤ x ∧ x ≤ 20000) (hv:0 < vd d) :
    Ref2.text.fraction ⟨sg,B d,x,B w⟩ = some (⟨sg,Nt ((vxD d x).1 * 10 ^ (vxD d x).2.toNat),Nt (10 ^ (-(vxD d x).2).toNat)⟩,true):=by
  have hs:=shD_len d
  have hne:shD d ≠ []:=fun h=>by have:=(shD_nil ha).1 h; omega
  have hsz:(B (shD d)).size = (shD d).length:=B_size _
  unfold Ref2.text.fraction
  refine (frac_strip x sg w d d (by omega)).trans ?_
  unfold Ref2.text.fraction.j0
  refine letF (by rw [nil_eq]; exact decide_eq_false hne) (letV (y:=((shD d).length:Int)) (by rw [hsz]) (letV (y:=((shD d).length:Int) + x) (wi (by omega) (by omega)) ?_))
  unfold vxD
  by_cases c1:((shD d).length:Int) + x < -400
  · rw [if_pos c1]
    obtain ⟨X,hX⟩:∃ X:Int,X = -401:=⟨_,rfl⟩
    refine letT (decide_eq_true c1) ?_
    rw [← hX]
    exact frac_j1 (s:=[49]) (by decide) (by decide) (by omega) x sg w d
  · rw [if_neg c1]
    refine letF (decide_eq_false c1) (letV (y:=((shD d).length:Int)) (by rw [hsz]) (letV (y:=((shD d).length:Int) + x) (wi (by omega) (by omega)) ?_))
    by_cases c2:((shD d).length:Int) + x > 401
    · rw [if_pos c2]
      obtain ⟨X,hX⟩:∃ X:Int,X = 401:=⟨_,rfl⟩
      refine letT (decide_eq_true c2) ?_
      rw [← hX]
      exact frac_j1 (s:=[49]) (by decide) (by decide) (by omega) x sg w d
    · rw [if_neg c2]
      refine letF (decide_eq_false c2) ?_
      have:=frac_j1 (s:=shD d) (by omega) (shD_all ha) (x:=x) (by omega) x sg w d
      rw [shD_vd] at this
      exact this
theorem exT_lim {e:BS} {n:Int} (h:exT e = some n):-10000 ≤ n ∧ n ≤ 10000:=by
  unfold exT at h
  simp only at h
  generalize (if (hd 45 e || hd 43 e) = true then e.tail else e) = t at h
  split at h
  · cases h
  · rename_i c
    cases h
    have hl:t.length ≤ 4:=Nat.le_of_not_lt fun hh=>c (.inr (.inl hh))
    have ha:t.all dgQ = true:=by cases hh:t.all dgQ with | true=>rfl | false=>exact absurd (.inr (.inr hh)) c
    have hv:=vd_lt t ha
    have hv4:10 ^ t.length ≤ 10 ^ 4:=Nat.pow_le_pow_right (by decide) hl
    split <;> omega
theorem dgT_lim {s d:BS} {x:Int} (h:dgT s = some (d,x)):-10100 ≤ x ∧ x ≤ 10100:=by
  have hd:=(dgT_dig h).2.2
  rw [dgT_eq] at h
  split at h
  · cases h
  · cases ht:tlT (nmT s).2.2 with
    | none=>rw [ht] at h; cases h
    | some n =>
      rw [ht] at h
      cases h
      rw [List.length_append] at hd
      have:-10000 ≤ n ∧ n ≤ 10000:=by
        cases hr:(nmT s).2.2 with
        | nil=>rw [hr] at ht; cases ht; omega
        | cons c e =>
          rw [hr] at ht
          have ht':(if isE c = true then exT e else none) = some n:=ht
          split at ht'
          · exact exT_lim ht'
          · cases ht'
      omega
theorem sgnD_01 (l:BS):sgnD l = 0 ∨ sgnD l = 1:=by unfold sgnD; split <;> omega
theorem prsS_num {l d:BS} {sg x:Int} (h:prsS l = some (.num sg d x)):(sg = 0 ∨ sg = 1) ∧ d.all dgQ = true ∧ d ≠ [] ∧ d.length ≤ 60 ∧ -10100 ≤ x ∧ x ≤ 10100:=by
  unfold prsS at h
  split at h
  · cases h
  · rw [Option.map_eq_some_iff] at h
    obtain ⟨⟨d',x'⟩,hp,h⟩:=h
    cases h
    obtain ⟨h1,h2,h3⟩:=dgT_dig hp
    obtain ⟨h4,h5⟩:=dgT_lim hp
    exact ⟨sgnD_01 l,h1,h2,h3,h4,h5⟩
theorem prsS_word {l w:BS} {sg:Int} (h:prsS l = some (.word sg w)):(sg = 0 ∨ sg = 1) ∧ (w = infB ∨ w = nanB):=by
  unfold prsS at h
  split at h
  · rename_i c
    cases h
    exact ⟨sgnD_01 l,c⟩
  · rw [Option.map_eq_some_iff] at h
    obtain ⟨p,_,h⟩:=h
    cases h
theorem word_inf {kind:Int} {p w:Nat} (h:kindS kind p w) {sg:Int} (hs:sg = 0 ∨ sg = 1):Dec.word kind ⟨sg,B infB,B [],0⟩ = some (packS p w sg (2 ^ w - 1) 0):=by
  rcases h with ⟨rfl,rfl,rfl⟩ | ⟨rfl,rfl,rfl⟩ | ⟨rfl,rfl,rfl⟩ <;> rcases hs with rfl | rfl <;> exact (Dec.word.c_le _ _).of (by kernel_rfl)
theorem word_nan {kind:Int} {p w:Nat} (h:kindS kind p w) {sg:Int} (hs:sg = 0 ∨ sg = 1):Dec.word kind ⟨sg,B nanB,B [],0⟩ = some (packS p w 0 (2 ^ w - 1) (2 ^ (p - 2))):=by
  rcases h with ⟨rfl,rfl,rfl⟩ | ⟨rfl,rfl,rfl⟩ | ⟨rfl,rfl,rfl⟩ <;> rcases hs with rfl | rfl <;> exact (Dec.word.c_le _ _).of (by kernel_rfl)
theorem fQuiet {p w:Nat} (h:OkS p w):Ref2.Form.quiet (fm p w) = some (packS p w 0 (2 ^ w - 1) (2 ^ (p - 2))):=by
  obtain ⟨a1,a2,a3,a4,a5,_⟩:=h.facts
  have hpw:2 ^ (p - 2) < 2 ^ (p - 1):=Nat.pow_lt_pow_right (by decide) (by omega)
  unfold Ref2.Form.quiet
  exact bindE (fTop h) (letV (y:=((p - 2:Nat):Int)) (by show IntKind.i64.wrap ((p:Int) - 2) = _; rw [wi (by omega) (by omega)]; omega) (chkE (Int.natCast_nonneg _) (letV (pow1_u h (p - 2) (by omega)) (bindE (fBits (s:=0) h (by decide) (by have:=Nat.two_pow_pos w; omega) hpw) rfl))))
theorem atD_len {d:BS} {x:Int}:atD d (x + d.length) = x + (shD d).length:=by
  have:=shD_len d
  unfold atD; omega
theorem two_ten (n:Nat):2 ^ (3 * n) ≤ 10 ^ n:=by rw [Nat.pow_mul]; exact Nat.pow_le_pow_left (by decide) n
theorem bl_ge {a k:Nat} (h:2 ^ k ≤ a):k < bl a:=by
  rcases Nat.lt_or_ge k (bl a) with h1 | h1
  · exact h1
  · have:=bl_le_iff.1 h1; omega
theorem same_round {kind mode:Int} {p w:Nat} (h:kindS kind p w) (hm:0 ≤ mode ∧ mode < 4) {s:Nat} (hs:s < 2) {d:BS} {x:Int} (ha:d.all dgQ = true) (hl:d.length ≤ 100) (hx:-20000 ≤ x ∧ x ≤ 20000) (hv:0 < vd d) :
    Dec.round kind mode s (B d) (x + d.length) = some ((rndF p w mode s ((vxD d x).1 * 10 ^ (vxD d x).2.toNat) (10 ^ (-(vxD d x).2).toNat)).1,(rndF p w mode s ((vxD d x).1 * 10 ^ (vxD d x).2.toNat) (10 ^ (-(vxD d x).2).toNat)).2,0):=by
  have hat:=atD_len (d:=d) (x:=x)
  have hsl:=shD_len d
  have hsg:(s:Int) = 0 ∨ (s:Int) = 1:=by omega
  have hlo:10 ^ ((shD d).length - 1) ≤ vd d ∧ 0 < (shD d).length:=by
    cases hsd:shD d with
    | nil=>have:=(shD_nil ha).1 hsd; omega
    | cons c r =>
      have:=vd_low (shD_head hsd) (hsd ▸ shD_all ha)
      rw [← hsd,shD_vd] at this
      exact ⟨this,by rw [List.length_cons]; omega⟩
  obtain ⟨X,hX⟩:∃ X:Nat,X = 401:=⟨_,rfl⟩
  obtain ⟨K,hK⟩:∃ K:Nat,K = 1100:=⟨_,rfl⟩
  have hten:∀ n:Nat,3 * n < bl (10 ^ n):=fun n=>bl_ge (two_ten n)
  unfold vxD
  by_cases c1:((shD d).length:Int) + x < -400
  · obtain ⟨z,hz⟩:∃ z:Int,z = -2000:=⟨_,rfl⟩
    obtain ⟨Z,hZ⟩:∃ Z:Int,Z = -401:=⟨_,rfl⟩
    rw [if_pos c1,← hZ,round_down h hm hsg ha (by omega) (by omega) hv (by omega)]
    have e1:rndS p w mode s 1 (-2000) false = rndF p w mode s (1 * 10 ^ Z.toNat) (10 ^ (-Z).toNat):=by
      rw [← hz,← rndF_two (by decide),show Z.toNat = 0 by omega,show (-Z).toNat = X by omega]
      have hp1:(2:Nat) ^ K < 2 ^ (-z).toNat:=Nat.pow_lt_pow_right (by decide) (by omega)
      have hp2:(2:Nat) ^ K < 10 ^ X:=Nat.lt_of_lt_of_le (Nat.pow_lt_pow_right (by decide) (by omega)) (two_ten X)
      rw [rnd_tiny h.ok (by rw [show z.toNat = 0 by omega]; decide) (Nat.two_pow_pos _) hK (by rw [show z.toNat = 0 by omega,Nat.pow_zero,Nat.mul_one,Nat.one_mul]; exact hp1)]
      rw [rnd_tiny h.ok (by decide) (Nat.pow_pos (by decide)) hK (by rw [Nat.pow_zero,Nat.mul_one,Nat.one_mul]; exact hp2)]
    rw [e1]
  · rw [if_neg c1]
    by_cases c2:((shD d).length:Int) + x > 401
    · obtain ⟨z,hz⟩:∃ z:Int,z = 2000:=⟨_,rfl⟩
      obtain ⟨Z,hZ⟩:∃ Z:Int,Z = 401:=⟨_,rfl⟩
      rw [if_pos c2,← hZ,round_up h hm hsg ha (by omega) (by omega) hv (by omega)]
      have e1:rndS p w mode s 1 2000 false = rndF p w mode s (1 * 10 ^ Z.toNat) (10 ^ (-Z).toNat):=by
        rw [← hz,← rndF_two (by decide),show Z.toNat = X by omega,show (-Z).toNat = 0 by omega,show (-z).toNat = 0 by omega]
        have h1:=hten X
        have h2:z.toNat < bl (2 ^ z.toNat):=bl_ge (Nat.le_refl _)
        have h3:bl 1 = 1:=by decide
        rw [rnd_great h.ok (by rw [Nat.one_mul]; exact Nat.two_pow_pos _) (by decide) (by rw [Nat.one_mul,Nat.pow_zero]; omega)]
        rw [rnd_great h.ok (by rw [Nat.one_mul]; exact Nat.pow_pos (by decide)) (by decide) (by rw [Nat.one_mul,Nat.pow_zero]; omega)]
      rw [e1]
    · rw [if_neg c2]
      by_cases c3:((shD d).length:Int) + x = 401
      · rw [round_up h hm hsg ha (by omega) (by omega) hv (by omega)]
        obtain ⟨z,hz⟩:∃ z:Int,z = 2000:=⟨_,rfl⟩
        have e1:rndS p w mode s 1 2000 false = rndF p w mode s (vd d * 10 ^ x.toNat) (10 ^ (-x).toNat):=by
          rw [← hz,← rndF_two (by decide),show (-x).toNat = 0 by omega,show (-z).toNat = 0 by omega]
          have hge:10 ^ (X - 1) ≤ vd d * 10 ^ x.toNat:=by
            have:=Nat.mul_le_mul_right (10 ^ x.toNat) hlo.1
            rw [← Nat.pow_add] at this
            rwa [show (shD d).length - 1 + x.toNat = X - 1 by omega] at this
          have h1:=hten (X - 1)
          have h4:=bl_mono hge
          have h2:z.toNat < bl (2 ^ z.toNat):=bl_ge (Nat.le_refl _)
          have h3:bl 1 = 1:=by decide
          rw [rnd_great h.ok (by rw [Nat.one_mul]; exact Nat.two_pow_pos _) (by decide) (by rw [Nat.one_mul,Nat.pow_zero]; omega)]
          rw [rnd_great h.ok (Nat.mul_pos hv (Nat.pow_pos (by decide))) (by decide) (by rw [Nat.pow_zero]; omega)]
        rw [e1]
      · rw [round_in h hm hsg ha (by omega) (by omega) hv (by omega) (by omega)]
        have e1:x + (d.length:Int) - d.length = x:=by omega
        have e2:(d.length:Int) - (x + d.length) = -x:=by omega
        rw [e1,e2]
theorem vx_bits {d:BS} {x:Int} (ha:d.all dgQ = true) (hl:d.length ≤ 100) (hv:0 < vd d):0 < (vxD d x).1 * 10 ^ (vxD d x).2.toNat ∧ 0 < 10 ^ (-(vxD d x).2).toNat ∧ bl ((vxD d x).1 * 10 ^ (vxD d x).2.toNat) ≤ 20000 ∧ bl (10 ^ (-(vxD d x).2).toNat) ≤ 20000:=by
  have hb:=bl_vd ha
  have hsl:=shD_len d
  have h2:=bl_mul (vxD d x).1 (10 ^ (vxD d x).2.toNat)
  have h3:=bl_ten (vxD d x).2.toNat
  have h4:=bl_ten (-(vxD d x).2).toNat
  have h5:-501 ≤ (vxD d x).2 ∧ (vxD d x).2 ≤ 401:=by
    unfold vxD
    split
    · exact ⟨by decide,by decide⟩
    · split
      · exact ⟨by decide,by decide⟩
      · show -501 ≤ x ∧ x ≤ 401; omega
  have h6:0 < (vxD d x).1 ∧ bl (vxD d x).1 ≤ 1000:=by
    unfold vxD
    split
    · exact ⟨by decide,by decide⟩
    · split
      · exact ⟨by decide,by decide⟩
      · exact ⟨hv,by show bl (vd d) ≤ _; omega⟩
  exact ⟨Nat.mul_pos h6.1 (Nat.pow_pos (by decide)),Nat.pow_pos (by decide),by omega,by omega⟩
theorem Read_same {kind mode:Int} {p w:Nat} (h:kindS kind p w) (hm:0 ≤ mode ∧ mode < 4) {l:BS} (hl:l.length ≤ 1000):∃ a f e,Dec.Read (B l) kind mode = some (a,f,e) ∧ Ref2.Read (B l) kind mode = some (a,f,e):=by
  obtain ⟨d1,d2,d3⟩:=parse_eq hl
  obtain ⟨r1,r2,r3⟩:=rparse_eq hl
  have goR:∀ {X},Ref2.Read.j0 (B l) mode (fm p w) = X → Ref2.Read (B l) kind mode = X:=by
    intro X hX
    unfold Ref2.Read
    exact bindE (FormOf_eq h) (letF rfl (letF (decide_eq_false (by omega)) (letF (decide_eq_false (by omega)) hX)))
  cases hp:prsS l with
  | none =>
    obtain ⟨q,hq⟩:=d1 hp
    obtain ⟨q2,hq2⟩:=r1 hp
    refine ⟨0,0,3,?_,goR ?_⟩
    · unfold Dec.Read
      exact bindE (isKind_eq h hm) (letF rfl (bindE hq (letT rfl rfl)))
    · unfold Ref2.Read.j0
      exact bindE hq2 (letT rfl rfl)
  | some t =>
    cases t with
    | word sg wd =>
      obtain ⟨hs,hw⟩:=prsS_word hp
      have hd:=d2 _ _ hp
      have hr:=r2 _ _ hp
      obtain ⟨s,hs2,rfl⟩:∃ s:Nat,s < 2 ∧ sg = (s:Int):=by
        rcases hs with rfl | rfl
        · exact ⟨0,by decide,rfl⟩
        · exact ⟨1,by decide,rfl⟩
      have hwne:wd ≠ []:=by rcases hw with rfl | rfl <;> decide
      have goD:∀ {a},Dec.word kind ⟨(s:Int),B wd,B [],0⟩ = some a → Dec.Read (B l) kind mode = some (a,0,0):=by
        intro a hX
        unfold Dec.Read
        exact bindE (isKind_eq h hm) (letF rfl (bindE hd (letF rfl (letT (by rw [nil_eq]; exact congrArg not (decide_eq_false hwne)) (bindE hX rfl)))))
      rcases hw with rfl | rfl
      · refine ⟨_,0,0,goD (word_inf h hs),goR ?_⟩
        unfold Ref2.Read.j0
        refine bindE hr (letF rfl (letF (by rw [show (⟨#[110,97,110]⟩:ByteArray) = B nanB from rfl,eqB]; rfl) (letT (by rw [show (⟨#[105,110,102]⟩:ByteArray) = B infB from rfl,eqB]; rfl) (bindE (fTop h.ok) (bindE (fBits (f:=0) h.ok hs2 (by have:=Nat.two_pow_pos w; omega) (Nat.two_pow_pos _)) rfl)))))
      · refine ⟨_,0,0,goD (word_nan h hs),goR ?_⟩
        unfold Ref2.Read.j0
        exact bindE hr (letF rfl (letT (by rw [show (⟨#[110,97,110]⟩:ByteArray) = B nanB from rfl,eqB]; rfl) (bindE (fQuiet h.ok) rfl)))
    | num sg d x =>
      obtain ⟨hs,ha,hne,hlen,hx1,hx2⟩:=prsS_num hp
      have hr:=r3 _ _ _ hp
      obtain ⟨s,hs2,rfl⟩:∃ s:Nat,s < 2 ∧ sg = (s:Int):=by
        rcases hs with rfl | rfl
        · exact ⟨0,by decide,rfl⟩
        · exact ⟨1,by decide,rfl⟩
      have wn:((B []).toList == (⟨#[110,97,110]⟩:ByteArray).toList) = false:=by rw [show (⟨#[110,97,110]⟩:ByteArray) = B nanB from rfl,eqB]; rfl
      have wi2:((B []).toList == (⟨#[105,110,102]⟩:ByteArray).toList) = false:=by rw [show (⟨#[105,110,102]⟩:ByteArray) = B infB from rfl,eqB]; rfl
      rcases Nat.eq_zero_or_pos (vd d) with hv | hv
      · refine ⟨packS p w s 0 0,0,0,Read_num h hm hl hp (round_zero h hm hs ha (by omega) (by omega) hv),goR ?_⟩
        unfold Ref2.Read.j0
        exact bindE hr (letF rfl (letF wn (letF wi2 (bindE (rfrac_zero ha (by omega) hv) (letT rfl (bindE (fBits (e:=0) (f:=0) h.ok hs2 (Nat.two_pow_pos w) (Nat.two_pow_pos _)) rfl))))))
      · obtain ⟨v1,v2,v3,v4⟩:=vx_bits (x:=x) ha (by omega) hv
        refine ⟨_,_,0,Read_num h hm hl hp (same_round h hm hs2 ha (by omega) (by omega) hv),goR ?_⟩
        unfold Ref2.Read.j0
        exact bindE hr (letF rfl (letF wn (letF wi2 (bindE (rfrac_pos (d:=d) (w:=[]) (sg:=(s:Int)) (x:=x) ha (by omega) (by omega) hv) (letF rfl (bindE (fRound h.ok hm hs2 v1 v2 v3 v4) rfl))))))
theorem Is_same {l:BS} (hl:l.length ≤ 1000):∃ b,Dec.Is (B l) = some b ∧ Ref2.Is (B l) = some b:=by
  obtain ⟨d1,d2,d3⟩:=parse_eq hl
  obtain ⟨r1,r2,r3⟩:=rparse_eq hl
  have go:∀ {q q2 b},Dec.parse (B l) = some (q,b) → Ref2.parse (B l) = some (q2,b) → ∃ b,Dec.Is (B l) = some b ∧ Ref2.Is (B l) = some b:=fun {q q2 b} h1 h2=>⟨b,bindE h1 rfl,bindE h2 rfl⟩
  cases hp:prsS l with
  | none =>
    obtain ⟨q,hq⟩:=d1 hp
    obtain ⟨q2,hq2⟩:=r1 hp
    exact go hq hq2
  | some t =>
    cases t with
    | word sg wd=>exact go (d2 _ _ hp) (r2 _ _ hp)
    | num sg d x=>exact go (d3 _ _ _ hp) (r3 _ _ _ hp)
theorem DecimalReads_eq (text:ByteArray) (kind mode:Int):Law2.DecimalReads text kind mode = some true:=by
  have aw:(Option.bind Law2.Awake fun t=>some t) = some true:=by rw [Law2.Awake_eq]; rfl
  unfold Law2.DecimalReads
  refine letV rfl ?_
  by_cases c:(text.size:Int) > 200
  · exact letT (decide_eq_true c) aw
  · refine letF (decide_eq_false c) ?_
    have hl:(L text).length ≤ 1000:=by rw [L_len]; omega
    obtain ⟨b,i1,i2⟩:=Is_same hl
    rw [B_L] at i1 i2
    have fin:∀ {a f e},Dec.Read text kind mode = some (a,f,e) → Ref2.Read text kind mode = some (a,f,e) → (Option.bind (Dec.Read text kind mode) fun (t21_0,t21_1,t21_2)=>Option.bind (Ref2.Read text kind mode) fun (t29_0,t29_1,t29_2) =>
        letk (t21_0 == t29_0) fun t35=>bif t35 then letk (t21_1 == t29_1) fun t39=>bif t39 then letk (t21_2 == t29_2) fun t44=>bif t44 then Option.bind (Dec.Is text) fun t48=>Option.bind (Ref2.Is text) fun t50 =>
          letk (t48 == t50) fun t51=>bif t51 then Option.bind (Law2.Awake) fun t54=>some t54 else some false else some false else some false else some false) = some true:=by
      intro a f e h1 h2
      exact bindE h1 (bindE h2 (letT (beq_self_eq_true _) (letT (beq_self_eq_true _) (letT (beq_self_eq_true _) (bindE i1 (bindE i2 (letT (beq_self_eq_true _) aw)))))))
    have bad:Dec.isKind kind mode = some false → Dec.Read text kind mode = some (0,0,2):=fun hk=>by
      unfold Dec.Read
      exact bindE hk (letT rfl rfl)
    rcases isKind_any kind mode with ⟨p,w,h,hm0,hm1,_⟩ | hk
    · obtain ⟨a,f,e,h1,h2⟩:=Read_same h ⟨hm0,hm1⟩ hl
      rw [B_L] at h1 h2
      exact fin h1 h2
    · refine fin (bad hk) ?_
      unfold Ref2.Read
      rcases kind_any kind with ⟨p,w,h⟩ | h
      · refine bindE (FormOf_eq h) (letF rfl ?_)
        by_cases c1:mode < 0
        · exact letT (decide_eq_true c1) rfl
        · by_cases c2:mode > 3
          · exact letF (decide_eq_false c1) (letT (decide_eq_true c2) rfl)
          · rw [isKind_eq h (by omega)] at hk; cases hk
      · exact bindE (FormOf_no h) (letT rfl rfl)
end Go.Q
