import Derived.Test.YtmfhkipeapdfmaaGreatDoorBK
namespace Go.Q
open Go
set_option maxRecDepth 10000
structure Short (kind:Int) (p w:Nat) (a:Int) (c:BS) (k:Int) (m:Nat):Prop where
  all:c.all dgQ = true
  one:1 ≤ c.length
  len:c.length ≤ m
  low:10 ^ (c.length - 1) ≤ vd c
  lim:-400 ≤ k ∧ k ≤ 400
  back:∃ f,Dec.round kind 0 (numS p w a).sign (B c) k = some (a,f,0)
variable {kind:Int} {p w:Nat} (h:kindS kind p w) {a:Int} (hi:I6 a) (hb:bitsOk p w a) (hc:(numS p w a).class_ = 1) {D:BS} {X:Int} (ho:Own p w a D X)
include h hc ho
theorem cand_any {n:Nat} (hn:1 ≤ n) (hn2:n ≤ 100) (more:Bool):∃ b f,Dec.round kind 0 (numS p w a).sign (B (resD D X n more).1) (resD D X n more).2 = some (b,f,0):=by
  obtain ⟨x0,x1⟩:=own_lim h.ok ho hc
  obtain ⟨r1,r2,r3,r4⟩:=res_ok ho.all ho.head ho.ne hn X more
  have hk:X ≤ (resD D X n more).2 ∧ (resD D X n more).2 ≤ X + 1:=by rcases r4 with ⟨_,_,q⟩ | ⟨_,_,q⟩ <;> omega
  obtain ⟨num,den,_,_,hr⟩:=round_any h r2 (by omega) (x:=(resD D X n more).2) (by omega) (Nat.lt_of_lt_of_le (Nat.pow_pos (by decide)) r3)
  exact ⟨_,_,hr 0 _ (by decide) (numS_ok h.ok a).sgn⟩
theorem cand_short {n m:Nat} (hn:1 ≤ n) (hn2:n ≤ m) {more:Bool} {f:Int} (hr:Dec.round kind 0 (numS p w a).sign (B (resD D X n more).1) (resD D X n more).2 = some (a,f,0)):Short kind p w a (resD D X n more).1 (resD D X n more).2 m:=by
  obtain ⟨x0,x1⟩:=own_lim h.ok ho hc
  obtain ⟨r1,r2,r3,r4⟩:=res_ok ho.all ho.head ho.ne hn X more
  have hk:X ≤ (resD D X n more).2 ∧ (resD D X n more).2 ≤ X + 1:=by rcases r4 with ⟨_,_,q⟩ | ⟨_,_,q⟩ <;> omega
  exact ⟨r2,by omega,by omega,by rw [r1]; exact r3,by omega,f,hr⟩
theorem to_res {n:Nat} (hn2:n ≤ 100) (more:Bool):Dec.to (B D) X (n:Int) more = some (B (resD D X n more).1,(resD D X n more).2):=by
  obtain ⟨x0,x1⟩:=own_lim h.ok ho hc
  have l1:=ho.len
  rw [to_eq ho.all (by omega) (by omega) (by omega)]
  unfold resD
  split <;> rfl
theorem short_j0 {n:Nat} (hn:1 ≤ n) (hn2:n ≤ 100) (t40 idx:Int) (hidx:0 ≤ idx ∧ idx < 100) (more:Bool) (l:List Bool) :
    (∃ f,Dec.round kind 0 (numS p w a).sign (B (resD D X n more).1) (resD D X n more).2 = some (a,f,0) ∧ Dec.Shortest.j0 kind a (B D) X n t40 (numS p w a).sign idx more l = some (.inr (.inr ((numS p w a).sign,B (resD D X n more).1,(resD D X n more).2,0)))) ∨
    ((∀ f,Dec.round kind 0 (numS p w a).sign (B (resD D X n more).1) (resD D X n more).2 ≠ some (a,f,0)) ∧ Dec.Shortest.j0 kind a (B D) X n t40 (numS p w a).sign idx more l = some (.inl ((numS p w a).sign,l,idx + 1))):=by
  obtain ⟨b,f,hr⟩:=cand_any h hc ho hn hn2 more
  have ht:=to_res h hc ho hn2 more
  unfold Dec.Shortest.j0
  by_cases he:b = a
  · left
    rw [he] at hr
    exact ⟨f,hr,bindE ht (bindE hr (letT (beq_self_eq_true a) rfl))⟩
  · right
    refine ⟨fun g hg=>?_,bindE ht (bindE hr (letF (beq_eq_false_iff_ne.2 he) (letV (wi (by omega) (by omega)) rfl)))⟩
    rw [hr] at hg
    simp only [Option.some.injEq,Prod.mk.injEq] at hg
    exact he hg.1
include hi hb in
theorem short_run {m:Nat} (hm1:1 ≤ m) (hm:m ≤ 17) (hp:2 ^ p < 10 ^ (m - 1)):∀ r n:Nat,n + r = m → 1 ≤ n → ∃ c k,Dec.Shortest.l0 kind a (B D) X (numS p w a).sign (n:Int) = some ((numS p w a).sign,B c,k,0) ∧ Short kind p w a c k m:=by
  have l1:=ho.len
  intro r
  induction r with
  | zero =>
    intro n hnm hn
    obtain rfl:n = m:=by omega
    have hback:=back_of h hi hb hc ho hn (by omega) hp
    by_cases h17:n = 17
    · refine ⟨_,_,?_,cand_short h hc ho hn (Nat.le_refl _) hback.choose_spec⟩
      subst h17
      unfold Dec.Shortest.l0
      refine loopO_end ?_
      show Dec.Shortest.s0 kind a (B D) X (numS p w a).sign ((17:Nat):Int) = _
      unfold Dec.Shortest.s0
      refine letF rfl ?_
      have e:(Option.bind (Dec.away 0 (numS p w a).sign (B D) 17) fun t81=>Option.bind (Dec.to (B D) X 17 t81) fun (t82_0,t82_1)=>some ((numS p w a).sign,t82_0,t82_1,(0:Int))) = some ((numS p w a).sign,B (resD D X 17 (awD 0 (numS p w a).sign D 17)).1,(resD D X 17 (awD 0 (numS p w a).sign D 17)).2,0) :=
        bindE (dAway_eq (n:=17) ho.all ho.last (by omega)) (bindE (to_res h hc ho (n:=17) (by decide) _) rfl)
      exact congrArg (Option.map Sum.inr) e
    · refine ⟨_,_,?_,cand_short h hc ho hn (Nat.le_refl _) hback.choose_spec⟩
      have haw:=dAway_eq (mode:=0) (sign:=(numS p w a).sign) (n:=n) ho.all ho.last (by omega)
      unfold Dec.Shortest.l0
      refine loopO_end ?_
      show Dec.Shortest.s0 kind a (B D) X (numS p w a).sign (n:Int) = _
      unfold Dec.Shortest.s0
      refine letT (decide_eq_true (by omega)) (bindE haw (letV rfl (letV (y:=2) rfl ?_)))
      unfold Dec.Shortest.l1
      refine loopO_end ?_
      show Dec.Shortest.s1 kind a (B D) X n 2 (numS p w a).sign [awD 0 (numS p w a).sign D n,!awD 0 (numS p w a).sign D n] 0 = _
      obtain ⟨f,hf⟩:=hback
      have hj:Dec.Shortest.j0 kind a (B D) X n 2 (numS p w a).sign 0 (awD 0 (numS p w a).sign D n) [awD 0 (numS p w a).sign D n,!awD 0 (numS p w a).sign D n] = some (.inr (.inr ((numS p w a).sign,B (resD D X n (awD 0 (numS p w a).sign D n)).1,(resD D X n (awD 0 (numS p w a).sign D n)).2,0))):=by
        rcases short_j0 h hc ho hn (by omega) 2 0 (by decide) (awD 0 (numS p w a).sign D n) [awD 0 (numS p w a).sign D n,!awD 0 (numS p w a).sign D n] with ⟨_,_,q⟩ | ⟨q,_⟩
        · exact q
        · exact absurd hf (q f)
      unfold Dec.Shortest.s1
      refine letT rfl (chkE (by simp) (letV rfl (bindE (a:=awD 0 (numS p w a).sign D n) rfl ?_)))
      cases hw:awD 0 (numS p w a).sign D n with
      | true =>
        rw [hw] at hj
        have hlen:¬ D.length ≤ n:=fun hx=>by unfold awD at hw; rw [if_pos hx] at hw; cases hw
        exact condT rfl (letV (y:=(D.length:Int)) (by rw [B_size]) (letF (decide_eq_false (by omega)) hj))
      | false =>
        rw [hw] at hj
        exact condF rfl hj
  | succ r ih =>
    intro n hnm hn
    obtain ⟨c2,k2,ih1,ih2⟩:=ih (n + 1) (by omega) (by omega)
    have haw:=dAway_eq (mode:=0) (sign:=(numS p w a).sign) (n:=n) ho.all ho.last (by omega)
    obtain ⟨l,hl⟩:∃ l,l = [awD 0 (numS p w a).sign D n,!awD 0 (numS p w a).sign D n]:=⟨_,rfl⟩
    have go:∀ X2:Option ((Int × Int) ⊕ (Int × ByteArray × Int × Int)),Dec.Shortest.l1 kind a (B D) X n 2 (numS p w a).sign l 0 = X2 → Dec.Shortest.s0 kind a (B D) X (numS p w a).sign (n:Int) = X2:=by
      intro X2 hX
      unfold Dec.Shortest.s0
      refine letT (decide_eq_true (by omega)) (bindE haw (letV rfl (letV (y:=2) rfl ?_)))
      rw [hl] at hX; exact hX
    have step:∀ (i:Nat) (b:Bool),l[i]? = some b → i < 2 → ∀ Y,(if b = true ∧ D.length ≤ n then some (Sum.inl ((numS p w a).sign,l,(i:Int) + 1)) else Dec.Shortest.j0 kind a (B D) X n 2 (numS p w a).sign i b l) = Y → Dec.Shortest.s1 kind a (B D) X n 2 (numS p w a).sign l i = Y:=by
      intro i b hb2 hi2 Y hY
      have hll:l.length = 2:=by rw [hl]; rfl
      unfold Dec.Shortest.s1
      refine letT (decide_eq_true (by omega)) (chkE (by omega) (letV (y:=i) (by rw [Int.toNat_natCast,Nat.zero_add]) (bindE hb2 ?_)))
      cases b with
      | true =>
        refine condT rfl (letV (y:=(D.length:Int)) (by rw [B_size]) ?_)
        by_cases hx:D.length ≤ n
        · rw [if_pos ⟨rfl,hx⟩] at hY
          exact letT (decide_eq_true (by omega)) (letV (wi (by omega) (by omega)) hY)
        · rw [if_neg (fun q=>hx q.2)] at hY
          exact letF (decide_eq_false (by omega)) hY
      | false =>
        rw [if_neg (fun q=>by cases q.1)] at hY
        exact condF rfl hY
    have last:Dec.Shortest.s1 kind a (B D) X n 2 (numS p w a).sign l 2 = some (.inr (.inl ((numS p w a).sign,(n:Int) + 1))):=by
      unfold Dec.Shortest.s1
      refine letF rfl ?_
      have e:(letk (IntKind.i64.wrap ((n:Int) + (1:Int))) fun t31=>some (Sum.inl ((numS p w a).sign,t31))) = (some (Sum.inl ((numS p w a).sign,(n:Int) + 1)):Option ((Int × Int) ⊕ (Int × ByteArray × Int × Int))):=letV (wi (by omega) (by omega)) rfl
      exact congrArg (Option.map Sum.inr) e
    have fin:Dec.Shortest.l1 kind a (B D) X n 2 (numS p w a).sign l 2 = some (.inl ((numS p w a).sign,(n:Int) + 1)):=by
      unfold Dec.Shortest.l1
      exact loopO_end last
    have try1:∀ (i:Nat) (b:Bool),l[i]? = some b → i < 2 → (∃ c k,Dec.Shortest.l1 kind a (B D) X n 2 (numS p w a).sign l i = some (.inr ((numS p w a).sign,B c,k,0)) ∧ Short kind p w a c k m) ∨ Dec.Shortest.l1 kind a (B D) X n 2 (numS p w a).sign l i = Dec.Shortest.l1 kind a (B D) X n 2 (numS p w a).sign l ((i:Int) + 1):=by
      intro i b hb2 hi2
      have st:=step i b hb2 hi2
      have next:Dec.Shortest.s1 kind a (B D) X n 2 (numS p w a).sign l i = some (.inl ((numS p w a).sign,l,(i:Int) + 1)) → Dec.Shortest.l1 kind a (B D) X n 2 (numS p w a).sign l i = Dec.Shortest.l1 kind a (B D) X n 2 (numS p w a).sign l ((i:Int) + 1):=by
        intro hs
        rw [Dec.Shortest.l1_eq,hs]; rfl
      by_cases hx:b = true ∧ D.length ≤ n
      · rw [if_pos hx] at st
        exact .inr (next (st _ rfl))
      · rw [if_neg hx] at st
        rcases short_j0 h hc ho hn (by omega) 2 i (by omega) b l with ⟨f,q1,q2⟩ | ⟨_,q2⟩
        · left
          refine ⟨_,_,?_,cand_short h hc ho hn (by omega) q1⟩
          unfold Dec.Shortest.l1
          exact loopO_end (st _ q2)
        · exact .inr (next (st _ q2))
    rcases try1 0 _ (by rw [hl]; rfl) (by decide) with ⟨c,k,q1,q2⟩ | q1
    · refine ⟨c,k,?_,q2⟩
      unfold Dec.Shortest.l0
      exact loopO_end (go _ q1)
    · rcases try1 1 _ (by rw [hl]; rfl) (by decide) with ⟨c,k,q3,q4⟩ | q3
      · refine ⟨c,k,?_,q4⟩
        unfold Dec.Shortest.l0
        exact loopO_end (go _ (q1.trans q3))
      · refine ⟨c2,k2,?_,ih2⟩
        have hs:=go _ (q1.trans (q3.trans fin))
        unfold Dec.Shortest.l0 at ih1 ⊢
        refine loopO_next (t:=((numS p w a).sign,(n:Int) + 1)) hs ?_
        exact ih1
include hi hb in
theorem Shortest_eq {m:Nat} (hm1:1 ≤ m) (hm:m ≤ 17) (hp:2 ^ p < 10 ^ (m - 1)) (he:Dec.exact kind a = some ((numS p w a).sign,B D,X)):∃ c k,Dec.Shortest kind a = some ((numS p w a).sign,B c,k,0) ∧ Short kind p w a c k m:=by
  obtain ⟨c,k,h1,h2⟩:=short_run h hi hb hc ho hm1 hm hp (m - 1) 1 (by omega) (Nat.le_refl _)
  refine ⟨c,k,?_,h2⟩
  unfold Dec.Shortest
  exact bindE (isFinite_eq h hb hc) (letF rfl (bindE he h1))
end Go.Q
