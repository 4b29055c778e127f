import Derived.Test.YtmfhkipeapdfmaaGreatDoorEH
import Derived.Test.YtmfhkipeapdfmaaGreatDoorBK
import Derived.Test.YtmfhkipeapdfmaaGreatDoorED4
namespace Go.Q
open Go
set_option maxRecDepth 10000
variable {kind:Int} {p w:Nat} {a:Int} {D:BS} {X:Int}
theorem read_bk (h:kindS kind p w) (hc:(numS p w a).class_ = 1) (ho:Own p w a D X) {n:Nat} (hn1:1 ≤ n) (hn:n ≤ 100) {b:Bool}:(∃ f,Dec.round kind 0 (numS p w a).sign (B (resD D X n b).1) (resD D X n b).2 = some (a,f,0)) ↔ (bkF p w (numS p w a).sign D X n b).1 = a:=by
  obtain ⟨_,_,k,_⟩:=cand h hc ho hn1 hn b
  rw [k]
  constructor
  · rintro ⟨f,hf⟩
    simp only [Option.some.injEq,Prod.mk.injEq] at hf
    exact hf.1
  · intro q; exact ⟨_,by rw [q]⟩
theorem prog_step (h:kindS kind p w) (hc:(numS p w a).class_ = 1) (ho:Own p w a D X) {n:Nat} (hn1:1 ≤ n) (hn:n < 17) :
    Dec.Shortest.l0 kind a (B D) X (numS p w a).sign n = (match pickS p w a D X n with | some r=>some ((numS p w a).sign,B r.1,r.2,0) | none=>Dec.Shortest.l0 kind a (B D) X (numS p w a).sign ((n:Int) + 1)):=by
  have l1:=ho.len
  have haw:=dAway_eq (mode:=0) (sign:=(numS p w a).sign) (n:=n) ho.all ho.last (by omega)
  have hlong:awD 0 (numS p w a).sign D n = true → n < D.length:=fun hx=>by
    rcases Nat.lt_or_ge n D.length with q | q
    · exact q
    · unfold awD at hx; rw [if_pos q] at hx; cases hx
  obtain ⟨l,hl⟩:∃ l,l = [awD 0 (numS p w a).sign D n,!awD 0 (numS p w a).sign D n]:=⟨_,rfl⟩
  have go:∀ X2:Option ((Int × Int) ⊕ (Int × ByteArray × Int × Int)),Dec.Shortest.l1 kind a (B D) X n 2 (numS p w a).sign l 0 = X2 → Dec.Shortest.s0 kind a (B D) X (numS p w a).sign (n:Int) = X2:=by
    intro X2 hX
    unfold Dec.Shortest.s0
    refine letT (decide_eq_true (by omega)) (bindE haw (letV rfl (letV (y:=2) rfl ?_)))
    rw [hl] at hX; exact hX
  have step:∀ (i:Nat) (b:Bool),l[i]? = some b → i < 2 → ∀ Y,(if b = true ∧ D.length ≤ n then some (Sum.inl ((numS p w a).sign,l,(i:Int) + 1)) else Dec.Shortest.j0 kind a (B D) X n 2 (numS p w a).sign i b l) = Y → Dec.Shortest.s1 kind a (B D) X n 2 (numS p w a).sign l i = Y:=by
    intro i b hb2 hi2 Y hY
    have hll:l.length = 2:=by rw [hl]; rfl
    unfold Dec.Shortest.s1
    refine letT (decide_eq_true (by omega)) (chkE (by omega) (letV (y:=i) (by rw [Int.toNat_natCast,Nat.zero_add]) (bindE hb2 ?_)))
    cases b with
    | true =>
      refine condT rfl (letV (y:=(D.length:Int)) (by rw [B_size]) ?_)
      by_cases hx:D.length ≤ n
      · rw [if_pos ⟨rfl,hx⟩] at hY
        exact letT (decide_eq_true (by omega)) (letV (wi (by omega) (by omega)) hY)
      · rw [if_neg (fun q=>hx q.2)] at hY
        exact letF (decide_eq_false (by omega)) hY
    | false =>
      rw [if_neg (fun q=>by cases q.1)] at hY
      exact condF rfl hY
  have last:Dec.Shortest.s1 kind a (B D) X n 2 (numS p w a).sign l 2 = some (.inr (.inl ((numS p w a).sign,(n:Int) + 1))):=by
    unfold Dec.Shortest.s1
    refine letF rfl ?_
    have e:(letk (IntKind.i64.wrap ((n:Int) + (1:Int))) fun t31=>some (Sum.inl ((numS p w a).sign,t31))) = (some (Sum.inl ((numS p w a).sign,(n:Int) + 1)):Option ((Int × Int) ⊕ (Int × ByteArray × Int × Int))):=letV (wi (by omega) (by omega)) rfl
    exact congrArg (Option.map Sum.inr) e
  have fin:Dec.Shortest.l1 kind a (B D) X n 2 (numS p w a).sign l 2 = some (.inl ((numS p w a).sign,(n:Int) + 1)):=by
    unfold Dec.Shortest.l1
    exact loopO_end last
  have next:∀ (i:Nat),Dec.Shortest.s1 kind a (B D) X n 2 (numS p w a).sign l i = some (.inl ((numS p w a).sign,l,(i:Int) + 1)) → Dec.Shortest.l1 kind a (B D) X n 2 (numS p w a).sign l i = Dec.Shortest.l1 kind a (B D) X n 2 (numS p w a).sign l ((i:Int) + 1):=by
    intro i hs
    rw [Dec.Shortest.l1_eq,hs]; rfl
  have yes:∀ (i:Nat) (b:Bool),l[i]? = some b → i < 2 → ¬ (b = true ∧ D.length ≤ n) → (bkF p w (numS p w a).sign D X n b).1 = a → Dec.Shortest.l1 kind a (B D) X n 2 (numS p w a).sign l i = some (.inr ((numS p w a).sign,B (resD D X n b).1,(resD D X n b).2,0)):=by
    intro i b hb2 hi2 hx hr
    have st:=step i b hb2 hi2
    rw [if_neg hx] at st
    obtain ⟨f,hf⟩:=(read_bk h hc ho hn1 (by omega)).2 hr
    rcases short_j0 h hc ho hn1 (by omega) 2 i (by omega) b l with ⟨_,_,q2⟩ | ⟨q1,_⟩
    · unfold Dec.Shortest.l1
      exact loopO_end (st _ q2)
    · exact absurd hf (q1 f)
  have no:∀ (i:Nat) (b:Bool),l[i]? = some b → i < 2 → ((b = true ∧ D.length ≤ n) ∨ (bkF p w (numS p w a).sign D X n b).1 ≠ a) → Dec.Shortest.l1 kind a (B D) X n 2 (numS p w a).sign l i = Dec.Shortest.l1 kind a (B D) X n 2 (numS p w a).sign l ((i:Int) + 1):=by
    intro i b hb2 hi2 hx
    have st:=step i b hb2 hi2
    by_cases hy:b = true ∧ D.length ≤ n
    · rw [if_pos hy] at st
      exact next i (st _ rfl)
    · rw [if_neg hy] at st
      rcases short_j0 h hc ho hn1 (by omega) 2 i (by omega) b l with ⟨f,q1,_⟩ | ⟨_,q2⟩
      · exact absurd ((read_bk h hc ho hn1 (by omega)).1 ⟨f,q1⟩) (hx.resolve_left hy)
      · exact next i (st _ q2)
  have got:∀ R,Dec.Shortest.l1 kind a (B D) X n 2 (numS p w a).sign l 0 = some (.inr R) → Dec.Shortest.l0 kind a (B D) X (numS p w a).sign n = some R:=fun R hR=>by
    unfold Dec.Shortest.l0
    exact loopO_end (go _ hR)
  have l0i:l[0]? = some (awD 0 (numS p w a).sign D n):=by rw [hl]; rfl
  have l1i:l[1]? = some (!awD 0 (numS p w a).sign D n):=by rw [hl]; rfl
  have on:Dec.Shortest.l1 kind a (B D) X n 2 (numS p w a).sign l 0 = Dec.Shortest.l1 kind a (B D) X n 2 (numS p w a).sign l 1 → Dec.Shortest.l1 kind a (B D) X n 2 (numS p w a).sign l 1 = Dec.Shortest.l1 kind a (B D) X n 2 (numS p w a).sign l 2 → Dec.Shortest.l0 kind a (B D) X (numS p w a).sign n = Dec.Shortest.l0 kind a (B D) X (numS p w a).sign ((n:Int) + 1):=by
    intro q1 q3
    have hs:=go _ (q1.trans (q3.trans fin))
    rw [Dec.Shortest.l0_eq,hs]; rfl
  unfold pickS
  by_cases q0:(bkF p w (numS p w a).sign D X n (awD 0 (numS p w a).sign D n)).1 = a
  · rw [if_pos q0]
    exact got _ (yes 0 _ l0i (by decide) (fun q=>by have:=hlong q.1; omega) q0)
  · rw [if_neg q0]
    have n0:=no 0 _ l0i (by decide) (.inr q0)
    by_cases cl:D.length ≤ n
    · rw [if_pos cl]
      have hf:awD 0 (numS p w a).sign D n = false:=by unfold awD; rw [if_pos cl]
      exact on n0 (no 1 _ l1i (by decide) (.inl ⟨by rw [hf]; rfl,cl⟩))
    · rw [if_neg cl]
      by_cases q1:(bkF p w (numS p w a).sign D X n (!awD 0 (numS p w a).sign D n)).1 = a
      · rw [if_pos q1]
        exact got _ (n0.trans (yes 1 _ l1i (by decide) (fun q=>cl q.2) q1))
      · rw [if_neg q1]
        exact on n0 (no 1 _ l1i (by decide) (.inr q1))
theorem pick_near (h:kindS kind p w) (hi:I6 a) (hb:bitsOk p w a) (hc:(numS p w a).class_ = 1) (ho:Own p w a D X) {n:Nat} (hn1:1 ≤ n) (hn:n ≤ 100) (hp:2 ^ p < 10 ^ (n - 1)):pickS p w a D X n = some (resD D X n (awD 0 (numS p w a).sign D n)):=by
  unfold pickS
  rw [if_pos ((read_bk h hc ho hn1 hn).1 (back_of h hi hb hc ho hn1 hn hp))]
theorem both_short (h:kindS kind p w) (hi:I6 a) (hb:bitsOk p w a) (hc:(numS p w a).class_ = 1) (ho:Own p w a D X) {m:Nat} (hm:m ≤ 17) (hp:2 ^ p < 10 ^ (m - 1)) (N Q:List Int) (hN:N = Nt ((numS p w a).m.toNat * 2 ^ (numS p w a).e.toNat)) (hQ:Q = Nt (2 ^ (-(numS p w a).e).toNat)) :
    ∀ r n:Nat,n + r = m → 1 ≤ n → ∃ n2 r,n ≤ n2 ∧ n2 ≤ m ∧ (∀ n3,n ≤ n3 → n3 < n2 → pickS p w a D X n3 = none) ∧ pickS p w a D X n2 = some r ∧
      Dec.Shortest.l0 kind a (B D) X (numS p w a).sign (n:Int) = some ((numS p w a).sign,B r.1,r.2,0) ∧ Ref2.Shortest.l0 a p w (numS p w a).sign N Q 0 N Q n = some ((numS p w a).sign,B r.1,r.2,0):=by
  have l1:=ho.len
  have found:∀ (n:Nat) (r:BS × Int),1 ≤ n → n ≤ 17 → pickS p w a D X n = some r → Ref2.Shortest.l0 a p w (numS p w a).sign N Q 0 N Q n = some ((numS p w a).sign,B r.1,r.2,0):=by
    intro n r h1 h2 hr
    have:=ref_step h hi hb hc ho h1 (by omega) N Q hN hQ
    rw [hr] at this
    rw [Ref2.Shortest.l0_eq,this]; rfl
  intro r
  induction r with
  | zero =>
    intro n hnm hn
    obtain rfl:n = m:=by omega
    have hpk:=pick_near h hi hb hc ho hn (by omega) hp
    refine ⟨n,_,Nat.le_refl _,Nat.le_refl _,fun n3 h1 h2=>by omega,hpk,?_,found n _ hn hm hpk⟩
    by_cases h17:n = 17
    · subst h17
      unfold Dec.Shortest.l0
      refine loopO_end ?_
      show Dec.Shortest.s0 kind a (B D) X (numS p w a).sign ((17:Nat):Int) = _
      unfold Dec.Shortest.s0
      refine letF rfl ?_
      have e:(Option.bind (Dec.away 0 (numS p w a).sign (B D) 17) fun t81=>Option.bind (Dec.to (B D) X 17 t81) fun (t82_0,t82_1)=>some ((numS p w a).sign,t82_0,t82_1,(0:Int))) = some ((numS p w a).sign,B (resD D X 17 (awD 0 (numS p w a).sign D 17)).1,(resD D X 17 (awD 0 (numS p w a).sign D 17)).2,0) :=
        bindE (dAway_eq (n:=17) ho.all ho.last (by omega)) (bindE (to_res h hc ho (n:=17) (by decide) _) rfl)
      exact congrArg (Option.map Sum.inr) e
    · have:=prog_step h hc ho hn (by omega)
      rw [hpk] at this
      exact this
  | succ r ih =>
    intro n hnm hn
    have hst:=prog_step h hc ho hn (by omega)
    cases hpk:pickS p w a D X n with
    | some r =>
      rw [hpk] at hst
      exact ⟨n,r,Nat.le_refl _,by omega,fun n3 h1 h2=>by omega,hpk,hst,found n r hn (by omega) hpk⟩
    | none =>
      obtain ⟨n2,r2,i1,i2,i3,i4,i5,i6⟩:=ih (n + 1) (by omega) (by omega)
      rw [hpk] at hst
      have hrf:=ref_step h hi hb hc ho hn (by omega) N Q hN hQ
      rw [hpk] at hrf
      refine ⟨n2,r2,by omega,i2,fun n3 h1 h2=>?_,i4,hst.trans i5,?_⟩
      · rcases Nat.lt_or_ge n n3 with q | q
        · exact i3 n3 q h2
        · rw [show n3 = n by omega]; exact hpk
      · rw [Ref2.Shortest.l0_eq,hrf]; exact i6
theorem bk_val (h:OkS p w) (hc:(numS p w a).class_ = 1) (ho:Own p w a D X) {n:Nat} (hn1:1 ≤ n) (hn:n ≤ 100) (b:Bool) {sg:Int}:bkF p w sg D X n b = rndF p w 0 sg (RA D n b * 10 ^ (X - n).toNat) (10 ^ ((n:Int) - X).toNat):=by
  have hx:=own_lim h ho hc
  obtain ⟨r1,r2,r3,c,hc1,r4,r5,_⟩:=res_hi ho hn1 b
  have hv:0 < vd (resD D X n b).1:=Nat.lt_of_lt_of_le (Nat.pow_pos (by decide)) r3
  have hsh:shD (resD D X n b).1 = (resD D X n b).1:=shD_full r2 (by omega) (by rw [r1]; exact r3)
  unfold bkF
  have hvx:vxD (resD D X n b).1 ((resD D X n b).2 - n) = (vd (resD D X n b).1,X - n + c):=by
    unfold vxD
    rw [hsh,r1,if_neg (by omega),if_neg (by omega),r4]
    congr 1; omega
  rw [hvx,← r5]
  refine rndF_same (Nat.mul_pos hv (Nat.pow_pos (by decide))) (Nat.pow_pos (by decide)) (Nat.pow_pos (by decide)) ?_ _ _
  show vd (resD D X n b).1 * 10 ^ (X - n + c).toNat * 10 ^ ((n:Int) - X).toNat = vd (resD D X n b).1 * 10 ^ c * 10 ^ (X - n).toNat * 10 ^ (-(X - n + c)).toNat
  rw [Nat.mul_assoc,Nat.mul_assoc,Nat.mul_assoc,← Nat.pow_add,← Nat.pow_add,← Nat.pow_add]
  congr 2; omega
theorem bk_ten (h:OkS p w) (hc:(numS p w a).class_ = 1) (ho:Own p w a D X) {n:Nat} (hn1:1 ≤ n) (hn:n ≤ 99) {b:Bool} {sg:Int} (hR:RA D (n + 1) b = 10 * RA D n b):bkF p w sg D X (n + 1) b = bkF p w sg D X n b:=by
  have hpos:0 < RA D n b:=by
    obtain ⟨r1,r2,r3,c,hc1,r4,r5,_⟩:=res_hi ho hn1 b
    rw [← r5]
    exact Nat.mul_pos (Nat.lt_of_lt_of_le (Nat.pow_pos (by decide)) r3) (Nat.pow_pos (by decide))
  rw [bk_val h hc ho (by omega) (by omega) b,bk_val h hc ho hn1 (by omega) b,hR]
  refine rndF_same (Nat.mul_pos (Nat.mul_pos (by decide) hpos) (Nat.pow_pos (by decide))) (Nat.pow_pos (by decide)) (Nat.pow_pos (by decide)) ?_ _ _
  rw [Nat.mul_comm 10,Nat.mul_assoc,Nat.mul_assoc,Nat.mul_assoc,← Nat.pow_add,← Nat.pow_add,← Nat.pow_succ']
  congr 2; omega
theorem pick_last (h:OkS p w) (hc:(numS p w a).class_ = 1) (ho:Own p w a D X) {n:Nat} (hn1:1 ≤ n) (hn:n ≤ 99) {r:BS × Int} (hpk:pickS p w a D X (n + 1) = some r) (hno:pickS p w a D X n = none):vd r.1 % 10 ≠ 0:=by
  intro h0
  obtain ⟨b,hbr,hrd,hlen⟩:∃ b,r = resD D X (n + 1) b ∧ (bkF p w (numS p w a).sign D X (n + 1) b).1 = a ∧ (b = true → n + 1 < D.length):=by
    unfold pickS at hpk
    split at hpk
    · rename_i q
      refine ⟨_,(Option.some.inj hpk).symm,q,fun hx=>?_⟩
      rcases Nat.lt_or_ge (n + 1) D.length with q2 | q2
      · exact q2
      · unfold awD at hx; rw [if_pos q2] at hx; cases hx
    · split at hpk
      · cases hpk
      · rename_i q2
        split at hpk
        · rename_i q
          exact ⟨_,(Option.some.inj hpk).symm,q,fun _=>by omega⟩
        · cases hpk
  have key:RA D (n + 1) b % 10 = 0:=by
    obtain ⟨r1,r2,r3,c,hc1,r4,r5,_⟩:=res_hi ho (n:=n + 1) (by omega) b
    rw [← hbr] at r5
    rw [← r5,Nat.mul_mod,h0,Nat.zero_mul]
  have htop:vd (topD D (n + 1)) = 10 * vd (topD D n) + vd (topD D (n + 1)) % 10:=by
    have e:topD D (n + 1) = topD D n ++ [(topD D (n + 1)).getLast (by intro q; have:=topD_len D (n + 1); rw [q] at this; simp at this)]:=by
      have e1:=(List.dropLast_concat_getLast (l:=topD D (n + 1)) (by intro q; have:=topD_len D (n + 1); rw [q] at this; simp at this)).symm
      have e2:(topD D (n + 1)).dropLast = topD D n:=by
        rw [List.dropLast_eq_take,topD_len]
        unfold topD
        rw [show n + 1 - 1 = n from rfl]
        rcases Nat.lt_or_ge n D.length with q | q
        · rw [show n + 1 - D.length = 0 by omega,show n - D.length = 0 by omega,List.replicate_zero,List.append_nil,List.append_nil,List.take_take,Nat.min_eq_left (by omega)]
        · rw [List.take_of_length_le (l:=D) (by omega),List.take_of_length_le (l:=D) (by omega),List.take_append,List.take_of_length_le (l:=D) (by omega),List.take_replicate]
          congr 2; omega
      rw [e2] at e1; exact e1
    obtain ⟨x,hx⟩:∃ x,topD D (n + 1) = topD D n ++ [x]:=⟨_,e⟩
    have hdx:dgQ x = true:=by
      have:=topD_dig ho.all (n + 1)
      rw [hx,List.all_append,Bool.and_eq_true] at this
      simpa using this.2
    have hv:=vd_append (topD D n) [x]
    rw [← hx,show vd [x] = cv x by rw [vd_cons]; simp [vd_nil]] at hv
    have hlt:=cv_lt hdx
    have hv:vd (topD D (n + 1)) = vd (topD D n) * 10 + cv x:=hv
    omega
  have hR:RA D (n + 1) b = 10 * RA D n b ∧ (b = true → n < D.length):=by
    cases b with
    | false =>
      refine ⟨?_,fun q=>by cases q⟩
      unfold RA at key ⊢
      rw [if_neg (by decide)] at key
      rw [if_neg (by decide)]
      omega
    | true =>
      have:=hlen rfl
      refine ⟨?_,fun _=>by omega⟩
      unfold RA at key ⊢
      rw [if_pos rfl] at key
      rw [if_pos rfl]
      omega
  rw [bk_ten h hc ho hn1 hn hR.1] at hrd
  unfold pickS at hno
  by_cases q0:(bkF p w (numS p w a).sign D X n (awD 0 (numS p w a).sign D n)).1 = a
  · rw [if_pos q0] at hno; cases hno
  · rw [if_neg q0] at hno
    have hbn:b = !awD 0 (numS p w a).sign D n:=by
      cases hb2:awD 0 (numS p w a).sign D n with
      | true =>
        cases b with
        | true=>rw [hb2] at q0; exact absurd hrd q0
        | false=>rfl
      | false =>
        cases b with
        | true=>rfl
        | false=>rw [hb2] at q0; exact absurd hrd q0
    by_cases cl:D.length ≤ n
    · have hf:awD 0 (numS p w a).sign D n = false:=by unfold awD; rw [if_pos cl]
      rw [hf] at hbn
      have:=hR.2 hbn
      omega
    · rw [if_neg cl,← hbn,if_pos hrd] at hno; cases hno
end Go.Q
namespace Go.Q
open Go
set_option maxRecDepth 10000
theorem whole_any {k:Int} (h:-999 ≤ k ∧ k ≤ 999):Ref2.whole k = some (B (Lib.itoa k)):=by
  rcases Int.lt_or_le k 0 with c | c
  · obtain ⟨u,rfl⟩:∃ u:Nat,k = -(u:Int):=⟨k.natAbs,by omega⟩
    have hu:(Lib.itoa (u:Int)).length ≤ 3:=itoa_len (n:=u) (k:=3) (by omega) (by decide)
    have hw:(Rec51.at_ (99999994 + 4 + 1)).f51 (u:Int) = some (B (Lib.itoa (u:Int))):=whole_F 99999994 4 u (by omega) (by decide)
    show Ref2.whole.F (Rec51.at_ 99999999) (-(u:Int)) = _
    unfold Ref2.whole.F
    refine letT (decide_eq_true (by omega)) (letV (y:=(u:Int)) (by rw [wi (by omega) (by omega)]; omega) (bindE hw (chkE ?_ (letV (B_app [45] _) ?_))))
    · rw [B_size,show (⟨#[45]⟩:ByteArray).size = 1 from rfl]; omega
    · rw [Lib.itoa_neg u (by omega),← Lib.itoa_nonneg u]; rfl
  · obtain ⟨u,rfl⟩:∃ u:Nat,k = (u:Int):=⟨k.toNat,by omega⟩
    exact whole_nat (by omega)
theorem rplain_j3 {m f r:BS} (h1:m.length ≤ 10) (h2:f.length ≤ 1000) (h3:r.length ≤ 1000):Ref2.Plain.j3 (B m) (B f) (B r) = some (B (m ++ f ++ [46] ++ r),0):=by
  have k46:(⟨#[46]⟩:ByteArray).size = 1:=rfl
  unfold Ref2.Plain.j3
  exact chkE (by rw [B_size,B_size]; omega) (letV (B_app _ _) (chkE (by rw [B_size,k46,List.length_append]; omega) (letV (B_app _ [46]) (chkE (by rw [B_size,B_size]; simp; omega) (letV (B_app _ _) rfl)))))
def ptR (m s:BS) (n:Nat):BS:=m ++ (if s.take n = [] then [48] else s.take n) ++ [46] ++ (if s.drop n = [] then [48] else s.drop n)
theorem rplain_l1 {m:BS} (hm:m.length ≤ 10):∀ (z:Nat) (s:BS) (k:Int),(-k).toNat = z → z ≤ 10 → k ≤ 100 → k ≤ s.length → s.length + z ≤ 100 → Ref2.Plain.l1 (B m) (B s) k = some (B (ptR m (List.replicate z 48 ++ s) k.toNat),0):=by
  intro z
  induction z with
  | zero =>
    intro s k hz _ hk hks hs
    have sz:(B s).size = s.length:=B_size _
    obtain ⟨n,rfl⟩:∃ n:Nat,k = n:=⟨k.toNat,by omega⟩
    rw [List.replicate_zero,List.nil_append]
    unfold Ref2.Plain.l1
    refine loopO_end ?_
    show Ref2.Plain.s1 (B m) (B s) n = _
    unfold Ref2.Plain.s1
    refine letF (decide_eq_false (by omega)) (congrArg (Option.map Sum.inr) (?_:_ = some (B (ptR m s ((n:Int)).toNat),(0:Int))))
    have j2:∀ f:BS,f.length ≤ 1000 → Ref2.Plain.j2 (B m) (B (s.drop n)) (B f) = some (B (m ++ f ++ [46] ++ (if s.drop n = [] then [48] else s.drop n)),0):=by
      intro f hf
      unfold Ref2.Plain.j2
      by_cases c:s.drop n = []
      · rw [if_pos c]
        exact letT (by rw [nil_eq]; exact decide_eq_true c) (rplain_j3 hm hf (r:=[48]) (by decide))
      · rw [if_neg c]
        exact letF (by rw [nil_eq]; exact decide_eq_false c) (rplain_j3 hm hf (by rw [List.length_drop]; omega))
    refine chkE (by rw [sz]; omega) (letV (y:=B (s.take n)) (by rw [Int.toNat_natCast,take_B]) (chkE (by rw [sz]; omega) (letV (y:=B (s.drop n)) (by rw [Int.toNat_natCast,drop_B]) ?_)))
    unfold ptR
    rw [Int.toNat_natCast]
    by_cases c:s.take n = []
    · rw [if_pos c]
      exact letT (by rw [nil_eq]; exact decide_eq_true c) (j2 [48] (by decide))
    · rw [if_neg c]
      exact letF (by rw [nil_eq]; exact decide_eq_false c) (j2 _ (by rw [List.length_take]; omega))
  | succ z ih =>
    intro s k hz hz2 hk hks hs
    have sz:(B s).size = s.length:=B_size _
    have k48:(⟨#[48]⟩:ByteArray).size = 1:=rfl
    have hst:Ref2.Plain.s1 (B m) (B s) k = some (.inl (B (48 :: s),k + 1)):=by
      unfold Ref2.Plain.s1
      exact letT (decide_eq_true (by omega)) (chkE (by rw [sz,k48]; omega) (letV (B_app [48] s) (letV (wi (by omega) (by omega)) rfl)))
    have:=ih (48 :: s) (k + 1) (by omega) (by omega) (by omega) (by rw [List.length_cons]; omega) (by rw [List.length_cons]; omega)
    rw [Ref2.Plain.l1_eq,hst]
    refine this.trans ?_
    rw [show (k + 1).toNat = k.toNat by omega,List.replicate_succ',List.append_assoc]; rfl
theorem rplain_l0 {m:BS} (hm:m.length ≤ 10) {k:Int} (hk:-10 ≤ k ∧ k ≤ 50):∀ (z:Nat) (s:BS),(k - s.length).toNat = z → s.length ≤ 60 → Ref2.Plain.l0 k (B m) (B s) = Ref2.Plain.l1 (B m) (B (s ++ List.replicate z 48)) k:=by
  intro z
  induction z with
  | zero =>
    intro s hz hs
    have sz:(B s).size = s.length:=B_size _
    rw [List.replicate_zero,List.append_nil,Ref2.Plain.l0_eq]
    have:Ref2.Plain.s0 k (B m) (B s) = (Ref2.Plain.l1 (B m) (B s) k).map .inr:=by
      unfold Ref2.Plain.s0
      exact letV (y:=(s.length:Int)) (by rw [sz]) (letF (decide_eq_false (by omega)) rfl)
    rw [this]
    cases Ref2.Plain.l1 (B m) (B s) k <;> rfl
  | succ z ih =>
    intro s hz hs
    have sz:(B s).size = s.length:=B_size _
    have k48:(⟨#[48]⟩:ByteArray).size = 1:=rfl
    have:Ref2.Plain.s0 k (B m) (B s) = some (.inl (B (s ++ [48]))):=by
      unfold Ref2.Plain.s0
      exact letV (y:=(s.length:Int)) (by rw [sz]) (letT (decide_eq_true (by omega)) (chkE (by rw [sz,k48]; omega) (letV (B_app s [48]) rfl)))
    rw [Ref2.Plain.l0_eq,this]
    refine (ih (s ++ [48]) (by rw [List.length_append]; simp; omega) (by rw [List.length_append]; simp; omega)).trans ?_
    rw [List.append_assoc,List.replicate_succ]; rfl
end Go.Q
namespace Go.Q
open Go
set_option maxRecDepth 10000
theorem plain_texts {sg:Int} (hs:sg = 0 ∨ sg = 1) {c:BS} {k:Int} (h1:1 ≤ c.length) (hl:c.length ≤ 17) (hk:-400 ≤ k ∧ k ≤ 400) {e:Bool} (he:e = (decide (k < -3) || decide (k > 9))) :
    ∃ t,Dec.Plain.j1 sg k (B c) e = some (t,0) ∧ Ref2.Plain.j4 (B c) k (B (minD sg)) e = some (t,0):=by
  have hml:(minD sg).length ≤ 1:=by unfold minD; split <;> simp
  have sz:∀ l:BS,(B l).size = l.length:=B_size
  by_cases hA:k < -3 ∨ k > 9
  · have het:e = true:=by rw [he]; rcases hA with q | q <;> simp [q]
    rw [het]
    refine ⟨_,plain_exp hs h1 hl hk,?_⟩
    have hi:=itoa_len4 (n:=k - 1) (by omega)
    have k46:(⟨#[46]⟩:ByteArray).size = 1:=rfl
    have k69:(⟨#[69]⟩:ByteArray).size = 1:=rfl
    have j5:∀ f:BS,f.length ≤ 100 → Ref2.Plain.j5 (B c) k (B (minD sg)) (B f) = some (B (minD sg ++ c.take 1 ++ [46] ++ f ++ [69] ++ Lib.itoa (k - 1)),0):=by
      intro f hf
      unfold Ref2.Plain.j5
      exact chkE (by rw [sz]; omega) (letV (y:=B (c.take 1)) (take_B c 1) (chkE (by rw [sz,sz,List.length_take]; omega) (letV (B_app _ _) (chkE (by rw [sz,k46,List.length_append,List.length_take]; omega) (letV (B_app _ [46]) (chkE (by rw [sz,sz]; simp; omega) (letV (B_app _ _) (chkE (by rw [sz,k69]; simp; omega) (letV (B_app _ [69]) (letV (y:=k - 1) (wi (by omega) (by omega))
        (bindE (whole_any (by omega)) (chkE (by rw [sz,sz]; simp; omega) (letV (B_app _ _) rfl)))))))))))))
    unfold Ref2.Plain.j4
    refine condT rfl (chkE (by rw [sz]; omega) (letV (y:=B (c.drop 1)) (drop_B c 1) ?_))
    by_cases q:c.drop 1 = []
    · have hlen:c.length = 1:=by have:=congrArg List.length q; rw [List.length_drop,List.length_nil] at this; omega
      refine letT (by rw [nil_eq]; exact decide_eq_true q) ?_
      rw [q,hlen]
      exact j5 [48] (by decide)
    · have hlen:2 ≤ c.length:=by
        rcases Nat.lt_or_ge c.length 2 with z | z
        · exact absurd (List.drop_of_length_le (by omega)) q
        · exact z
      refine letF (by rw [nil_eq]; exact decide_eq_false q) ?_
      rw [show 2 - c.length = 0 by omega,List.replicate_zero,List.append_nil]
      exact j5 _ (by rw [List.length_drop]; omega)
  · have hef:e = false:=by rw [he,decide_eq_false (by omega),decide_eq_false (by omega)]; rfl
    rw [hef]
    have goR:∀ {Y},Ref2.Plain.l1 (B (minD sg)) (B (c ++ List.replicate (k - c.length).toNat 48)) k = Y → Ref2.Plain.j4 (B c) k (B (minD sg)) false = Y:=by
      intro Y hY
      unfold Ref2.Plain.j4
      refine condF rfl ?_
      unfold Ref2.Plain.j1
      exact (rplain_l0 (by omega) (by omega) _ c rfl (by omega)).trans hY
    by_cases h0:k ≤ 0
    · refine ⟨_,plain_low hs h1 hl hk h0,goR ?_⟩
      rw [show (k - (c.length:Int)).toNat = 0 by omega,List.replicate_zero,List.append_nil]
      refine (rplain_l1 (by omega) (-k).toNat c k rfl (by omega) (by omega) (by omega) (by omega)).trans ?_
      unfold ptR
      have hne:List.replicate (-k).toNat 48 ++ c ≠ []:=by
        intro q; have:=congrArg List.length q; rw [List.length_append,List.length_nil] at this; omega
      rw [show k.toNat = 0 by omega,List.take_zero,List.drop_zero,if_pos rfl,if_neg hne]
    · obtain ⟨n,hn⟩:∃ n:Nat,k = n:=⟨k.toNat,by omega⟩
      refine ⟨_,plain_mid hs h1 hl hk (by omega) hn,goR ?_⟩
      rw [show (k - (c.length:Int)).toNat = n - c.length by omega]
      refine (rplain_l1 (by omega) 0 _ k (by omega) (by omega) (by omega) (by rw [List.length_append,List.length_replicate]; omega) (by rw [List.length_append,List.length_replicate]; omega)).trans ?_
      rw [List.replicate_zero,List.nil_append,show k.toNat = n by omega]
      congr 3
      unfold ptR ptD
      rw [List.length_append,List.length_replicate,show c.length + (n + 1 - c.length) - (c.length + (n + 1 - c.length) - n) = n by omega]
      have hn1:1 ≤ n:=by omega
      rcases Nat.lt_or_ge n c.length with q | q
      · rw [show n - c.length = 0 by omega,show n + 1 - c.length = 0 by omega,List.replicate_zero,List.append_nil]
        have t1:c.take n ≠ []:=by intro z; have:=congrArg List.length z; rw [List.length_take,List.length_nil] at this; omega
        have t2:c.drop n ≠ []:=by intro z; have:=congrArg List.length z; rw [List.length_drop,List.length_nil] at this; omega
        rw [if_neg t1,if_neg t2]
      · have hsl:(c ++ List.replicate (n - c.length) 48).length = n:=by rw [List.length_append,List.length_replicate]; omega
        have e1:c ++ List.replicate (n + 1 - c.length) 48 = (c ++ List.replicate (n - c.length) 48) ++ [48]:=by
          rw [show n + 1 - c.length = n - c.length + 1 by omega,List.replicate_succ',List.append_assoc]
        rw [e1]
        generalize c ++ List.replicate (n - c.length) 48 = s at *
        have t1:s.take n = s:=List.take_of_length_le (by omega)
        have t2:s.drop n = []:=List.drop_of_length_le (by omega)
        have t3:s ≠ []:=by intro z; rw [z] at hsl; simp at hsl; omega
        have t4:(s ++ [48]).take n = s:=by rw [List.take_append_of_le_length (by omega),t1]
        have t5:(s ++ [48]).drop n = [48]:=by rw [List.drop_append_of_le_length (by omega),t2]; rfl
        rw [t1,t2,t4,t5,if_neg t3,if_pos rfl]
theorem trD_self {c:BS} (h:vd c % 10 ≠ 0):trD c = c:=by
  obtain ⟨z,hz⟩:=trD_split c
  have hv:=congrArg vd hz
  rw [vd_append,vd_zeros,List.length_replicate,Nat.add_zero] at hv
  rcases Nat.eq_zero_or_pos z with q | q
  · rw [q,List.replicate_zero,List.append_nil] at hz; exact hz.symm
  · exfalso
    obtain ⟨m,rfl⟩:∃ m,z = m + 1:=⟨z - 1,by omega⟩
    rw [Nat.pow_succ,← Nat.mul_assoc] at hv
    omega
theorem enough {kind:Int} {p w:Nat} (h:kindS kind p w):∃ m,1 ≤ m ∧ m ≤ 17 ∧ 2 ^ p < 10 ^ (m - 1):=by
  rcases h with ⟨_,rfl,rfl⟩ | ⟨_,rfl,rfl⟩ | ⟨_,rfl,rfl⟩
  · exact ⟨5,by decide,by decide,by decide⟩
  · exact ⟨9,by decide,by decide,by decide⟩
  · exact ⟨17,by decide,by decide,by decide⟩
theorem Short_in {kind:Int} {p w:Nat} (h:kindS kind p w) {a:Int} (hi:I64 a) (hb:bitsOk p w a) (hc:(numS p w a).class_ = 1) :
    ∃ c k,Dec.Shortest kind a = some ((numS p w a).sign,B c,k,0) ∧ Ref2.Shortest kind a = some ((numS p w a).sign,B c,k,0) ∧ 1 ≤ c.length ∧ c.length ≤ 17 ∧ trD c = c ∧ -400 ≤ k ∧ k ≤ 400:=by
  obtain ⟨D,X,he,ho⟩:=exact_eq h hb hc
  have hx:=own_lim h.ok ho hc
  obtain ⟨m,m1,m2,hp⟩:=enough h
  obtain ⟨n,r,n1,n2,hno,hpk,hd,hr⟩:=both_short h hi hb hc ho m2 hp _ _ rfl rfl (m - 1) 1 (by omega) (Nat.le_refl _)
  obtain ⟨b,hbr⟩:∃ b,r = resD D X n b:=by
    unfold pickS at hpk
    split at hpk
    · exact ⟨_,(Option.some.inj hpk).symm⟩
    · split at hpk
      · cases hpk
      · split at hpk
        · exact ⟨_,(Option.some.inj hpk).symm⟩
        · cases hpk
  obtain ⟨r1,r2,r3,c,hc1,r4,_⟩:=res_hi ho n1 b
  rw [← hbr] at r1 r2 r3 r4
  refine ⟨r.1,r.2,?_,?_,by omega,by omega,trD_self ?_,by omega,by omega⟩
  · unfold Dec.Shortest
    exact bindE (isFinite_eq h hb hc) (letF rfl (bindE he hd))
  · unfold Ref2.Shortest
    exact bindE (asked_in h (by decide) hi hb hc) (letF rfl hr)
  · rcases Nat.lt_or_ge 1 n with q | q
    · obtain ⟨k,rfl⟩:∃ k,n = k + 1:=⟨n - 1,by omega⟩
      exact pick_last h.ok hc ho (by omega) (by omega) hpk (hno k (by omega) (by omega))
    · obtain rfl:n = 1:=by omega
      have:=vd_lt r.1 r2
      rw [r1] at this
      have e1:(10:Nat) ^ (1 - 1) = 1:=rfl
      omega
theorem Short_out {kind a:Int} (hi:I64 a) (hno:∀ p w,kindS kind p w → bitsOk p w a → (numS p w a).class_ ≠ 1):Ref2.Shortest kind a = some (0,⟨#[]⟩,0,2):=by
  obtain ⟨f,x,e⟩:=asked_out (kind:=kind) (mode:=0) hi (fun p w h _ hb=>hno p w h hb)
  unfold Ref2.Shortest
  exact bindE e (letT rfl rfl)
theorem Plain_in {kind:Int} {p w:Nat} (h:kindS kind p w) {a:Int} (hi:I64 a) (hb:bitsOk p w a):∃ t,Dec.Plain kind a = some (t,0) ∧ Ref2.Plain kind a = some (t,0):=by
  obtain ⟨v1,v2⟩:=is_ok h hi hb
  have sp1:=dSpecial h hi hb
  have sp2:=rSpecial h.ok hb
  have hs2:=sgn_lt p w a
  have hsg:(numS p w a).sign = 0 ∨ (numS p w a).sign = 1:=by rw [numS_sgn]; omega
  have hml:(minD (numS p w a).sign).length ≤ 1:=by unfold minD; split <;> simp
  have goR:∀ {Y},Ref2.Plain.j0 kind a p w = Y → Ref2.Plain kind a = Y:=by
    intro Y hY
    unfold Ref2.Plain
    exact bindE (FormOf_eq h) (letF rfl (bindE v2 (letF rfl hY)))
  have spec:∀ t,spT (numS p w a) = (t,true) → ∃ t,Dec.Plain kind a = some (t,0) ∧ Ref2.Plain kind a = some (t,0):=by
    intro t e0
    rw [e0] at sp1 sp2
    refine ⟨t,?_,goR ?_⟩
    · unfold Dec.Plain; exact bindE v1 (letF rfl (bindE sp1 rfl))
    · unfold Ref2.Plain.j0; exact bindE sp2 rfl
  rcases num_cases (p:=p) (w:=w) (a:=a) with ⟨_,_,c3⟩ | ⟨_,_,c3⟩ | ⟨_,c3 | c3⟩
  · exact spec _ (by unfold spT; rw [if_neg (by rw [c3]; decide),if_pos c3])
  · exact spec _ (by unfold spT; rw [if_pos c3])
  · -- a zero
    have e0:spT (numS p w a) = (⟨#[]⟩,false):=by unfold spT; rw [if_neg (by rw [c3]; decide),if_neg (by rw [c3]; decide)]
    rw [e0] at sp1 sp2
    have hf:Dec.isFinite kind a = some false:=by
      rcases isFinite_any h a with ⟨_,q⟩ | q
      · rw [c3] at q; cases q
      · exact q
    have hd:Dec.Shortest kind a = some (0,⟨#[]⟩,0,2):=by
      unfold Dec.Shortest; exact bindE hf (letT rfl rfl)
    have hr:Ref2.Shortest kind a = some (0,⟨#[]⟩,0,2):=by
      obtain ⟨q,hq⟩:=(fOf h.ok hb).2 (by rw [c3]; decide)
      unfold Ref2.Shortest
      have:Ref2.asked kind 0 a = some (fm p w,q,false):=by
        unfold Ref2.asked
        exact bindE (FormOf_eq h) (letF rfl (letF rfl (letF rfl (bindE v2 (letV rfl (bindE hq rfl))))))
      exact bindE this (letT rfl rfl)
    have k3:(⟨#[48,46,48]⟩:ByteArray).size = 3:=rfl
    refine ⟨B (minD (numS p w a).sign ++ [48,46,48]),?_,goR ?_⟩
    · unfold Dec.Plain
      exact bindE v1 (letF rfl (bindE sp1 (condF rfl (bindE hd (letT rfl (bindE (parts_zero h hb c3) (bindE (minus_eq hsg) (chkE (by rw [B_size,k3]; omega) (letV (B_app _ [48,46,48]) rfl)))))))))
    · unfold Ref2.Plain.j0
      exact bindE sp2 (condF rfl (bindE hr (letT rfl (bindE (rMinus h.ok hb) (chkE (by rw [B_size,k3]; omega) (letV (B_app _ [48,46,48]) rfl))))))
  · have e0:spT (numS p w a) = (⟨#[]⟩,false):=by unfold spT; rw [if_neg (by rw [c3]; decide),if_neg (by rw [c3]; decide)]
    rw [e0] at sp1 sp2
    obtain ⟨c,k,hd,hr,c1,c2,ct,k1,k2⟩:=Short_in h hi hb c3
    obtain ⟨t,t1,t2⟩:=plain_texts hsg c1 c2 ⟨k1,k2⟩ rfl
    have htr:=TR_eq (l:=c) (by omega)
    rw [ct] at htr
    refine ⟨t,?_,goR ?_⟩
    · unfold Dec.Plain
      refine bindE v1 (letF rfl (bindE sp1 (condF rfl (bindE hd (letF rfl (bindE htr ?_))))))
      by_cases q:k < -3
      · rw [decide_eq_true q,Bool.true_or] at t1
        exact letT (decide_eq_true q) t1
      · rw [decide_eq_false q,Bool.false_or] at t1
        exact letF (decide_eq_false q) (letV rfl t1)
    · unfold Ref2.Plain.j0
      refine bindE sp2 (condF rfl (bindE hr (letF rfl (bindE (rMinus h.ok hb) ?_))))
      by_cases q:k < -3
      · rw [decide_eq_true q,Bool.true_or] at t2
        exact letT (decide_eq_true q) t2
      · rw [decide_eq_false q,Bool.false_or] at t2
        exact letF (decide_eq_false q) (letV rfl t2)
theorem no_kind {kind:Int} (hk:¬ (kind = 2 ∨ kind = 4 ∨ kind = 8)) (a:Int):Dec.isFinite kind a = some false ∧ Flt.Valid kind a = some false:=by
  constructor
  · have ht:∃ e x y,Flt.two kind 0 a a = some (e,x,y,false):=by
      refine ⟨⟨0,0⟩,⟨0,0,0,0⟩,⟨0,0,0,0⟩,?_⟩
      unfold Flt.two
      rw [of_no hk]
      rfl
    obtain ⟨e,x,y,ht⟩:=ht
    have hC:Flt.Class kind a = some (B []):=by
      unfold Flt.Class
      exact bindE ht (letT rfl rfl)
    unfold Dec.isFinite
    exact bindE hC (letF (by rw [show (⟨#[108,101,97,115,116]⟩:ByteArray) = B bLeast from rfl,eqB]; rfl) (letV (y:=false) (by rw [show (⟨#[110,111,114,109,97,108]⟩:ByteArray) = B bNormal from rfl,eqB]; rfl) rfl))
  · unfold Flt.Valid
    rw [of_no hk]
    rfl
theorem DecimalShortest_eq (kind a:Int) (hi:I64 a):Law2.DecimalShortest kind a = some true:=by
  have aw:(Option.bind Law2.Awake fun t=>some t) = some true:=by rw [Law2.Awake_eq]; rfl
  have fin:∀ {s k e f:Int} {d t:ByteArray},Dec.Shortest kind a = some (s,d,k,e) → Ref2.Shortest kind a = some (s,d,k,e) → Dec.Plain kind a = some (t,f) → Ref2.Plain kind a = some (t,f) → Law2.DecimalShortest kind a = some true:=by
    intro s k e f d t h1 h2 h3 h4
    have hj:Law2.DecimalShortest.j0 kind a = some true:=by
      unfold Law2.DecimalShortest.j0
      exact bindE h3 (bindE h4 (letT (beq_self_eq_true _) (letT (beq_self_eq_true _) aw)))
    unfold Law2.DecimalShortest
    exact bindE h1 (bindE h2 (letF (bne_self_eq_false _) (letF (by rw [beq_self_eq_true]; rfl) (letF (bne_self_eq_false _) (letF (bne_self_eq_false _) hj)))))
  have outD:Dec.isFinite kind a = some false → Dec.Shortest kind a = some (0,⟨#[]⟩,0,2):=fun hf=>by
    unfold Dec.Shortest; exact bindE hf (letT rfl rfl)
  rcases kind_any kind with ⟨p,w,h⟩ | hk
  · by_cases hb:bitsOk p w a
    · obtain ⟨t,t1,t2⟩:=Plain_in h hi hb
      rcases isFinite_any h a with ⟨_,hc⟩ | hf
      · obtain ⟨c,k,hd,hr,_⟩:=Short_in h hi hb hc
        exact fin hd hr t1 t2
      · have hc:(numS p w a).class_ ≠ 1:=fun q=>by
          have:=isFinite_eq h hb q
          rw [hf] at this; cases this
        refine fin (outD hf) (Short_out hi fun p2 w2 h2 _=>?_) t1 t2
        have:p2 = p ∧ w2 = w:=by rcases h with ⟨_,_,_⟩ | ⟨_,_,_⟩ | ⟨_,_,_⟩ <;> rcases h2 with ⟨_,_,_⟩ | ⟨_,_,_⟩ | ⟨_,_,_⟩ <;> omega
        rw [this.1,this.2]; exact hc
    · obtain ⟨v1,v2⟩:=not_ok h hi hb
      have hf:Dec.isFinite kind a = some false:=by
        rcases isFinite_any h a with ⟨q,_⟩ | q
        · exact absurd q hb
        · exact q
      refine fin (t:=⟨#[]⟩) (f:=2) (outD hf) (Short_out hi fun p2 w2 h2 hb2=>?_) ?_ ?_
      · have:p2 = p ∧ w2 = w:=by rcases h with ⟨_,_,_⟩ | ⟨_,_,_⟩ | ⟨_,_,_⟩ <;> rcases h2 with ⟨_,_,_⟩ | ⟨_,_,_⟩ | ⟨_,_,_⟩ <;> omega
        rw [this.1,this.2] at hb2
        exact absurd hb2 hb
      · unfold Dec.Plain; exact bindE v1 (letT rfl rfl)
      · unfold Ref2.Plain; exact bindE (FormOf_eq h) (letF rfl (bindE v2 (letT rfl rfl)))
  · obtain ⟨hf,hv⟩:=no_kind hk a
    refine fin (t:=⟨#[]⟩) (f:=2) (outD hf) (Short_out hi fun p2 w2 h2 _=>?_) ?_ ?_
    · exact absurd (by rcases h2 with ⟨q,_⟩ | ⟨q,_⟩ | ⟨q,_⟩ <;> omega) hk
    · unfold Dec.Plain; exact bindE hv (letT rfl rfl)
    · unfold Ref2.Plain; exact bindE (FormOf_no hk) (letT rfl rfl)
end Go.Q
