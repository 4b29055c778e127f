import Derived.Test.YtognkiddigibnaaGreatDoorLQ
import Derived.Test.YtognkiddigibnaaGreatDoorNB
import Derived.Test.YtognkiddigibnaaGreatDoorLFE
namespace Go.Q
open Go
set_option maxRecDepth 100000
set_option maxHeartbeats 4000000
def rV (v:api.Value):Bool:=bif v.Kind == 1 then (decide (v.N ≥ -2147483647) && decide (v.N ≤ 2147483647)) else bif v.Kind == 2 then (v.N == 0 || v.N == 1) else bif v.Kind == 3 then (decide (v.N ≥ 0) && decide (v.N < 4294967296)) else v.Kind == 4
theorem rBytes (k:Int):Ref7.Bytes k = some (bif k == 3 then 4 else bif k == 4 then 8 else 0):=by
  unfold Ref7.Bytes letk
  cases k == 3 <;> cases k == 4 <;> rfl
theorem rV_eq (v:api.Value):Ref7.IsValue v = some (rV v):=by
  obtain ⟨k,n⟩:=v
  unfold Ref7.IsValue rV
  show (letk (k == 1) fun t6=>_) = some (bif k == 1 then _ else _)
  cases h1:k == 1 with
  | true =>
    refine letT rfl ?_
    by_cases h:n ≥ -2147483647
    · rw [decide_eq_true h]; exact letT rfl rfl
    · rw [decide_eq_false h]; exact letF rfl rfl
  | false =>
    refine letF rfl ?_
    cases h2:k == 2 with
    | true =>
      refine letT rfl ?_
      show (letk (n == 0) fun t19=>_) = some (n == 0 || n == 1)
      cases n == 0 with
      | true=>exact letT rfl rfl
      | false=>exact letF rfl rfl
    | false =>
      refine letF rfl (bindE (rBytes k) ?_)
      show _ = some (bif k == 3 then (decide (n ≥ 0) && decide (n < 4294967296)) else k == 4)
      cases h3:k == 3 with
      | true =>
        refine letT rfl (bindE (rBytes k) ?_)
        rw [h3]
        refine bindE (a:=decide (n ≥ 0) && decide (n < 4294967296)) ?_ rfl
        unfold Ref1.Valid
        refine letF rfl (letT rfl ?_)
        by_cases h:n ≥ 0
        · rw [decide_eq_true h]; exact letT rfl rfl
        · rw [decide_eq_false h]; exact letF rfl rfl
      | false =>
        cases h4:k == 4 with
        | true =>
          refine letT rfl (bindE (rBytes k) ?_)
          rw [h3,h4]
          rfl
        | false=>exact letF (by decide) rfl
theorem rV_dV {v:api.Value} (h:rV v = true):dV v.Kind v.N = true:=by
  obtain ⟨k,n⟩:=v
  rw [dV_iff]
  unfold rV at h
  unfold ValB
  simp only at h ⊢
  cases h1:k == 1 with
  | true =>
    rw [h1,cond_true,Bool.and_eq_true,decide_eq_true_eq,decide_eq_true_eq] at h
    exact .inl ⟨beq_iff_eq.1 h1,h.1,h.2⟩
  | false =>
    rw [h1,cond_false] at h
    cases h2:k == 2 with
    | true =>
      rw [h2,cond_true,Bool.or_eq_true,beq_iff_eq,beq_iff_eq] at h
      exact .inr (.inl ⟨beq_iff_eq.1 h2,h⟩)
    | false =>
      rw [h2,cond_false] at h
      cases h3:k == 3 with
      | true =>
        rw [h3,cond_true,Bool.and_eq_true,decide_eq_true_eq,decide_eq_true_eq] at h
        have hk:=beq_iff_eq.1 h3
        refine .inr (.inr ⟨.inl hk,?_⟩)
        subst hk
        intro ⟨_,hq⟩
        have:(2:Nat) ^ (24 + 8) = 4294967296:=by decide
        simp only [kp,if_true] at hq
        rw [this] at hq
        omega
      | false =>
        rw [h3,cond_false] at h
        have hk:=beq_iff_eq.1 h
        refine .inr (.inr ⟨.inr hk,?_⟩)
        subst hk
        intro ⟨hq,_⟩
        simp [kp] at hq
theorem rAre_l0 (l:List api.Value) (hl:l.length < 2 ^ 40):∀ m i:Nat,i + m = l.length → Ref15.AreValues.l0 l (i:Int) = some ((l.drop i).all rV && decide (l.length ≤ 500)):=by
  intro m
  induction m with
  | zero =>
    intro i hi
    unfold Ref15.AreValues.l0
    refine loopO_end ?_
    show Ref15.AreValues.s0 l (i:Int) = _
    unfold Ref15.AreValues.s0
    refine letV rfl (letF (decide_eq_false (by omega)) ?_)
    rw [List.drop_of_length_le (by omega),List.all_nil,Bool.true_and]
    rw [show decide (l.length ≤ 500) = decide ((l.length:Int) ≤ 500) by rw [decide_eq_decide]; omega]
    rfl
  | succ m ih =>
    intro i hi
    have hil:i < l.length:=by omega
    rw [List.drop_eq_getElem_cons hil,List.all_cons]
    have start:∀ {r},(letk (!(rV l[i])) fun t15=>bif t15 then some (.inr false) else letk (IntKind.i64.wrap ((i:Int) + (1:Int))) fun t9=>some (.inl t9)) = r → Ref15.AreValues.s0 l (i:Int) = r:=by
      intro r h
      unfold Ref15.AreValues.s0
      exact letV rfl (letT (decide_eq_true (by omega)) (chkE (by omega) (bindE (by rw [Int.toNat_natCast,List.getElem?_eq_getElem hil]) (bindE (rV_eq _) h))))
    cases hv:rV l[i] with
    | false=>exact loopO_end (start (letT (by rw [hv]; rfl) rfl))
    | true=>exact loopO_next (start (letF (by rw [hv]; rfl) (letV (w64n (by omega) (by omega)) rfl))) (ih (i + 1) (by omega))
theorem rAre_eq (l:List api.Value) (hl:l.length < 2 ^ 40):Ref15.AreValues l = some (l.all rV && decide (l.length ≤ 500)):=by
  unfold Ref15.AreValues
  exact rAre_l0 l hl l.length 0 (by omega)
theorem pBad (v:api.Value):Lst.areValues_1 v = some (!(dV v.Kind v.N)):=by
  unfold Lst.areValues_1
  exact bindE (aIsValue_eq v) rfl
theorem pIx_l0 (l:List api.Value) (hl:l.length < 2 ^ 40) (ha:l.all (fun v=>dV v.Kind v.N) = true):∀ m i:Nat,i + m = l.length → Slcs.IndexFunc___quadrat_api.Value_quadrat_api.Value_.l0 l (l.length:Int) Lst.areValues_1 (i:Int) = some (-1):=by
  intro m
  induction m with
  | zero =>
    intro i hi
    unfold Slcs.IndexFunc___quadrat_api.Value_quadrat_api.Value_.l0
    refine loopO_end ?_
    show Slcs.IndexFunc___quadrat_api.Value_quadrat_api.Value_.s0 l (l.length:Int) Lst.areValues_1 (i:Int) = _
    unfold Slcs.IndexFunc___quadrat_api.Value_quadrat_api.Value_.s0
    exact letF (decide_eq_false (by omega)) rfl
  | succ m ih =>
    intro i hi
    have hil:i < l.length:=by omega
    have hv:dV l[i].Kind l[i].N = true:=List.all_eq_true.1 ha _ (List.getElem_mem hil)
    refine loopO_next ?_ (ih (i + 1) (by omega))
    show Slcs.IndexFunc___quadrat_api.Value_quadrat_api.Value_.s0 l (l.length:Int) Lst.areValues_1 (i:Int) = _
    unfold Slcs.IndexFunc___quadrat_api.Value_quadrat_api.Value_.s0
    exact letT (decide_eq_true (by omega)) (chkE (by omega) (bindE (by rw [Int.toNat_natCast,List.getElem?_eq_getElem hil]) (bindE (pBad _) (bifF (by rw [hv]; rfl) (letV (w64n (by omega) (by omega)) rfl)))))
theorem pAre (l:List api.Value) (hl:l.length ≤ 500) (ha:l.all (fun v=>dV v.Kind v.N) = true):Lst.areValues l = some true:=by
  unfold Lst.areValues
  refine letV rfl (letT (decide_eq_true (by omega)) (bindE (a:=false) ?_ rfl))
  unfold Slcs.ContainsFunc___quadrat_api.Value_quadrat_api.Value_
  refine bindE (a:=-1) ?_ (letV (decide_eq_false (by decide)) rfl)
  unfold Slcs.IndexFunc___quadrat_api.Value_quadrat_api.Value_
  exact letV rfl (pIx_l0 l (by omega) ha l.length 0 (by omega))
theorem in_done (was:List api.Value) (r:ByteArray) (n:Int) (h:(was.length:Int) ≤ n):Lst.Input.l0 was was r n = some (was,0):=by
  unfold Lst.Input.l0
  refine loopO_end ?_
  show Lst.Input.s0 was was r n = _
  unfold Lst.Input.s0
  exact letV rfl (letF (decide_eq_false (by omega)) rfl)
theorem in_slash (was:List api.Value) (q:BS) (n:Int) (hq:skB q = q) (h47:hasC 47 q = true):Lst.Input.l0 was was (B q) n = some (was,0):=by
  by_cases h:n < (was.length:Int)
  · unfold Lst.Input.l0
    refine loopO_end ?_
    show Lst.Input.s0 was was (B q) n = _
    unfold Lst.Input.s0
    have hE:=ended_p q
    rw [hq,h47] at hE
    exact letV rfl (letT (decide_eq_true h) (bindE hE (bifT rfl rfl)))
  · exact in_done was _ n (by omega)
theorem nulls_run (was:List api.Value) (r:ByteArray) (m:Nat) (hm:m ≤ 999) (i:Nat) (hw:was.length ≤ 500) :
    Lst.Input.l1 was was r (i:Int) (m:Int) ⟨#[]⟩ = some (.inl (was,r,((i + min m (was.length - i):Nat):Int))):=by
  have step:∀ (m:Nat),m ≤ 999 → ∀ i:Nat,Lst.Input.l1 was was r (i:Int) (m:Int) ⟨#[]⟩ = some (.inl (was,r,((i + min m (was.length - i):Nat):Int))):=by
    intro m
    induction m with
    | zero =>
      intro _ i
      unfold Lst.Input.l1
      refine loopO_end ?_
      show Lst.Input.s1 was was r (i:Int) ((0:Nat):Int) ⟨#[]⟩ = _
      unfold Lst.Input.s1
      refine letF (decide_eq_false (by omega)) ?_
      rw [Nat.zero_min,Nat.add_zero]
    | succ m ih =>
      intro hm i
      by_cases hi:i < was.length
      · have h:=ih (by omega) (i + 1)
        rw [show i + 1 + min m (was.length - (i + 1)) = i + min (m + 1) (was.length - i) by omega] at h
        refine loopO_next ?_ h
        show Lst.Input.s1 was was r (i:Int) ((m + 1:Nat):Int) ⟨#[]⟩ = _
        unfold Lst.Input.s1
        refine letT (decide_eq_true (by omega)) (letV rfl (letT (decide_eq_true (by omega)) ?_))
        unfold Lst.Input.j1
        refine letF (by rw [eqL]; rfl) (letV (w64n (by omega) (by omega)) ?_)
        unfold Lst.Input.j2
        exact letV (y:=(m:Int)) (by rw [wi (by omega) (by omega)]; omega) rfl
      · unfold Lst.Input.l1
        refine loopO_end ?_
        show Lst.Input.s1 was was r (i:Int) ((m + 1:Nat):Int) ⟨#[]⟩ = _
        unfold Lst.Input.s1
        refine letT (decide_eq_true (by omega)) (letV rfl (letF (decide_eq_false (by omega)) ?_))
        rw [show i + min (m + 1) (was.length - i) = i by omega]
  exact step m hm i
theorem in_null (was:List api.Value) (q:BS) (m:Nat) (i:Nat) (hw:was.length ≤ 500) (hg:Good q) (hq:skB q = q) (h0:(q == []) = false) (h47:hasC 47 q = false) (hr:repS (tokL q) = some (m,[])) (hm:m ≤ 999) (hi:i < was.length) {v:Option (List api.Value × Int)}
    (h:Lst.Input.l0 was was (B (cmD (skB (rstL q)))) ((i + min m (was.length - i):Nat):Int) = v):Lst.Input.l0 was was (B q) (i:Int) = v:=by
  refine loopO_next ?_ h
  show Lst.Input.s0 was was (B q) (i:Int) = _
  unfold Lst.Input.s0
  have hE:=ended_p q
  rw [hq,h47,h0] at hE
  have hn:=nextT q hg hq
  rw [hr] at hn
  refine letV rfl (letT (decide_eq_true (by omega)) (bindE hE (bifF rfl (bifF rfl (bindE hn (letF (by rfl) ?_))))))
  exact nulls_run was _ m hm i hw
theorem commas_in (was:List api.Value) (hw:was.length ≤ 500):∀ m i:Nat,i + m = was.length → Lst.Input.l0 was was (B (List.replicate m 44 ++ [32,47])) (i:Int) = some (was,0):=by
  intro m
  induction m with
  | zero=>intro i hi; exact in_done was _ _ (by omega)
  | succ m ih =>
    intro i hi
    have hg:Good (List.replicate (m + 1) 44 ++ [32,47]):=by
      refine ⟨?_,by simp only [List.length_append,List.length_replicate,List.length_cons,List.length_nil]; omega⟩
      rw [List.all_append,Bool.and_eq_true]
      refine ⟨?_,by decide⟩
      rw [List.all_eq_true]
      intro x hx
      rw [List.eq_of_mem_replicate hx]; decide
    have h:=ih (i + 1) (by omega)
    refine in_null was (List.replicate (m + 1) 44 ++ [32,47]) 1 i hw hg rfl rfl rfl rfl (by omega) (by omega) ?_
    rw [show i + min 1 (was.length - i) = i + 1 by omega]
    exact h
theorem input_of (was:List api.Value) (t:BS) (hw:was.length ≤ 500) (ha:was.all (fun v=>dV v.Kind v.N) = true) (ht:Good t) (h:Lst.Input.l0 was was (B t) 0 = some (was,0)):Lst.Input (B t) was = some (was,0):=by
  unfold Lst.Input
  have hx:isTxt t = true:=by
    unfold isTxt
    rw [ht.1,decide_eq_true ht.2]; rfl
  refine bindE (pAre was hw ha) (letF rfl (bindE ((ptext_eq t (by have:=ht.2; omega)).trans (by rw [hx])) (letF rfl ?_)))
  unfold Lst.Input.j0
  refine bindE (a:=was) ?_ h
  unfold Slcs.CloneV
  exact chkE (by omega) rfl
theorem same_self (l:List api.Value) (hl:l.length < 2 ^ 40):Ref15.SameValues l l = some true:=by
  unfold Ref15.SameValues
  refine letV rfl (letV rfl (letF (by simp) ?_))
  have go:∀ m i:Nat,i + m = l.length → Ref15.SameValues.l0 l l (i:Int) = some true:=by
    intro m
    induction m with
    | zero =>
      intro i hi
      unfold Ref15.SameValues.l0
      refine loopO_end ?_
      show Ref15.SameValues.s0 l l (i:Int) = _
      unfold Ref15.SameValues.s0
      exact letV rfl (letF (decide_eq_false (by omega)) rfl)
    | succ m ih =>
      intro i hi
      have hil:i < l.length:=by omega
      refine loopO_next ?_ (ih (i + 1) (by omega))
      show Ref15.SameValues.s0 l l (i:Int) = _
      unfold Ref15.SameValues.s0
      have hx:l[(i:Int).toNat]? = some l[i]:=by rw [Int.toNat_natCast,List.getElem?_eq_getElem hil]
      exact letV rfl (letT (decide_eq_true (by omega)) (chkE (by omega) (bindE hx (chkE (by omega) (bindE hx (letF (by simp) (letV (w64n (by omega) (by omega)) rfl)))))))
  exact go l.length 0 (by omega)
theorem ListingNulls_of (was:List api.Value) (_:was.length < 2 ^ 63):Law15.ListingNulls was = some true:=by
  unfold Law15.ListingNulls
  by_cases h5:(was.length:Int) > 500
  · exact letV rfl (letT (decide_eq_true h5) (bindE Law15.Awake_eq rfl))
  · have hw:was.length ≤ 500:=by omega
    refine letV rfl (letF (decide_eq_false h5) (bindE (rAre_eq was (by omega)) ?_))
    cases hr:was.all rV && decide (was.length ≤ 500) with
    | false=>exact letT rfl (bindE Law15.Awake_eq rfl)
    | true =>
      refine letF rfl ?_
      have hall:was.all (fun v=>dV v.Kind v.N) = true:=by
        rw [Bool.and_eq_true] at hr
        rw [List.all_eq_true] at *
        exact fun v hv=>rV_dV (hr.1 v hv)
      unfold Law15.ListingNulls.j0 Law15.ListingNulls.l0
      refine loopO_run (fun i=>(B (List.replicate i 44),(i:Int))) was.length (fun i hi=>?_) ?_
      · show Law15.ListingNulls.s0 was (B (List.replicate i 44)) (i:Int) = _
        unfold Law15.ListingNulls.s0
        refine letV rfl (letT (decide_eq_true (by omega)) (chkE ?_ (letV (y:=B (List.replicate (i + 1) 44)) ?_ (letV (w64n (by omega) (by omega)) rfl))))
        · show (((B (List.replicate i 44)).size + 1:Nat):Int) ≤ _
          rw [size_B,List.length_replicate]; omega
        · rw [List.replicate_succ']; exact B_appR _ [44]
      · refine loopO_end ?_
        show Law15.ListingNulls.s0 was (B (List.replicate was.length 44)) (was.length:Int) = _
        unfold Law15.ListingNulls.s0
        have hS:=same_self was (by omega)
        have hI1:Lst.Input (B (List.replicate was.length 44 ++ [32,47])) was = some (was,0):=by
          refine input_of was _ hw hall ⟨?_,by simp only [List.length_append,List.length_replicate,List.length_cons,List.length_nil]; omega⟩ (commas_in was hw was.length 0 (by omega))
          rw [List.all_append,Bool.and_eq_true]
          refine ⟨?_,by decide⟩
          rw [List.all_eq_true]
          intro x hx
          rw [List.eq_of_mem_replicate hx]; decide
        have hI2:Lst.Input ⟨#[57,57,57,42]⟩ was = some (was,0):=by
          refine input_of was [57,57,57,42] hw hall ⟨by decide,by decide⟩ ?_
          by_cases h0:0 < was.length
          · refine in_null was [57,57,57,42] 999 0 hw ⟨by decide,by decide⟩ rfl rfl rfl (by decide) (by omega) h0 ?_
            exact in_done was _ _ (by omega)
          · exact in_done was _ _ (by omega)
        have hI3:Lst.Input ⟨#[47]⟩ was = some (was,0):=input_of was [47] hw hall ⟨by decide,by decide⟩ (in_slash was [47] 0 rfl rfl)
        refine letV rfl (letF (decide_eq_false (by omega)) ?_)
        refine congrArg (Option.map Sum.inr) (a₂:=some true) ?_
        refine chkE ?_ (letV (show _ = B (List.replicate was.length 44 ++ [32,47]) from B_appR _ [32,47]) (bindE hI1 (bindE hI2 (bindE hI3 (letT rfl (bindE hS (bifT rfl (letT rfl (bindE hS (bifT rfl (letT rfl (bindE hS (bifT rfl (bindE Law15.Awake_eq rfl))))))))))))))
        show (((B (List.replicate was.length 44)).size + 2:Nat):Int) ≤ _
        rw [size_B,List.length_replicate]; omega
end Go.Q
