/- Whether two structs are the same. -/
import Derived.Test.YthdklcpkoeehnaaDoorQJ
import Derived.Laws.StructEq
namespace Go.Q
open Go

inductive EK | i | s | b

def leafQ (P : Program) (t : TypeId) : Option EK :=
  match P.underlying t with
  | some (.int _) => some .i
  | some .string => some .s
  | some .bool => some .b
  | _ => none

/-- The kinds of a flat struct's fields. -/
def flatFields (P : Program) : List Field → Nat → Option (List EK)
  | [], _ => some []
  | f :: fs, n =>
    if (f.name == "_" || f.offset != n) = true then none else
      match leafQ P f.type with
      | some k => (flatFields P fs (n + 1)).map (k :: ·)
      | none => none

def flatQ (P : Program) (t : TypeId) : Option (List EK) :=
  if (P.stoodInHeld t || P.eqGuardType P.depth t) = true then none else
    match P.underlying t with
    | some (.struct fs) => flatFields P fs.toList 0
    | _ => none

def eqKs : List EK → List AV → List AV → (Bool → Prop) → Prop
  | [], _, _, K => K true
  | .s :: ks, .lit (.string a) :: cs, .lit (.string b) :: ds, K => eqKs ks cs ds (fun r => K ((a.toList == b.toList) && r))
  | .i :: ks, .lit (.int k a) :: cs, .lit (.int k' b) :: ds, K => ifK (k = k') (eqKs ks cs ds (fun r => K ((a == b) && r)))
  | .b :: ks, .lit (.bool a) :: cs, .lit (.bool b) :: ds, K => eqKs ks cs ds (fun r => K ((a == b) && r))
  | _, _, _, _ => False

theorem run_part_leaf {P : Program} {w : World} {t : TypeId} {xs : Array Value} {n : Nat} {k : EK} (hk : leafQ P t = some k) (hn : n < xs.size) :
    (part t xs n).run P w = .ok (xs.getD n Go.undef) w := by
  have ha : aggQ P t = some false := by
    unfold leafQ at hk
    unfold aggQ
    split at hk <;> simp_all
  simp only [part, Sem.run_bind, run_isAggQ ha, Result.andThen_ok, Bool.false_eq_true, if_false]
  rw [Array.getElem?_eq_getElem hn, getD_of hn]
  rfl

theorem leaf_u {P : Program} {t : TypeId} : (leafQ P t = some .s → P.underlying t = some .string) ∧ (leafQ P t = some .b → P.underlying t = some .bool) ∧ (leafQ P t = some .i → ∃ k, P.underlying t = some (.int k)) := by
  unfold leafQ
  split <;> simp_all

theorem eqKs_ok {P : Program} : ∀ {ks : List EK} {cs ds : List AV} {K : Bool → Prop}, eqKs ks cs ds K → ∃ r, K r ∧
    ∀ (I : Nat → Prop) (w : World) (μ : MM) (xs ys : Array Value) (n d : Nat) (fs : List Field), flatFields P fs n = some ks → xs.size = n + cs.length → ys.size = n + ds.length →
      (∀ i (hi : i < cs.length), RelV I w μ cs[i] (xs.getD (n + i) Go.undef)) → (∀ i (hi : i < ds.length), RelV I w μ ds[i] (ys.getD (n + i) Go.undef)) →
      (Op.eqFields (d + 1) xs ys fs).run P w = .ok r w
  | [], cs, ds, K, h => by
    refine ⟨true, h, fun I w μ xs ys n d fs hf _ _ _ _ => ?_⟩
    cases fs with
    | nil => simp [Op.eqFields]
    | cons f fs =>
      simp only [flatFields] at hf
      split at hf
      · cases hf
      · split at hf
        · cases hg : flatFields P fs (n + 1) with
          | none => rw [hg] at hf; cases hf
          | some l => rw [hg] at hf; cases hf
        · cases hf
  | k :: ks, cs, ds, K, h => by
    have step : ∀ (c e : AV) (cs' ds' : List AV) (b : Bool), cs = c :: cs' → ds = e :: ds' → eqKs ks cs' ds' (fun r => K (b && r)) →
        (∀ (I : Nat → Prop) (w : World) (μ : MM) (u v : Value) (d : Nat) (t : TypeId), RelV I w μ c u → RelV I w μ e v → leafQ P t = some k → (Op.equalIn (d + 1) t u v).run P w = .ok b w) →
        ∃ r, K r ∧ ∀ (I : Nat → Prop) (w : World) (μ : MM) (xs ys : Array Value) (n d : Nat) (fs : List Field), flatFields P fs n = some (k :: ks) → xs.size = n + cs.length → ys.size = n + ds.length →
          (∀ i (hi : i < cs.length), RelV I w μ cs[i] (xs.getD (n + i) Go.undef)) → (∀ i (hi : i < ds.length), RelV I w μ ds[i] (ys.getD (n + i) Go.undef)) →
          (Op.eqFields (d + 1) xs ys fs).run P w = .ok r w := by
      intro c e cs' ds' b hc hd hr hb
      subst hc hd
      obtain ⟨r, hK, hall⟩ := eqKs_ok (P := P) hr
      refine ⟨_, hK, fun I w μ xs ys n d fs hf hx hy hxc hyc => ?_⟩
      cases fs with
      | nil => cases hf
      | cons f fs =>
        simp only [flatFields] at hf
        split at hf
        · cases hf
        · rename_i hcond
          split at hf
          · rename_i k' hk'
            cases hg : flatFields P fs (n + 1) with
            | none => rw [hg] at hf; cases hf
            | some l =>
              rw [hg] at hf
              simp only [Option.map_some, Option.some.injEq, List.cons.injEq] at hf
              obtain ⟨rfl, rfl⟩ := hf
              simp only [Bool.or_eq_true, beq_iff_eq, bne_iff_ne, ne_eq, not_or, Decidable.not_not] at hcond
              obtain ⟨hname, hoff⟩ := hcond
              simp only [List.length_cons] at hx hy
              have h0 := hxc 0 (by simp)
              have h0' := hyc 0 (by simp)
              simp only [List.getElem_cons_zero, Nat.add_zero] at h0 h0'
              have hrec := hall I w μ xs ys (n + 1) d fs hg (by omega) (by omega)
                (fun i hi => by have := hxc (i + 1) (by simpa using hi); simp only [List.getElem_cons_succ] at this; rwa [show n + 1 + i = n + (i + 1) by omega])
                (fun i hi => by have := hyc (i + 1) (by simpa using hi); simp only [List.getElem_cons_succ] at this; rwa [show n + 1 + i = n + (i + 1) by omega])
              rw [Op.eqFields]
              simp only [if_pos hname, Sem.run_bind, hoff, run_part_leaf hk' (show n < xs.size by omega), run_part_leaf hk' (show n < ys.size by omega), Result.andThen_ok, hb I w μ _ _ d _ h0 h0' hk']
              cases b
              · simp
              · simpa using hrec
          · cases hf
    unfold eqKs at h
    split at h
    · rename_i e1; cases e1
    · rename_i e1
      cases e1
      exact step _ _ _ _ _ rfl rfl h (fun I w μ u v d t hu hv hk => by
        obtain rfl := hu.lit_eq
        obtain rfl := hv.lit_eq
        exact run_equalIn_string w d t _ _ (leaf_u.1 hk))
    · rename_i e1
      cases e1
      replace h := ifK_elim h
      obtain ⟨e2, h⟩ := h
      subst e2
      exact step _ _ _ _ _ rfl rfl h (fun I w μ u v d t hu hv hk => by
        obtain rfl := hu.lit_eq
        obtain rfl := hv.lit_eq
        obtain ⟨k', hk'⟩ := leaf_u.2.2 hk
        exact run_equalIn_int w d t _ k' _ _ hk')
    · rename_i e1
      cases e1
      exact step _ _ _ _ _ rfl rfl h (fun I w μ u v d t hu hv hk => by
        obtain rfl := hu.lit_eq
        obtain rfl := hv.lit_eq
        exact run_equalIn_bool' w d t _ _ (leaf_u.2.1 hk))
    · exact h.elim

/-- The sorts of a struct's fields are known, and it goes on. -/
structure EqS (P : Program) (t : TypeId) (cs ds : List AV) (K : Bool → Prop) : Prop where
  ex : ∃ ks, flatQ P t = some ks ∧ eqKs ks cs ds K

def abin2 (P : Program) (op : BinOp) (t : TypeId) (x y : AV) (K : AV → Prop) : Prop :=
  match x, y with
  | .agg cs, .agg ds =>
    match op with
    | .eql => EqS P t cs ds (fun r => K (.lit (.bool r)))
    | .neq => EqS P t cs ds (fun r => K (.lit (.bool (!r))))
    | _ => False
  | x, y => abin P op t x y K

theorem eqS_ok {P : Program} {t : TypeId} {cs ds : List AV} {K : Bool → Prop} (h : EqS P t cs ds K) :
    ∃ r, K r ∧ ∀ (I : Nat → Prop) (w : World) (μ : MM) (u v : Value) (op : BinOp) (ox oy : Operand), RelV I w μ (.agg cs) u → RelV I w μ (.agg ds) v →
      (eqGuard op t ox oy u v).run P w = .ok () w ∧ (binOp .eql t u v).run P w = .ok (.bool r) w ∧ (binOp .neq t u v).run P w = .ok (.bool (!r)) w := by
  obtain ⟨ks, hq, hk⟩ := h.ex
  obtain ⟨r, hK, hall⟩ := eqKs_ok (P := P) hk
  refine ⟨r, hK, fun I w μ u v op ox oy hu hv => ?_⟩
  obtain ⟨xs, rfl, hx, hxc⟩ := hu.agg_inv
  obtain ⟨ys, rfl, hy, hyc⟩ := hv.agg_inv
  unfold flatQ at hq
  split at hq
  · cases hq
  · rename_i hc
    simp only [Bool.or_eq_true, not_or, Bool.not_eq_true] at hc
    split at hq
    · rename_i fs hfs
      have hf : P.fieldsOf t = fs := by simp [Program.fieldsOf, hfs]
      have e := hall I w μ xs ys 0 9998 fs.toList hq (by omega) (by omega) (fun i hi => by simpa using hxc i hi) (fun i hi => by simpa using hyc i hi)
      have e2 : (Op.equalIn 10000 t (.agg xs) (.agg ys)).run P w = .ok r w := by
        rw [run_equalIn_struct (P := P) w 9999 t xs ys (by rw [hf]; exact hfs) hc.1, hf]
        exact e
      refine ⟨run_eqGuard_agg w op t ox oy xs ys hc.2, ?_, ?_⟩
      · rw [run_eql_struct, e2]; rfl
      · rw [run_neq_struct, e2]; rfl
    · cases hq

theorem abin2_ok {P : Program} {op : BinOp} {t : TypeId} {x y : AV} {K : AV → Prop} (h : abin2 P op t x y K) :
    ∃ av, K av ∧ ∀ (I : Nat → Prop) (w : World) (μ : MM) (u v : Value) (ox oy : Operand), RelV I w μ x u → RelV I w μ y v →
      ∃ r, (do eqGuard op t ox oy u v; binOp op t u v : Sem Value).run P w = .ok r w ∧ RelV I w μ av r := by
  unfold abin2 at h
  split at h
  · split at h
    · obtain ⟨r, hK, hall⟩ := eqS_ok h
      refine ⟨_, hK, fun I w μ u v ox oy hu hv => ?_⟩
      obtain ⟨h1, h2, h3⟩ := hall I w μ u v .eql ox oy hu hv
      exact ⟨.bool r, by simp only [Sem.run_bind, h1, Result.andThen_ok, h2], .lit _ _⟩
    · obtain ⟨r, hK, hall⟩ := eqS_ok h
      refine ⟨_, hK, fun I w μ u v ox oy hu hv => ?_⟩
      obtain ⟨h1, h2, h3⟩ := hall I w μ u v .neq ox oy hu hv
      exact ⟨.bool (!r), by simp only [Sem.run_bind, h1, Result.andThen_ok, h3], .lit _ _⟩
    · exact h.elim
  · exact abin_ok h

theorem SOp.bin2 {P : Program} {n : Nat} {o : Oper} {N : St → Prop} {st : St} {op : BinOp} {t u : TypeId} {x y : Operand} (ho : o.op = .binOp op t x y u) (h : abin2 P op t (aeval st x) (aeval st y) (fun v => N (st.put o.dst v))) : SOp P n o N st := by
  obtain ⟨av, hN, hr⟩ := abin2_ok h
  refine SOp.pure (fun I μ a w R => ?_) hN
  obtain ⟨r, h1, h2⟩ := hr I w μ _ _ x y (R.eval x) (R.eval y)
  simp only [Sem.run_bind] at h1
  refine ⟨r, ?_, h2⟩
  simp only [execOp, ho, Sem.run_bind]
  rw [h1]; rfl

end Go.Q
