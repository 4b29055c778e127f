/- Regions, code, loops, in steps that go under names. -/
import Derived.Test.YthdklcpkoeehnaaDoorQV
namespace Go.Q
open Go

/-- A region's operations, one after the other. -/
def brwp (P : Program) (n : Nat) (ops : Array Oper) : List Oper → (St → Prop) → St → Prop
  | [], N, st => N st
  | o :: r, N, st => match o.guard with
    | none => cstep P n o (brwp P n ops r N) st
    | some (j, want) => match (ops[j]?).bind (·.dst) with
      | some d => match st.get d with
        | .lit (.bool b) => ifB b
            (st.putK (some d) (.lit (.bool true)) fun st => match want with | true => cstep P n o (brwp P n ops r N) st | false => st.putK o.dst (.tup []) (brwp P n ops r N))
            (st.putK (some d) (.lit (.bool false)) fun st => match want with | false => cstep P n o (brwp P n ops r N) st | true => st.putK o.dst (.tup []) (brwp P n ops r N))
        | .tup [] => st.putK o.dst (.tup []) (brwp P n ops r N)
        | _ => False
      | none => False

theorem brwp_ok {P : Program} {n : Nat} {ops : Array Oper} : ∀ {l : List Oper} {N : St → Prop} {st : St}, brwp P n ops l N st → SR P n ops l N st := by
  intro l
  induction l with
  | nil =>
    intro N st h I μ a w R hn Q hQ
    exact hQ _ _ _ _ _ h R (Step.refl _ _ _) (Pre.refl _ _ hn)
  | cons o r ih =>
    intro N st h
    have doop : ∀ st, cstep P n o (brwp P n ops r N) st → ∀ I μ a w, Rel I μ st a w → n ≤ μ.length → ∀ Q : Exit → Act → World → Prop,
        (∀ I' μ' st' a' w', N st' → Rel I' μ' st' a' w' → Step I μ w I' μ' w' → Pre n μ μ' → Q .normal a' w') → o.wp P a w (wpList P ops Q r) Q := by
      intro st h I μ a w R hn Q hQ
      refine cstep_ok h I μ a w R hn _ _ (fun I' μ' st' v' w' h' R' S' p' => ih h' I' μ' _ w' R' p'.1 Q (fun I2 μ2 st2 a2 w2 h2 R2 S2 p2 => hQ _ _ _ _ _ h2 R2 (S'.trans S2) (p'.trans p2)))
    intro I μ a w R hn Q hQ
    simp only [brwp] at h
    cases hg : o.guard with
    | none =>
      rw [hg] at h
      simp only at h
      unfold wpList
      rw [if_pos (by simp [Region.wanted, hg])]
      exact .inl (doop _ h I μ a w R hn Q hQ)
    | some jw =>
      obtain ⟨j, want⟩ := jw
      rw [hg] at h
      simp only at h
      cases hd : (ops[j]?).bind (·.dst) with
      | none => rw [hd] at h; exact h.elim
      | some d =>
        rw [hd] at h
        simp only at h
        split at h
        · rename_i b hb
          have hlt := get_lt hb (by simp)
          have hv := R.tmps d
          rw [hb] at hv
          have hval := hv.lit_eq
          have hy : yielded ops a.tmps j = some b := by
            unfold yielded
            rw [hd]
            have hlt' : d < a.tmps.size := by rw [R.size]; exact hlt
            rw [getD_of hlt'] at hval
            simp only [Option.bind_some, Array.getElem?_eq_getElem hlt', hval]
          obtain ⟨hT, hF⟩ := ifB_elim h
          have R' : Rel I μ (st.put (some d) (.lit (.bool b))) a w := by
            have := R.put (v := .bool b) (.lit _ (.bool b)) (some d)
            have e : a.put (some d) (.bool b) = a := by
              cases a with
              | mk tmps defers =>
                simp only [Act.put]
                congr 1
                apply Array.ext
                · simp
                · intro i h1 h2
                  rw [Array.getElem_setIfInBounds]
                  split
                  · rename_i e
                    subst e
                    have hlt' : d < tmps.size := h2
                    have := hval
                    rw [getD_of hlt'] at this
                    exact this.symm
                  · rfl
            rwa [e] at this
          have skip : ∀ st, Rel I μ st a w → brwp P n ops r N (st.put o.dst (.tup [])) → wpList P ops Q r (a.put o.dst Go.undef) w := fun st R h => ih h I μ _ w (R.put rel_tup0 o.dst) hn Q hQ
          unfold wpList
          cases b with
          | true =>
            have h := hT rfl
            simp only [St.putK_eq] at h
            cases want with
            | true =>
              rw [if_pos (by simp [Region.wanted, hg, hy])]
              exact .inl (doop _ h I μ a w R' hn Q hQ)
            | false =>
              rw [if_neg (by simp [Region.wanted, hg, hy])]
              exact skip _ R' h
          | false =>
            have h := hF rfl
            simp only [St.putK_eq] at h
            cases want with
            | false =>
              rw [if_pos (by simp [Region.wanted, hg, hy])]
              exact .inl (doop _ h I μ a w R' hn Q hQ)
            | true =>
              rw [if_neg (by simp [Region.wanted, hg, hy])]
              exact skip _ R' h
        · rename_i hb
          have hlt := get_lt hb (by simp)
          have hv := R.tmps d
          rw [hb] at hv
          have hval := tup0_inv hv
          have hy : yielded ops a.tmps j = none := by
            unfold yielded
            rw [hd]
            have hlt' : d < a.tmps.size := by rw [R.size]; exact hlt
            rw [getD_of hlt'] at hval
            simp only [Option.bind_some, Array.getElem?_eq_getElem hlt', hval]
          rw [St.putK_eq] at h
          unfold wpList
          rw [if_neg (by simp [Region.wanted, hg, hy])]
          exact ih h I μ _ w (R.put rel_tup0 o.dst) hn Q hQ
        · exact h.elim

/-- An operation of a region whose order is open: it gives av, and leaves memory as it is. -/
structure DNodeB (P : Program) (o : Oper) (st : St) (K : AV → Prop) : Prop where
  ex : ∃ av, dstep P st.h.length o (fun st'' => st'' = (restrict o st).put o.dst av) (restrict o st) ∧ K av

def bdwp (P : Program) (ops : Array Oper) : List Oper → (St → Prop) → St → Prop
  | [], N, st => N st
  | o :: r, N, st => match o.guard with
    | none => DNodeB P o st (fun av => st.putK o.dst av (bdwp P ops r N))
    | some (j, want) => match (ops[j]?).bind (·.dst) with
      | some d => match st.get d with
        | .lit (.bool b) => ifB b
            (st.putK (some d) (.lit (.bool true)) fun st => match want with | true => DNodeB P o st (fun av => st.putK o.dst av (bdwp P ops r N)) | false => st.putK o.dst (.tup []) (bdwp P ops r N))
            (st.putK (some d) (.lit (.bool false)) fun st => match want with | false => DNodeB P o st (fun av => st.putK o.dst av (bdwp P ops r N)) | true => st.putK o.dst (.tup []) (bdwp P ops r N))
        | .tup [] => st.putK o.dst (.tup []) (bdwp P ops r N)
        | _ => False
      | none => False

theorem bdwp_ok {P : Program} {ops : Array Oper} {N : St → Prop} : ∀ {l : List Oper} {st : St}, bdwp P ops l N st → ∀ st1, SameSt st st1 → ∃ tr sF, TraceL P ops l st1 tr sF ∧ N sF := by
  intro l
  induction l with
  | nil => intro st h st1 hs; exact ⟨[], st, ⟨rfl, ⟨fun d => (hs.get d).symm, hs.n.symm, hs.h.symm⟩⟩, h⟩
  | cons o r ih =>
    intro st h st1 hs
    have node : ∀ st, SameSt st st1 → DNodeB P o st (fun av => st.putK o.dst av (bdwp P ops r N)) → ∃ av tr sF, DO P o st av ∧ TraceL P ops r (st1.put o.dst av) tr sF ∧ N sF := by
      intro st hs ⟨av, h1, h2⟩
      rw [St.putK_eq] at h2
      obtain ⟨tr, sF, h3, h4⟩ := ih h2 _ (hs.put o.dst av)
      exact ⟨av, tr, sF, dstep_ok h1, h3, h4⟩
    simp only [bdwp] at h
    cases hg : o.guard with
    | none =>
      rw [hg] at h
      simp only at h
      obtain ⟨av, tr, sF, h1, h2, h3⟩ := node st hs h
      exact ⟨av :: tr, sF, ⟨av, tr, rfl, ⟨st, hs, by rw [hg]; exact h1⟩, h2⟩, h3⟩
    | some jw =>
      obtain ⟨j, want⟩ := jw
      rw [hg] at h
      simp only at h
      cases hd : (ops[j]?).bind (·.dst) with
      | none => rw [hd] at h; exact h.elim
      | some d =>
        rw [hd] at h
        simp only at h
        split at h
        · rename_i b hb
          have hs' : SameSt (st.put (some d) (.lit (.bool b))) st1 := hs.reput hb
          have hb' : (st.put (some d) (.lit (.bool b))).get d = .lit (.bool b) := by
            rw [put_get]
            have := get_lt hb (by simp)
            rw [if_pos ⟨rfl, this⟩]
          obtain ⟨hT, hF⟩ := ifB_elim h
          have run : DNodeB P o (st.put (some d) (.lit (.bool b))) (fun av => (st.put (some d) (.lit (.bool b))).putK o.dst av (bdwp P ops r N)) → b = want → ∃ tr sF, TraceL P ops (o :: r) st1 tr sF ∧ N sF := by
            intro h hw
            obtain ⟨av, tr, sF, h1, h2, h3⟩ := node _ hs' h
            exact ⟨av :: tr, sF, ⟨av, tr, rfl, ⟨_, hs', by rw [hg]; exact ⟨d, hd, .inl ⟨b, hb', .inl ⟨hw, h1⟩⟩⟩⟩, h2⟩, h3⟩
          have skip : bdwp P ops r N ((st.put (some d) (.lit (.bool b))).put o.dst (.tup [])) → b ≠ want → ∃ tr sF, TraceL P ops (o :: r) st1 tr sF ∧ N sF := by
            intro h hw
            obtain ⟨tr, sF, h3, h4⟩ := ih h _ (hs'.put o.dst (.tup []))
            exact ⟨.tup [] :: tr, sF, ⟨.tup [], tr, rfl, ⟨_, hs', by rw [hg]; exact ⟨d, hd, .inl ⟨b, hb', .inr ⟨hw, rfl⟩⟩⟩⟩, h3⟩, h4⟩
          cases b with
          | true =>
            have h := hT rfl
            rw [St.putK_eq] at h
            cases want with
            | true => exact run h rfl
            | false => rw [St.putK_eq] at h; exact skip h (by simp)
          | false =>
            have h := hF rfl
            rw [St.putK_eq] at h
            cases want with
            | false => exact run h rfl
            | true => rw [St.putK_eq] at h; exact skip h (by simp)
        · rename_i hb
          rw [St.putK_eq] at h
          obtain ⟨tr, sF, h3, h4⟩ := ih h _ (hs.put o.dst (.tup []))
          exact ⟨.tup [] :: tr, sF, ⟨.tup [], tr, rfl, ⟨_, hs, by rw [hg]; exact ⟨d, hd, .inr ⟨hb, rfl⟩⟩⟩, h3⟩, h4⟩
        · exact h.elim


/-- The first region, or block, in a piece of code. -/
def codeId : Code → Nat
  | .seq a b => (match codeId a with | 0 => codeId b | k => k)
  | .cond _ a b => (match codeId a with | 0 => codeId b | k => k)
  | .region id _ _ => 2 * id + 1
  | .block id _ => 2 * id + 2
  | .loop c => codeId c
  | _ => 0

/-- By what a piece of code is known. -/
def headKey : Code → Nat × Nat
  | .seq a _ => headKey a
  | .region id _ _ => (0, id)
  | .block id _ => (1, id)
  | .cond (.tmp t) x y => (10 + t, codeId (.cond (.tmp t) x y))
  | .loop c => (3, (headKey c).2)
  | _ => (9, 0)

def inC : List (Nat × Nat) → Nat × Nat → Bool
  | [], _ => false
  | k :: r, x => match Nat.beq k.1 x.1 && Nat.beq k.2 x.2 with
    | true => true
    | false => inC r x

/-- Code before which the walk is cut. -/
structure CutN (P : Program) (n : Nat) (C : List (Nat × Nat)) (a b : Code) (Q : Exit → St → Prop) (st : St) : Prop where
  ok : SWP P n (.seq a b) Q st

structure LoopB (P : Program) (n : Nat) (C : List (Nat × Nat)) (c : Code) (Q : Exit → St → Prop) (st : St) : Prop where
  ok : SWP P n (.loop c) Q st

structure DrawB (P : Program) (n : Nat) (id : Nat) (ops : Array Oper) (Q : Exit → St → Prop) (st : St) : Prop where
  ok : SWP P n (.region id ops true) Q st

/-- Code, by computation. -/
def bwp (P : Program) (n : Nat) (C : List (Nat × Nat)) : Code → (Exit → St → Prop) → St → Prop
  | .skip, Q, st => Q .normal st
  | .seq a b, Q, st => match inC C (headKey b) with
    | true => CutN P n C a b Q st
    | false => bwp P n C a (thenQ (bwp P n C b Q) Q) st
  | .cond c x y, Q, st => match aeval st c with
    | .lit (.bool b) => ifB b (bwp P n C x Q st) (bwp P n C y Q st)
    | _ => False
  | .block id c, Q, st => bwp P n C c (blockQ id Q) st
  | .exit id, Q, st => Q (.exit id) st
  | .ret, Q, st => Q .ret st
  | .region id ops draw, Q, st => match draw with
    | false => brwp P n ops ops.toList (Q .normal) st
    | true => DrawB P n id ops Q st
  | .loop c, Q, st => LoopB P n C c Q st
  | _, _, _ => False

theorem SWP.regionB {P : Program} {n : Nat} {id : Nat} {ops : Array Oper} {Q : Exit → St → Prop} {st : St} (h : brwp P n ops ops.toList (Q .normal) st) : SWP P n (.region id ops false) Q st := by
  intro I μ a w R hn
  exact wp_region_list (brwp_ok h I μ a w R hn _ fun I' μ' st' a' w' h' R' S p => ⟨I', μ', st', h', R', S, p⟩)

theorem bwp_ok {P : Program} {n : Nat} {C : List (Nat × Nat)} : ∀ {c : Code} {Q : Exit → St → Prop} {st : St}, bwp P n C c Q st → SWP P n c Q st := by
  intro c
  induction c with
  | skip => intro Q st h I μ a w R hn; exact wp_skip ⟨I, μ, st, h, R, Step.refl _ _ _, Pre.refl _ _ hn⟩
  | region id ops draw =>
    intro Q st h
    cases draw with
    | false => exact SWP.regionB h
    | true => exact h.ok
  | seq a b iha ihb =>
    intro Q st h
    simp only [bwp] at h
    split at h
    · exact h.ok
    · refine SWP.seq ((iha h).mono fun e s hq => ?_)
      cases e with
      | normal => exact ihb hq
      | _ => exact hq
  | cond c x y ihx ihy =>
    intro Q st h
    simp only [bwp] at h
    split at h
    · rename_i b hb
      obtain ⟨h1, h2⟩ := ifB_elim h
      exact SWP.cond hb (fun e => ihx (h1 e)) (fun e => ihy (h2 e))
    · exact h.elim
  | block id c ih => intro Q st h; exact SWP.block (ih h)
  | loop c _ => intro Q st h; exact h.ok
  | exit id => intro Q st h I μ a w R hn; exact wp_exit ⟨I, μ, st, h, R, Step.refl _ _ _, Pre.refl _ _ hn⟩
  | ret => intro Q st h I μ a w R hn; exact wp_ret ⟨I, μ, st, h, R, Step.refl _ _ _, Pre.refl _ _ hn⟩
  | rangeFunc => intro Q st h; exact h.elim
  | scope => intro Q st h; exact h.elim
  | label => intro Q st h; exact h.elim
  | goto => intro Q st h; exact h.elim
  | refuse => intro Q st h; exact h.elim

theorem CutN.of {P : Program} {n : Nat} {C : List (Nat × Nat)} {a b : Code} {Q : Exit → St → Prop} {st : St} (Mid : St → Prop) (h : bwp P n C a (thenQ (fun s => BackS n s Mid) Q) st) (h2 : ∀ s, Mid s → bwp P n C b Q s) : CutN P n C a b Q st :=
  ⟨SWP.cutS Mid (bwp_ok h) (fun s hs => bwp_ok (h2 s hs))⟩

theorem DrawB.of {P : Program} {n id : Nat} {ops : Array Oper} {Q : Exit → St → Prop} {st : St} (hm : P.follows .mixedOrders = true) (hd : drawOk ops = true) (h : bdwp P ops ops.toList (Q .normal) st) : DrawB P n id ops Q st := by
  obtain ⟨tr, sF, h1, h2⟩ := bdwp_ok h st ⟨fun _ => rfl, rfl, rfl⟩
  exact ⟨SWP.draw hm hd h1 h2⟩

theorem DNodeB.of {P : Program} {o : Oper} {st : St} {K : AV → Prop} (av : AV) (h1 : dstep P st.h.length o (fun st'' => st'' = (restrict o st).put o.dst av) (restrict o st)) (h2 : K av) : DNodeB P o st K := ⟨av, h1, h2⟩

/-! What a function of Lean's gives, where it may fail. -/

def letk {α ρ : Type} (x : α) (X : α → Option ρ) : Option ρ := X x
noncomputable def chk {ρ : Type} (c : Prop) (X : Option ρ) : Option ρ := @ite _ c (Classical.propDecidable c) X none

theorem letk_elim {α ρ : Type} {x : α} {X : α → Option ρ} {r : ρ} (h : letk x X = some r) : ∃ y, y = x ∧ X y = some r := ⟨x, rfl, h⟩
theorem chk_elim {ρ : Type} {c : Prop} {X : Option ρ} {r : ρ} (h : chk c X = some r) : c ∧ X = some r := by
  unfold chk at h
  split at h
  · exact ⟨by assumption, h⟩
  · cases h
theorem bind_elim {α ρ : Type} {x : Option α} {X : α → Option ρ} {r : ρ} (h : x.bind X = some r) : ∃ y, x = some y ∧ X y = some r := Option.bind_eq_some_iff.1 h
theorem map_elim {α ρ : Type} {x : Option α} {f : α → ρ} {r : ρ} (h : x.map f = some r) : ∃ y, x = some y ∧ f y = r := Option.map_eq_some_iff.1 h
theorem bif_t {ρ : Type} {X Y : Option ρ} {r : ρ} (h : (bif true then X else Y) = some r) : X = some r := h
theorem bif_f {ρ : Type} {X Y : Option ρ} {r : ρ} (h : (bif false then X else Y) = some r) : Y = some r := h

def iterO {σ ρ : Type} (step : σ → Option (σ ⊕ ρ)) : Nat → σ → Option ρ
  | 0, _ => none
  | k + 1, s => match step s with
    | some (.inl s') => iterO step k s'
    | some (.inr r) => some r
    | none => none

theorem iterO_mono {σ ρ : Type} {step : σ → Option (σ ⊕ ρ)} {r : ρ} : ∀ {k j : Nat} {s : σ}, iterO step k s = some r → k ≤ j → iterO step j s = some r := by
  intro k
  induction k with
  | zero => intro j s h; cases h
  | succ k ih =>
    intro j s h hj
    obtain ⟨j, rfl⟩ : ∃ i, j = i + 1 := ⟨j - 1, by omega⟩
    unfold iterO at h ⊢
    split at h
    · exact ih h (by omega)
    · exact h
    · cases h

open Classical in
/-- Steps, till one says that it is done. -/
noncomputable def loopO {σ ρ : Type} (step : σ → Option (σ ⊕ ρ)) (s : σ) : Option ρ := if h : ∃ k, (iterO step k s).isSome then iterO step h.choose s else none

theorem loopO_iff {σ ρ : Type} {step : σ → Option (σ ⊕ ρ)} {s : σ} {r : ρ} : loopO step s = some r ↔ ∃ k, iterO step k s = some r := by
  unfold loopO
  constructor
  · intro h
    split at h
    · exact ⟨_, h⟩
    · cases h
  · rintro ⟨k, hk⟩
    have hex : ∃ k, (iterO step k s).isSome := ⟨k, by rw [hk]; rfl⟩
    rw [dif_pos hex]
    obtain ⟨r', hr'⟩ := Option.isSome_iff_exists.1 hex.choose_spec
    have h1 := iterO_mono hk (Nat.le_max_left k hex.choose)
    have h2 := iterO_mono hr' (Nat.le_max_right k hex.choose)
    rw [h1] at h2
    rw [hr', ← Option.some.inj h2]

theorem loopO_eq {σ ρ : Type} (step : σ → Option (σ ⊕ ρ)) (s : σ) : loopO step s = (step s).bind (Sum.elim (loopO step) some) := by
  apply Option.ext
  intro r
  rw [loopO_iff]
  constructor
  · rintro ⟨k, hk⟩
    cases k with
    | zero => cases hk
    | succ k =>
      unfold iterO at hk
      split at hk
      · rename_i e; rw [e]; exact loopO_iff.2 ⟨k, hk⟩
      · rename_i e; rw [e]; exact hk
      · cases hk
  · intro h
    obtain ⟨x, hx, h⟩ := Option.bind_eq_some_iff.1 h
    cases x with
    | inl s' =>
      obtain ⟨k, hk⟩ := loopO_iff.1 h
      exact ⟨k + 1, by unfold iterO; rw [hx]; exact hk⟩
    | inr r' => exact ⟨1, by unfold iterO; rw [hx]; exact h⟩

/-- A loop that steps as a function does. -/
theorem LoopB.of {P : Program} {n : Nat} {C : List (Nat × Nat)} {c : Code} {Q : Exit → St → Prop} {st : St} {σ ρ : Type} (step : σ → Option (σ ⊕ ρ)) (enc : σ → St) {r : ρ} (v0 : σ) (h : loopO step v0 = some r) (W : BackS n st (fun s => s = enc v0))
    (round : ∀ (K : σ → Prop) (v : σ) (x : σ ⊕ ρ), step v = some x → (∀ v', x = .inl v' → K v') → (∀ r', x = .inr r' → r' = r) → bwp P n C c (thenQ (fun s => BackS n s (fun s => ∃ v', K v' ∧ s = enc v')) Q) (enc v)) : LoopB P n C c Q st := by
  obtain ⟨k, hk⟩ := loopO_iff.1 h
  obtain ⟨s0, W, e⟩ := W
  refine ⟨SWP.loopS (fun k s => ∃ v, iterO step k v = some r ∧ s = enc v) ⟨s0, W, k, v0, hk, e⟩ ?_⟩
  rintro k s ⟨v, hv, rfl⟩
  cases k with
  | zero => cases hv
  | succ k =>
    unfold iterO at hv
    cases hx : step v with
    | none => rw [hx] at hv; cases hv
    | some x =>
      rw [hx] at hv
      refine (bwp_ok (round (fun v' => iterO step k v' = some r) v x hx (fun v' e => ?_) (fun r' e => ?_))).mono fun e s h => ?_
      · subst e; exact hv
      · subst e; exact Option.some.inj hv
      · cases e with
        | normal =>
          obtain ⟨s', W, v', h1, h2⟩ := h
          exact ⟨s', W, k, by omega, v', h1, h2⟩
        | _ => exact h

theorem pure1_sh0 {k : Nat} {v : AV} (h : pureQ.pureQ1 v = true) : sh0 k v = v := by
  cases v <;> first | rfl | (cases h; done) | skip
  simp only [pureQ.pureQ1] at h
  simp only [sh0, h, if_true]

theorem pureQ_sh1 {k : Nat} {v : AV} (h : pureQ v = true) : sh1 k v = v := by
  cases v with
  | agg cs =>
    simp only [pureQ, List.all_eq_true] at h
    simp only [sh1]
    congr 1
    exact (List.map_congr_left fun c hc => pure1_sh0 (h c hc)).trans (List.map_id _)
  | _ => exact pure1_sh0 (k := k) (by simpa only [pureQ] using h)

theorem pureT_sh2 {k : Nat} {v : AV} (h : pureT v = true) : sh2 k v = v := by
  cases v with
  | tup cs =>
    simp only [pureT, List.all_eq_true] at h
    simp only [sh2]
    congr 1
    exact (List.map_congr_left fun c hc => pureQ_sh1 (h c hc)).trans (List.map_id _)
  | _ => exact pureQ_sh1 (k := k) (by simpa only [pureT] using h)

/-- A call whose answer is plain. -/
theorem CallN.by {P : Program} {n : Nat} {g : FuncId} {args : List AV} {st : St} {K : St → AV → Prop} {v : AV} (h : Gives P g args v) (hp : args.all pureQ = true) (hv : pureT v = true) (hK : K st v) : CallN P n g args st K :=
  CallN.gives h hp (by rw [pureT_sh2 hv]; exact hK)

def lends (h : List AObj) : List AV → List AV → Prop
  | [], [] => True
  | a :: as', b :: bs => lend h a b ∧ lends h as' bs
  | _, _ => False

theorem lends_ok {h : List AObj} : ∀ {as' bs : List AV}, lends h as' bs → as'.length = bs.length ∧ ∀ i (h1 : i < as'.length) (h2 : i < bs.length), lend h as'[i] bs[i]
  | [], [], _ => ⟨rfl, fun i h1 => by simp at h1⟩
  | a :: as', b :: bs, ⟨h1, h2⟩ => by
    obtain ⟨h3, h4⟩ := lends_ok h2
    refine ⟨by simp [h3], fun i hi hi' => ?_⟩
    cases i with
    | zero => exact h1
    | succ i => exact h4 i (by simpa using hi) (by simpa using hi')
  | [], _ :: _, h => h.elim
  | _ :: _, [], h => h.elim

theorem lend_all {h : List AObj} {k s : Nat} {es : List AV} (ho : h[k]? = some (.arr s es)) : lend h (.ref k 0 es.length) (.vs s es) :=
  ⟨s, es, ho, by omega, by simp⟩
theorem lend_same {h : List AObj} {a : AV} (hp : pureQ a = true) (hr : (match a with | .ref _ _ _ => false | _ => true) = true) : lend h a a := by
  cases a <;> first | exact ⟨hp, rfl⟩ | cases hr

/-- A call that reads arrays of the walk. -/
theorem CallN.lendBy {P : Program} {n : Nat} {g : FuncId} {args bs : List AV} {st : St} {K : St → AV → Prop} {v : AV} (h : Gives P g bs v) (hb : lends st.h args bs) (hv : flatLit v = true) (hK : K st v) : CallN P n g args st K :=
  ⟨CallOK.lend h (lends_ok hb).1 (lends_ok hb).2 (by rintro r h' ⟨rfl, rfl⟩; exact ⟨hv, hK⟩)⟩

theorem BackS.of {n : Nat} {s s' : St} {T : St → Prop} (h : Sees n s s') (t : T s') : BackS n s T := ⟨s', h, t⟩

theorem map_takeAll {α β : Type} (f : α → β) (l : List α) : ((l.map f).drop 0).take (l.map f).length = l.map f := by simp [List.take_of_length_le]
theorem app_rr {α β : Type} {f : α → β} {l m : List α} : (l ++ m).map f = ((l.map f).drop 0).take (l.map f).length ++ ((m.map f).drop 0).take (m.map f).length := by
  rw [map_takeAll, map_takeAll, List.map_append]
theorem app_nr {α β : Type} {f : α → β} {m : List α} : m.map f = [] ++ ((m.map f).drop 0).take (m.map f).length := by rw [map_takeAll, List.nil_append]
theorem app_rv {α β : Type} {f : α → β} {l m : List α} : (l ++ m).map f = ((l.map f).drop 0).take (l.map f).length ++ m.map f := by rw [map_takeAll, List.map_append]
theorem app_nv {α β : Type} {f : α → β} {m : List α} : m.map f = [] ++ m.map f := rfl
theorem cut_v {α β : Type} {f : α → β} {l : List α} {a b : Nat} : ((l.drop a).take b).map f = ((l.map f).drop a).take b := by rw [List.map_take, List.map_drop]

theorem side_rr {α β : Type} {f : α → β} {l m : List α} {b : Nat} (hb : 0 < b) (h : (l.length + m.length) * b ≤ 140737488355328) :
    ((((l.map f).drop 0).take (l.map f).length).length + (((m.map f).drop 0).take (m.map f).length).length) * b ≤ 140737488355328 ∧ (((l.map f).drop 0).take (l.map f).length).length + (((m.map f).drop 0).take (m.map f).length).length ≤ 9223372036854775807 := by
  rw [map_takeAll, map_takeAll, List.length_map, List.length_map]
  refine ⟨h, ?_⟩
  have : l.length + m.length ≤ (l.length + m.length) * b := Nat.le_mul_of_pos_right _ hb
  omega
theorem side_nr {α β : Type} {f : α → β} {m : List α} {b : Nat} (hb : 0 < b) (h : m.length * b ≤ 140737488355328) :
    (([] : List β).length + (((m.map f).drop 0).take (m.map f).length).length) * b ≤ 140737488355328 ∧ ([] : List β).length + (((m.map f).drop 0).take (m.map f).length).length ≤ 9223372036854775807 := by
  rw [map_takeAll, List.length_map, List.length_nil, Nat.zero_add]
  refine ⟨h, ?_⟩
  have : m.length ≤ m.length * b := Nat.le_mul_of_pos_right _ hb
  omega
theorem side_rv {α β : Type} {f : α → β} {l m : List α} {b : Nat} (hb : 0 < b) (h : (l.length + m.length) * b ≤ 140737488355328) :
    ((((l.map f).drop 0).take (l.map f).length).length + (m.map f).length) * b ≤ 140737488355328 ∧ (((l.map f).drop 0).take (l.map f).length).length + (m.map f).length ≤ 9223372036854775807 := by
  rw [map_takeAll, List.length_map, List.length_map]
  refine ⟨h, ?_⟩
  have : l.length + m.length ≤ (l.length + m.length) * b := Nat.le_mul_of_pos_right _ hb
  omega
theorem side_nv {α β : Type} {f : α → β} {m : List α} {b : Nat} (hb : 0 < b) (h : m.length * b ≤ 140737488355328) :
    (([] : List β).length + (m.map f).length) * b ≤ 140737488355328 ∧ ([] : List β).length + (m.map f).length ≤ 9223372036854775807 := by
  rw [List.length_map, List.length_nil, Nat.zero_add]
  refine ⟨h, ?_⟩
  have : m.length ≤ m.length * b := Nat.le_mul_of_pos_right _ hb
  omega

theorem full_le {β : Type} (l : List β) : 0 + l.length ≤ l.length := by omega

theorem At.by {α : Type} {f : α → AV} {l : List α} {i : Nat} {K : AV → Prop} {x : α} (h : l[i]? = some x) (k : K (f x)) : At (l.map f) i K := ⟨⟨f x, by rw [List.getElem?_map, h]; rfl, k⟩⟩

theorem WV.all {h : List AObj} {keep frz : List Nat} {m : Nat} {es : List AV} {s k : Nat} (hf : k ∈ frz) (ho : h[k]? = some (.arr s es)) : WV h keep frz m (.ref k 0 es.length) (.vs s es) := by
  have := WV.refFrz (h := h) (keep := keep) (frz := frz) (m := m) k 0 es.length s es hf ho (by omega)
  simpa using this

end Go.Q
