/- Regions, code, loops, functions. -/
import Derived.Test.YthdklcpkoeehnaaDoorQO
namespace Go.Q
open Go

/-- A region's operations, one after the other. -/
def rwp (P : Program) (n : Nat) (ops : Array Oper) : List Oper → (St → Prop) → St → Prop
  | [], N, st => N st
  | o :: r, N, st => match o.guard with
    | none => astep P n o (rwp P n ops r N) st
    | some (j, want) => match (ops[j]?).bind (·.dst) with
      | some d => match st.get d with
        | .lit (.bool b) => ifB b
            (st.putK (some d) (.lit (.bool true)) fun st => match want with | true => astep P n o (rwp P n ops r N) st | false => st.putK o.dst (.tup []) (rwp P n ops r N))
            (st.putK (some d) (.lit (.bool false)) fun st => match want with | false => astep P n o (rwp P n ops r N) st | true => st.putK o.dst (.tup []) (rwp P n ops r N))
        | .tup [] => st.putK o.dst (.tup []) (rwp P n ops r N)
        | _ => False
      | none => False

theorem rel_tup0 {I : Nat → Prop} {w : World} {μ : MM} : RelV I w μ (.tup []) Go.undef := .tup _ [] #[] rfl (fun i hi => by simp at hi)

theorem tup0_inv {I : Nat → Prop} {w : World} {μ : MM} {v : Value} (h : RelV I w μ (.tup []) v) : v = .tuple #[] := by
  obtain ⟨xs, rfl, hn, _⟩ := h.tup_inv
  have : xs = #[] := by simpa using hn
  rw [this]

def SR (P : Program) (n : Nat) (ops : Array Oper) (l : List Oper) (N : St → Prop) (st : St) : Prop :=
  ∀ I μ a w, Rel I μ st a w → n ≤ μ.length → ∀ Q : Exit → Act → World → Prop, (∀ I' μ' st' a' w', N st' → Rel I' μ' st' a' w' → Step I μ w I' μ' w' → Pre n μ μ' → Q .normal a' w') → wpList P ops Q l a w

theorem get_lt {st : St} {d : Nat} {v : AV} (h : st.get d = v) (hv : v ≠ .undef) : d < st.n := by
  unfold St.get at h
  split at h
  · assumption
  · exact absurd h.symm hv

theorem rwp_ok {P : Program} {n : Nat} {ops : Array Oper} : ∀ {l : List Oper} {N : St → Prop} {st : St}, rwp P n ops l N st → SR P n ops l N st := by
  intro l
  induction l with
  | nil =>
    intro N st h I μ a w R hn Q hQ
    exact hQ _ _ _ _ _ h R (Step.refl _ _ _) (Pre.refl _ _ hn)
  | cons o r ih =>
    intro N st h
    have doop : ∀ st, astep P n o (rwp P n ops r N) st → ∀ I μ a w, Rel I μ st a w → n ≤ μ.length → ∀ Q : Exit → Act → World → Prop,
        (∀ I' μ' st' a' w', N st' → Rel I' μ' st' a' w' → Step I μ w I' μ' w' → Pre n μ μ' → Q .normal a' w') → o.wp P a w (wpList P ops Q r) Q := by
      intro st h I μ a w R hn Q hQ
      refine astep_ok h I μ a w R hn _ _ (fun I' μ' st' v' w' h' R' S' p' => ih h' I' μ' _ w' R' p'.1 Q (fun I2 μ2 st2 a2 w2 h2 R2 S2 p2 => hQ _ _ _ _ _ h2 R2 (S'.trans S2) (p'.trans p2)))
    intro I μ a w R hn Q hQ
    simp only [rwp] at h
    cases hg : o.guard with
    | none =>
      rw [hg] at h
      simp only at h
      unfold wpList
      rw [if_pos (by simp [Region.wanted, hg])]
      exact .inl (doop _ h I μ a w R hn Q hQ)
    | some jw =>
      obtain ⟨j, want⟩ := jw
      rw [hg] at h
      simp only at h
      cases hd : (ops[j]?).bind (·.dst) with
      | none => rw [hd] at h; exact h.elim
      | some d =>
        rw [hd] at h
        simp only at h
        split at h
        · rename_i b hb
          have hlt := get_lt hb (by simp)
          have hv := R.tmps d
          rw [hb] at hv
          have hval := hv.lit_eq
          have hy : yielded ops a.tmps j = some b := by
            unfold yielded
            rw [hd]
            have hlt' : d < a.tmps.size := by rw [R.size]; exact hlt
            rw [getD_of hlt'] at hval
            simp only [Option.bind_some, Array.getElem?_eq_getElem hlt', hval]
          obtain ⟨hT, hF⟩ := ifB_elim h
          have R' : Rel I μ (st.put (some d) (.lit (.bool b))) a w := by
            have := R.put (v := .bool b) (.lit _ (.bool b)) (some d)
            have e : a.put (some d) (.bool b) = a := by
              cases a with
              | mk tmps defers =>
                simp only [Act.put]
                congr 1
                apply Array.ext
                · simp
                · intro i h1 h2
                  rw [Array.getElem_setIfInBounds]
                  split
                  · rename_i e
                    subst e
                    have hlt' : d < tmps.size := h2
                    have := hval
                    rw [getD_of hlt'] at this
                    exact this.symm
                  · rfl
            rwa [e] at this
          have skip : ∀ st, Rel I μ st a w → rwp P n ops r N (st.put o.dst (.tup [])) → wpList P ops Q r (a.put o.dst Go.undef) w := fun st R h => ih h I μ _ w (R.put rel_tup0 o.dst) hn Q hQ
          unfold wpList
          cases b with
          | true =>
            have h := hT rfl
            simp only [St.putK_eq] at h
            cases want with
            | true =>
              rw [if_pos (by simp [Region.wanted, hg, hy])]
              exact .inl (doop _ h I μ a w R' hn Q hQ)
            | false =>
              rw [if_neg (by simp [Region.wanted, hg, hy])]
              exact skip _ R' h
          | false =>
            have h := hF rfl
            simp only [St.putK_eq] at h
            cases want with
            | false =>
              rw [if_pos (by simp [Region.wanted, hg, hy])]
              exact .inl (doop _ h I μ a w R' hn Q hQ)
            | true =>
              rw [if_neg (by simp [Region.wanted, hg, hy])]
              exact skip _ R' h
        · rename_i hb
          have hlt := get_lt hb (by simp)
          have hv := R.tmps d
          rw [hb] at hv
          have hval := tup0_inv hv
          have hy : yielded ops a.tmps j = none := by
            unfold yielded
            rw [hd]
            have hlt' : d < a.tmps.size := by rw [R.size]; exact hlt
            rw [getD_of hlt'] at hval
            simp only [Option.bind_some, Array.getElem?_eq_getElem hlt', hval]
          rw [St.putK_eq] at h
          unfold wpList
          rw [if_neg (by simp [Region.wanted, hg, hy])]
          exact ih h I μ _ w (R.put rel_tup0 o.dst) hn Q hQ
        · exact h.elim

/-- Code of a walk: whatever memory the state stands for, the machine ends where Q says. -/
def Post (n : Nat) (I : Nat → Prop) (μ : MM) (w : World) (Q : Exit → St → Prop) (e : Exit) (a' : Act) (w' : World) : Prop :=
  ∃ I' μ' st', Q e st' ∧ Rel I' μ' st' a' w' ∧ Step I μ w I' μ' w' ∧ Pre n μ μ'

def SWP (P : Program) (n : Nat) (c : Code) (Q : Exit → St → Prop) (st : St) : Prop :=
  ∀ I μ a w, Rel I μ st a w → n ≤ μ.length → c.wp P (Post n I μ w Q) a w

theorem Post.trans {n : Nat} {I I' : Nat → Prop} {μ μ' : MM} {w w' : World} {Q : Exit → St → Prop} (S : Step I μ w I' μ' w') (p : Pre n μ μ') {e : Exit} {a2 : Act} {w2 : World} (h : Post n I' μ' w' Q e a2 w2) : Post n I μ w Q e a2 w2 := by
  obtain ⟨I2, μ2, st2, hQ, R2, S2, p2⟩ := h
  exact ⟨I2, μ2, st2, hQ, R2, S.trans S2, p.trans p2⟩

theorem SWP.mono {P : Program} {n : Nat} {c : Code} {Q Q' : Exit → St → Prop} {st : St} (h : SWP P n c Q st) (hq : ∀ e s, Q e s → Q' e s) : SWP P n c Q' st :=
  fun I μ a w R hn => wp_mono (h I μ a w R hn) fun _ _ _ ⟨I', μ', st', hQ, rest⟩ => ⟨I', μ', st', hq _ _ hQ, rest⟩

theorem SWP.weak {P : Program} {n : Nat} {c : Code} {Q : Exit → St → Prop} {st st' : St} {keep frz : List Nat} {m : Nat} (W : Weak n st st' keep frz m) (h : SWP P n c Q st') : SWP P n c Q st := by
  intro I μ a w R hn
  obtain ⟨R', S, p⟩ := W.rel R hn
  exact wp_mono (h _ _ a w R' p.1) fun _ _ _ hp => hp.trans S p

def thenQ (next : St → Prop) (Q : Exit → St → Prop) : Exit → St → Prop
  | .normal, s => next s
  | e, s => Q e s

theorem SWP.seq {P : Program} {n : Nat} {x y : Code} {Q : Exit → St → Prop} {st : St} (h : SWP P n x (thenQ (SWP P n y Q) Q) st) : SWP P n (.seq x y) Q st := by
  intro I μ a w R hn
  refine wp_seq (wp_mono (h I μ a w R hn) fun e a' w' hp => ?_)
  obtain ⟨I', μ', st', hQ, R', S, p⟩ := hp
  cases e with
  | normal => exact wp_mono (hQ I' μ' a' w' R' p.1) fun _ _ _ hp => hp.trans S p
  | _ => exact ⟨I', μ', st', hQ, R', S, p⟩

theorem SWP.cond {P : Program} {n : Nat} {c : Operand} {x y : Code} {Q : Exit → St → Prop} {st : St} {b : Bool} (hc : aeval st c = .lit (.bool b)) (h1 : b = true → SWP P n x Q st) (h2 : b = false → SWP P n y Q st) : SWP P n (.cond c x y) Q st := by
  intro I μ a w R hn
  have e1 := R.eval c
  rw [hc] at e1
  exact wp_cond_split e1.lit_eq (fun h => h1 h I μ a w R hn) (fun h => h2 h I μ a w R hn)

def blockQ (id : Nat) (Q : Exit → St → Prop) : Exit → St → Prop
  | .exit id', s => if id' = id then Q .normal s else Q (.exit id') s
  | e, s => Q e s

theorem SWP.block {P : Program} {n : Nat} {id : Nat} {c : Code} {Q : Exit → St → Prop} {st : St} (h : SWP P n c (blockQ id Q) st) : SWP P n (.block id c) Q st := by
  intro I μ a w R hn
  refine wp_block (wp_mono (h I μ a w R hn) fun e a' w' hp => ?_)
  obtain ⟨I', μ', st', hQ, rest⟩ := hp
  cases e with
  | exit id' =>
    simp only [blockQ] at hQ
    simp only [Exit.inBlock]
    split
    · rename_i h1; rw [if_pos h1] at hQ; exact ⟨I', μ', st', hQ, rest⟩
    · rename_i h1; rw [if_neg h1] at hQ; exact ⟨I', μ', st', hQ, rest⟩
  | _ => exact ⟨I', μ', st', hQ, rest⟩

theorem SWP.region {P : Program} {n : Nat} {id : Nat} {ops : Array Oper} {Q : Exit → St → Prop} {st : St} (h : rwp P n ops ops.toList (Q .normal) st) : SWP P n (.region id ops false) Q st := by
  intro I μ a w R hn
  exact wp_region_list (rwp_ok h I μ a w R hn _ fun I' μ' st' a' w' h' R' S p => ⟨I', μ', st', h', R', S, p⟩)

/-- A loop: an invariant over states, with a number that falls. -/
theorem SWP.loop {P : Program} {n : Nat} {c : Code} {Q : Exit → St → Prop} {st : St} (Inv : Nat → St → Prop) {k : Nat} (h0 : Inv k st)
    (round : ∀ k s, Inv k s → SWP P n c (thenQ (fun s' => ∃ k', k' < k ∧ Inv k' s') Q) s) : SWP P n (.loop c) Q st := by
  intro I μ a w R hn
  classical
  let J : Act → World → Prop := fun a' w' => ∃ k' I' μ' s', Inv k' s' ∧ Rel I' μ' s' a' w' ∧ Step I μ w I' μ' w' ∧ Pre n μ μ'
  let good : Act → World → Nat → Prop := fun a' w' k' => ∃ I' μ' s', Inv k' s' ∧ Rel I' μ' s' a' w' ∧ Step I μ w I' μ' w' ∧ Pre n μ μ'
  have hmin : ∀ a' w', J a' w' → ∃ k', good a' w' k' ∧ ∀ j, good a' w' j → k' ≤ j := by
    intro a' w' ⟨k', hk'⟩
    have hk' : good a' w' k' := hk'
    have key : ∀ m, ∀ k', k' ≤ m → good a' w' k' → ∃ k', good a' w' k' ∧ ∀ j, good a' w' j → k' ≤ j := by
      intro m
      induction m with
      | zero => intro k' h1 h2; exact ⟨k', h2, fun j _ => by omega⟩
      | succ m ih =>
        intro k' h1 h2
        by_cases h3 : ∃ j, good a' w' j ∧ j < k'
        · obtain ⟨j, h4, h5⟩ := h3; exact ih j (by omega) h4
        · exact ⟨k', h2, fun j hj => by
            rcases Nat.lt_or_ge j k' with h4 | h4
            · exact absurd ⟨j, hj, h4⟩ h3
            · exact h4⟩
    exact key k' k' (Nat.le_refl _) hk'
  let meas : Act → World → Nat := fun a' w' => if h : J a' w' then (hmin a' w' h).choose else 0
  refine wp_loop J meas ⟨k, I, μ, st, h0, R, Step.refl _ _ _, Pre.refl _ _ hn⟩ (fun a1 w1 hJ => ?_)
  have hm : good a1 w1 (meas a1 w1) ∧ ∀ j, good a1 w1 j → meas a1 w1 ≤ j := by
    have : meas a1 w1 = (hmin a1 w1 hJ).choose := dif_pos hJ
    rw [this]
    exact (hmin a1 w1 hJ).choose_spec
  obtain ⟨⟨I1, μ1, s1, hI1, R1, S1, p1⟩, _⟩ := hm
  refine wp_mono (round _ s1 hI1 I1 μ1 a1 w1 R1 p1.1) fun e a2 w2 hp => ?_
  obtain ⟨I2, μ2, s2, hQ, R2, S2, p2⟩ := hp
  cases e with
  | normal =>
    obtain ⟨k', hlt, hI2⟩ := hQ
    have hg : good a2 w2 k' := ⟨I2, μ2, s2, hI2, R2, S1.trans S2, p1.trans p2⟩
    have hJ2 : J a2 w2 := ⟨k', hg⟩
    refine ⟨hJ2, ?_⟩
    have : meas a2 w2 ≤ k' := by
      have e : meas a2 w2 = (hmin a2 w2 hJ2).choose := dif_pos hJ2
      rw [e]
      exact (hmin a2 w2 hJ2).choose_spec.2 k' hg
    omega
  | _ => exact ⟨I2, μ2, s2, hQ, R2, S1.trans S2, p1.trans p2⟩

/-- A loop, or a region that draws its order, where the walk stops till something is said of it. -/
structure LoopN (P : Program) (n : Nat) (c : Code) (Q : Exit → St → Prop) (st : St) : Prop where
  ok : SWP P n (.loop c) Q st

structure DrawN (P : Program) (n : Nat) (id : Nat) (ops : Array Oper) (Q : Exit → St → Prop) (st : St) : Prop where
  ok : SWP P n (.region id ops true) Q st

/-- Code without loops of its own. -/
def awp (P : Program) (n : Nat) : Code → (Exit → St → Prop) → St → Prop
  | .skip, Q, st => Q .normal st
  | .seq a b, Q, st => awp P n a (thenQ (awp P n b Q) Q) st
  | .cond c x y, Q, st => match aeval st c with
    | .lit (.bool b) => ifB b (awp P n x Q st) (awp P n y Q st)
    | _ => False
  | .block id c, Q, st => awp P n c (blockQ id Q) st
  | .exit id, Q, st => Q (.exit id) st
  | .ret, Q, st => Q .ret st
  | .region id ops draw, Q, st => match draw with
    | false => rwp P n ops ops.toList (Q .normal) st
    | true => DrawN P n id ops Q st
  | .loop c, Q, st => LoopN P n c Q st
  | _, _, _ => False

theorem awp_ok {P : Program} {n : Nat} : ∀ {c : Code} {Q : Exit → St → Prop} {st : St}, awp P n c Q st → SWP P n c Q st := by
  intro c
  induction c with
  | skip => intro Q st h I μ a w R hn; exact wp_skip ⟨I, μ, st, h, R, Step.refl _ _ _, Pre.refl _ _ hn⟩
  | region id ops draw =>
    intro Q st h
    cases draw with
    | false => exact SWP.region h
    | true => exact h.ok
  | seq a b iha ihb =>
    intro Q st h
    refine SWP.seq ((iha h).mono fun e s hq => ?_)
    cases e with
    | normal => exact ihb hq
    | _ => exact hq
  | cond c x y ihx ihy =>
    intro Q st h
    simp only [awp] at h
    split at h
    · rename_i b hb
      obtain ⟨h1, h2⟩ := ifB_elim h
      exact SWP.cond hb (fun e => ihx (h1 e)) (fun e => ihy (h2 e))
    · exact h.elim
  | block id c ih => intro Q st h; exact SWP.block (ih h)
  | loop c _ => intro Q st h; exact h.ok
  | exit id => intro Q st h I μ a w R hn; exact wp_exit ⟨I, μ, st, h, R, Step.refl _ _ _, Pre.refl _ _ hn⟩
  | ret => intro Q st h I μ a w R hn; exact wp_ret ⟨I, μ, st, h, R, Step.refl _ _ _, Pre.refl _ _ hn⟩
  | rangeFunc => intro Q st h; exact h.elim
  | scope => intro Q st h; exact h.elim
  | label => intro Q st h; exact h.elim
  | goto => intro Q st h; exact h.elim
  | refuse => intro Q st h; exact h.elim

/-- What a function's results are. -/
def ares (P : Program) (st : St) : ResultVar → Option AV
  | .tmp t => some (st.get t)
  | .cell a t => match st.get a with
    | .ptr k j => match st.h[k]? with
      | some (.box cs) => acut P t cs j
      | _ => none
    | _ => none

def aresults (P : Program) (st : St) : List ResultVar → Option (List AV)
  | [] => some []
  | r :: rs => match ares P st r, aresults P st rs with
    | some v, some vs => some (v :: vs)
    | _, _ => none

def resultAV (vs : List AV) : AV := match vs with | [v] => v | vs => .tup vs

/-- A function returns: its results, seen with what the caller shall see. -/
structure Returns (P : Program) (n : Nat) (fn : Func) (R : AV → List AObj → Prop) (e : Exit) (st : St) : Prop where
  ends : e = .normal ∨ e = .ret
  gives : ∃ vs, aresults P st fn.results.toList = some vs ∧ ∃ keep frz m r h', WH n st.h keep frz m h' ∧ WV st.h keep frz m (resultAV vs) r ∧ R r h'

def resOne (tmps : Array Value) : ResultVar → Sem Value
  | .tmp t => Pure.pure (tmps.getD t Go.undef)
  | .cell p t => do loadVar t (← asAddr (tmps.getD p Go.undef))

theorem results_eq (fn : Func) (tmps : Array Value) : results fn tmps = (do
    let vs ← fn.results.mapM (resOne tmps)
    Pure.pure (if h : vs.size = 1 then vs[0] else .tuple vs)) := by
  unfold results
  congr 1

theorem mapM_results {P : Program} {I : Nat → Prop} {μ : MM} {st : St} {a : Act} {w : World} (R : Rel I μ st a w) : ∀ (rs : List ResultVar) (vs : List AV), aresults P st rs = some vs →
    ∃ xs : List Value, (rs.mapM (resOne a.tmps)).run P w = .ok xs w ∧ xs.length = vs.length ∧
      ∀ i (hi : i < vs.length) (hi' : i < xs.length), RelV I w μ vs[i] xs[i] := by
  intro rs
  induction rs with
  | nil => intro vs h; cases h; exact ⟨[], by simp, rfl, fun i hi => by simp at hi⟩
  | cons r rs ih =>
    intro vs h
    simp only [aresults] at h
    split at h
    · rename_i v vs' hr hrs
      cases h
      obtain ⟨xs, h1, h2, h3⟩ := ih vs' hrs
      have key : ∃ x, (resOne a.tmps r).run P w = .ok x w ∧ RelV I w μ v x := by
        cases r with
        | tmp t => cases hr; exact ⟨_, rfl, R.tmps t⟩
        | cell p t =>
          simp only [ares] at hr
          split at hr
          · rename_i k j hp
            split at hr
            · rename_i cs hk
              have hv := R.tmps p
              rw [hp] at hv
              obtain ⟨l, val, hl, hxe, hb, hsz, hc, hv⟩ := Rel.ptr R.heap hk hv
              obtain ⟨x, hx, hrel⟩ := loadVar_ok (off := j) hr hc hv
              exact ⟨x, by simp [resOne, hxe, asAddr, hx], hrel⟩
            · cases hr
          · cases hr
      obtain ⟨x, hx, hrel⟩ := key
      refine ⟨x :: xs, ?_, by simp [h2], fun i hi hi' => ?_⟩
      · simp only [List.mapM_cons, Sem.run_bind, hx, Result.andThen_ok, h1, Sem.run_pure]
      · cases i with
        | zero => exact hrel
        | succ i => exact h3 i (by simpa using hi) (by simpa using hi')
    · cases h

def argState (fn : Func) (args : List AV) (hs : List AObj) : St := { n := fn.ntmps, ts := (List.range args.length).zip args, h := hs }

theorem look_zip : ∀ (args : List AV) (k i : Nat), look i ((List.range' k args.length).zip args) = if k ≤ i ∧ i < k + args.length then args.getD (i - k) .undef else .undef
  | [], k, i => by
    have h0 : ¬ (k ≤ i ∧ i < k + ([] : List AV).length) := fun h => by have h1 := h.1; have h2 : i < k + 0 := h.2; omega
    rw [if_neg h0]; rfl
  | v :: vs, k, i => by
    simp only [List.length_cons, List.range'_succ, List.zip_cons_cons, look]
    split
    · rename_i h; subst h
      rw [if_pos (by omega)]; simp
    · rename_i h
      rw [look_zip vs (k + 1) i]
      by_cases h1 : k + 1 ≤ i ∧ i < k + 1 + vs.length
      · rw [if_pos h1, if_pos (by omega), show i - k = (i - (k + 1)) + 1 by omega]
        simp
      · rw [if_neg h1, if_neg (by omega)]

/-- The contract of a function out of the walk of its body. -/
theorem ACalls.of_swp {P : Program} {f : FuncId} {fn : Func} {c : Code} {args : List AV} {hs : List AObj} {R : AV → List AObj → Prop} (hf : P.funcs[f]? = some fn) (hb : fn.body = some c) (hname : (fn.name == "runtime.NumGoroutine") = false)
    (hargs : Nat.ble args.length fn.ntmps = true) {st0 : St} (hst : argState fn args hs = st0) (h : SWP P hs.length c (Returns P hs.length fn R) st0) : ACalls P f args hs R := by
  subst hst
  replace hargs := Nat.le_of_ble_eq_true hargs
  intro I μ w vals H ⟨hv1, hv2⟩
  refine .inl ⟨?_, ?_⟩
  · unfold callFunc
    simp only [Sem.run_bind, run_program, Result.andThen_ok, hf, hname, Bool.false_eq_true, if_false, hb, Option.isNone_some, Sem.run_pure]
  · refine calls_of_wp hf hb ?_
    have R0 : Rel I μ (argState fn args hs) { tmps := vals ++ Array.replicate (fn.ntmps - vals.size) Go.undef, defers := [] } w := by
      refine ⟨fun d => ?_, by simp [argState]; omega, rfl, H⟩
      show RelV I w μ (if d < fn.ntmps then look d ((List.range args.length).zip args) else AV.undef) _
      by_cases hd : d < fn.ntmps
      · rw [if_pos hd, List.range_eq_range', look_zip]
        by_cases h1 : d < args.length
        · rw [if_pos (by omega)]
          have := hv2 d h1
          rw [getD_of (by omega)] at this
          rw [getD_of (by simp; omega), Array.getElem_append_left (by omega)]
          simpa [List.getElem?_eq_getElem h1] using this
        · rw [if_neg (by omega)]; exact .undef _ _
      · rw [if_neg hd]; exact .undef _ _
    refine wp_mono (h I μ _ w R0 (by rw [H.len]; exact Nat.le_refl _)) fun e a' w' hp => ?_
    obtain ⟨I', μ', st', ⟨he, vs, hvs, keep, frz, m, r, h', hW, hr, hR⟩, R', S, p⟩ := hp
    obtain ⟨xs, hx1, hx2, hx3⟩ := mapM_results (P := P) R' fn.results.toList vs hvs
    obtain ⟨H2, S2, p2⟩ := hW.rel R'.heap p.1
    have hres : ∃ v, (results fn a'.tmps).run P w' = .ok v w' ∧ RelV I' w' μ' (resultAV vs) v := by
      have hm : (fn.results.mapM (resOne a'.tmps)).run P w' = .ok xs.toArray w' := by
        rw [Array.mapM_eq_mapM_toList]
        simp only [Sem.run_map, hx1, Result.andThen_ok]
      refine ⟨if h : xs.toArray.size = 1 then xs.toArray[0] else .tuple xs.toArray, ?_, ?_⟩
      · rw [results_eq]
        simp only [Sem.run_bind]
        rw [hm]
        rfl
      · match vs, xs, hx2, hx3 with
        | [], [], _, _ => exact .tup _ [] _ rfl (fun i hi => by simp at hi)
        | [v], [x], _, h3 => exact h3 0 (by simp) (by simp)
        | v1 :: v2 :: vs, x1 :: x2 :: xs, h2, h3 =>
          rw [dif_neg (by simp)]
          simp only [resultAV]
          refine .tup _ _ _ (by simpa using h2) (fun i hi => ?_)
          have hi' : i < (x1 :: x2 :: xs).length := by rw [h2]; exact hi
          have := h3 i hi hi'
          rw [getD_of (by simpa using hi')]
          simpa using this
    obtain ⟨v, hv, hvr⟩ := hres
    have fin : ∃ v_1 r_1 h'_1 I'_1 μ'_1, Ending.returned v = .returned v_1 ∧ R r_1 h'_1 ∧ RelH I'_1 μ'_1 h'_1 w' ∧ RelV I'_1 w' μ'_1 r_1 v_1 ∧ Step I μ w I'_1 μ'_1 w' ∧ Pre hs.length μ μ'_1 :=
      ⟨v, r, h', _, _, rfl, hR, H2, hr.rel R'.heap hvr, S.trans S2, p.trans p2⟩
    rcases he with rfl | rfl
    · exact ⟨R'.defers, v, hv, fin⟩
    · exact ⟨R'.defers, v, hv, fin⟩

end Go.Q
