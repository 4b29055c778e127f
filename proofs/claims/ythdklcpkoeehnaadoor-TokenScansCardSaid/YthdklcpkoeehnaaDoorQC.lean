/- One operation of a walk: what it does to the abstract state. Operations that leave memory alone. -/
import Derived.Test.YthdklcpkoeehnaaDoorQB
namespace Go.Q
open Go

def constCell : Value → AV
  | .slice none 0 0 => .nils
  | v => .lit v

def constAV : Value → AV
  | .agg cs => .agg (cs.toList.map constCell)
  | v => constCell v

def aeval (st : St) : Operand → AV
  | .tmp t => st.get t
  | .const v => constAV v
  | .func f => .fn (.func f) [] []
  | .global g => .lit (.pointer (some ⟨g, 0, none⟩))

theorem rel_constCell {I : Nat → Prop} {w : World} {μ : MM} (v : Value) : RelV I w μ (constCell v) v := by
  unfold constCell
  split
  · exact .nils _
  · exact .lit _ _

theorem rel_constAV {I : Nat → Prop} {w : World} {μ : MM} (v : Value) : RelV I w μ (constAV v) v := by
  unfold constAV
  split
  · rename_i cs
    refine .agg _ _ _ (by simp) (fun i hi => ?_)
    have hi' : i < cs.size := by simpa using hi
    simp only [List.getElem_map]
    rw [show cs.getD i Go.undef = cs[i] by simp [Array.getD, hi']]
    have : cs.toList[i]'(by simpa using hi') = cs[i] := by simp
    rw [this]
    exact rel_constCell _
  · exact rel_constCell v

theorem Rel.eval {I : Nat → Prop} {μ : MM} {st : St} {a : Act} {w : World} (R : Rel I μ st a w) (x : Operand) : RelV I w μ (aeval st x) (a.eval x) := by
  cases x with
  | tmp t => exact R.tmps t
  | const v => exact rel_constAV v
  | global g => exact .lit _ _
  | func f => exact .fn _ _ _ _ _ _ rfl rfl (fun i hi => by simp at hi) (fun i hi => by simp at hi)

theorem Rel.put {I : Nat → Prop} {μ : MM} {st : St} {a : Act} {w : World} (R : Rel I μ st a w) {av : AV} {v : Value} (hv : RelV I w μ av v) (d : Option Nat) :
    Rel I μ (st.put d av) (a.put d v) w := by
  cases d with
  | none => exact R
  | some k =>
    refine ⟨fun j => ?_, ?_, R.defers, R.heap⟩
    · have hj := R.tmps j
      have hs := R.size
      simp only [St.put, St.get, Act.put, look]
      simp only [St.get] at hj
      by_cases hjn : j < st.n
      · rw [if_pos hjn]
        rw [if_pos hjn] at hj
        have hj' : j < a.tmps.size := by omega
        by_cases hk : k = j
        · subst hk
          rw [if_pos rfl]
          rw [show (a.tmps.setIfInBounds k v).getD k Go.undef = v by simp [Array.getD, hj']]
          exact hv
        · rw [if_neg hk]
          rw [show (a.tmps.setIfInBounds k v).getD j Go.undef = a.tmps.getD j Go.undef by simp [Array.getD, hj']; rw [Array.getElem_setIfInBounds_ne (by simpa using hj') hk]]
          exact hj
      · rw [if_neg hjn]
        exact .undef _ _
    · simp only [St.put, Act.put, Array.size_setIfInBounds]; exact R.size

/-- One operation: whatever memory the state stands for, the machine's operation goes on to what a state of N stands for. -/
def SOp (P : Program) (n : Nat) (o : Oper) (N : St → Prop) (st : St) : Prop :=
  ∀ I μ a w, Rel I μ st a w → n ≤ μ.length → ∀ (next : Act → World → Prop) (Q : Exit → Act → World → Prop),
    (∀ I' μ' st' v w', N st' → Rel I' μ' st' (a.put o.dst v) w' → Step I μ w I' μ' w' → Pre n μ μ' → next (a.put o.dst v) w') → o.wp P a w next Q

/-- An operation that only reckons. -/
theorem SOp.pure {P : Program} {n : Nat} {o : Oper} {N : St → Prop} {st : St} {av : AV}
    (h : ∀ I μ a w, Rel I μ st a w → ∃ v, (execOp a.eval o).run P w = .ok (.value v) w ∧ RelV I w μ av v) (hN : N (st.put o.dst av)) : SOp P n o N st := by
  intro I μ a w R hn next Q hk
  obtain ⟨v, hr, hv⟩ := h I μ a w R
  unfold Oper.wp
  rw [hr]
  exact hk _ _ _ _ _ hN (R.put hv o.dst) (Step.refl _ _ _) (Pre.refl _ _ hn)

/-! What an operation on two values gives. -/

/-- What is owed on the side, and how it goes on. -/
structure Side (C K : Prop) : Prop where
  c : C
  k : K

/-- An element, and how it goes on. -/
structure At (es : List AV) (i : Nat) (K : AV → Prop) : Prop where
  ex : ∃ e, es[i]? = some e ∧ K e

/-- What machine numbers come to, and how it goes on. -/
structure Arith (k : IntKind) (x : Int) (K : Int → Prop) : Prop where
  ex : ∃ y, k.wrap x = y ∧ K y

/-- What holds if a test that is decided by sight holds. -/
def ifK (c : Prop) [Decidable c] (A : Prop) : Prop := if c then A else False

theorem ifK_elim {c : Prop} [Decidable c] {A : Prop} (h : ifK c A) : c ∧ A := by
  unfold ifK at h
  split at h
  · rename_i hc; exact ⟨hc, h⟩
  · exact h.elim

theorem ifK_intro {c : Prop} [Decidable c] {A : Prop} (hc : c) (h : A) : ifK c A := by unfold ifK; rw [if_pos hc]; exact h

def isBool (P : Program) (t : TypeId) : Bool := match P.underlying t with | some .bool => true | _ => false
theorem isBool_ok {P : Program} {t : TypeId} (h : isBool P t = true) : P.underlying t = some .bool := by
  unfold isBool at h
  split at h
  · assumption
  · cases h

def abin (P : Program) (op : BinOp) (t : TypeId) (x y : AV) (K : AV → Prop) : Prop :=
  match x, y with
  | .lit (.int k a), .lit (.int k' b) =>
    match op with
    | .add => ifK (k = k') (Arith k (a + b) (fun y => K (.lit (.int k y))))
    | .sub => ifK (k = k') (Arith k (a - b) (fun y => K (.lit (.int k y))))
    | .mul => ifK (k = k') (Arith k (a * b) (fun y => K (.lit (.int k y))))
    | .quo => ifK (k = k') (Side (b ≠ 0) (K (.lit (.int k (k.wrap (a.tdiv b))))))
    | .rem => ifK (k = k') (Side (b ≠ 0) (K (.lit (.int k (a.tmod b)))))
    | .eql => ifK (k = k') (K (.lit (.bool (a == b))))
    | .neq => ifK (k = k') (K (.lit (.bool (a != b))))
    | .lss => ifK (k = k') (K (.lit (.bool (decide (a < b)))))
    | .leq => ifK (k = k') (K (.lit (.bool (decide (a ≤ b)))))
    | .gtr => ifK (k = k') (K (.lit (.bool (decide (a > b)))))
    | .geq => ifK (k = k') (K (.lit (.bool (decide (a ≥ b)))))
    | .shl => Side (0 ≤ b) (K (.lit (.int k (k.wrap (a * 2 ^ (min b.toNat k.bits))))))
    | .shr => Side (0 ≤ b) (K (.lit (.int k (a.fdiv (2 ^ (min b.toNat k.bits))))))
    | .and => ifK (k = k') (K (.lit (.int k (k.wrap (BitVec.ofInt k.bits a &&& BitVec.ofInt k.bits b).toNat))))
    | .or => ifK (k = k') (K (.lit (.int k (k.wrap (BitVec.ofInt k.bits a ||| BitVec.ofInt k.bits b).toNat))))
    | .xor => ifK (k = k') (K (.lit (.int k (k.wrap (BitVec.ofInt k.bits a ^^^ BitVec.ofInt k.bits b).toNat))))
    | .andNot => ifK (k = k') (K (.lit (.int k (k.wrap (BitVec.ofInt k.bits a &&& ~~~ BitVec.ofInt k.bits b).toNat))))
  | .lit (.string a), .lit (.string b) =>
    match op with
    | .add => Side (((a.size + b.size : Nat) : Int) ≤ 9223372036854775807) (K (.lit (.string (a ++ b))))
    | .eql => K (.lit (.bool (a.toList == b.toList)))
    | .neq => K (.lit (.bool !(a.toList == b.toList)))
    | _ => False
  | .lit (.bool a), .lit (.bool b) =>
    match op with
    | .eql => ifK (isBool P t = true) (K (.lit (.bool (a == b))))
    | .neq => ifK (isBool P t = true) (K (.lit (.bool (!(a == b)))))
    | _ => False
  | _, _ => False

theorem eqGuard_int {P : Program} {w : World} (op : BinOp) (t : TypeId) (x y : Operand) (k k' : IntKind) (a b : Int) :
    (eqGuard op t x y (.int k a) (.int k' b)).run P w = .ok () w := by
  unfold eqGuard
  simp only [Sem.run_ite, Sem.run_pure]
  split <;> simp

theorem eqGuard_string {P : Program} {w : World} (op : BinOp) (t : TypeId) (x y : Operand) (a b : ByteArray) :
    (eqGuard op t x y (.string a) (.string b)).run P w = .ok () w := by
  unfold eqGuard
  simp only [Sem.run_ite, Sem.run_pure]
  split <;> simp

theorem eqGuard_bool {P : Program} {w : World} (op : BinOp) (t : TypeId) (x y : Operand) (a b : Bool) :
    (eqGuard op t x y (.bool a) (.bool b)).run P w = .ok () w := by
  unfold eqGuard
  simp only [Sem.run_ite, Sem.run_pure]
  split <;> simp

theorem RelV.lit_eq {I : Nat → Prop} {w : World} {μ : MM} {u v : Value} (h : RelV I w μ (.lit u) v) : v = u := by cases h; rfl

theorem abin_ok {P : Program} {op : BinOp} {t : TypeId} {x y : AV} {K : AV → Prop} (h : abin P op t x y K) :
    ∃ av, K av ∧ ∀ (I : Nat → Prop) (w : World) (μ : MM) (u v : Value) (ox oy : Operand), RelV I w μ x u → RelV I w μ y v →
      ∃ r, (do eqGuard op t ox oy u v; binOp op t u v : Sem Value).run P w = .ok r w ∧ RelV I w μ av r := by
  unfold abin at h
  split at h
  · rename_i k a k' b
    have fin : ∀ av : AV, ∀ r : Value, av = .lit r → K av → (∀ w : World, (binOp op t (.int k a) (.int k' b)).run P w = .ok r w) →
        ∃ av, K av ∧ ∀ (I : Nat → Prop) (w : World) (μ : MM) (u v : Value) (ox oy : Operand), RelV I w μ (.lit (.int k a)) u → RelV I w μ (.lit (.int k' b)) v →
          ∃ r, (do eqGuard op t ox oy u v; binOp op t u v : Sem Value).run P w = .ok r w ∧ RelV I w μ av r := by
      intro av r e hK hr
      refine ⟨av, hK, fun I w μ u v ox oy hu hv => ?_⟩
      obtain rfl := hu.lit_eq
      obtain rfl := hv.lit_eq
      refine ⟨r, ?_, by subst e; exact .lit _ _⟩
      simp only [Sem.run_bind, eqGuard_int, Result.andThen_ok]
      exact hr w
    cases op <;> dsimp only at h
    case add => replace h := ifK_elim h; obtain ⟨rfl, h⟩ := h; obtain ⟨_, rfl, h⟩ := h; exact fin _ _ rfl h (fun w => by simp [binOp, Op.intArith])
    case sub => replace h := ifK_elim h; obtain ⟨rfl, h⟩ := h; obtain ⟨_, rfl, h⟩ := h; exact fin _ _ rfl h (fun w => by simp [binOp, Op.intArith])
    case mul => replace h := ifK_elim h; obtain ⟨rfl, h⟩ := h; obtain ⟨_, rfl, h⟩ := h; exact fin _ _ rfl h (fun w => by simp [binOp, Op.intArith])
    case quo => replace h := ifK_elim h; obtain ⟨rfl, h⟩ := h; obtain ⟨hb, h⟩ := h; exact fin _ _ rfl h (fun w => by simp [binOp, Op.intDiv, hb])
    case rem => replace h := ifK_elim h; obtain ⟨rfl, h⟩ := h; obtain ⟨hb, h⟩ := h; exact fin _ _ rfl h (fun w => by simp [binOp, Op.intDiv, hb])
    case eql => replace h := ifK_elim h; obtain ⟨rfl, h⟩ := h; exact fin _ _ rfl h (fun w => by simp [binOp, Op.intCmp])
    case neq => replace h := ifK_elim h; obtain ⟨rfl, h⟩ := h; exact fin _ _ rfl h (fun w => by simp [binOp, Op.intCmp])
    case lss => replace h := ifK_elim h; obtain ⟨rfl, h⟩ := h; exact fin _ _ rfl h (fun w => by simp [binOp, Op.intCmp])
    case leq => replace h := ifK_elim h; obtain ⟨rfl, h⟩ := h; exact fin _ _ rfl h (fun w => by simp [binOp, Op.intCmp])
    case gtr => replace h := ifK_elim h; obtain ⟨rfl, h⟩ := h; exact fin _ _ rfl h (fun w => by simp [binOp, Op.intCmp])
    case geq => replace h := ifK_elim h; obtain ⟨rfl, h⟩ := h; exact fin _ _ rfl h (fun w => by simp [binOp, Op.intCmp])
    case shl => obtain ⟨hb, h⟩ := h; exact fin _ _ rfl h (fun w => by simp [binOp, Op.shift, Int.not_lt.2 hb])
    case shr => obtain ⟨hb, h⟩ := h; exact fin _ _ rfl h (fun w => by simp [binOp, Op.shift, Int.not_lt.2 hb])
    case and => replace h := ifK_elim h; obtain ⟨rfl, h⟩ := h; exact fin _ _ rfl h (fun w => by simp [binOp, Op.intBits])
    case or => replace h := ifK_elim h; obtain ⟨rfl, h⟩ := h; exact fin _ _ rfl h (fun w => by simp [binOp, Op.intBits])
    case xor => replace h := ifK_elim h; obtain ⟨rfl, h⟩ := h; exact fin _ _ rfl h (fun w => by simp [binOp, Op.intBits])
    case andNot => replace h := ifK_elim h; obtain ⟨rfl, h⟩ := h; exact fin _ _ rfl h (fun w => by simp [binOp, Op.intBits])
  · rename_i a b
    have fin : ∀ av : AV, ∀ r : Value, av = .lit r → K av → (∀ w : World, (binOp op t (.string a) (.string b)).run P w = .ok r w) →
        ∃ av, K av ∧ ∀ (I : Nat → Prop) (w : World) (μ : MM) (u v : Value) (ox oy : Operand), RelV I w μ (.lit (.string a)) u → RelV I w μ (.lit (.string b)) v →
          ∃ r, (do eqGuard op t ox oy u v; binOp op t u v : Sem Value).run P w = .ok r w ∧ RelV I w μ av r := by
      intro av r e hK hr
      refine ⟨av, hK, fun I w μ u v ox oy hu hv => ?_⟩
      obtain rfl := hu.lit_eq
      obtain rfl := hv.lit_eq
      refine ⟨r, ?_, by subst e; exact .lit _ _⟩
      simp only [Sem.run_bind, eqGuard_string, Result.andThen_ok]
      exact hr w
    cases op <;> dsimp only at h
    case add =>
      obtain ⟨hb, h⟩ := h
      refine fin _ _ rfl h (fun w => ?_)
      have : ¬ ((a.size + b.size : Nat) : Int) > IntKind.i64.max := by simp only [show IntKind.i64.max = 9223372036854775807 from rfl]; omega
      simp only [binOp, Op.stringOp]
      rw [if_neg this]
      rfl
    case eql => exact fin _ _ rfl h (fun w => by simp [binOp, Op.stringOp])
    case neq => exact fin _ _ rfl h (fun w => by simp [binOp, Op.stringOp])
    all_goals exact h.elim
  · rename_i a b
    have fin : ∀ av : AV, ∀ r : Value, av = .lit r → K av → (∀ w : World, (binOp op t (.bool a) (.bool b)).run P w = .ok r w) →
        ∃ av, K av ∧ ∀ (I : Nat → Prop) (w : World) (μ : MM) (u v : Value) (ox oy : Operand), RelV I w μ (.lit (.bool a)) u → RelV I w μ (.lit (.bool b)) v →
          ∃ r, (do eqGuard op t ox oy u v; binOp op t u v : Sem Value).run P w = .ok r w ∧ RelV I w μ av r := by
      intro av r e hK hr
      refine ⟨av, hK, fun I w μ u v ox oy hu hv => ?_⟩
      obtain rfl := hu.lit_eq
      obtain rfl := hv.lit_eq
      refine ⟨r, ?_, by subst e; exact .lit _ _⟩
      simp only [Sem.run_bind, eqGuard_bool, Result.andThen_ok]
      exact hr w
    cases op <;> dsimp only at h
    case eql => replace h := ifK_elim h; obtain ⟨ht, h⟩ := h; exact fin _ _ rfl h (fun w => run_eql_bool w t a b (isBool_ok ht))
    case neq => replace h := ifK_elim h; obtain ⟨ht, h⟩ := h; exact fin _ _ rfl h (fun w => run_neq_bool w t a b (isBool_ok ht))
    all_goals exact h.elim
  · exact h.elim

def aun (op : UnOp) (x : AV) (K : AV → Prop) : Prop :=
  match op, x with
  | .neg, .lit (.int k a) => K (.lit (.int k (k.wrap (0 - a))))
  | .not, .lit (.bool b) => K (.lit (.bool (!b)))
  | _, _ => False

theorem aun_ok {P : Program} {op : UnOp} {x : AV} {K : AV → Prop} (h : aun op x K) :
    ∃ av, K av ∧ ∀ (I : Nat → Prop) (w : World) (μ : MM) (u : Value), RelV I w μ x u → ∃ r, (Op.unary op u).run P w = .ok r w ∧ RelV I w μ av r := by
  unfold aun at h
  split at h
  · refine ⟨_, h, fun I w μ u hu => ?_⟩
    obtain rfl := hu.lit_eq
    exact ⟨_, by simp [Op.unary, Op.intArith], .lit _ _⟩
  · refine ⟨_, h, fun I w μ u hu => ?_⟩
    obtain rfl := hu.lit_eq
    exact ⟨_, by simp [Op.unary], .lit _ _⟩
  · exact h.elim

end Go.Q
