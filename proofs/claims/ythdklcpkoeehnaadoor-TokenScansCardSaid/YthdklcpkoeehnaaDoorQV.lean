/- One operation of a walk, what it makes under a name. -/
import Derived.Test.YthdklcpkoeehnaaDoorQU
namespace Go.Q
open Go

/-- A value under a name. -/
structure Nm {α : Type} (x : α) (K : α → Prop) : Prop where
  ex : ∃ y, y = x ∧ K y

theorem Nm.get {α : Type} {x : α} {K : α → Prop} (h : Nm x K) : K x := by
  obtain ⟨y, e, h⟩ := h.ex
  rw [← e]; exact h

def abinN (P : Program) (op : BinOp) (t : TypeId) (x y : AV) (K : AV → Prop) : Prop :=
  match x, y with
  | .lit (.int k a), .lit (.int k' b) =>
    match op with
    | .add => ifK (k = k') (Nm (k.wrap (a + b)) (fun y => K (.lit (.int k y))))
    | .sub => ifK (k = k') (Nm (k.wrap (a - b)) (fun y => K (.lit (.int k y))))
    | .mul => ifK (k = k') (Nm (k.wrap (a * b)) (fun y => K (.lit (.int k y))))
    | .quo => ifK (k = k') (Side (b ≠ 0) (Nm (k.wrap (a.tdiv b)) (fun y => K (.lit (.int k y)))))
    | .rem => ifK (k = k') (Side (b ≠ 0) (Nm (a.tmod b) (fun y => K (.lit (.int k y)))))
    | .eql => ifK (k = k') (Nm (a == b) (fun y => K (.lit (.bool y))))
    | .neq => ifK (k = k') (Nm (a != b) (fun y => K (.lit (.bool y))))
    | .lss => ifK (k = k') (Nm (decide (a < b)) (fun y => K (.lit (.bool y))))
    | .leq => ifK (k = k') (Nm (decide (a ≤ b)) (fun y => K (.lit (.bool y))))
    | .gtr => ifK (k = k') (Nm (decide (a > b)) (fun y => K (.lit (.bool y))))
    | .geq => ifK (k = k') (Nm (decide (a ≥ b)) (fun y => K (.lit (.bool y))))
    | .shl => Side (0 ≤ b) (Nm (k.wrap (a * 2 ^ (min b.toNat k.bits))) (fun y => K (.lit (.int k y))))
    | .shr => Side (0 ≤ b) (Nm (a.fdiv (2 ^ (min b.toNat k.bits))) (fun y => K (.lit (.int k y))))
    | .and => ifK (k = k') (Nm (k.wrap (BitVec.ofInt k.bits a &&& BitVec.ofInt k.bits b).toNat) (fun y => K (.lit (.int k y))))
    | .or => ifK (k = k') (Nm (k.wrap (BitVec.ofInt k.bits a ||| BitVec.ofInt k.bits b).toNat) (fun y => K (.lit (.int k y))))
    | .xor => ifK (k = k') (Nm (k.wrap (BitVec.ofInt k.bits a ^^^ BitVec.ofInt k.bits b).toNat) (fun y => K (.lit (.int k y))))
    | .andNot => ifK (k = k') (Nm (k.wrap (BitVec.ofInt k.bits a &&& ~~~ BitVec.ofInt k.bits b).toNat) (fun y => K (.lit (.int k y))))
  | .lit (.string a), .lit (.string b) =>
    match op with
    | .add => Side (((a.size + b.size : Nat) : Int) ≤ 9223372036854775807) (Nm (a ++ b) (fun y => K (.lit (.string y))))
    | .eql => Nm (a.toList == b.toList) (fun y => K (.lit (.bool y)))
    | .neq => Nm (!(a.toList == b.toList)) (fun y => K (.lit (.bool y)))
    | _ => False
  | .lit (.bool a), .lit (.bool b) =>
    match op with
    | .eql => ifK (isBool P t = true) (Nm (a == b) (fun y => K (.lit (.bool y))))
    | .neq => ifK (isBool P t = true) (Nm (!(a == b)) (fun y => K (.lit (.bool y))))
    | _ => False
  | .agg cs, .agg ds =>
    match op with
    | .eql => EqS P t cs ds (fun r => Nm r fun v => K (.lit (.bool v)))
    | .neq => EqS P t cs ds (fun r => Nm (!r) fun v => K (.lit (.bool v)))
    | _ => False
  | _, _ => False

theorem arith_of {k : IntKind} {x : Int} {K : Int → Prop} (h : Nm (k.wrap x) K) : Arith k x K := ⟨⟨_, rfl, h.get⟩⟩

theorem ifK_mono {c : Prop} [Decidable c] {A B : Prop} (h : ifK c A) (f : A → B) : ifK c B := by
  obtain ⟨hc, h⟩ := ifK_elim h
  exact ifK_intro hc (f h)

theorem eqKs_mono : ∀ {ks : List EK} {cs ds : List AV} {K K' : Bool → Prop}, eqKs ks cs ds K → (∀ r, K r → K' r) → eqKs ks cs ds K' := by
  intro ks cs ds K K' h hk
  induction ks, cs, ds, K using eqKs.induct generalizing K' <;> unfold eqKs at h ⊢ <;> first | exact hk _ h | exact h.elim | skip
  · rename_i ih; exact ih h (fun r => hk _)
  · rename_i ih; exact ifK_mono h (fun h => ih h (fun r => hk _))
  · rename_i ih; exact ih h (fun r => hk _)
  · rename_i h1 h2 h3 h4
    split at h
    · exact absurd rfl h1
    · exact absurd rfl (h2 _ _ _ _ _ rfl rfl)
    · exact absurd rfl (h3 _ _ _ _ _ _ _ rfl rfl)
    · exact absurd rfl (h4 _ _ _ _ _ rfl rfl)
    · exact h.elim

theorem abinN_abin2 {P : Program} {op : BinOp} {t : TypeId} {x y : AV} {K : AV → Prop} (h : abinN P op t x y K) : abin2 P op t x y K := by
  unfold abinN at h
  split at h
  · unfold abin2 abin
    cases op <;> dsimp only at h ⊢
    case add => exact ifK_mono h arith_of
    case sub => exact ifK_mono h arith_of
    case mul => exact ifK_mono h arith_of
    case quo => exact ifK_mono h (fun h => ⟨h.c, h.k.get⟩)
    case rem => exact ifK_mono h (fun h => ⟨h.c, h.k.get⟩)
    case shl => exact ⟨h.c, h.k.get⟩
    case shr => exact ⟨h.c, h.k.get⟩
    all_goals exact ifK_mono h Nm.get
  · unfold abin2 abin
    cases op <;> dsimp only at h ⊢ <;> first | exact ⟨h.c, h.k.get⟩ | exact h.get | exact h
  · unfold abin2 abin
    cases op <;> dsimp only at h ⊢ <;> first | exact ifK_mono h Nm.get | exact h
  · unfold abin2
    cases op <;> dsimp only at h ⊢
    case eql => obtain ⟨ks, h1, h2⟩ := h.ex; exact ⟨ks, h1, eqKs_mono h2 (fun _ h => h.get)⟩
    case neq => obtain ⟨ks, h1, h2⟩ := h.ex; exact ⟨ks, h1, eqKs_mono h2 (fun _ h => h.get)⟩
    all_goals exact h
  · exact h.elim

def aunN (op : UnOp) (x : AV) (K : AV → Prop) : Prop :=
  match op, x with
  | .neg, .lit (.int k a) => Nm (k.wrap (0 - a)) (fun y => K (.lit (.int k y)))
  | .not, .lit (.bool b) => Nm (!b) (fun y => K (.lit (.bool y)))
  | _, _ => False

theorem aunN_aun {op : UnOp} {x : AV} {K : AV → Prop} (h : aunN op x K) : aun op x K := by
  unfold aunN at h
  unfold aun
  split at h
  · exact h.get
  · exact h.get
  · exact h.elim

theorem asl_mono {lo hi : Option AV} {n : Nat} {K K' : Nat → Nat → Prop} (h : asl lo hi n K) (f : ∀ l r, K l r → K' l r) : asl lo hi n K' := by
  unfold asl at h ⊢
  split at h
  · exact f _ _ h
  · exact ⟨h.c, f _ _ h.k⟩
  · exact ⟨h.c, f _ _ h.k⟩
  · exact ⟨h.c, f _ _ h.k⟩
  · exact h.elim

def asliceN (P : Program) (t : TypeId) (st : St) (x : AV) (lo hi : Option AV) (K : AV → Prop) : Prop :=
  match x with
  | .lit (.string s) => ifK (isStr P t = true) (asl lo hi s.size (fun l r => Nm (s.extract l r) fun y => K (.lit (.string y))))
  | .vs s es => (match sliceTo P t with
    | some (_, s') => ifK (s' = s) (asl lo hi es.length (fun l r => Nm ((es.drop l).take (r - l)) fun y => K (.vs s y)))
    | none => False)
  | .ref k off len => (match sliceTo P t, st.h[k]? with
    | some (_, s'), some (.arr s _) => ifK (s' = s) (asl lo hi len (fun l r => Nm (off + l, r - l) fun y => K (.ref k y.1 y.2)))
    | _, _ => False)
  | _ => False

theorem asliceN_ok {P : Program} {t : TypeId} {st : St} {x : AV} {lo hi : Option AV} {K : AV → Prop} (h : asliceN P t st x lo hi K) : asliceOp P t st x lo hi K := by
  unfold asliceN at h
  unfold asliceOp
  split at h
  · exact ifK_mono h (fun h => asl_mono h (fun _ _ h => h.get))
  · split at h
    · rename_i e; simp only [e]; exact ifK_mono h (fun h => asl_mono h (fun _ _ h => h.get))
    · exact h.elim
  · split at h
    · rename_i e1 e2; simp only [e1, e2]; exact ifK_mono h (fun h => asl_mono h (fun _ _ h => h.get))
    · exact h.elim
  · exact h.elim

def aindexN (P : Program) (t : TypeId) (st : St) (x y : AV) (K : AV → Prop) : Prop :=
  match y with
  | .lit (.int _ i) => (match x with
    | .vs s es => (match sliceTo P t with
      | some (_, s') => ifK (s' = s) (Side (0 ≤ i) (At es i.toNat fun e => K (.iptr e)))
      | none => False)
    | .ref k off len => (match sliceTo P t, st.h[k]? with
      | some (_, s'), some (.arr s _) => ifK (s' = s) (Side (0 ≤ i ∧ i < len) (Nm (off + i.toNat) fun y => K (.eptr k y 0)))
      | _, _ => False)
    | _ => False)
  | _ => False

theorem aindexN_ok {P : Program} {t : TypeId} {st : St} {x y : AV} {K : AV → Prop} (h : aindexN P t st x y K) : aindexAddr P t st x y K := by
  unfold aindexN at h
  unfold aindexAddr
  split at h
  · split at h
    · exact h
    · split at h
      · rename_i e1 e2; simp only [e1, e2]; exact ifK_mono h (fun h => ⟨h.c, h.k.get⟩)
      · exact h.elim
    · exact h.elim
  · exact h.elim

def aconvN (P : Program) (s t : TypeId) (st : St) (x : AV) (K : St → AV → Prop) : Prop :=
  match x with
  | .lit (.int _ i) => (match P.underlying s, P.underlying t with
    | some _, some (.int k) => Nm (k.wrap i) fun y => K st (.lit (.int k y))
    | _, _ => False)
  | .lit (.string b) => (match P.underlying t with
    | some .string => (match P.underlying s with
      | some _ => K st (.lit (.string b))
      | none => False)
    | some (.slice e) => (match P.underlying s with
      | some .string => ifK (isByte P e = true) (Nm (b.data.toList.map fun c => .lit (.int .u8 c.toNat)) fun es => K { st with h := st.h ++ [.arr 1 es] } (.ref st.h.length 0 es.length))
      | _ => False)
    | _ => False)
  | x => ifK (usable st.h x = true ∧ (alen x).isSome = true)
    (match P.underlying s, P.underlying t with
    | some (.slice e), some .string => ifK (isByte P e = true) (srcOf st x (fun xs => BytesN xs fun ns => Nm (ofInts ns) fun y => K st (.lit (.string y))) 1)
    | _, _ => False)

theorem srcOf_mono {st : St} {x : AV} {s : Nat} {K K' : List AV → Prop} (h : srcOf st x K s) (f : ∀ l, K l → K' l) : srcOf st x K' s := by
  unfold srcOf at h ⊢
  split at h
  · exact f _ h
  · exact ifK_mono h (fun h => ⟨h.c, f _ h.k⟩)
  · split at h
    · exact ifK_mono h (fun h => ⟨h.c, f _ h.k⟩)
    · exact h.elim
  · exact ifK_mono h (f _)
  · exact h.elim

theorem baseOf_mono {st : St} {x : AV} {s : Nat} {K K' : Option Nat → List AV → Prop} (h : baseOf st x K s) (f : ∀ k l, K k l → K' k l) : baseOf st x K' s := by
  unfold baseOf at h ⊢
  split at h
  · exact f _ _ h
  · split at h
    · exact ifK_mono h (fun h => ⟨h.c, f _ _ h.k⟩)
    · exact h.elim
  · exact h.elim

theorem aconvN_ok {P : Program} {s t : TypeId} {st : St} {x : AV} {K : St → AV → Prop} (h : aconvN P s t st x K) : aconvert P s t st x K := by
  unfold aconvN at h
  unfold aconvert
  split at h
  · split at h
    · rename_i e1 e2; simp only [e1, e2]; exact h.get
    · exact h.elim
  · rename_i b
    split at h
    · rename_i ht
      split at h
      · rename_i hs
        left
        rw [hs, ht]
        exact h
      · exact h.elim
    · rename_i e ht
      split at h
      · rename_i hs
        right
        rw [hs, ht]
        refine ifK_mono h (fun h => ?_)
        have h := h.get
        have e : (b.data.toList.map fun c => AV.lit (.int .u8 c.toNat)).length = b.size := by
          rw [List.length_map, Array.length_toList]; rfl
        rw [e] at h
        exact h
      · exact h.elim
    · exact h.elim
  · rename_i h1 h2
    split
    · exact absurd rfl (h1 _ _)
    · exact absurd rfl (h2 _)
    · refine ifK_mono h (fun h => ?_)
      split at h
      · rename_i e1 e2
        simp only [e1, e2]
        exact ifK_mono h (fun h => srcOf_mono h (fun l h => by
          obtain ⟨ns, e, h⟩ := h.ex
          exact ⟨ns, e, h.get⟩))
      · exact h.elim

def astoreN (P : Program) (t : TypeId) (st : St) (x v : AV) (K : List AObj → Prop) : Prop :=
  ifK (cellsQ st.h v = true ∧ sizeQ P t = some v.cells.length)
  (match x with
  | .ptr k j => (match st.h[k]? with
    | some (.box cs) => ifK (j + v.cells.length ≤ cs.length) (Nm (splice cs j v.cells) fun cs' => K (st.h.set k (.box cs')))
    | _ => False)
  | .eptr k i j => (match st.h[k]? with
    | some (.arr s es) => ifK (pureQ v = true) (At es i fun e => Side (j + v.cells.length ≤ e.cells.length ∧ (reform e (splice e.cells j v.cells)).cells = splice e.cells j v.cells)
        (Nm (es.set i (reform e (splice e.cells j v.cells))) fun es' => K (st.h.set k (.arr s es'))))
    | _ => False)
  | _ => False)

theorem astoreN_ok {P : Program} {t : TypeId} {st : St} {x v : AV} {K : List AObj → Prop} (h : astoreN P t st x v K) : astore P t st x v K := by
  unfold astoreN at h
  unfold astore
  refine ifK_mono h (fun h => ?_)
  split at h
  · split at h
    · rename_i e; simp only [e]; exact ifK_mono h Nm.get
    · exact h.elim
  · split at h
    · rename_i e; simp only [e]
      refine ifK_mono h (fun h => ?_)
      obtain ⟨e, he, h⟩ := h.ex
      exact ⟨e, he, h.c, h.k.get⟩
    · exact h.elim
  · exact h.elim

/-- One operation. -/
def bstep (P : Program) (n : Nat) (o : Oper) (K : St → Prop) (st : St) : Prop :=
  match o.op with
  | .move x => st.putK o.dst (aeval st x) K
  | .assign x => st.putK o.dst (aeval st x) K
  | .pick c x y => (match aeval st c with
    | .lit (.bool b) => ifB b (st.putK o.dst (aeval st x) K) (st.putK o.dst (aeval st y) K)
    | _ => False)
  | .binOp op t x y _ => abinN P op t (aeval st x) (aeval st y) (fun v => st.putK o.dst v K)
  | .unOp op _ x => aunN op (aeval st x) (fun v => st.putK o.dst v K)
  | .extract x i => (match aeval st x with
    | .tup vs => (match vs[i]? with | some v => st.putK o.dst v K | none => False)
    | _ => False)
  | .field t x f => (match aeval st x with
    | .agg cs => (match afield P t cs f with | some v => st.putK o.dst v K | none => False)
    | _ => False)
  | .index t x y => (match aeval st x, aeval st y with
    | .lit (.string s), .lit (.int _ i) => ifK (isStr P t = true) (Side (0 ≤ i ∧ i < s.size) (Nm (bt s i) fun y => st.putK o.dst (.lit (.int .u8 y)) K))
    | _, _ => False)
  | .slice t x lo hi none => asliceN P t st (aeval st x) (lo.map (aeval st)) (hi.map (aeval st)) (fun v => st.putK o.dst v K)
  | .indexAddr t x y => aindexN P t st (aeval st x) (aeval st y) (fun v => st.putK o.dst v K)
  | .fieldAddr t x f => (match aplace P t f with
    | some off => (match aeval st x with
      | .ptr k j => ifK (alive st.h k = true) (st.putK o.dst (.ptr k (j + off)) K)
      | .eptr k i j => ifK (alive st.h k = true) (st.putK o.dst (.eptr k i (j + off)) K)
      | .iptr (.agg cs) => (match aifield P t cs f with | some c => st.putK o.dst (.iptr c) K | none => False)
      | _ => False)
    | none => False)
  | .load t x => aload P t st (aeval st x) (fun v => st.putK o.dst v K)
  | .store t x y => astoreN P t st (aeval st x) (aeval st y) (fun h => ({ st with h := h } : St).putK o.dst .undef K)
  | .alloc t => (match azero P t with
    | some cs => Nm cs fun cs => ({ st with h := st.h ++ [.box cs] } : St).putK o.dst (.ptr st.h.length 0) K
    | none => False)
  | .box _ x => ifK (cellsQ st.h (aeval st x) = true) (Nm (aeval st x).cells fun cs => ({ st with h := st.h ++ [.box cs] } : St).putK o.dst (.ptr st.h.length 0) K)
  | .build t parts => (match abuild P t (parts.toList.map fun p => (p.1, aeval st p.2)) with
    | some cs => ifK ((parts.toList.all fun p => cellsQ st.h (aeval st p.2)) = true) (Nm cs fun cs => st.putK o.dst (.agg cs) K)
    | none => False)
  | .buildSlice t len parts => (match P.underlying t with
    | some (.slice e) => (match elemInfo P e with
      | some E => ifK (len * E.size ≤ 16777216 ∧ (parts.toList.all fun p => cellsQ [] (aeval st p.2) && pureQ (aeval st p.2)) = true)
        (match setElems E.size (List.replicate len E.zero) (parts.toList.map fun p => (p.1, aeval st p.2)) with
        | some es => Nm es fun es => ifK (es.length = len) (({ st with h := st.h ++ [.arr E.size es] } : St).putK o.dst (.ref st.h.length 0 es.length) K)
        | none => False)
      | none => False)
    | _ => False)
  | .makeFunc f first captured => st.putK o.dst (.fn f (first.toList.map (aeval st)) (captured.toList.map (aeval st))) K
  | .makeSlice t x y => (match P.underlying t, aeval st x, aeval st y with
    | some (.slice e), .lit (.int _ l), .lit (.int _ c) => (match elemInfo P e with
      | some E => Side (0 ≤ l ∧ l ≤ c ∧ c ≤ 9223372036854775807 ∧ E.bytes * c ≤ 140737488355328) (Nm (List.replicate l.toNat E.zero) fun es => ({ st with h := st.h ++ [.arr E.size es] } : St).putK o.dst (.ref st.h.length 0 es.length) K)
      | none => False)
    | _, _, _ => False)
  | .convert s t x => aconvN P s t st (aeval st x) (fun st' v => st'.putK o.dst v K)
  | .nilCheck x => (match aeval st x with
    | .ptr k j => ifK (alive st.h k = true) (st.putK o.dst (.ptr k j) K)
    | .eptr k i j => ifK (alive st.h k = true) (st.putK o.dst (.eptr k i j) K)
    | .iptr c => st.putK o.dst (.iptr c) K
    | _ => False)
  | .call { callee := .builtin .len, args := ⟨[x]⟩, argTypes := ⟨[t]⟩ } => (match aeval st x with
    | .lit (.string s) => ifK (isStr P t = true) (Nm (s.size : Int) fun y => st.putK o.dst (.lit (.int .i64 y)) K)
    | v => (match sliceTo P t, alen v with
      | some _, some m => ifK (usable st.h v = true) (Nm (m : Int) fun y => st.putK o.dst (.lit (.int .i64 y)) K)
      | _, _ => False))
  | .call { callee := .builtin .max, args := ⟨[x, y]⟩, .. } => (match aeval st x, aeval st y with
    | .lit (.int k a), .lit (.int _ b) => Nm (if b > a then b else a) fun y => st.putK o.dst (.lit (.int k y)) K
    | _, _ => False)
  | .call { callee := .builtin .min, args := ⟨[x, y]⟩, .. } => (match aeval st x, aeval st y with
    | .lit (.int k a), .lit (.int _ b) => Nm (if b < a then b else a) fun y => st.putK o.dst (.lit (.int k y)) K
    | _, _ => False)
  | .call { callee := .builtin .append, args := ⟨[x, y]⟩, argTypes := ⟨[t, u]⟩ } => (match P.underlying t with
    | some (.slice e) => (match elemInfo P e with
      | some E => ifK (appendable P u = true) (baseOf st (aeval st x) (fun ko bs => srcOf st (aeval st y) (fun xs =>
          Side ((bs.length + xs.length) * E.bytes ≤ 140737488355328 ∧ bs.length + xs.length ≤ 9223372036854775807)
            (Nm (bs ++ xs) fun es => ({ st with h := killQ st.h ko ++ [.arr E.size es] } : St).putK o.dst (.ref st.h.length 0 es.length) K)) E.size) E.size)
      | none => False)
    | _ => False)
  | .call { callee := .value f, args, .. } => (match aeval st f with
    | .fn (.func g) first captured => CallN P n g (first ++ args.toList.map (aeval st) ++ captured) st (fun st' r => st'.putK o.dst r K)
    | _ => False)
  | _ => False

theorem bstep_astep {P : Program} {n : Nat} {o : Oper} {K : St → Prop} {st : St} (h : bstep P n o K st) : astep P n o K st := by
  unfold bstep at h
  unfold astep
  split at h
  case h_1 x ho => rw [ho]; exact h
  case h_2 x ho => rw [ho]; exact h
  case h_3 c x y ho => rw [ho]; exact h
  case h_4 op t x y u ho => rw [ho]; exact abinN_abin2 h
  case h_5 op t x ho => rw [ho]; exact aunN_aun h
  case h_6 x i ho => rw [ho]; exact h
  case h_7 t x f ho => rw [ho]; exact h
  case h_8 t x y ho =>
    rw [ho]
    split at h
    · rename_i e1 e2
      simp only [e1, e2]
      exact ifK_mono h (fun h => ⟨h.c, h.k.get⟩)
    · exact h.elim
  case h_9 t x lo hi ho => rw [ho]; exact asliceN_ok h
  case h_10 t x y ho => rw [ho]; exact aindexN_ok h
  case h_11 t x f ho => rw [ho]; exact h
  case h_12 t x ho => rw [ho]; exact h
  case h_13 t x y ho => rw [ho]; exact astoreN_ok h
  case h_14 t ho =>
    rw [ho]
    split at h
    · rename_i e; simp only [e]; exact h.get
    · exact h.elim
  case h_15 t x ho => rw [ho]; exact ifK_mono h Nm.get
  case h_16 t parts ho =>
    rw [ho]
    split at h
    · rename_i e; simp only [e]; exact ifK_mono h Nm.get
    · exact h.elim
  case h_17 t len parts ho =>
    rw [ho]
    split at h
    · rename_i e hu
      simp only [hu]
      split at h
      · rename_i E hE
        simp only [hE]
        refine ifK_mono h (fun h => ?_)
        split at h
        · rename_i es hes
          simp only [hes]
          have h := ifK_elim h.get
          rw [← h.1]
          exact h.1 ▸ h.2
        · exact h.elim
      · exact h.elim
    · exact h.elim
  case h_18 f first captured ho => rw [ho]; exact h
  case h_19 t x y ho =>
    rw [ho]
    split at h
    · rename_i e k l k' c hu hx hy
      simp only [hu, hx, hy]
      split at h
      · rename_i E hE
        simp only [hE]
        refine ⟨h.c, ?_⟩
        have h := h.k.get
        rwa [List.length_replicate] at h
      · exact h.elim
    · exact h.elim
  case h_20 s t x ho => rw [ho]; exact aconvN_ok h
  case h_21 x ho => rw [ho]; exact h
  case h_22 x t ho =>
    rw [ho]
    simp only
    split at h
    · rename_i s hx
      simp only [hx]
      exact ifK_mono h Nm.get
    · rename_i hx
      split at h
      · rename_i es m hs hm
        split
        · rename_i s' hx'
          exact absurd hx' (hx _)
        · simp only [hs, hm]
          exact ifK_mono h Nm.get
      · exact h.elim
  case h_23 x y _ ho =>
    rw [ho]
    simp only
    split at h
    · rename_i k a k' b hx hy
      simp only [hx, hy]
      exact h.get
    · exact h.elim
  case h_24 x y _ ho =>
    rw [ho]
    simp only
    split at h
    · rename_i k a k' b hx hy
      simp only [hx, hy]
      exact h.get
    · exact h.elim
  case h_25 x y t u ho =>
    rw [ho]
    simp only
    split at h
    · rename_i e hu
      simp only [hu]
      split at h
      · rename_i E hE
        simp only [hE]
        refine ifK_mono h (fun h => baseOf_mono h (fun ko bs h => srcOf_mono h (fun xs h => ⟨h.c, ?_⟩)))
        have h := h.k.get
        rwa [List.length_append] at h
      · exact h.elim
    · exact h.elim
  case h_26 f args ts ho => rw [ho]; exact h
  case h_27 => exact h.elim

/-- What a state stands for, another one stands for too (with objects named anew, or frozen, or dropped). -/
def Sees (n : Nat) (s s' : St) : Prop := ∀ I μ a w, Rel I μ s a w → n ≤ μ.length → ∃ I' μ', Rel I' μ' s' a w ∧ Step I μ w I' μ' w ∧ Pre n μ μ'

theorem Sees.of {n : Nat} {s s' : St} {keep frz : List Nat} {m : Nat} (W : Weak n s s' keep frz m) : Sees n s s' := fun I μ a w R hn => by
  obtain ⟨R', S, p⟩ := W.rel R hn
  exact ⟨_, _, R', S, p⟩
theorem Sees.trans {n : Nat} {s s' s'' : St} (h : Sees n s s') (h' : Sees n s' s'') : Sees n s s'' := fun I μ a w R hn => by
  obtain ⟨I1, μ1, R1, S1, p1⟩ := h I μ a w R hn
  obtain ⟨I2, μ2, R2, S2, p2⟩ := h' I1 μ1 a w R1 p1.1
  exact ⟨I2, μ2, R2, S1.trans S2, p1.trans p2⟩
theorem SWP.sees {P : Program} {n : Nat} {c : Code} {Q : Exit → St → Prop} {st st' : St} (W : Sees n st st') (h : SWP P n c Q st') : SWP P n c Q st := by
  intro I μ a w R hn
  obtain ⟨I1, μ1, R1, S1, p1⟩ := W I μ a w R hn
  exact wp_mono (h _ _ a w R1 p1.1) fun _ _ _ hp => hp.trans S1 p1

/-- A state, and what holds of it seen with less. -/
structure BackS (n : Nat) (s : St) (T : St → Prop) : Prop where
  ex : ∃ s', Sees n s s' ∧ T s'

theorem SWP.cutS {P : Program} {n : Nat} {x y : Code} {Q : Exit → St → Prop} {st : St} (Mid : St → Prop) (h : SWP P n x (thenQ (fun s => BackS n s Mid) Q) st) (h2 : ∀ s, Mid s → SWP P n y Q s) : SWP P n (.seq x y) Q st :=
  SWP.seq (h.mono fun e s hq => by
    cases e with
    | normal =>
      obtain ⟨s', W, hm⟩ := hq
      exact SWP.sees W (h2 s' hm)
    | _ => exact hq)

theorem SWP.loopS {P : Program} {n : Nat} {c : Code} {Q : Exit → St → Prop} {st : St} (Inv : Nat → St → Prop) (h0 : BackS n st (fun s => ∃ k, Inv k s))
    (round : ∀ k s, Inv k s → SWP P n c (thenQ (fun s' => BackS n s' fun s'' => ∃ k', k' < k ∧ Inv k' s'') Q) s) : SWP P n (.loop c) Q st := by
  obtain ⟨s0, W, k, hI⟩ := h0
  refine SWP.loop (fun k s => ∃ s', Sees n s s' ∧ Inv k s') ⟨s0, W, hI⟩ ?_
  rintro k s ⟨s', W, hI⟩
  refine SWP.sees W ((round k s' hI).mono fun e s2 h => ?_)
  cases e with
  | normal =>
    obtain ⟨s3, W3, k', hlt, hI3⟩ := h
    exact ⟨k', hlt, s3, W3, hI3⟩
  | _ => exact h

theorem SOp.sees {P : Program} {n : Nat} {o : Oper} {N : St → Prop} {st st' : St} (W : Sees n st st') (h : SOp P n o N st') : SOp P n o N st := by
  intro I μ a w R hn next Q hk
  obtain ⟨I1, μ1, R', S, p⟩ := W I μ a w R hn
  exact h _ _ a w R' p.1 next Q (fun I' μ' s v w' hN Rr SS pp => hk _ _ _ _ _ hN Rr (S.trans SS) (p.trans pp))

theorem SOp.weak {P : Program} {n : Nat} {o : Oper} {N : St → Prop} {st st' : St} {keep frz : List Nat} {m : Nat} (W : Weak n st st' keep frz m) (h : SOp P n o N st') : SOp P n o N st := by
  intro I μ a w R hn next Q hk
  obtain ⟨R', S, p⟩ := W.rel R hn
  exact h _ _ a w R' p.1 next Q (fun I' μ' s v w' hN Rr SS pp => hk _ _ _ _ _ hN Rr (S.trans SS) (p.trans pp))

theorem SOp.binLit {P : Program} {n : Nat} {o : Oper} {N : St → Prop} {st : St} {op : BinOp} {t u : TypeId} {x y : Operand} (ho : o.op = .binOp op t x y u) {a b r : Value} (hx : aeval st x = .lit a) (hy : aeval st y = .lit b)
    (h : ∀ w, (do eqGuard op t x y a b; binOp op t a b : Sem Value).run P w = .ok r w) (hN : N (st.put o.dst (.lit r))) : SOp P n o N st := by
  refine SOp.pure (fun I μ ac w R => ⟨r, ?_, .lit _ _⟩) hN
  have e1 := R.eval x; rw [hx] at e1
  have e2 := R.eval y; rw [hy] at e2
  have h1 := h w
  simp only [Sem.run_bind] at h1
  simp only [execOp, ho, Sem.run_bind, e1.lit_eq, e2.lit_eq]
  rw [h1]; rfl

def ifaceQ (P : Program) (t : TypeId) : Bool := match P.underlying t with | some (.interface _) => true | _ => false
theorem ifaceQ_ok {P : Program} {t : TypeId} (h : ifaceQ P t = true) : ∃ ms, P.underlying t = some (.interface ms) := by
  unfold ifaceQ at h
  split at h
  · exact ⟨_, by assumption⟩
  · cases h
def isConstQ : Operand → Bool
  | .const _ => true
  | _ => false

theorem run_nilIface {P : Program} {t : TypeId} {x y : Operand} (ht : ifaceQ P t = true) (hc : (isConstQ x || isConstQ y) = true) (w : World) :
    (do eqGuard .eql t x y .nilIface .nilIface; binOp .eql t .nilIface .nilIface : Sem Value).run P w = .ok (.bool true) w ∧
    (do eqGuard .neq t x y .nilIface .nilIface; binOp .neq t .nilIface .nilIface : Sem Value).run P w = .ok (.bool false) w := by
  obtain ⟨ms, hu⟩ := ifaceQ_ok ht
  have hg : ∀ op, (eqGuard op t x y .nilIface .nilIface).run P w = .ok () w := fun op => by
    unfold eqGuard
    simp only [Sem.run_bind, Sem.run_ite, Sem.run_pure]
    cases x <;> cases y <;> first | (cases hc; done) | (split <;> simp)
  have he : (Op.equal t .nilIface .nilIface).run P w = .ok true w := by
    have : ∀ d : Nat, (Op.equalIn (d + 1) t .nilIface .nilIface).run P w = .ok true w := fun d => by simp [Op.equalIn, run_underlying hu]
    exact this 9999
  constructor
  · simp only [Sem.run_bind, hg, Result.andThen_ok, binOp, he, Sem.run_pure]
  · simp only [Sem.run_bind, hg, Result.andThen_ok, binOp, he, Sem.run_pure]; rfl

theorem run_someIface {P : Program} {t : TypeId} {x y : Operand} {tt : TypeId} {v : Value} (ht : ifaceQ P t = true) (w : World) :
    (do eqGuard .eql t x y (.iface tt v) .nilIface; binOp .eql t (.iface tt v) .nilIface : Sem Value).run P w = .ok (.bool false) w ∧
    (do eqGuard .neq t x y (.iface tt v) .nilIface; binOp .neq t (.iface tt v) .nilIface : Sem Value).run P w = .ok (.bool true) w := by
  obtain ⟨ms, hu⟩ := ifaceQ_ok ht
  have hg : ∀ op, (eqGuard op t x y (.iface tt v) .nilIface).run P w = .ok () w := fun op => by
    unfold eqGuard
    simp only [Sem.run_ite, Sem.run_pure]
    split <;> simp
  have he : (Op.equal t (.iface tt v) .nilIface).run P w = .ok false w := by
    have : ∀ d : Nat, (Op.equalIn (d + 1) t (.iface tt v) .nilIface).run P w = .ok false w := fun d => by simp [Op.equalIn, run_underlying hu]
    exact this 9999
  constructor
  · simp only [Sem.run_bind, hg, Result.andThen_ok, binOp, he, Sem.run_pure]
  · simp only [Sem.run_bind, hg, Result.andThen_ok, binOp, he, Sem.run_pure]; rfl

def dbin (P : Program) (n : Nat) (o : Oper) (op : BinOp) (t : TypeId) (x y : Operand) (K : St → Prop) (st : St) : AV → AV → Prop
  | .lit .nilIface, .lit .nilIface => (match op with
    | .eql => ifK (ifaceQ P t = true ∧ (isConstQ x || isConstQ y) = true) (st.putK o.dst (.lit (.bool true)) K)
    | .neq => ifK (ifaceQ P t = true ∧ (isConstQ x || isConstQ y) = true) (st.putK o.dst (.lit (.bool false)) K)
    | _ => False)
  | .lit (.iface _ _), .lit .nilIface => (match op with
    | .eql => ifK (ifaceQ P t = true) (st.putK o.dst (.lit (.bool false)) K)
    | .neq => ifK (ifaceQ P t = true) (st.putK o.dst (.lit (.bool true)) K)
    | _ => False)
  | .lit (.string a), .lit (.string b) => (match op with
    | .lss => Nm (Op.bytesLess a.toList b.toList) fun v => st.putK o.dst (.lit (.bool v)) K
    | .leq => Nm (Op.bytesLess a.toList b.toList || a.toList == b.toList) fun v => st.putK o.dst (.lit (.bool v)) K
    | .gtr => Nm (!(Op.bytesLess a.toList b.toList || a.toList == b.toList)) fun v => st.putK o.dst (.lit (.bool v)) K
    | .geq => Nm (!(Op.bytesLess a.toList b.toList)) fun v => st.putK o.dst (.lit (.bool v)) K
    | _ => bstep P n o K st)
  | _, _ => bstep P n o K st

/-- One operation: of more sorts. -/
def dstep (P : Program) (n : Nat) (o : Oper) (K : St → Prop) (st : St) : Prop :=
  match o.op with
  | .binOp op t x y _ => dbin P n o op t x y K st (aeval st x) (aeval st y)
  | _ => bstep P n o K st

theorem dstep_ok {P : Program} {n : Nat} {o : Oper} {K : St → Prop} {st : St} (h : dstep P n o K st) : SOp P n o K st := by
  unfold dstep at h
  split at h
  · rename_i op t x y u ho
    unfold dbin at h
    simp only [St.putK_eq] at h
    split at h
    · rename_i e1 e2
      split at h
      · obtain ⟨⟨h1, h2⟩, h⟩ := ifK_elim h
        exact SOp.binLit ho e1 e2 (fun w => (run_nilIface h1 h2 w).1) h
      · obtain ⟨⟨h1, h2⟩, h⟩ := ifK_elim h
        exact SOp.binLit ho e1 e2 (fun w => (run_nilIface h1 h2 w).2) h
      · exact h.elim
    · rename_i e1 e2
      split at h
      · obtain ⟨h1, h⟩ := ifK_elim h
        exact SOp.binLit ho e1 e2 (fun w => (run_someIface h1 w).1) h
      · obtain ⟨h1, h⟩ := ifK_elim h
        exact SOp.binLit ho e1 e2 (fun w => (run_someIface h1 w).2) h
      · exact h.elim
    · rename_i a b e1 e2
      split at h
      · exact SOp.binLit ho e1 e2 (r := .bool (Op.bytesLess a.toList b.toList)) (fun w => by simp only [Sem.run_bind, eqGuard_string, Result.andThen_ok, binOp, Op.stringOp, Sem.run_pure]) h.get
      · exact SOp.binLit ho e1 e2 (r := .bool (Op.bytesLess a.toList b.toList || a.toList == b.toList)) (fun w => by simp only [Sem.run_bind, eqGuard_string, Result.andThen_ok, binOp, Op.stringOp, Sem.run_pure]) h.get
      · exact SOp.binLit ho e1 e2 (r := .bool (!(Op.bytesLess a.toList b.toList || a.toList == b.toList))) (fun w => by simp only [Sem.run_bind, eqGuard_string, Result.andThen_ok, binOp, Op.stringOp, Sem.run_pure]) h.get
      · exact SOp.binLit ho e1 e2 (r := .bool (!(Op.bytesLess a.toList b.toList))) (fun w => by simp only [Sem.run_bind, eqGuard_string, Result.andThen_ok, binOp, Op.stringOp, Sem.run_pure]) h.get
      · exact astep_ok (bstep_astep h)
    · exact astep_ok (bstep_astep h)
  · exact astep_ok (bstep_astep h)

/-- Where the state may be seen with less before an operation. -/
structure Gate (P : Program) (n : Nat) (o : Oper) (K : St → Prop) (st : St) : Prop where
  ok : SOp P n o K st

theorem Gate.go {P : Program} {n : Nat} {o : Oper} {K : St → Prop} {st : St} (h : dstep P n o K st) : Gate P n o K st := ⟨dstep_ok h⟩
theorem Gate.weak {P : Program} {n : Nat} {o : Oper} {K : St → Prop} {st st' : St} (W : Sees n st st') (h : dstep P n o K st') : Gate P n o K st := ⟨SOp.sees W (dstep_ok h)⟩

def gateQ : Op → Bool
  | .build _ _ | .buildSlice _ _ _ | .makeFunc _ _ _ | .makeInterface _ _ => true
  | .call { callee := .value _, .. } => true
  | .call { callee := .builtin .append, .. } => true
  | _ => false

def cstep (P : Program) (n : Nat) (o : Oper) (K : St → Prop) (st : St) : Prop :=
  match gateQ o.op with
  | true => Gate P n o K st
  | false => dstep P n o K st

theorem cstep_ok {P : Program} {n : Nat} {o : Oper} {K : St → Prop} {st : St} (h : cstep P n o K st) : SOp P n o K st := by
  unfold cstep at h
  split at h
  · exact h.ok
  · exact dstep_ok h

end Go.Q
