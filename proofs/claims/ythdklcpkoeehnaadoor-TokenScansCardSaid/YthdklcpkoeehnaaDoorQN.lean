/- The walk: one operation, a region, code, a function. -/
import Derived.Test.YthdklcpkoeehnaaDoorQM
import Derived.Test.YthdklcpkoeehnaaDoorQEQ
namespace Go.Q
open Go

/-- Which way a test goes. -/
def ifB (b : Bool) (A B : Prop) : Prop := match b with | true => A | false => B

theorem ifB_intro {b : Bool} {A B : Prop} (h1 : b = true → A) (h2 : b = false → B) : ifB b A B := by
  cases b
  · exact h2 rfl
  · exact h1 rfl

def alive (h : List AObj) (k : Nat) : Bool := match h[k]? with | some (.arr _ _) | some (.box _) => true | _ => false

theorem alive_ok {h : List AObj} {k : Nat} (ha : alive h k = true) : ∃ ob, h[k]? = some ob ∧ ob ≠ .dead := by
  unfold alive at ha
  split at ha
  · rename_i e; exact ⟨_, e, by simp⟩
  · rename_i e; exact ⟨_, e, by simp⟩
  · cases ha

/-- A value with other cells. -/
def reform (e : AV) (cs : List AV) : AV := match e with | .agg _ => .agg cs | _ => cs.headD .undef

def baseOf (st : St) (x : AV) (K : Option Nat → List AV → Prop) (s : Nat) : Prop :=
  match x with
  | .nils => K none []
  | .ref k off len => match st.h[k]? with
    | some (.arr s' es) => ifK (s' = s) (Side (off + len ≤ es.length) (K (some k) ((es.drop off).take len)))
    | _ => False
  | _ => False

def srcOf (st : St) (x : AV) (K : List AV → Prop) (s : Nat) : Prop :=
  match x with
  | .nils => K []
  | .vs s' es => ifK (s' = s) (Side (OneCells es) (K es))
  | .ref k off len => match st.h[k]? with
    | some (.arr s' es) => ifK (s' = s) (Side (off + len ≤ es.length ∧ OneCells es) (K ((es.drop off).take len)))
    | _ => False
  | .lit (.string b) => ifK (s = 1) (K (b.data.toList.map fun c => .lit (.int .u8 c.toNat)))
  | _ => False

theorem baseOf_ok {st : St} {x : Operand} {s : Nat} {K : Option Nat → List AV → Prop} (h : baseOf st (aeval st x) K s) : ∃ ko bs, Base st x s ko bs ∧ K ko bs := by
  unfold baseOf at h
  split at h
  · rename_i hx; exact ⟨none, [], .inl ⟨hx, rfl, rfl⟩, h⟩
  · rename_i k off len hx
    split at h
    · rename_i s' es hk
      replace h := ifK_elim h
      obtain ⟨rfl, h⟩ := h
      obtain ⟨hle, hK⟩ := h
      exact ⟨_, _, .inr ⟨k, off, len, es, hx, hk, hle, rfl, rfl⟩, hK⟩
    · exact h.elim
  · exact h.elim

theorem srcOf_ok {P : Program} {st : St} {x : Operand} {s : Nat} (hs : 0 < s) {K : List AV → Prop} (h : srcOf st (aeval st x) K s) : ∃ xs, Src P st x s xs ∧ K xs := by
  unfold srcOf at h
  split at h
  · rename_i hx; exact ⟨[], Src.nils hx, h⟩
  · rename_i s' es hx
    replace h := ifK_elim h
    obtain ⟨rfl, h⟩ := h
    obtain ⟨h1, hK⟩ := h
    exact ⟨es, Src.vs hs hx h1, hK⟩
  · rename_i k off len hx
    split at h
    · rename_i s' es hk
      replace h := ifK_elim h
      obtain ⟨rfl, h⟩ := h
      obtain ⟨⟨hle, h1⟩, hK⟩ := h
      exact ⟨_, Src.ref hs hx hk hle h1, hK⟩
    · exact h.elim
  · rename_i b hx
    replace h := ifK_elim h
    obtain ⟨rfl, hK⟩ := h
    exact ⟨_, Src.str hx, hK⟩
  · exact h.elim

def sliceTo (P : Program) (t : TypeId) : Option (TypeId × Nat) :=
  match P.underlying t with
  | some (.slice e) => match sizeQ P e with | some s => some (e, s) | none => none
  | _ => none

theorem sliceTo_ok {P : Program} {t e s : Nat} (h : sliceTo P t = some (e, s)) : P.underlying t = some (.slice e) ∧ sizeQ P e = some s := by
  unfold sliceTo at h
  split at h
  · rename_i e' hu
    split at h
    · rename_i s' hs; cases h; exact ⟨hu, hs⟩
    · cases h
  · cases h

def isStr (P : Program) (t : TypeId) : Bool := match P.underlying t with | some .string => true | _ => false
theorem isStr_ok {P : Program} {t : TypeId} (h : isStr P t = true) : P.underlying t = some .string := by
  unfold isStr at h
  split at h
  · assumption
  · cases h

/-- What is known of an element's type. -/
structure ElemInfo where
  size : Nat
  bytes : Nat
  zero : AV

def elemInfo (P : Program) (e : TypeId) : Option ElemInfo :=
  match P.info? e with
  | some i => match i.zero with
    | some z => if 0 < i.size ∧ z.cells.size = i.size ∧ z.cells.toList.all Value.oneCell' = true then some ⟨i.size, i.bytes, constAV z⟩ else none
    | none => none
  | none => none

theorem elemInfo_ok {P : Program} {e : TypeId} {E : ElemInfo} (h : elemInfo P e = some E) :
    ∃ i z, P.info? e = some i ∧ i.zero = some z ∧ i.size = E.size ∧ i.bytes = E.bytes ∧ E.zero = constAV z ∧ 0 < E.size ∧ z.cells.size = E.size ∧ z.cells.toList.all Value.oneCell' = true := by
  unfold elemInfo at h
  split at h
  · rename_i i hi
    split at h
    · rename_i z hz
      split at h
      · rename_i hc; cases h; exact ⟨i, z, hi, hz, rfl, rfl, rfl, hc.1, hc.2.1, hc.2.2⟩
      · cases h
    · cases h
  · cases h

def appendable (P : Program) (u : TypeId) : Bool := match P.underlying u with | some .string | some (.slice _) => true | _ => false
theorem appendable_ok {P : Program} {u : TypeId} (h : appendable P u = true) : P.underlying u = some .string ∨ ∃ e, P.underlying u = some (.slice e) := by
  unfold appendable at h
  split at h
  · rename_i e; exact .inl e
  · rename_i e' e; exact .inr ⟨_, e⟩
  · cases h

/-- How a slice, an index or an address comes out of values. -/
def loadableB (P : Program) (t : TypeId) (c : AV) : Bool :=
  match aggQ P t with
  | some true => c.isAgg && sizeQ P t == some c.cells.length
  | some false => !c.isAgg
  | none => false

theorem loadableB_ok {P : Program} {t : TypeId} {c : AV} (h : loadableB P t c = true) : loadable P t c := by
  unfold loadableB at h
  unfold loadable
  split at h
  · rename_i e; rw [e]; simp at h; exact h
  · rename_i e; rw [e]; simpa using h
  · cases h

def isByte (P : Program) (t : TypeId) : Bool := match P.underlying t with | some (.int .u8) => true | _ => false
theorem isByte_ok {P : Program} {t : TypeId} (h : isByte P t = true) : P.underlying t = some (.int .u8) := by
  unfold isByte at h
  split at h
  · assumption
  · cases h

/-- A call, where the walk stops till its contract is given. -/
structure CallN (P : Program) (n : Nat) (g : FuncId) (args : List AV) (st : St) (K : St → AV → Prop) : Prop where
  ok : CallOK P n g args st K

def asliceOp (P : Program) (t : TypeId) (st : St) (x : AV) (lo hi : Option AV) (K : AV → Prop) : Prop :=
  match x with
  | .lit (.string s) => ifK (isStr P t = true) (asl lo hi s.size (fun l r => K (.lit (.string (s.extract l r)))))
  | .vs s es => (match sliceTo P t with
    | some (_, s') => ifK (s' = s) (asl lo hi es.length (fun l r => K (.vs s ((es.drop l).take (r - l)))))
    | none => False)
  | .ref k off len => (match sliceTo P t, st.h[k]? with
    | some (_, s'), some (.arr s _) => ifK (s' = s) (asl lo hi len (fun l r => K (.ref k (off + l) (r - l))))
    | _, _ => False)
  | _ => False

def aindexAddr (P : Program) (t : TypeId) (st : St) (x y : AV) (K : AV → Prop) : Prop :=
  match y with
  | .lit (.int _ i) => (match x with
    | .vs s es => (match sliceTo P t with
      | some (_, s') => ifK (s' = s) (Side (0 ≤ i) (At es i.toNat fun e => K (.iptr e)))
      | none => False)
    | .ref k off len => (match sliceTo P t, st.h[k]? with
      | some (_, s'), some (.arr s _) => ifK (s' = s) (Side (0 ≤ i ∧ i < len) (K (.eptr k (off + i.toNat) 0)))
      | _, _ => False)
    | _ => False)
  | _ => False

def aload (P : Program) (t : TypeId) (st : St) (x : AV) (K : AV → Prop) : Prop :=
  match x with
  | .iptr c => ifK (loadableB P t c = true) (K c)
  | .ptr k j => (match st.h[k]? with
    | some (.box cs) => (match acut P t cs j with | some v => K v | none => False)
    | _ => False)
  | .eptr k i j => (match st.h[k]? with
    | some (.arr _ es) => At es i fun e => (match acut P t e.cells j with | some v => K v | none => False)
    | _ => False)
  | _ => False

def astore (P : Program) (t : TypeId) (st : St) (x v : AV) (K : List AObj → Prop) : Prop :=
  ifK (cellsQ st.h v = true ∧ sizeQ P t = some v.cells.length)
  (match x with
  | .ptr k j => (match st.h[k]? with
    | some (.box cs) => ifK (j + v.cells.length ≤ cs.length) (K (st.h.set k (.box (splice cs j v.cells))))
    | _ => False)
  | .eptr k i j => (match st.h[k]? with
    | some (.arr s es) => ifK (pureQ v = true) (At es i fun e => Side (j + v.cells.length ≤ e.cells.length ∧ (reform e (splice e.cells j v.cells)).cells = splice e.cells j v.cells)
        (K (st.h.set k (.arr s (es.set i (reform e (splice e.cells j v.cells)))))))
    | _ => False)
  | _ => False)

/-- Values that are bytes. -/
structure BytesN (xs : List AV) (K : List Int → Prop) : Prop where
  ex : ∃ ns : List Int, xs = (ns.map fun n => .lit (.int .u8 n)) ∧ K ns

def aconvert (P : Program) (s t : TypeId) (st : St) (x : AV) (K : St → AV → Prop) : Prop :=
  match x with
  | .lit (.int _ i) => (match P.underlying s, P.underlying t with
    | some _, some (.int k) => K st (.lit (.int k (k.wrap i)))
    | _, _ => False)
  | .lit (.string b) => (match P.underlying s, P.underlying t with
    | some _, some .string => K st (.lit (.string b))
    | _, _ => False) ∨ (match P.underlying s, P.underlying t with
    | some .string, some (.slice e) => ifK (isByte P e = true) (K { st with h := st.h ++ [.arr 1 (b.data.toList.map fun c => .lit (.int .u8 c.toNat))] } (.ref st.h.length 0 b.size))
    | _, _ => False)
  | x => ifK (usable st.h x = true ∧ (alen x).isSome = true)
    (match P.underlying s, P.underlying t with
    | some (.slice e), some .string => ifK (isByte P e = true) (srcOf st x (fun xs => BytesN xs fun ns => K st (.lit (.string (ofInts ns)))) 1)
    | _, _ => False)

/-- One operation. -/
def astep (P : Program) (n : Nat) (o : Oper) (K : St → Prop) (st : St) : Prop :=
  match o.op with
  | .move x => st.putK o.dst (aeval st x) K
  | .assign x => st.putK o.dst (aeval st x) K
  | .pick c x y => (match aeval st c with
    | .lit (.bool b) => ifB b (st.putK o.dst (aeval st x) K) (st.putK o.dst (aeval st y) K)
    | _ => False)
  | .binOp op t x y _ => abin2 P op t (aeval st x) (aeval st y) (fun v => st.putK o.dst v K)
  | .unOp op _ x => aun op (aeval st x) (fun v => st.putK o.dst v K)
  | .extract x i => (match aeval st x with
    | .tup vs => (match vs[i]? with | some v => st.putK o.dst v K | none => False)
    | _ => False)
  | .field t x f => (match aeval st x with
    | .agg cs => (match afield P t cs f with | some v => st.putK o.dst v K | none => False)
    | _ => False)
  | .index t x y => (match aeval st x, aeval st y with
    | .lit (.string s), .lit (.int _ i) => ifK (isStr P t = true) (Side (0 ≤ i ∧ i < s.size) (st.putK o.dst (.lit (.int .u8 (bt s i))) K))
    | _, _ => False)
  | .slice t x lo hi none => asliceOp P t st (aeval st x) (lo.map (aeval st)) (hi.map (aeval st)) (fun v => st.putK o.dst v K)
  | .indexAddr t x y => aindexAddr P t st (aeval st x) (aeval st y) (fun v => st.putK o.dst v K)
  | .fieldAddr t x f => (match aplace P t f with
    | some off => (match aeval st x with
      | .ptr k j => ifK (alive st.h k = true) (st.putK o.dst (.ptr k (j + off)) K)
      | .eptr k i j => ifK (alive st.h k = true) (st.putK o.dst (.eptr k i (j + off)) K)
      | .iptr (.agg cs) => (match aifield P t cs f with | some c => st.putK o.dst (.iptr c) K | none => False)
      | _ => False)
    | none => False)
  | .load t x => aload P t st (aeval st x) (fun v => st.putK o.dst v K)
  | .store t x y => astore P t st (aeval st x) (aeval st y) (fun h => ({ st with h := h } : St).putK o.dst .undef K)
  | .alloc t => (match azero P t with
    | some cs => ({ st with h := st.h ++ [.box cs] } : St).putK o.dst (.ptr st.h.length 0) K
    | none => False)
  | .box _ x => ifK (cellsQ st.h (aeval st x) = true) (({ st with h := st.h ++ [.box (aeval st x).cells] } : St).putK o.dst (.ptr st.h.length 0) K)
  | .build t parts => (match abuild P t (parts.toList.map fun p => (p.1, aeval st p.2)) with
    | some cs => ifK ((parts.toList.all fun p => cellsQ st.h (aeval st p.2)) = true) (st.putK o.dst (.agg cs) K)
    | none => False)
  | .buildSlice t len parts => (match P.underlying t with
    | some (.slice e) => (match elemInfo P e with
      | some E => ifK (len * E.size ≤ 16777216 ∧ (parts.toList.all fun p => cellsQ [] (aeval st p.2) && pureQ (aeval st p.2)) = true)
        (match setElems E.size (List.replicate len E.zero) (parts.toList.map fun p => (p.1, aeval st p.2)) with
        | some es => ({ st with h := st.h ++ [.arr E.size es] } : St).putK o.dst (.ref st.h.length 0 len) K
        | none => False)
      | none => False)
    | _ => False)
  | .makeFunc f first captured => st.putK o.dst (.fn f (first.toList.map (aeval st)) (captured.toList.map (aeval st))) K
  | .makeSlice t x y => (match P.underlying t, aeval st x, aeval st y with
    | some (.slice e), .lit (.int _ l), .lit (.int _ c) => (match elemInfo P e with
      | some E => Side (0 ≤ l ∧ l ≤ c ∧ c ≤ 9223372036854775807 ∧ E.bytes * c ≤ 140737488355328) (({ st with h := st.h ++ [.arr E.size (List.replicate l.toNat E.zero)] } : St).putK o.dst (.ref st.h.length 0 l.toNat) K)
      | none => False)
    | _, _, _ => False)
  | .convert s t x => aconvert P s t st (aeval st x) (fun st' v => st'.putK o.dst v K)
  | .nilCheck x => (match aeval st x with
    | .ptr k j => ifK (alive st.h k = true) (st.putK o.dst (.ptr k j) K)
    | .eptr k i j => ifK (alive st.h k = true) (st.putK o.dst (.eptr k i j) K)
    | .iptr c => st.putK o.dst (.iptr c) K
    | _ => False)
  | .call { callee := .builtin .len, args := ⟨[x]⟩, argTypes := ⟨[t]⟩ } => (match aeval st x with
    | .lit (.string s) => ifK (isStr P t = true) (st.putK o.dst (.lit (.int .i64 s.size)) K)
    | v => (match sliceTo P t, alen v with
      | some _, some m => ifK (usable st.h v = true) (st.putK o.dst (.lit (.int .i64 m)) K)
      | _, _ => False))
  | .call { callee := .builtin .max, args := ⟨[x, y]⟩, .. } => (match aeval st x, aeval st y with
    | .lit (.int k a), .lit (.int _ b) => st.putK o.dst (.lit (.int k (if b > a then b else a))) K
    | _, _ => False)
  | .call { callee := .builtin .min, args := ⟨[x, y]⟩, .. } => (match aeval st x, aeval st y with
    | .lit (.int k a), .lit (.int _ b) => st.putK o.dst (.lit (.int k (if b < a then b else a))) K
    | _, _ => False)
  | .call { callee := .builtin .append, args := ⟨[x, y]⟩, argTypes := ⟨[t, u]⟩ } => (match P.underlying t with
    | some (.slice e) => (match elemInfo P e with
      | some E => ifK (appendable P u = true) (baseOf st (aeval st x) (fun ko bs => srcOf st (aeval st y) (fun xs =>
          Side ((bs.length + xs.length) * E.bytes ≤ 140737488355328 ∧ bs.length + xs.length ≤ 9223372036854775807)
            (({ st with h := killQ st.h ko ++ [.arr E.size (bs ++ xs)] } : St).putK o.dst (.ref st.h.length 0 (bs.length + xs.length)) K)) E.size) E.size)
      | none => False)
    | _ => False)
  | .call { callee := .value f, args, .. } => (match aeval st f with
    | .fn (.func g) first captured => CallN P n g (first ++ args.toList.map (aeval st) ++ captured) st (fun st' r => st'.putK o.dst r K)
    | _ => False)
  | _ => False

theorem ifB_elim {b : Bool} {A B : Prop} (h : ifB b A B) : (b = true → A) ∧ (b = false → B) := by
  cases b
  · exact ⟨fun e => (by cases e), fun _ => h⟩
  · exact ⟨fun _ => h, fun e => (by cases e)⟩

theorem elem_und {P : Program} {t e s : Nat} (h : sliceTo P t = some (e, s)) : P.underlying t = some (.slice e) := (sliceTo_ok h).1

theorem astep_ok {P : Program} {n : Nat} {o : Oper} {K : St → Prop} {st : St} (h : astep P n o K st) : SOp P n o K st := by
  unfold astep at h
  simp only [St.putK_eq] at h
  split at h
  case h_1 x ho => exact SOp.move (.inl ho) h
  case h_2 x ho => exact SOp.move (.inr ho) h
  case h_3 c x y ho =>
    split at h
    · rename_i b hc
      obtain ⟨h1, h2⟩ := ifB_elim h
      exact SOp.pick ho hc h1 h2
    · exact h.elim
  case h_4 op t x y u ho => exact SOp.bin2 ho h
  case h_5 op t x ho => exact SOp.un ho h
  case h_6 x i ho =>
    split at h
    · rename_i vs hx
      split at h
      · rename_i v hv; exact SOp.extract ho hx hv h
      · exact h.elim
    · exact h.elim
  case h_7 t x f ho =>
    split at h
    · rename_i cs hx
      split at h
      · rename_i v hv; exact SOp.field ho hx hv h
      · exact h.elim
    · exact h.elim
  case h_8 t x y ho =>
    split at h
    · rename_i s k i hx hy
      replace h := ifK_elim h; obtain ⟨h1, ⟨h2, h3⟩, h4⟩ := h
      exact SOp.index ho (isStr_ok h1) hx hy h2 h3 h4
    · exact h.elim
  case h_9 t x lo hi ho =>
    unfold asliceOp at h
    split at h
    · rename_i s hx; replace h := ifK_elim h; exact SOp.sliceStr ho (isStr_ok h.1) hx h.2
    · rename_i s es hx
      split at h
      · rename_i e s' hs
        replace h := ifK_elim h; obtain ⟨rfl, h⟩ := h
        exact SOp.sliceVs ho (sliceTo_ok hs).1 (sliceTo_ok hs).2 hx h
      · exact h.elim
    · rename_i k off len hx
      split at h
      · rename_i e s' s es hs hk
        replace h := ifK_elim h; obtain ⟨rfl, h⟩ := h
        exact SOp.sliceRef ho (sliceTo_ok hs).1 (sliceTo_ok hs).2 hx hk h
      · exact h.elim
    · exact h.elim
  case h_10 t x y ho =>
    unfold aindexAddr at h
    split at h
    · rename_i k i hy
      split at h
      · rename_i s es hx
        split at h
        · rename_i e s' hs
          replace h := ifK_elim h; obtain ⟨rfl, h0, ⟨e, he, h⟩⟩ := h
          exact SOp.indexVs ho (sliceTo_ok hs).1 (sliceTo_ok hs).2 hx hy h0 he h
        · exact h.elim
      · rename_i k off len hx
        split at h
        · rename_i e s' s es hs hk
          replace h := ifK_elim h; obtain ⟨rfl, ⟨h0, h1⟩, h⟩ := h
          exact SOp.indexRef ho (sliceTo_ok hs).1 (sliceTo_ok hs).2 hx hk hy h0 h1 h
        · exact h.elim
      · exact h.elim
    · exact h.elim
  case h_11 t x f ho =>
    split at h
    · rename_i off hf
      split at h
      · rename_i k j hx
        replace h := ifK_elim h
        obtain ⟨ob, h1, h2⟩ := alive_ok h.1
        exact SOp.fieldPtr ho hf hx h1 h2 h.2
      · rename_i k i j hx
        replace h := ifK_elim h
        obtain ⟨ob, h1, h2⟩ := alive_ok h.1
        exact SOp.fieldEptr ho hf hx h1 h2 h.2
      · rename_i cs hx
        split at h
        · rename_i c hc; exact SOp.fieldIptr ho hf hx hc h
        · exact h.elim
      · exact h.elim
    · exact h.elim
  case h_12 t x ho =>
    unfold aload at h
    split at h
    · rename_i c hx; replace h := ifK_elim h; exact SOp.loadI ho hx (loadableB_ok h.1) h.2
    · rename_i k j hx
      split at h
      · rename_i cs hk
        split at h
        · rename_i v hv; exact SOp.loadBox ho hx hk hv h
        · exact h.elim
      · exact h.elim
    · rename_i k i j hx
      split at h
      · rename_i s es hk
        obtain ⟨e, he, h⟩ := h.ex
        split at h
        · rename_i v hv; exact SOp.loadRef ho hx hk he hv h
        · exact h.elim
      · exact h.elim
    · exact h.elim
  case h_13 t x y ho =>
    unfold astore at h
    replace h := ifK_elim h; obtain ⟨⟨h1, h2⟩, h⟩ := h
    split at h
    · rename_i k j hx
      split at h
      · rename_i cs hk; replace h := ifK_elim h; exact SOp.storeBox ho hx hk h1 h2 h.1 h.2
      · exact h.elim
    · rename_i k i j hx
      split at h
      · rename_i s es hk
        replace h := ifK_elim h; obtain ⟨hp, ⟨e, he, ⟨h3, h4⟩, h5⟩⟩ := h
        exact SOp.storeRef ho hx hk he h1 hp h2 h3 h4 h5
      · exact h.elim
    · exact h.elim
  case h_14 t ho =>
    split at h
    · rename_i cs hz; exact SOp.alloc ho hz h
    · exact h.elim
  case h_15 t x ho => replace h := ifK_elim h; exact SOp.box ho h.1 h.2
  case h_16 t parts ho =>
    split at h
    · rename_i cs hb
      replace h := ifK_elim h
      have h1 := h.1
      simp only [List.all_eq_true] at h1
      exact SOp.build ho hb h1 h.2
    · exact h.elim
  case h_17 t len parts ho =>
    split at h
    · rename_i e hu
      split at h
      · rename_i E hE
        obtain ⟨i, z, hi, hz, hs, hb, hzE, h0, hzs, hz1⟩ := elemInfo_ok hE
        replace h := ifK_elim h; obtain ⟨⟨h1, h2⟩, h3⟩ := h
        simp only [List.all_eq_true, Bool.and_eq_true] at h2
        split at h3
        · rename_i es hes
          rw [hzE] at hes
          exact SOp.buildSlice ho hu hi hs h0 hz hzs hz1 h1 hes (fun p hp => (h2 p hp).1) (fun p hp => (h2 p hp).2) h3
        · exact h3.elim
      · exact h.elim
    · exact h.elim
  case h_18 f first captured ho => exact SOp.makeFunc ho h
  case h_19 t x y ho =>
    split at h
    · rename_i e k l k' c hu hx hy
      split at h
      · rename_i E hE
        obtain ⟨i, z, hi, hz, hs, hb, hzE, h0, hzs, hz1⟩ := elemInfo_ok hE
        obtain ⟨⟨h1, h2, h3, h4⟩, h5⟩ := h
        rw [hzE] at h5
        exact SOp.makeSlice ho hu hi hs h0 hz hzs hz1 hx hy h1 h2 h3 (by rw [hb]; exact h4) h5
      · exact h.elim
    · exact h.elim
  case h_20 s t x ho =>
    unfold aconvert at h
    split at h
    · rename_i k i hx
      split at h
      · rename_i d k' hs ht; exact SOp.convInt ho hs ht hx h
      · exact h.elim
    · rename_i b hx
      rcases h with h | h
      · split at h
        · rename_i d hs ht; exact SOp.convStr ho hs ht hx h
        · exact h.elim
      · split at h
        · rename_i e hs ht; replace h := ifK_elim h; exact SOp.convToBytes ho hs ht (isByte_ok h.1) hx h.2
        · exact h.elim
    · replace h := ifK_elim h; obtain ⟨⟨h1, h2⟩, h3⟩ := h
      split at h3
      · rename_i e hs ht
        replace h3 := ifK_elim h3; obtain ⟨he, h4⟩ := h3
        obtain ⟨xs, hsrc, ⟨ns, rfl, h5⟩⟩ := srcOf_ok (P := P) (by omega) h4
        exact SOp.convBytes ho hs (isByte_ok he) ht hsrc (Option.isSome_iff_exists.1 h2) h1 h5
      · exact h3.elim
  case h_21 x ho =>
    split at h
    · rename_i k j hx
      replace h := ifK_elim h
      obtain ⟨ob, h1, h2⟩ := alive_ok h.1
      exact SOp.nilCheck ho hx h1 h2 h.2
    · rename_i k i j hx
      replace h := ifK_elim h
      obtain ⟨ob, h1, h2⟩ := alive_ok h.1
      exact SOp.nilCheckE ho hx h1 h2 h.2
    · rename_i c hx; exact SOp.nilCheckI ho hx h
    · exact h.elim
  case h_22 x t ho =>
    split at h
    · rename_i s hx; replace h := ifK_elim h; exact SOp.lenStr ho (isStr_ok h.1) hx h.2
    · split at h
      · rename_i es m hs hm
        obtain ⟨e, s⟩ := es
        replace h := ifK_elim h
        exact SOp.lenSlice ho (sliceTo_ok hs).1 hm h.1 h.2
      · exact h.elim
  case h_23 x y _ ho =>
    split at h
    · rename_i k a k' b hx hy; exact SOp.max2 ho hx hy h
    · exact h.elim
  case h_24 x y _ ho =>
    split at h
    · rename_i k a k' b hx hy; exact SOp.min2 ho hx hy h
    · exact h.elim
  case h_25 x y t u ho =>
    split at h
    · rename_i e hu
      split at h
      · rename_i E hE
        obtain ⟨i, z, hi, hz, hs, hb, hzE, h0, hzs, hz1⟩ := elemInfo_ok hE
        replace h := ifK_elim h; obtain ⟨h1, h2⟩ := h
        obtain ⟨ko, bs, hbase, h3⟩ := baseOf_ok h2
        obtain ⟨xs, hsrc, ⟨h4, h5⟩, h6⟩ := srcOf_ok (P := P) h0 h3
        exact SOp.append ho hu (appendable_ok h1) hi hs h0 hz hzs hbase hsrc (by rw [hb]; exact h4) h5 h6
      · exact h.elim
    · exact h.elim
  case h_26 f args ts ho =>
    split at h
    · rename_i g first captured hf; exact SOp.call ho hf h.ok
    · exact h.elim
  case h_27 => exact h.elim

end Go.Q
