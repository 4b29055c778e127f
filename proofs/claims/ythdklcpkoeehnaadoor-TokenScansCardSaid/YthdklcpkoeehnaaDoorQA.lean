/- The abstract values and states over which the walks of this claim go, and how they stand for the machine's. -/
import Derived.WalkKit
namespace Go.Q
open Go

/-- An abstract value. -/
inductive AV where
  | undef
  | lit (v : Value)
  | nils
  | agg (cs : List AV)
  | tup (vs : List AV)
  | vs (s : Nat) (es : List AV)
  | ref (o off len : Nat)
  | ptr (o j : Nat)
  | eptr (o i j : Nat)
  | iptr (c : AV)
  | fn (f : Fn) (first captured : List AV)
  deriving Inhabited

def AV.cells : AV → List AV
  | .agg cs => cs
  | v => [v]

/-- Where an object of the walk lies. -/
structure Loc where
  block : Nat
  base : Nat
  esz : Nat
  size : Nat

/-- What has become of an object: it is gone (frozen, or another object now has its memory); it has no memory yet; it lies there. -/
inductive Slot where
  | gone
  | nil
  | at (l : Loc)

abbrev MM := List Slot

def MM.loc (μ : MM) (o : Nat) : Option Loc := match μ[o]? with | some (.at l) => some l | _ => none

/-- The blocks that the objects take. -/
def MM.owns (μ : MM) (b : Nat) : Prop := ∃ o l, μ.loc o = some l ∧ l.block = b

inductive RelV (I : Nat → Prop) (w : World) : MM → AV → Value → Prop
  | undef (μ : MM) (v : Value) : RelV I w μ .undef v
  | lit (μ : MM) (v : Value) : RelV I w μ (.lit v) v
  | nils (μ : MM) : RelV I w μ .nils (.slice none 0 0)
  | agg (μ : MM) (cs : List AV) (xs : Array Value) (hn : xs.size = cs.length)
      (h : ∀ i (hi : i < cs.length), RelV I w μ cs[i] (xs.getD i Go.undef)) : RelV I w μ (.agg cs) (.agg xs)
  | tup (μ : MM) (cs : List AV) (xs : Array Value) (hn : xs.size = cs.length)
      (h : ∀ i (hi : i < cs.length), RelV I w μ cs[i] (xs.getD i Go.undef)) : RelV I w μ (.tup cs) (.tuple xs)
  | vs (μ : MM) (s : Nat) (es : List AV) (a : Option Addr) (cap : Nat) (val : Nat → Nat → Value) (hcap : es.length ≤ cap)
      (ha : 0 < es.length → ∃ b off, a = some ⟨b, off, none⟩ ∧ I b ∧ ∀ i j, i < es.length → j < s → w.cell? ⟨b, off + i * s + j, none⟩ = some (val i j))
      (hn : ∀ i (hi : i < es.length), (es[i]).cells.length = s)
      (hv : ∀ i (hi : i < es.length) j (hj : j < (es[i]).cells.length), RelV I w [] ((es[i]).cells[j]) (val i j)) :
      RelV I w μ (.vs s es) (.slice a es.length cap)
  | ref (μ : MM) (o off len cap : Nat) (l : Loc) (hl : μ.loc o = some l) (hlen : len ≤ cap) (hcap : l.base + (off + cap) * l.esz ≤ l.size) :
      RelV I w μ (.ref o off len) (.slice (some ⟨l.block, l.base + off * l.esz, none⟩) len cap)
  | ref0 (μ : MM) (o : Nat) (hl : μ[o]? = some .nil) : RelV I w μ (.ref o 0 0) (.slice none 0 0)
  | refE (μ : MM) (o off : Nat) (l : Loc) (a : Option Addr) (hl : μ.loc o = some l) : RelV I w μ (.ref o off 0) (.slice a 0 0)
  | refX (μ : MM) (o off len : Nat) (v : Value) (hl : μ[o]? = some .gone) : RelV I w μ (.ref o off len) v
  | ptrX (μ : MM) (o j : Nat) (v : Value) (hl : μ[o]? = some .gone) : RelV I w μ (.ptr o j) v
  | eptrX (μ : MM) (o i j : Nat) (v : Value) (hl : μ[o]? = some .gone) : RelV I w μ (.eptr o i j) v
  | ptr (μ : MM) (o j : Nat) (l : Loc) (hl : μ.loc o = some l) : RelV I w μ (.ptr o j) (.pointer (some ⟨l.block, l.base + j, none⟩))
  | eptr (μ : MM) (o i j : Nat) (l : Loc) (hl : μ.loc o = some l) : RelV I w μ (.eptr o i j) (.pointer (some ⟨l.block, l.base + i * l.esz + j, none⟩))
  | iptr (μ : MM) (c : AV) (b off : Nat) (val : Nat → Value) (hI : I b) (hc : ∀ j, j < c.cells.length → w.cell? ⟨b, off + j, none⟩ = some (val j))
      (hv : ∀ j (hj : j < c.cells.length), RelV I w [] (c.cells[j]) (val j)) : RelV I w μ (.iptr c) (.pointer (some ⟨b, off, none⟩))
  | fn (μ : MM) (f : Fn) (first captured : List AV) (fs cs : Array Value) (hf : fs.size = first.length) (hc : cs.size = captured.length)
      (h1 : ∀ i (hi : i < first.length), RelV I w μ first[i] (fs.getD i Go.undef))
      (h2 : ∀ i (hi : i < captured.length), RelV I w μ captured[i] (cs.getD i Go.undef)) : RelV I w μ (.fn f first captured) (.func f fs cs)

/-- What is read keeps standing for the same, where the immutable blocks stay. -/
theorem RelV.mono {I I' : Nat → Prop} {w w' : World} (hI : ∀ b, I b → I' b) (hw : ∀ b, I b → w'.heap[b]? = w.heap[b]?) {μ : MM} {a : AV} {v : Value}
    (h : RelV I w μ a v) : RelV I' w' μ a v := by
  induction h with
  | undef => exact .undef ..
  | lit => exact .lit ..
  | nils => exact .nils ..
  | agg μ cs xs hn _ ih => exact .agg μ cs xs hn ih
  | tup μ cs xs hn _ ih => exact .tup μ cs xs hn ih
  | vs μ s es a cap val hcap ha hn _ ih =>
    refine .vs μ s es a cap val hcap (fun h0 => ?_) hn ih
    obtain ⟨b, off, e, hb, hc⟩ := ha h0
    refine ⟨b, off, e, hI b hb, fun i j hi hj => ?_⟩
    rw [← hc i j hi hj]
    unfold World.cell?
    simp only [hw b hb]
  | ref μ o off len cap l hl hlen hcap => exact .ref μ o off len cap l hl hlen hcap
  | ref0 μ o hl => exact .ref0 μ o hl
  | refE μ o off l a hl => exact .refE μ o off l a hl
  | refX μ o off len v hl => exact .refX μ o off len v hl
  | ptrX μ o j v hl => exact .ptrX μ o j v hl
  | eptrX μ o i j v hl => exact .eptrX μ o i j v hl
  | ptr μ o j l hl => exact .ptr μ o j l hl
  | eptr μ o i j l hl => exact .eptr μ o i j l hl
  | iptr μ c b off val hb hc _ ih =>
    refine .iptr μ c b off val (hI b hb) (fun j hj => ?_) ih
    rw [← hc j hj]
    unfold World.cell?
    simp only [hw b hb]
  | fn μ f first captured fs cs hf hc _ _ ih1 ih2 => exact .fn μ f first captured fs cs hf hc ih1 ih2

/-- Objects that lie where they lay, or are gone. -/
def MM.Sub (μ μ' : MM) : Prop := ∀ (o : Nat) (x : Slot), μ[o]? = some x → μ'[o]? = some x ∨ μ'[o]? = some .gone

theorem MM.loc_some {μ : MM} {o : Nat} {l : Loc} : μ.loc o = some l ↔ μ[o]? = some (.at l) := by
  unfold MM.loc
  constructor
  · intro h
    split at h
    · rename_i l' e; rw [e]; cases h; rfl
    · cases h
  · intro h; rw [h]

theorem RelV.sub {I : Nat → Prop} {w : World} {μ μ' : MM} (hs : μ.Sub μ') {a : AV} {v : Value} (h : RelV I w μ a v) : RelV I w μ' a v := by
  induction h generalizing μ' with
  | undef => exact .undef ..
  | lit => exact .lit ..
  | nils => exact .nils ..
  | agg μ cs xs hn _ ih => exact .agg _ cs xs hn (fun i hi => ih i hi hs)
  | tup μ cs xs hn _ ih => exact .tup _ cs xs hn (fun i hi => ih i hi hs)
  | vs μ s es a cap val hcap ha hn hv ih => exact .vs _ s es a cap val hcap ha hn hv
  | ref μ o off len cap l hl hlen hcap =>
    rcases hs o _ (MM.loc_some.1 hl) with h1 | h1
    · exact .ref _ o off len cap l (MM.loc_some.2 h1) hlen hcap
    · exact .refX _ o off len _ h1
  | ref0 μ o hl =>
    rcases hs o _ hl with h1 | h1
    · exact .ref0 _ o h1
    · exact .refX _ o 0 0 _ h1
  | refE μ o off l a hl =>
    rcases hs o _ (MM.loc_some.1 hl) with h1 | h1
    · exact .refE _ o off l a (MM.loc_some.2 h1)
    · exact .refX _ o off 0 _ h1
  | refX μ o off len v hl => exact .refX _ o off len v ((hs o _ hl).elim id id)
  | ptrX μ o j v hl => exact .ptrX _ o j v ((hs o _ hl).elim id id)
  | eptrX μ o i j v hl => exact .eptrX _ o i j v ((hs o _ hl).elim id id)
  | ptr μ o j l hl =>
    rcases hs o _ (MM.loc_some.1 hl) with h1 | h1
    · exact .ptr _ o j l (MM.loc_some.2 h1)
    · exact .ptrX _ o j _ h1
  | eptr μ o i j l hl =>
    rcases hs o _ (MM.loc_some.1 hl) with h1 | h1
    · exact .eptr _ o i j l (MM.loc_some.2 h1)
    · exact .eptrX _ o i j _ h1
  | iptr μ c b off val hb hc hv ih => exact .iptr _ c b off val hb hc hv
  | fn μ f first captured fs cs hf hc _ _ ih1 ih2 => exact .fn _ f first captured fs cs hf hc (fun i hi => ih1 i hi hs) (fun i hi => ih2 i hi hs)

theorem MM.sub_nil (μ : MM) : MM.Sub [] μ := fun o x h => by simp at h

theorem MM.sub_refl (μ : MM) : MM.Sub μ μ := fun _o _x h => .inl h

theorem MM.sub_append (μ ν : MM) : MM.Sub μ (μ ++ ν) := fun o x h => by
  refine .inl ?_
  rcases Nat.lt_or_ge o μ.length with h1 | h1
  · rw [List.getElem?_append_left h1]; exact h
  · rw [List.getElem?_eq_none h1] at h; cases h

theorem MM.sub_set (μ : MM) (k : Nat) : MM.Sub μ (μ.set k .gone) := fun o x h => by
  rcases Nat.lt_or_ge o μ.length with h1 | h1
  · by_cases e : k = o
    · subst e; exact .inr (by simp [h1])
    · exact .inl (by rw [List.getElem?_set_ne e]; exact h)
  · rw [List.getElem?_eq_none h1] at h; cases h

theorem MM.Sub.trans {μ μ' μ'' : MM} (h : μ.Sub μ') (h' : μ'.Sub μ'') : μ.Sub μ'' := fun o x e => by
  rcases h o x e with h1 | h1
  · exact h' o x h1
  · exact .inr ((h' o _ h1).elim id id)

theorem RelV.any {I : Nat → Prop} {w : World} {μ : MM} {a : AV} {v : Value} (h : RelV I w [] a v) : RelV I w μ a v := h.sub (MM.sub_nil μ)

end Go.Q
