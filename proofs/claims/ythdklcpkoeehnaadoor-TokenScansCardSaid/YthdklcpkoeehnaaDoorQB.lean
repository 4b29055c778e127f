/- States of a walk, and how they stand for the machine's. -/
import Derived.Test.YthdklcpkoeehnaaDoorQA
namespace Go.Q
open Go

/-- What lies in memory and may still be written. -/
inductive AObj where
  | dead
  | arr (s : Nat) (es : List AV)
  | box (cs : List AV)
  deriving Inhabited

structure St where
  n : Nat
  ts : List (Nat × AV)
  h : List AObj

def look (d : Nat) : List (Nat × AV) → AV
  | [] => .undef
  | (k, v) :: r => if k = d then v else look d r

def St.get (st : St) (d : Nat) : AV := if d < st.n then look d st.ts else .undef

def St.put (st : St) (d : Option Nat) (v : AV) : St := match d with | some d => { st with ts := (d, v) :: st.ts } | none => st

def BlockOK (w : World) (l : Loc) : Prop := ∃ cells T lo hi, w.heap[l.block]? = some (.cells cells T (lo, hi)) ∧ cells.size = l.size ∧ ∀ k, k < l.size → ¬ (lo ≤ k ∧ k < hi)

/-- A value in its outermost form, handed on. -/
def AV.force (v : AV) (K : AV → Prop) : Prop :=
  match v with
  | .undef => K .undef
  | .lit (.int k n) => K (.lit (.int k n))
  | .lit (.bool b) => K (.lit (.bool b))
  | .lit (.string s) => K (.lit (.string s))
  | .lit u => K (.lit u)
  | .nils => K .nils
  | .agg cs => K (.agg cs)
  | .tup xs => K (.tup xs)
  | .vs s es => K (.vs s es)
  | .ref o off len => K (.ref o off len)
  | .ptr o j => K (.ptr o j)
  | .eptr o i j => K (.eptr o i j)
  | .iptr c => K (.iptr c)
  | .fn f a b => K (.fn f a b)

def St.putK (st : St) (d : Option Nat) (v : AV) (K : St → Prop) : Prop :=
  v.force fun v => match st with
    | ⟨n, ts, h⟩ => match d with
      | some d => K ⟨n, (d, v) :: ts, h⟩
      | none => K ⟨n, ts, h⟩

theorem St.putK_eq (st : St) (d : Option Nat) (v : AV) (K : St → Prop) : st.putK d v K = K (st.put d v) := by
  cases st with
  | mk n ts h =>
    cases d <;> cases v <;> first | rfl | (rename_i u; cases u <;> rfl)

inductive RelO (I : Nat → Prop) (w : World) (μ : MM) : AObj → Slot → Prop
  | dead : RelO I w μ .dead .gone
  | arr0 (s : Nat) : RelO I w μ (.arr s []) .nil
  | arr (s : Nat) (es : List AV) (l : Loc) (val : Nat → Nat → Value) (hs : l.esz = s) (hb : BlockOK w l) (hsz : l.base + es.length * s ≤ l.size)
      (hn : ∀ i (hi : i < es.length), (es[i]).cells.length = s)
      (hc : ∀ i j, i < es.length → j < s → w.cell? ⟨l.block, l.base + i * s + j, none⟩ = some (val i j))
      (hv : ∀ i (hi : i < es.length) j (hj : j < (es[i]).cells.length), RelV I w [] ((es[i]).cells[j]) (val i j)) : RelO I w μ (.arr s es) (.at l)
  | box (cs : List AV) (l : Loc) (val : Nat → Value) (hb : BlockOK w l) (hsz : l.base + cs.length ≤ l.size)
      (hc : ∀ j, j < cs.length → w.cell? ⟨l.block, l.base + j, none⟩ = some (val j))
      (hv : ∀ j (hj : j < cs.length), RelV I w μ cs[j] (val j)) : RelO I w μ (.box cs) (.at l)

theorem RelO.blockOK {I : Nat → Prop} {w : World} {μ : MM} {ob : AObj} {l : Loc} (h : RelO I w μ ob (.at l)) : BlockOK w l := by
  generalize e : Slot.at l = x at h
  cases h with
  | dead => cases e
  | arr0 => cases e
  | arr s es l' val hs hb => cases e; exact hb
  | box cs l' val hb => cases e; exact hb

structure RelH (I : Nat → Prop) (μ : MM) (h : List AObj) (w : World) : Prop where
  len : μ.length = h.length
  objs : ∀ (o : Nat) (ob : AObj) (x : Slot), h[o]? = some ob → μ[o]? = some x → RelO I w μ ob x
  notI : ∀ b, μ.owns b → ¬ I b
  apart : ∀ (o o' : Nat) (l l' : Loc), μ.loc o = some l → μ.loc o' = some l' → l.block = l'.block → o = o'
  imm : ∀ b, I b → b < w.heap.size

structure Rel (I : Nat → Prop) (μ : MM) (st : St) (a : Act) (w : World) : Prop where
  tmps : ∀ d, RelV I w μ (st.get d) (a.tmps.getD d Go.undef)
  size : a.tmps.size = st.n
  defers : a.defers = []
  heap : RelH I μ st.h w

/-- How memory goes on: what is immutable stays, what is nobody's of the walk stays; what is new lies behind. -/
structure Step (I : Nat → Prop) (μ : MM) (w : World) (I' : Nat → Prop) (μ' : MM) (w' : World) : Prop where
  mono : ∀ b, I b → I' b
  grow : w.heap.size ≤ w'.heap.size
  same : ∀ b, b < w.heap.size → ¬ μ.owns b → w'.heap[b]? = w.heap[b]?
  own : ∀ b, μ'.owns b → μ.owns b ∨ w.heap.size ≤ b
  imm : ∀ b, I' b → I b ∨ μ.owns b ∨ w.heap.size ≤ b
  ext : w'.os = w.os ∧ w'.output = w.output

/-- The first objects stay where they lie, or are gone. -/
def Pre (n : Nat) (μ μ' : MM) : Prop := n ≤ μ'.length ∧ ∀ (o : Nat), o < n → μ'[o]? = μ[o]? ∨ μ'[o]? = some .gone

theorem Step.refl (I : Nat → Prop) (μ : MM) (w : World) : Step I μ w I μ w := ⟨fun _ h => h, Nat.le_refl _, fun _ _ _ => rfl, fun _ h => .inl h, fun _ h => .inl h, rfl, rfl⟩

theorem Step.trans {I I' I'' : Nat → Prop} {μ μ' μ'' : MM} {w w' w'' : World} (h : Step I μ w I' μ' w') (h' : Step I' μ' w' I'' μ'' w'') : Step I μ w I'' μ'' w'' := by
  refine ⟨fun b hb => h'.mono b (h.mono b hb), Nat.le_trans h.grow h'.grow, fun b hb hn => ?_, fun b hb => ?_, fun b hb => ?_, ⟨h'.ext.1.trans h.ext.1, h'.ext.2.trans h.ext.2⟩⟩
  · rw [h'.same b (Nat.lt_of_lt_of_le hb h.grow) (fun ho => ?_), h.same b hb hn]
    rcases h.own b ho with h1 | h1
    · exact hn h1
    · omega
  · rcases h'.own b hb with h1 | h1
    · exact h.own b h1
    · exact .inr (Nat.le_trans h.grow h1)
  · rcases h'.imm b hb with h1 | h1 | h1
    · exact h.imm b h1
    · rcases h.own b h1 with h2 | h2
      · exact .inr (.inl h2)
      · exact .inr (.inr h2)
    · exact .inr (.inr (Nat.le_trans h.grow h1))

theorem Pre.refl (n : Nat) (μ : MM) (h : n ≤ μ.length) : Pre n μ μ := ⟨h, fun _ _ => .inl rfl⟩

theorem Pre.trans {n : Nat} {μ μ' μ'' : MM} (h : Pre n μ μ') (h' : Pre n μ' μ'') : Pre n μ μ'' := by
  refine ⟨h'.1, fun o ho => ?_⟩
  rcases h'.2 o ho with e | e
  · rcases h.2 o ho with e2 | e2
    · exact .inl (e.trans e2)
    · exact .inr (e.trans e2)
  · exact .inr e

theorem Pre.mono {n m : Nat} {μ μ' : MM} (h : Pre n μ μ') (hm : m ≤ n) : Pre m μ μ' := ⟨Nat.le_trans hm h.1, fun o ho => h.2 o (Nat.lt_of_lt_of_le ho hm)⟩

theorem RelH.size_owned {I : Nat → Prop} {μ : MM} {h : List AObj} {w : World} (H : RelH I μ h w) {b : Nat} (hb : μ.owns b) : b < w.heap.size := by
  obtain ⟨o, l, hl, rfl⟩ := hb
  have hx := MM.loc_some.1 hl
  have ho : o < μ.length := by
    rcases Nat.lt_or_ge o μ.length with h1 | h1
    · exact h1
    · rw [List.getElem?_eq_none h1] at hx; cases hx
  have ho' : o < h.length := H.len ▸ ho
  have hob := H.objs o h[o] (.at l) (List.getElem?_eq_getElem ho') hx
  have hok : BlockOK w l := hob.blockOK
  obtain ⟨cells, T, lo, hi, e, _⟩ := hok
  rcases Nat.lt_or_ge l.block w.heap.size with h1 | h1
  · exact h1
  · rw [Array.getElem?_eq_none h1] at e; cases e

/-- What stands for immutable data goes on to. -/
theorem Step.keepI {I I' : Nat → Prop} {μ μ' : MM} {w w' : World} {h : List AObj} (H : RelH I μ h w) (S : Step I μ w I' μ' w') : ∀ b, I b → w'.heap[b]? = w.heap[b]? :=
  fun b hb => S.same b (H.imm b hb) (fun ho => H.notI b ho hb)

theorem cell_same {w w' : World} {b off : Nat} (h : w'.heap[b]? = w.heap[b]?) : w'.cell? ⟨b, off, none⟩ = w.cell? ⟨b, off, none⟩ := by
  unfold World.cell?; simp only [h]

theorem BlockOK.same {w w' : World} {l : Loc} (h : w'.heap[l.block]? = w.heap[l.block]?) (H : BlockOK w l) : BlockOK w' l := by
  obtain ⟨c, T, lo, hi, e, hs⟩ := H
  exact ⟨c, T, lo, hi, by rw [h]; exact e, hs⟩

theorem RelO.mono {I I' : Nat → Prop} {w w' : World} {μ μ' : MM} {ob : AObj} {x : Slot} (hI : ∀ b, I b → I' b) (hw : ∀ b, I b → w'.heap[b]? = w.heap[b]?)
    (hs : ∀ a v, RelV I w μ a v → RelV I w μ' a v) (hl : ∀ l, x = .at l → w'.heap[l.block]? = w.heap[l.block]?) (h : RelO I w μ ob x) : RelO I' w' μ' ob x := by
  cases h with
  | dead => exact .dead
  | arr0 s => exact .arr0 s
  | arr s es l val hse hb hsz hn hc hv =>
    exact .arr s es l val hse (hb.same (hl l rfl)) hsz hn (fun i j hi hj => by rw [cell_same (hl l rfl)]; exact hc i j hi hj) (fun i hi j hj => (hv i hi j hj).mono hI hw)
  | box cs l val hb hsz hc hv =>
    exact .box cs l val (hb.same (hl l rfl)) hsz (fun j hj => by rw [cell_same (hl l rfl)]; exact hc j hj) (fun j hj => (hs _ _ (hv j hj)).mono hI hw)

end Go.Q
