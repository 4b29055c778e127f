/- Operations that read parts of values and immutable memory. -/
import Derived.Test.YthdklcpkoeehnaaDoorQC
namespace Go.Q
open Go

def aggQ (P : Program) (t : TypeId) : Option Bool :=
  match P.underlying t with
  | some (.struct _) | some (.array _ _) => some true
  | some _ => some false
  | none => none

def sizeQ (P : Program) (t : TypeId) : Option Nat := (P.info? t).map (·.size)

theorem run_isAggQ {P : Program} {w : World} {t : TypeId} {b : Bool} (h : aggQ P t = some b) : (isAgg t).run P w = .ok b w := by
  unfold aggQ at h
  unfold isAgg
  simp only [Sem.run_bind]
  cases hu : P.underlying t with
  | none => rw [hu] at h; cases h
  | some d =>
    rw [hu] at h
    simp only [underlying, Sem.run_bind, run_program, Result.andThen_ok, hu, Sem.run_pure]
    cases d <;> simp_all

theorem run_sizeQ {P : Program} {w : World} {t : TypeId} {n : Nat} (h : sizeQ P t = some n) : (sizeOf t).run P w = .ok n w := by
  unfold sizeQ at h
  cases hi : P.info? t with
  | none => rw [hi] at h; cases h
  | some i =>
    rw [hi] at h
    simp only [Option.map_some, Option.some.injEq] at h
    simp [sizeOf, typeInfo, hi, h]

theorem run_underQ {P : Program} {w : World} {t : TypeId} {d : TypeDesc} (h : P.underlying t = some d) : (underlying t).run P w = .ok d w := by
  simp [underlying, h]

/-- A part of a struct's cells. -/
def acut (P : Program) (t : TypeId) (cs : List AV) (off : Nat) : Option AV :=
  match aggQ P t, sizeQ P t with
  | some true, some n => if off + n ≤ cs.length then some (.agg ((cs.drop off).take n)) else none
  | some false, _ => cs[off]?
  | _, _ => none

def afield (P : Program) (t : TypeId) (cs : List AV) (f : Nat) : Option AV :=
  match P.underlying t with
  | some (.struct fs) => match fs[f]? with
    | some fl => acut P fl.type cs fl.offset
    | none => none
  | _ => none

theorem getD_of {xs : Array Value} {i : Nat} (h : i < xs.size) : xs.getD i Go.undef = xs[i] := by simp [Array.getD, h]

theorem acut_ok {P : Program} {I : Nat → Prop} {w : World} {μ : MM} {t : TypeId} {cs : List AV} {off : Nat} {av : AV} (h : acut P t cs off = some av) {xs : Array Value}
    (hn : xs.size = cs.length) (hx : ∀ i (hi : i < cs.length), RelV I w μ cs[i] (xs.getD i Go.undef)) : ∃ r, (part t xs off).run P w = .ok r w ∧ RelV I w μ av r := by
  unfold acut at h
  split at h
  · rename_i n ha hs
    split at h
    · rename_i hle
      obtain rfl := Option.some.inj h
      refine ⟨.agg (xs.extract off (off + n)), ?_, ?_⟩
      · simp [part, run_isAggQ ha, run_sizeQ hs]
      · refine .agg _ _ _ (by simp; omega) (fun i hi => ?_)
        simp only [List.length_take, List.length_drop] at hi
        have h1 : off + i < cs.length := by omega
        have := hx (off + i) h1
        rw [getD_of (by omega)] at this
        rw [getD_of (by simp; omega)]
        simpa using this
    · cases h
  · rename_i ha
    have hlt : off < cs.length := by
      rcases Nat.lt_or_ge off cs.length with h1 | h1
      · exact h1
      · rw [List.getElem?_eq_none h1] at h; cases h
    rw [List.getElem?_eq_getElem hlt] at h
    obtain rfl := Option.some.inj h
    refine ⟨xs[off]'(by omega), ?_, ?_⟩
    · simp only [part, Sem.run_bind, run_isAggQ ha, Result.andThen_ok, Bool.false_eq_true, if_false]
      rw [Array.getElem?_eq_getElem (by omega)]
      rfl
    · have := hx off hlt
      rwa [getD_of (by omega)] at this
  · cases h

theorem RelV.agg_inv {I : Nat → Prop} {w : World} {μ : MM} {cs : List AV} {v : Value} (h : RelV I w μ (.agg cs) v) :
    ∃ xs : Array Value, v = .agg xs ∧ xs.size = cs.length ∧ ∀ i (hi : i < cs.length), RelV I w μ cs[i] (xs.getD i Go.undef) := by
  cases h with
  | agg _ _ xs hn h => exact ⟨xs, rfl, hn, h⟩

theorem RelV.tup_inv {I : Nat → Prop} {w : World} {μ : MM} {cs : List AV} {v : Value} (h : RelV I w μ (.tup cs) v) :
    ∃ xs : Array Value, v = .tuple xs ∧ xs.size = cs.length ∧ ∀ i (hi : i < cs.length), RelV I w μ cs[i] (xs.getD i Go.undef) := by
  cases h with
  | tup _ _ xs hn h => exact ⟨xs, rfl, hn, h⟩

theorem afield_ok {P : Program} {I : Nat → Prop} {w : World} {μ : MM} {t : TypeId} {cs : List AV} {f : Nat} {av : AV} (h : afield P t cs f = some av) {v : Value}
    (hv : RelV I w μ (.agg cs) v) : ∃ r, (Instr.field t v f).run P w = .ok r w ∧ RelV I w μ av r := by
  obtain ⟨xs, rfl, hn, hx⟩ := hv.agg_inv
  unfold afield at h
  split at h
  · rename_i fs hu
    split at h
    · rename_i fl hf
      obtain ⟨r, hr, hrel⟩ := acut_ok h hn hx
      refine ⟨r, ?_, hrel⟩
      simp only [Instr.field, Sem.run_bind, run_underQ hu, Result.andThen_ok, hf, asAgg, Sem.run_pure, hr]
    · cases h
  · cases h

/-- The bounds of a cut. -/
def asl (lo hi : Option AV) (n : Nat) (K : Nat → Nat → Prop) : Prop :=
  match lo, hi with
  | none, none => K 0 n
  | some (.lit (.int _ l)), none => Side (0 ≤ l ∧ l ≤ (n : Int)) (K l.toNat n)
  | none, some (.lit (.int _ h)) => Side (0 ≤ h ∧ h ≤ (n : Int)) (K 0 h.toNat)
  | some (.lit (.int _ l)), some (.lit (.int _ h)) => Side (0 ≤ l ∧ l ≤ h ∧ h ≤ (n : Int)) (K l.toNat h.toNat)
  | _, _ => False

theorem asl_ok {P : Program} {lo hi : Option Operand} {st : St} {n : Nat} {K : Nat → Nat → Prop} (h : asl (lo.map (aeval st)) (hi.map (aeval st)) n K) :
    ∃ l r, l ≤ r ∧ r ≤ n ∧ K l r ∧ ∀ (I : Nat → Prop) (μ : MM) (a : Act) (w : World), Rel I μ st a w → ∀ (b : Bool) (cap : Nat), n ≤ cap → (Instr.sliceBounds b n cap (lo.map a.eval) (hi.map a.eval) none).run P w = .ok (l, r, cap) w := by
  unfold asl at h
  split at h
  · rename_i h1 h2
    obtain rfl : lo = none := by cases lo <;> simp_all
    obtain rfl : hi = none := by cases hi <;> simp_all
    exact ⟨0, n, by omega, by omega, h, fun I μ a w R b cap hc => by simp [Instr.sliceBounds]⟩
  · rename_i k l h1 h2
    obtain ⟨⟨h0, hl⟩, hK⟩ := h
    obtain rfl : hi = none := by cases hi <;> simp_all
    cases lo with
    | none => simp at h1
    | some x =>
      simp only [Option.map_some, Option.some.injEq] at h1
      refine ⟨l.toNat, n, by omega, by omega, hK, fun I μ a w R b cap hc => ?_⟩
      have := R.eval x; rw [h1] at this
      simp [Instr.sliceBounds, this.lit_eq, run_sliceBound w k l n .sliceB h0 hl]
  · rename_i k r h1 h2
    obtain ⟨⟨h0, hl⟩, hK⟩ := h
    obtain rfl : lo = none := by cases lo <;> simp_all
    cases hi with
    | none => simp at h2
    | some x =>
      simp only [Option.map_some, Option.some.injEq] at h2
      refine ⟨0, r.toNat, by omega, by omega, hK, fun I μ a w R b cap hc => ?_⟩
      have := R.eval x; rw [h2] at this
      simp [Instr.sliceBounds, this.lit_eq, run_sliceBound w k r cap _ h0 (by omega : r ≤ cap)]
  · rename_i k l k' r h1 h2
    obtain ⟨⟨h0, hlr, hl⟩, hK⟩ := h
    cases lo with
    | none => simp at h1
    | some x =>
      cases hi with
      | none => simp at h2
      | some y =>
        simp only [Option.map_some, Option.some.injEq] at h1 h2
        refine ⟨l.toNat, r.toNat, by omega, by omega, hK, fun I μ a w R b cap hc => ?_⟩
        have e1 := R.eval x; rw [h1] at e1
        have e2 := R.eval y; rw [h2] at e2
        have hr0 : (r.toNat : Int) = r := Int.toNat_of_nonneg (by omega)
        simp [Instr.sliceBounds, e1.lit_eq, e2.lit_eq, run_sliceBound w k' r cap _ (by omega : 0 ≤ r) (by omega : r ≤ cap), run_sliceBound w k l r.toNat _ h0 (by omega : l ≤ (r.toNat : Int))]
  · exact h.elim

theorem RelV.vs_inv {I : Nat → Prop} {w : World} {μ : MM} {s : Nat} {es : List AV} {v : Value} (h : RelV I w μ (.vs s es) v) :
    ∃ (a : Option Addr) (cap : Nat) (val : Nat → Nat → Value), v = .slice a es.length cap ∧ es.length ≤ cap ∧
      (0 < es.length → ∃ b off, a = some ⟨b, off, none⟩ ∧ I b ∧ ∀ i j, i < es.length → j < s → w.cell? ⟨b, off + i * s + j, none⟩ = some (val i j)) ∧
      (∀ i (hi : i < es.length), (es[i]).cells.length = s) ∧
      (∀ i (hi : i < es.length) j (hj : j < (es[i]).cells.length), RelV I w [] ((es[i]).cells[j]) (val i j)) := by
  cases h with
  | vs _ _ _ a cap val hcap ha hn hv => exact ⟨a, cap, val, rfl, hcap, ha, hn, hv⟩

/-- A cut of immutable memory. -/
theorem RelV.vs_cut {I : Nat → Prop} {w : World} {μ : MM} {s : Nat} {es : List AV} {a : Option Addr} {cap : Nat} (h : RelV I w μ (.vs s es) (.slice a es.length cap)) {l r : Nat} (hlr : l ≤ r) (hr : r ≤ es.length) :
    RelV I w μ (.vs s ((es.drop l).take (r - l))) (sliced a l r cap s) := by
  obtain ⟨a', cap', val, e, hcap, ha, hn, hv⟩ := h.vs_inv
  cases e
  have hlen : ((es.drop l).take (r - l)).length = r - l := by simp; omega
  unfold sliced
  suffices key : RelV I w μ (.vs s ((es.drop l).take (r - l))) (.slice (if cap = l then a else a.map (·.add (l * s))) ((es.drop l).take (r - l)).length (cap - l)) by
    rwa [hlen] at key
  refine .vs μ s _ _ (cap - l) (fun i j => val (l + i) j) (by rw [hlen]; omega) (fun h0 => ?_) (fun i hi => ?_) (fun i hi j hj => ?_)
  · rw [hlen] at h0
    obtain ⟨b, off, rfl, hb, hc⟩ := ha (by omega)
    refine ⟨b, off + l * s, ?_, hb, fun i j hi hj => ?_⟩
    · rw [if_neg (by omega)]
      simp only [Option.map_some, Addr.add]
      split
      · rename_i h0; rw [h0]; rfl
      · rfl
    · rw [hlen] at hi
      rw [← hc (l + i) j (by omega) hj, Nat.add_mul, Nat.add_assoc off]
  · have hi' : l + i < es.length := by rw [hlen] at hi; omega
    have := hn (l + i) hi'
    simpa using this
  · have hi' : l + i < es.length := by rw [hlen] at hi; omega
    have e : ((es.drop l).take (r - l))[i] = es[l + i] := by simp
    have hj' : j < (es[l + i]).cells.length := by rw [← e]; exact hj
    have := hv (l + i) hi' j hj'
    simpa [e] using this

/-- An element of immutable memory, by its address. -/
theorem RelV.vs_at {I : Nat → Prop} {w : World} {μ : MM} {s : Nat} {es : List AV} {a : Option Addr} {cap : Nat} (h : RelV I w μ (.vs s es) (.slice a es.length cap)) {i : Nat} {e : AV} (he : es[i]? = some e) :
    ∃ b off, a = some ⟨b, off, none⟩ ∧ i < es.length ∧ RelV I w μ (.iptr e) (.pointer (some ((⟨b, off, none⟩ : Addr).add (i * s)))) := by
  obtain ⟨a', cap', val, e', hcap, ha, hn, hv⟩ := h.vs_inv
  cases e'
  have hi : i < es.length := by
    rcases Nat.lt_or_ge i es.length with h1 | h1
    · exact h1
    · rw [List.getElem?_eq_none h1] at he; cases he
  rw [List.getElem?_eq_getElem hi] at he
  obtain rfl := Option.some.inj he
  obtain ⟨b, off, rfl, hb, hc⟩ := ha (by omega)
  refine ⟨b, off, rfl, hi, ?_⟩
  have : (⟨b, off, none⟩ : Addr).add (i * s) = ⟨b, off + i * s, none⟩ := by
    unfold Addr.add
    split
    · rename_i h0; rw [h0]; rfl
    · rfl
  rw [this]
  exact .iptr μ _ b _ (val i) hb (fun j hj => hc i j hi (by rw [hn i hi] at hj; exact hj)) (fun j hj => hv i hi j hj)

theorem RelV.iptr_inv {I : Nat → Prop} {w : World} {μ : MM} {c : AV} {v : Value} (h : RelV I w μ (.iptr c) v) :
    ∃ (b off : Nat) (val : Nat → Value), v = .pointer (some ⟨b, off, none⟩) ∧ I b ∧ (∀ j, j < c.cells.length → w.cell? ⟨b, off + j, none⟩ = some (val j)) ∧
      ∀ j (hj : j < c.cells.length), RelV I w [] (c.cells[j]) (val j) := by
  cases h with
  | iptr _ _ b off val hI hc hv => exact ⟨b, off, val, rfl, hI, hc, hv⟩

def AV.isAgg : AV → Bool
  | .agg _ => true
  | _ => false

/-- A type whose values stand for such a value as c, as a whole. -/
def loadable (P : Program) (t : TypeId) (c : AV) : Prop :=
  match aggQ P t with
  | some true => c.isAgg = true ∧ sizeQ P t = some c.cells.length
  | some false => c.isAgg = false
  | none => False

theorem loadCells_ok {P : Program} {w : World} {b off : Nat} {val : Nat → Value} (n : Nat) (hc : ∀ j, j < n → w.cell? ⟨b, off + j, none⟩ = some (val j)) :
    (loadCells ⟨b, off, none⟩ n).run P w = .ok ((List.range n).map val).toArray w := by
  have key : ∀ m i (acc : Array Value), i + m = n → (loadCellsFrom ⟨b, off, none⟩ i m acc).run P w = .ok (acc ++ ((List.range m).map fun k => val (i + k)).toArray) w := by
    intro m
    induction m with
    | zero => intro i acc _; simp [loadCellsFrom]
    | succ m ih =>
      intro i acc hi
      have hcell : w.cell? ((⟨b, off, none⟩ : Addr).add i) = some (val i) := by
        rw [← hc i (by omega)]
        unfold Addr.add
        split
        · rename_i h0; subst h0; rfl
        · rfl
      simp only [loadCellsFrom, Sem.run_bind, run_load, hcell, Result.andThen_ok]
      rw [ih (i + 1) _ (by omega)]
      congr 1
      apply Array.ext'
      simp [List.range_succ_eq_map, Function.comp_def, Nat.add_assoc, Nat.add_comm 1]
  have := key n 0 #[] (by omega)
  simpa [loadCells] using this

end Go.Q
