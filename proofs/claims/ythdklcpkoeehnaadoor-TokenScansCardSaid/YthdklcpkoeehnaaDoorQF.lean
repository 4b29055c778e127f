/- Stores, and what values are stored. -/
import Derived.Test.YthdklcpkoeehnaaDoorQE
namespace Go.Q
open Go

theorem addr_add (b off n : Nat) : (⟨b, off, none⟩ : Addr).add n = ⟨b, off + n, none⟩ := by
  unfold Addr.add
  split
  · rename_i h; subst h; rfl
  · rfl

theorem store1_ok {P : Program} {w : World} {l : Loc} (hb : BlockOK w l) {off : Nat} (ho : off < l.size) {v : Value} (hv : v.oneCell' = true) :
    ∃ w', (store ⟨l.block, off, none⟩ v).run P w = .ok () w' ∧ (w'.heap.size = w.heap.size ∧ w'.os = w.os ∧ w'.output = w.output) ∧ (∀ b, b ≠ l.block → w'.heap[b]? = w.heap[b]?) ∧ BlockOK w' l ∧
      ∀ k, w'.cell? ⟨l.block, k, none⟩ = if k = off then some v else w.cell? ⟨l.block, k, none⟩ := by
  obtain ⟨cells, T, lo, hi, e, hs, hf⟩ := hb
  have hlt : l.block < w.heap.size := by
    rcases Nat.lt_or_ge l.block w.heap.size with h1 | h1
    · exact h1
    · rw [Array.getElem?_eq_none h1] at e; cases e
  have hcell : w.cell? ⟨l.block, off, none⟩ = some (cells[off]'(by omega)) := by
    simp [World.cell?, e, Array.getElem?_eq_getElem (show off < cells.size by omega)]
  have hfr : w.frozen? ⟨l.block, off, none⟩ = false := by
    simp only [World.frozen?, e]
    have := hf off ho
    simp only [Bool.and_eq_false_iff, decide_eq_false_iff_not]
    omega
  have hnew : (w.setCell ⟨l.block, off, none⟩ v).heap[l.block]? = some (.cells (cells.setIfInBounds off v) T (lo, hi)) := by
    simp only [World.setCell]
    rw [Array.getElem?_modify, if_pos rfl, e]
    rfl
  refine ⟨w.setCell ⟨l.block, off, none⟩ v, ?_, ⟨by simp, rfl, rfl⟩, fun b hne => ?_, ⟨_, T, lo, hi, hnew, by simpa using hs, hf⟩, fun k => ?_⟩
  · rw [run_store _ _ _ _ _ hv, hcell]
    simp [hfr]
  · simp only [World.setCell]
    rw [Array.getElem?_modify, if_neg (fun h => hne h.symm)]
  · simp only [World.cell?, hnew, e]
    simp only [Option.isSome_none, Bool.false_eq_true, if_false]
    by_cases hk : k = off
    · subst hk
      rw [if_pos rfl, Array.getElem?_setIfInBounds_self_of_lt (by omega)]
    · rw [if_neg hk, Array.getElem?_setIfInBounds_ne (fun h => hk h.symm)]

theorem storeCells_ok {P : Program} {l : Loc} : ∀ (vs : List Value) (base i : Nat) (w : World), BlockOK w l → base + i + vs.length ≤ l.size → (∀ v ∈ vs, v.oneCell' = true) →
    ∃ w', (storeCells ⟨l.block, base, none⟩ vs i).run P w = .ok () w' ∧ (w'.heap.size = w.heap.size ∧ w'.os = w.os ∧ w'.output = w.output) ∧ (∀ b, b ≠ l.block → w'.heap[b]? = w.heap[b]?) ∧ BlockOK w' l ∧
      ∀ k, w'.cell? ⟨l.block, k, none⟩ = if base + i ≤ k ∧ k < base + i + vs.length then vs[k - (base + i)]? else w.cell? ⟨l.block, k, none⟩ := by
  intro vs
  induction vs with
  | nil =>
    intro base i w hb _ _
    refine ⟨w, by simp [storeCells], ⟨rfl, rfl, rfl⟩, fun _ _ => rfl, hb, fun k => ?_⟩
    rw [if_neg (by simp only [List.length_nil]; omega)]
  | cons v vs ih =>
    intro base i w hb hsz hv
    simp only [List.length_cons] at hsz
    obtain ⟨w1, hr1, hs1, ho1, hb1, hc1⟩ := store1_ok (P := P) hb (off := base + i) (by omega) (hv v (by simp))
    obtain ⟨w2, hr2, hs2, ho2, hb2, hc2⟩ := ih base (i + 1) w1 hb1 (by omega) (fun x hx => hv x (by simp [hx]))
    refine ⟨w2, ?_, ⟨hs2.1.trans hs1.1, hs2.2.1.trans hs1.2.1, hs2.2.2.trans hs1.2.2⟩, fun b hne => by rw [ho2 b hne, ho1 b hne], hb2, fun k => ?_⟩
    · simp only [storeCells, Sem.run_bind, addr_add, hr1, Result.andThen_ok, hr2]
    · rw [hc2 k, hc1 k]
      simp only [List.length_cons]
      by_cases h1 : k = base + i
      · subst h1
        rw [if_neg (by omega), if_pos rfl, if_pos (by omega)]
        simp
      · by_cases h2 : base + (i + 1) ≤ k ∧ k < base + (i + 1) + vs.length
        · rw [if_pos h2, if_pos (by omega)]
          rw [show k - (base + i) = (k - (base + (i + 1))) + 1 by omega]
          simp
        · rw [if_neg h2, if_neg h1, if_neg (by omega)]

/-- A value that takes one cell, and is no object that has gone. -/
def oneQ (h : List AObj) : AV → Bool
  | .lit v => v.oneCell'
  | .nils | .vs _ _ | .iptr _ | .fn _ _ _ => true
  | .ref o _ _ => match h[o]? with | some (.arr _ _) => true | _ => false
  | .ptr o _ => match h[o]? with | some (.box _) => true | _ => false
  | .eptr o _ _ => match h[o]? with | some (.arr _ _) => true | _ => false
  | _ => false

def cellsQ (h : List AObj) : AV → Bool
  | .agg cs => cs.all (oneQ h)
  | v => oneQ h v

theorem RelO.not_gone {I : Nat → Prop} {w : World} {μ : MM} {ob : AObj} (h : RelO I w μ ob .gone) : ob = .dead := by
  generalize e : Slot.gone = x at h
  cases h with
  | dead => rfl
  | arr0 => cases e
  | arr => cases e
  | box => cases e

theorem Rel.slot {I : Nat → Prop} {μ : MM} {h : List AObj} {w : World} (H : RelH I μ h w) {o : Nat} {ob : AObj} (ho : h[o]? = some ob) : ∃ x, μ[o]? = some x ∧ RelO I w μ ob x := by
  have hlt : o < h.length := by
    rcases Nat.lt_or_ge o h.length with h1 | h1
    · exact h1
    · rw [List.getElem?_eq_none h1] at ho; cases ho
  have := List.getElem?_eq_getElem (l := μ) (i := o) (by rw [H.len]; exact hlt)
  exact ⟨_, this, H.objs o ob _ ho this⟩

theorem oneQ_ok {I : Nat → Prop} {μ : MM} {h : List AObj} {w : World} (H : RelH I μ h w) {c : AV} (hc : oneQ h c = true) {v : Value} (hv : RelV I w μ c v) : v.oneCell' = true := by
  cases hv with
  | undef => cases hc
  | lit => exact hc
  | nils => rfl
  | agg => cases hc
  | tup => cases hc
  | vs => rfl
  | ref => rfl
  | ref0 => rfl
  | refE => rfl
  | refX _ o off len v hl =>
    simp only [oneQ] at hc
    split at hc
    · rename_i heq
      obtain ⟨x, hx, ho⟩ := Rel.slot H heq
      rw [hl] at hx; cases hx
      have := ho.not_gone; cases this
    · cases hc
  | ptrX _ o j v hl =>
    simp only [oneQ] at hc
    split at hc
    · rename_i heq
      obtain ⟨x, hx, ho⟩ := Rel.slot H heq
      rw [hl] at hx; cases hx
      have := ho.not_gone; cases this
    · cases hc
  | eptrX _ o i j v hl =>
    simp only [oneQ] at hc
    split at hc
    · rename_i heq
      obtain ⟨x, hx, ho⟩ := Rel.slot H heq
      rw [hl] at hx; cases hx
      have := ho.not_gone; cases this
    · cases hc
  | ptr => rfl
  | eptr => rfl
  | iptr => rfl
  | fn => rfl

theorem cells_of_one {v : Value} (h : v.oneCell' = true) : v.cells = #[v] := by
  cases v <;> first | rfl | cases h

theorem cellsQ_ok {I : Nat → Prop} {μ : MM} {h : List AObj} {w : World} (H : RelH I μ h w) {c : AV} (hc : cellsQ h c = true) {v : Value} (hv : RelV I w μ c v) :
    v.cells.size = c.cells.length ∧ (∀ x ∈ v.cells.toList, x.oneCell' = true) ∧ ∀ j (hj : j < c.cells.length), RelV I w μ (c.cells[j]) (v.cells.getD j Go.undef) := by
  have one : oneQ h c = true → c.cells = [c] → v.cells.size = c.cells.length ∧ (∀ x ∈ v.cells.toList, x.oneCell' = true) ∧ ∀ j (hj : j < c.cells.length), RelV I w μ (c.cells[j]) (v.cells.getD j Go.undef) := by
    intro h1 h2
    have h3 := oneQ_ok H h1 hv
    have h4 := cells_of_one h3
    refine ⟨by simp [h2, h4], by simp [h4, h3], fun j hj => ?_⟩
    have : j = 0 := by simp [h2] at hj; exact hj
    subst this
    simpa [h2, h4] using hv
  cases c with
  | agg cs =>
    obtain ⟨xs, rfl, hn, hx⟩ := hv.agg_inv
    simp only [cellsQ, List.all_eq_true] at hc
    refine ⟨hn, fun x hx' => ?_, hx⟩
    obtain ⟨i, hi, rfl⟩ := List.getElem_of_mem hx'
    have hi' : i < xs.size := by simpa [Value.cells] using hi
    have h1 := hx i (by omega)
    rw [getD_of hi'] at h1
    have := oneQ_ok H (hc _ (List.getElem_mem (show i < cs.length by omega))) h1
    simpa [Value.cells] using this
  | _ => exact one hc rfl

/-- A value that names no object. -/
def pureQ : AV → Bool
  | .agg cs => cs.all pureQ1
  | v => pureQ1 v
where
  pureQ0 : AV → Bool
    | .lit _ | .nils | .vs _ _ | .iptr _ => true
    | _ => false
  pureQ1 : AV → Bool
    | .lit _ | .nils | .vs _ _ | .iptr _ => true
    | .fn _ a b => a.isEmpty && b.all pureQ0
    | _ => false

theorem pureQ0_ok {I : Nat → Prop} {w : World} {μ : MM} {c : AV} {v : Value} (hc : pureQ.pureQ0 c = true) (h : RelV I w μ c v) (ν : MM) : RelV I w ν c v := by
  cases h with
  | lit => exact .lit _ _
  | nils => exact .nils _
  | vs _ s es a cap val hcap ha hn hv => exact .vs _ s es a cap val hcap ha hn hv
  | iptr _ c b off val hb hcc hv => exact .iptr _ c b off val hb hcc hv
  | _ => cases hc

theorem pureQ1_ok {I : Nat → Prop} {w : World} {μ : MM} {c : AV} {v : Value} (hc : pureQ.pureQ1 c = true) (h : RelV I w μ c v) (ν : MM) : RelV I w ν c v := by
  cases h with
  | lit => exact .lit _ _
  | nils => exact .nils _
  | vs _ s es a cap val hcap ha hn hv => exact .vs _ s es a cap val hcap ha hn hv
  | iptr _ c b off val hb hcc hv => exact .iptr _ c b off val hb hcc hv
  | fn _ f first captured fs cs hf hc' h1 h2 =>
    simp only [pureQ.pureQ1, Bool.and_eq_true, List.isEmpty_iff, List.all_eq_true] at hc
    obtain ⟨rfl, hc⟩ := hc
    exact .fn _ f _ _ fs cs hf hc' (fun i hi => by simp at hi) (fun i hi => pureQ0_ok (hc _ (List.getElem_mem hi)) (h2 i hi) ν)
  | _ => cases hc

theorem pureQ_ok {I : Nat → Prop} {w : World} {μ : MM} {c : AV} {v : Value} (hc : pureQ c = true) (h : RelV I w μ c v) (ν : MM) : RelV I w ν c v := by
  cases c with
  | agg cs =>
    obtain ⟨xs, rfl, hn, hx⟩ := h.agg_inv
    simp only [pureQ, List.all_eq_true] at hc
    exact .agg _ cs xs hn (fun i hi => pureQ1_ok (hc _ (List.getElem_mem hi)) (hx i hi) ν)
  | _ => exact pureQ1_ok (by simpa only [pureQ] using hc) h ν

theorem alloc_heap (w : World) (o : Obj) : (w.alloc o).heap = w.heap.push o := rfl

/-- A new variable in memory. -/
theorem SOp.newBox {P : Program} {n : Nat} {o : Oper} {N : St → Prop} {st : St} {cs : List AV}
    (h : ∀ I μ a w, Rel I μ st a w → ∃ (cells : Array Value) (T : TypeId), (execOp a.eval o).run P w = .ok (.value (.pointer (some ⟨w.heap.size, 0, none⟩))) (w.alloc (.cells cells T)) ∧
      cells.size = cs.length ∧ ∀ j (hj : j < cs.length), RelV I w μ cs[j] (cells.getD j Go.undef))
    (hN : N (({ st with h := st.h ++ [.box cs] } : St).put o.dst (.ptr st.h.length 0))) : SOp P n o N st := by
  intro I μ a w R hn next Q hk
  obtain ⟨cells, T, hr, hsz, hv⟩ := h I μ a w R
  unfold Oper.wp
  rw [hr]
  have hnew : ∀ j, (w.alloc (.cells cells T)).cell? ⟨w.heap.size, j, none⟩ = cells[j]? := fun j => by simp [World.cell?, alloc_heap]
  have hkeep : ∀ b, I b → (w.alloc (.cells cells T)).heap[b]? = w.heap[b]? := fun b hb => by
    have hb := R.heap.imm b hb
    simp only [World.alloc]; rw [Array.getElem?_push_lt hb, Array.getElem?_eq_getElem hb]
  have R' := R.alloc (o := .cells cells T) (ob := .box cs) (l := ⟨w.heap.size, 0, 0, cells.size⟩) rfl (.box cs _ (fun j => cells.getD j Go.undef)
    ⟨cells, T, 0, 0, by simp [alloc_heap], rfl, by omega⟩ (by simp [hsz])
    (fun j hj => by simp only [Nat.zero_add]; rw [hnew, getD_of (by omega), Array.getElem?_eq_getElem (by omega)])
    (fun j hj => ((hv j hj).sub (MM.sub_append _ _)).mono (fun _ h => h) hkeep))
  refine hk _ _ _ _ _ hN (R'.put (.ptr _ _ 0 ⟨w.heap.size, 0, 0, cells.size⟩ ?_) o.dst) (Step.alloc rfl) (Pre.append _ hn)
  rw [MM.loc_some, ← R.heap.len, get_append_self]

/-- A new array. -/
theorem SOp.newArr {P : Program} {n : Nat} {o : Oper} {N : St → Prop} {st : St} {s : Nat} {es : List AV}
    (h : ∀ I μ a w, Rel I μ st a w → ∃ (w' : World) (T : TypeId) (cells : Array Value) (lo hi : Nat) (cap : Nat) (val : Nat → Nat → Value),
      (execOp a.eval o).run P w = .ok (.value (.slice (some ⟨w.heap.size, 0, none⟩) es.length cap)) w' ∧ (w'.heap = w.heap.push (.cells cells T (lo, hi)) ∧ w'.os = w.os ∧ w'.output = w.output) ∧
      (∀ k, k < cells.size → ¬ (lo ≤ k ∧ k < hi)) ∧ es.length ≤ cap ∧ cap * s ≤ cells.size ∧ (∀ i (hi : i < es.length), (es[i]).cells.length = s) ∧
      (∀ i j, i < es.length → j < s → cells[i * s + j]? = some (val i j)) ∧ ∀ i (hi : i < es.length) j (hj : j < (es[i]).cells.length), RelV I w [] ((es[i]).cells[j]) (val i j))
    (hN : N (({ st with h := st.h ++ [.arr s es] } : St).put o.dst (.ref st.h.length 0 es.length))) : SOp P n o N st := by
  intro I μ a w R hn next Q hk
  obtain ⟨w', T, cells, lo, hi, cap, val, hr, ⟨hw', hx1⟩, hf, hcap, hsz, hes, hc, hv⟩ := h I μ a w R
  unfold Oper.wp
  rw [hr]
  have hnew : ∀ j, w'.cell? ⟨w.heap.size, j, none⟩ = cells[j]? := fun j => by simp [World.cell?, hw']
  have hold : ∀ b, b < w.heap.size → w'.heap[b]? = w.heap[b]? := fun b hb => by rw [hw', Array.getElem?_push_lt hb, Array.getElem?_eq_getElem hb]
  have hle : es.length * s ≤ cells.size := Nat.le_trans (Nat.mul_le_mul_right s hcap) hsz
  let l : Loc := ⟨w.heap.size, 0, s, cells.size⟩
  have hob : ∀ w'' : World, w''.heap = w'.heap → RelO I w'' (μ ++ [.at l]) (.arr s es) (.at l) := fun w'' e =>
    .arr s es l val rfl ⟨cells, T, lo, hi, by rw [e, hw']; simp [l], rfl, hf⟩ (by simpa [l] using hle) hes
      (fun i j hi hj => by
        rw [← hc i j hi hj]
        simp only [l, Nat.zero_add]
        rw [← hnew]
        unfold World.cell?; simp only [e])
      (fun i hi j hj => (hv i hi j hj).mono (fun _ h => h) (fun b hb => by rw [e]; exact hold b (R.heap.imm b hb)))
  have R' := R.alloc (o := .cells cells T (lo, hi)) (ob := .arr s es) (l := l) rfl (hob _ (by rw [alloc_heap, hw']))
  have e : (w.alloc (.cells cells T (lo, hi))).heap = w'.heap := by rw [alloc_heap, hw']
  have R2 : Rel I (μ ++ [.at l]) { st with h := st.h ++ [.arr s es] } a w' := by
    refine ⟨fun d => (R'.tmps d).mono (fun _ h => h) (fun b _ => by rw [e]), R'.size, R'.defers, ⟨R'.heap.len, fun k ob x h1 h2 => ?_, R'.heap.notI, R'.heap.apart, fun b hb => by rw [← e]; exact R'.heap.imm b hb⟩⟩
    exact (R'.heap.objs k ob x h1 h2).mono (fun _ h => h) (fun b _ => by rw [e]) (fun _ _ h => h) (fun _ _ => by rw [e])
  have hv : RelV I w' (μ ++ [.at l]) (.ref st.h.length 0 es.length) (.slice (some ⟨w.heap.size, 0, none⟩) es.length cap) := by
    have := RelV.ref (I := I) (w := w') (μ ++ [.at l]) st.h.length 0 es.length cap l (by rw [MM.loc_some, ← R.heap.len, get_append_self]) hcap (by simp only [l]; simpa using hsz)
    simpa [l] using this
  refine hk _ _ _ _ _ hN (R2.put hv o.dst) ?_ (Pre.append _ hn)
  · have S := Step.alloc (I := I) (μ := μ) (w := w) (o := .cells cells T (lo, hi)) (l := l) rfl
    exact ⟨S.mono, by rw [← e]; exact S.grow, fun b h1 h2 => by rw [← e]; exact S.same b h1 h2, S.own, S.imm, hx1⟩

end Go.Q
