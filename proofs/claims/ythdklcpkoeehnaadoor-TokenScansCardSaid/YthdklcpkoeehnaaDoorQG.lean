/- Loads and stores at objects. -/
import Derived.Test.YthdklcpkoeehnaaDoorQF
namespace Go.Q
open Go

theorem RelO.box_inv {I : Nat → Prop} {w : World} {μ : MM} {cs : List AV} {x : Slot} (h : RelO I w μ (.box cs) x) :
    ∃ (l : Loc) (val : Nat → Value), x = .at l ∧ BlockOK w l ∧ l.base + cs.length ≤ l.size ∧ (∀ j, j < cs.length → w.cell? ⟨l.block, l.base + j, none⟩ = some (val j)) ∧
      ∀ j (hj : j < cs.length), RelV I w μ cs[j] (val j) := by
  cases h with
  | box _ l val hb hsz hc hv => exact ⟨l, val, rfl, hb, hsz, hc, hv⟩

theorem RelO.arr_inv {I : Nat → Prop} {w : World} {μ : MM} {s : Nat} {es : List AV} {x : Slot} (h : RelO I w μ (.arr s es) x) :
    (x = .nil ∧ es = []) ∨ ∃ (l : Loc) (val : Nat → Nat → Value), x = .at l ∧ l.esz = s ∧ BlockOK w l ∧ l.base + es.length * s ≤ l.size ∧ (∀ i (hi : i < es.length), (es[i]).cells.length = s) ∧
      (∀ i j, i < es.length → j < s → w.cell? ⟨l.block, l.base + i * s + j, none⟩ = some (val i j)) ∧
      ∀ i (hi : i < es.length) j (hj : j < (es[i]).cells.length), RelV I w [] ((es[i]).cells[j]) (val i j) := by
  cases h with
  | arr0 => exact .inl ⟨rfl, rfl⟩
  | arr _ _ l val hs hb hsz hn hc hv => exact .inr ⟨l, val, rfl, hs, hb, hsz, hn, hc, hv⟩

/-- A pointer to a variable of the walk. -/
theorem Rel.ptr {I : Nat → Prop} {μ : MM} {h : List AObj} {w : World} (H : RelH I μ h w) {o j : Nat} {cs : List AV} (ho : h[o]? = some (.box cs)) {v : Value} (hv : RelV I w μ (.ptr o j) v) :
    ∃ (l : Loc) (val : Nat → Value), μ.loc o = some l ∧ v = .pointer (some ⟨l.block, l.base + j, none⟩) ∧ BlockOK w l ∧ l.base + cs.length ≤ l.size ∧
      (∀ j, j < cs.length → w.cell? ⟨l.block, l.base + j, none⟩ = some (val j)) ∧ ∀ j (hj : j < cs.length), RelV I w μ cs[j] (val j) := by
  obtain ⟨x, hx, hO⟩ := Rel.slot H ho
  obtain ⟨l, val, rfl, hb, hsz, hc, hr⟩ := hO.box_inv
  cases hv with
  | ptr _ _ _ l' hl =>
    have := MM.loc_some.1 hl
    rw [hx] at this
    cases this
    exact ⟨l, val, hl, rfl, hb, hsz, hc, hr⟩
  | ptrX _ _ _ _ hl => rw [hx] at hl; cases hl

/-- Cells of a list of values, taken as a variable's value. -/
def acutAny (P : Program) (t : TypeId) (cs : List AV) (off : Nat) : Option AV := acut P t cs off

theorem loadVar_ok {P : Program} {I : Nat → Prop} {w : World} {μ : MM} {t : TypeId} {cs : List AV} {b base off : Nat} {val : Nat → Value} {av : AV} (h : acut P t cs off = some av)
    (hc : ∀ j, j < cs.length → w.cell? ⟨b, base + j, none⟩ = some (val j)) (hv : ∀ j (hj : j < cs.length), RelV I w μ cs[j] (val j)) :
    ∃ r, (loadVar t ⟨b, base + off, none⟩).run P w = .ok r w ∧ RelV I w μ av r := by
  unfold acut at h
  split at h
  · rename_i n ha hs
    split at h
    · rename_i hle
      obtain rfl := Option.some.inj h
      have hl := loadCells_ok (P := P) (w := w) (b := b) (off := base + off) (val := fun j => val (off + j)) n (fun j hj => by rw [Nat.add_assoc]; exact hc (off + j) (by omega))
      refine ⟨.agg ((List.range n).map fun j => val (off + j)).toArray, ?_, ?_⟩
      · simp only [loadVar, Sem.run_bind, run_isAggQ ha, Result.andThen_ok, if_true, run_sizeQ hs, hl, Sem.run_pure]
      · refine .agg _ _ _ (by simp; omega) (fun i hi => ?_)
        simp only [List.length_take, List.length_drop] at hi
        have := hv (off + i) (by omega)
        rw [getD_of (by simp; omega)]
        simpa using this
    · cases h
  · rename_i ha
    have hlt : off < cs.length := by
      rcases Nat.lt_or_ge off cs.length with h1 | h1
      · exact h1
      · rw [List.getElem?_eq_none h1] at h; cases h
    rw [List.getElem?_eq_getElem hlt] at h
    obtain rfl := Option.some.inj h
    refine ⟨val off, ?_, hv off hlt⟩
    simp only [loadVar, Sem.run_bind, run_isAggQ ha, Result.andThen_ok, Bool.false_eq_true, if_false, run_load, hc off hlt]
  · cases h

/-- Cells put in the place of others. -/
def splice (cs : List AV) (off : Nat) (new : List AV) : List AV := cs.take off ++ new ++ cs.drop (off + new.length)

theorem splice_length {cs new : List AV} {off : Nat} (h : off + new.length ≤ cs.length) : (splice cs off new).length = cs.length := by
  simp [splice]; omega

theorem splice_get {cs new : List AV} {off : Nat} (h : off + new.length ≤ cs.length) (j : Nat) (hj : j < (splice cs off new).length) :
    (∃ hk : j - off < new.length, off ≤ j ∧ (splice cs off new)[j] = new[j - off]) ∨ ((j < off ∨ off + new.length ≤ j) ∧ ∃ hk : j < cs.length, (splice cs off new)[j] = cs[j]) := by
  have hl := splice_length h
  have hjl : j < cs.length := by rw [← hl]; exact hj
  have hlen : (cs.take off).length = off := by simp; omega
  have hlen2 : (cs.take off ++ new).length = off + new.length := by simp; omega
  unfold splice at hj ⊢
  rcases Nat.lt_or_ge j off with h1 | h1
  · refine .inr ⟨.inl h1, hjl, ?_⟩
    rw [List.getElem_append_left (by rw [hlen2]; omega), List.getElem_append_left (by rw [hlen]; exact h1), List.getElem_take]
  · rcases Nat.lt_or_ge j (off + new.length) with h2 | h2
    · refine .inl ⟨by omega, h1, ?_⟩
      rw [List.getElem_append_left (by rw [hlen2]; exact h2), List.getElem_append_right (by rw [hlen]; exact h1)]
      simp only [hlen]
    · refine .inr ⟨.inr h2, hjl, ?_⟩
      rw [List.getElem_append_right (by rw [hlen2]; exact h2), List.getElem_drop]
      simp only [hlen2, Nat.add_sub_cancel' h2]

/-- A store into a variable of the walk. -/
theorem SOp.storeBox {P : Program} {n : Nat} {o : Oper} {N : St → Prop} {st : St} {t : TypeId} {x y : Operand} (ho : o.op = .store t x y) {k j : Nat} {cs : List AV}
    (hx : aeval st x = .ptr k j) (hk : st.h[k]? = some (.box cs)) (hy : cellsQ st.h (aeval st y) = true) (hs : sizeQ P t = some (aeval st y).cells.length) (hj : j + (aeval st y).cells.length ≤ cs.length)
    (hN : N (({ st with h := st.h.set k (.box (splice cs j (aeval st y).cells)) } : St).put o.dst .undef)) : SOp P n o N st := by
  intro I μ a w R hn next Q hnext
  have hxv := R.eval x
  have hyv := R.eval y
  rw [hx] at hxv
  obtain ⟨l, val, hl, hxe, hb, hsz, hc, hv⟩ := Rel.ptr R.heap hk hxv
  obtain ⟨hy1, hy2, hy3⟩ := cellsQ_ok R.heap hy hyv
  obtain ⟨w', hr, ⟨hs1, hx1⟩, ho1, hb1, hc1⟩ := storeCells_ok (P := P) (l := l) (a.eval y).cells.toList (l.base + j) 0 w hb (by simp [hy1]; omega) hy2
  have hrun : (execOp a.eval o).run P w = .ok .skip w' := by
    simp only [execOp, ho, Instr.storeAt, hxe, Instr.sureAddr, storeVar, Sem.run_bind, Sem.run_pure, Result.andThen_ok, run_sizeQ hs, hy1, ne_eq, not_true_eq_false, if_false, Sem.run_ite, hr]
  have hI : ∀ b, I b → w'.heap[b]? = w.heap[b]? := fun b hb => ho1 b (fun e => R.heap.notI b ⟨k, l, hl, e.symm⟩ hb)
  have hrelo : RelO I w' μ (.box (splice cs j (aeval st y).cells)) (.at l) := by
    refine .box _ l (fun i => if j ≤ i ∧ i < j + (aeval st y).cells.length then (a.eval y).cells.getD (i - j) Go.undef else val i) hb1 (by rw [splice_length hj]; exact hsz) (fun i hi => ?_) (fun i hi => ?_)
    · rw [splice_length hj] at hi
      rw [hc1]
      simp only [Nat.add_zero, Array.length_toList, hy1]
      by_cases h1 : j ≤ i ∧ i < j + (aeval st y).cells.length
      · rw [if_pos (by omega), if_pos h1, getD_of (by omega), show l.base + i - (l.base + j) = i - j by omega]
        simp <;> omega
      · rw [if_neg (by omega), if_neg h1]
        exact hc i hi
    · rcases splice_get hj i hi with ⟨hk', h1, e⟩ | ⟨h1, hk', e⟩
      · rw [e, if_pos (by omega)]
        exact (hy3 (i - j) hk').mono (fun _ h => h) hI
      · rw [e, if_neg (by omega)]
        exact (hv i hk').mono (fun _ h => h) hI
  unfold Oper.wp
  rw [hrun]
  exact hnext _ _ _ _ _ hN ((R.update hl hs1 ho1 hrelo).put (.undef _ _) o.dst) (Step.update hl hs1 ho1 hx1) (Pre.refl _ _ hn)

/-- A load from a variable of the walk. -/
theorem SOp.loadBox {P : Program} {n : Nat} {o : Oper} {N : St → Prop} {st : St} {t : TypeId} {x : Operand} (ho : o.op = .load t x) {k j : Nat} {cs : List AV}
    (hx : aeval st x = .ptr k j) (hk : st.h[k]? = some (.box cs)) {av : AV} (hav : acut P t cs j = some av) (hN : N (st.put o.dst av)) : SOp P n o N st := by
  refine SOp.pure (fun I μ a w R => ?_) hN
  have hxv := R.eval x
  rw [hx] at hxv
  obtain ⟨l, val, hl, hxe, hb, hsz, hc, hv⟩ := Rel.ptr R.heap hk hxv
  obtain ⟨r, hr, hrel⟩ := loadVar_ok (off := j) hav hc hv
  exact ⟨r, by simp only [execOp, ho, Instr.loadAt, hxe, Instr.sureAddr, Sem.run_bind, Sem.run_pure, Result.andThen_ok, hr], hrel⟩

/-- A load from immutable memory. -/
theorem SOp.loadI {P : Program} {n : Nat} {o : Oper} {N : St → Prop} {st : St} {t : TypeId} {x : Operand} (ho : o.op = .load t x) {c : AV}
    (hx : aeval st x = .iptr c) (hl : loadable P t c) (hN : N (st.put o.dst c)) : SOp P n o N st := by
  refine SOp.pure (fun I μ a w R => ?_) hN
  have hxv := R.eval x
  rw [hx] at hxv
  obtain ⟨b, off, val, hxe, hI, hc, hv⟩ := hxv.iptr_inv
  have key : ∃ r, (loadVar t ⟨b, off, none⟩).run P w = .ok r w ∧ RelV I w μ c r := by
    unfold loadable at hl
    split at hl
    · rename_i ha
      obtain ⟨h1, h2⟩ := hl
      cases c with
      | agg cs =>
        have := loadVar_ok (P := P) (I := I) (w := w) (μ := μ) (t := t) (cs := cs) (b := b) (base := off) (off := 0) (val := val) (av := .agg cs)
          (by unfold acut; rw [ha, h2]; simp [AV.cells]) hc (fun j hj => (hv j hj).any)
        simpa using this
      | _ => cases h1
    · rename_i ha
      have hcells : c.cells = [c] := by cases c <;> first | rfl | cases hl
      have := loadVar_ok (P := P) (I := I) (w := w) (μ := μ) (t := t) (cs := [c]) (b := b) (base := off) (off := 0) (val := val) (av := c)
        (by unfold acut; rw [ha]; simp) (fun j hj => hc j (by rw [hcells]; exact hj)) (fun j hj => by
          have := hv j (by rw [hcells]; exact hj)
          simp only [hcells] at this
          exact this.any)
      simpa using this
    · exact hl.elim
  obtain ⟨r, hr, hrel⟩ := key
  exact ⟨r, by simp only [execOp, ho, Instr.loadAt, hxe, Instr.sureAddr, Sem.run_bind, Sem.run_pure, Result.andThen_ok, hr], hrel⟩

/-- A slice of an array of the walk. -/
theorem Rel.ref {I : Nat → Prop} {μ : MM} {h : List AObj} {w : World} (H : RelH I μ h w) {o off len s : Nat} {es : List AV} (ho : h[o]? = some (.arr s es)) {v : Value} (hv : RelV I w μ (.ref o off len) v) :
    (v = .slice none 0 0 ∧ off = 0 ∧ len = 0 ∧ es = [] ∧ μ[o]? = some .nil) ∨ (∃ (a : Option Addr) (l : Loc), v = .slice a 0 0 ∧ len = 0 ∧ μ.loc o = some l) ∨
    ∃ (l : Loc) (cap : Nat) (val : Nat → Nat → Value), μ.loc o = some l ∧ v = .slice (some ⟨l.block, l.base + off * s, none⟩) len cap ∧ len ≤ cap ∧ l.base + (off + cap) * s ≤ l.size ∧ l.esz = s ∧
      BlockOK w l ∧ l.base + es.length * s ≤ l.size ∧ (∀ i (hi : i < es.length), (es[i]).cells.length = s) ∧
      (∀ i j, i < es.length → j < s → w.cell? ⟨l.block, l.base + i * s + j, none⟩ = some (val i j)) ∧
      ∀ i (hi : i < es.length) j (hj : j < (es[i]).cells.length), RelV I w [] ((es[i]).cells[j]) (val i j) := by
  obtain ⟨x, hx, hO⟩ := Rel.slot H ho
  rcases hO.arr_inv with ⟨rfl, rfl⟩ | ⟨l, val, rfl, hs, hb, hsz, hn, hc, hr⟩
  · cases hv with
    | ref _ _ _ _ _ l hl => rw [MM.loc_some, hx] at hl; cases hl
    | ref0 => exact .inl ⟨rfl, rfl, rfl, rfl, hx⟩
    | refE _ _ _ l _ hl => rw [MM.loc_some, hx] at hl; cases hl
    | refX _ _ _ _ _ hl => rw [hx] at hl; cases hl
  · cases hv with
    | ref _ _ _ _ cap l' hl hlen hcap =>
      have := MM.loc_some.1 hl
      rw [hx] at this
      cases this
      subst hs
      exact .inr (.inr ⟨l, cap, val, hl, rfl, hlen, hcap, rfl, hb, hsz, hn, hc, hr⟩)
    | refE _ _ _ l' a hl => exact .inr (.inl ⟨a, l', rfl, rfl, hl⟩)
    | ref0 _ _ hl => rw [hx] at hl; cases hl
    | refX _ _ _ _ _ hl => rw [hx] at hl; cases hl

/-- The address of an element of an array of the walk. -/
theorem SOp.indexRef {P : Program} {n : Nat} {o : Oper} {N : St → Prop} {st : St} {t et : TypeId} {x y : Operand} (ho : o.op = .indexAddr t x y) (ht : P.underlying t = some (.slice et)) {s : Nat} (hsz : sizeQ P et = some s)
    {k off len : Nat} {es : List AV} (hx : aeval st x = .ref k off len) (hk : st.h[k]? = some (.arr s es)) {ik : IntKind} {i : Int} (hy : aeval st y = .lit (.int ik i)) (h0 : 0 ≤ i) (h1 : i < len)
    (hN : N (st.put o.dst (.eptr k (off + i.toNat) 0))) : SOp P n o N st := by
  refine SOp.pure (fun I μ a w R => ?_) hN
  have hxv := R.eval x
  have hyv := R.eval y
  rw [hx] at hxv
  rw [hy] at hyv
  have hye := hyv.lit_eq
  rcases Rel.ref R.heap hk hxv with ⟨e, rfl, rfl, rfl, _⟩ | ⟨_, _, _, rfl, _⟩ | ⟨l, cap, val, hl, e, hlen, hcap, hs, hb, _, hn', hc, hv⟩
  · omega
  · omega
  · subst hs
    refine ⟨.pointer (some ⟨l.block, l.base + (off + i.toNat) * l.esz + 0, none⟩), ?_, .eptr _ _ _ _ _ hl⟩
    have h2 : 0 ≤ i ∧ i < (len : Int) := ⟨h0, h1⟩
    simp only [execOp, ho, Instr.indexAt, e, hye, asIntOf, Sem.run_bind, Sem.run_pure, Result.andThen_ok, run_underQ ht, h2, and_self, if_true, Sem.run_ite, run_sizeQ hsz, addr_add]
    simp [Nat.add_mul, Nat.add_assoc]

/-- An element that is read by its address. -/
theorem SOp.loadRef {P : Program} {n : Nat} {o : Oper} {N : St → Prop} {st : St} {t : TypeId} {x : Operand} (ho : o.op = .load t x) {k i j s : Nat} {es : List AV}
    (hx : aeval st x = .eptr k i j) (hk : st.h[k]? = some (.arr s es)) {e : AV} (he : es[i]? = some e) {av : AV} (hav : acut P t e.cells j = some av) (hN : N (st.put o.dst av)) : SOp P n o N st := by
  refine SOp.pure (fun I μ a w R => ?_) hN
  have hxv := R.eval x
  rw [hx] at hxv
  have hi : i < es.length := by
    rcases Nat.lt_or_ge i es.length with h1 | h1
    · exact h1
    · rw [List.getElem?_eq_none h1] at he; cases he
  rw [List.getElem?_eq_getElem hi] at he
  cases he
  obtain ⟨x', hx', hO⟩ := Rel.slot R.heap hk
  rcases hO.arr_inv with ⟨rfl, rfl⟩ | ⟨l, val, rfl, hs, hb, hsz, hn, hc, hr⟩
  · simp at hi
  · subst hs
    cases hxe : a.eval x with
    | pointer p =>
      rw [hxe] at hxv
      have hp : p = some ⟨l.block, l.base + i * l.esz + j, none⟩ := by
        cases hxv with
        | eptr _ _ _ _ l' hl => rw [MM.loc_some, hx'] at hl; cases hl; rfl
        | eptrX _ _ _ _ _ hl => rw [hx'] at hl; cases hl
      subst hp
      obtain ⟨r, hr', hrel⟩ := loadVar_ok (P := P) (I := I) (w := w) (μ := μ) (off := j) (base := l.base + i * l.esz) (b := l.block) (val := val i) hav (fun j' hj' => hc i j' hi (by rw [hn i hi] at hj'; exact hj')) (fun j' hj' => (hr i hi j' hj').any)
      exact ⟨r, by simp only [execOp, ho, Instr.loadAt, hxe, Instr.sureAddr, Sem.run_bind, Sem.run_pure, Result.andThen_ok, hr'], hrel⟩
    | _ =>
      rw [hxe] at hxv
      exfalso
      cases hxv with
      | eptrX _ _ _ _ _ hl => rw [hx'] at hl; cases hl

/-- A store into an element of an array of the walk. -/
theorem SOp.storeRef {P : Program} {n : Nat} {o : Oper} {N : St → Prop} {st : St} {t : TypeId} {x y : Operand} (ho : o.op = .store t x y) {k i j s : Nat} {es : List AV}
    (hx : aeval st x = .eptr k i j) (hk : st.h[k]? = some (.arr s es)) {e e' : AV} (he : es[i]? = some e) (hy : cellsQ st.h (aeval st y) = true) (hp : pureQ (aeval st y) = true) (hs : sizeQ P t = some (aeval st y).cells.length)
    (hj : j + (aeval st y).cells.length ≤ e.cells.length) (he' : e'.cells = splice e.cells j (aeval st y).cells)
    (hN : N (({ st with h := st.h.set k (.arr s (es.set i e')) } : St).put o.dst .undef)) : SOp P n o N st := by
  intro I μ a w R hn next Q hnext
  have hxv := R.eval x
  have hyv := R.eval y
  rw [hx] at hxv
  have hi : i < es.length := by
    rcases Nat.lt_or_ge i es.length with h1 | h1
    · exact h1
    · rw [List.getElem?_eq_none h1] at he; cases he
  rw [List.getElem?_eq_getElem hi] at he
  cases he
  obtain ⟨x', hx', hO⟩ := Rel.slot R.heap hk
  obtain ⟨hy1, hy2, hy3⟩ := cellsQ_ok R.heap hy hyv
  have hy4 : ∀ j (hj : j < (aeval st y).cells.length), RelV I w [] ((aeval st y).cells[j]) ((a.eval y).cells.getD j Go.undef) := by
    have := pureQ_ok hp hyv []
    exact (cellsQ_ok (μ := []) (h := []) (I := I) (w := w) ⟨rfl, fun o ob x h => by simp at h, fun b ⟨o, l, h, _⟩ => by simp [MM.loc] at h, fun o o' l l' h => by simp [MM.loc] at h, R.heap.imm⟩
      (by
        revert hy hp
        generalize aeval st y = c
        intro hy hp
        have h1 : ∀ c, pureQ.pureQ1 c = true → oneQ st.h c = true → oneQ [] c = true := by
          intro c hp ho
          cases c <;> first | exact ho | cases hp
        cases c with
        | agg cs =>
          simp only [cellsQ, pureQ, List.all_eq_true] at *
          exact fun c hc => h1 c (hp c hc) (hy c hc)
        | _ => exact h1 _ (by simpa only [pureQ] using hp) (by simpa only [cellsQ] using hy)) this).2.2
  rcases hO.arr_inv with ⟨rfl, rfl⟩ | ⟨l, val, rfl, hs', hb, hsz, hn', hc, hr⟩
  · simp at hi
  · subst hs'
    have hl : μ.loc k = some l := MM.loc_some.2 hx'
    have hxe : a.eval x = .pointer (some ⟨l.block, l.base + i * l.esz + j, none⟩) := by
      generalize a.eval x = v at hxv
      cases hxv with
      | eptr _ _ _ _ l' hl => rw [MM.loc_some, hx'] at hl; cases hl; rfl
      | eptrX _ _ _ _ _ hl => rw [hx'] at hl; cases hl
    have hecl := hn' i hi
    have hbig : i * l.esz + l.esz ≤ es.length * l.esz := by
      have : (i + 1) * l.esz ≤ es.length * l.esz := Nat.mul_le_mul_right _ hi
      rwa [Nat.add_mul, Nat.one_mul] at this
    obtain ⟨w', hrn, ⟨hs1, hx1⟩, ho1, hb1, hc1⟩ := storeCells_ok (P := P) (l := l) (a.eval y).cells.toList (l.base + i * l.esz + j) 0 w hb (by simp [hy1]; omega) hy2
    have hrun : (execOp a.eval o).run P w = .ok .skip w' := by
      simp only [execOp, ho, Instr.storeAt, hxe, Instr.sureAddr, storeVar, Sem.run_bind, Sem.run_pure, Result.andThen_ok, run_sizeQ hs, hy1, ne_eq, not_true_eq_false, if_false, Sem.run_ite, hrn]
    have hI : ∀ b, I b → w'.heap[b]? = w.heap[b]? := fun b hb => ho1 b (fun e => R.heap.notI b ⟨k, l, hl, e.symm⟩ hb)
    have hel : e'.cells.length = l.esz := by rw [he', splice_length hj, hecl]
    have hrelo : RelO I w' μ (.arr l.esz (es.set i e')) (.at l) := by
      refine .arr _ _ l (fun i' j' => if i' = i ∧ j ≤ j' ∧ j' < j + (aeval st y).cells.length then (a.eval y).cells.getD (j' - j) Go.undef else val i' j') rfl hb1 (by simpa using hsz) (fun i' hi' => ?_) (fun i' j' hi' hj' => ?_) (fun i' hi' j' hj' => ?_)
      · rw [List.getElem_set]
        split
        · exact hel
        · exact hn' i' (by simpa using hi')
      · simp only [List.length_set] at hi'
        rw [hc1]
        simp only [Nat.add_zero, Array.length_toList, hy1]
        by_cases h1 : i' = i ∧ j ≤ j' ∧ j' < j + (aeval st y).cells.length
        · obtain ⟨rfl, h2, h3⟩ := h1
          rw [if_pos (by omega), if_pos ⟨rfl, h2, h3⟩, getD_of (by omega), show l.base + i' * l.esz + j' - (l.base + i' * l.esz + j) = j' - j by omega]
          simp <;> omega
        · rw [if_neg h1, if_neg ?_]
          · exact hc i' j' hi' hj'
          · intro h2
            apply h1
            rcases Nat.lt_trichotomy i' i with h3 | h3 | h3
            · exfalso
              have : (i' + 1) * l.esz ≤ i * l.esz := Nat.mul_le_mul_right _ h3
              rw [Nat.add_mul, Nat.one_mul] at this
              omega
            · subst h3; exact ⟨rfl, by omega, by omega⟩
            · exfalso
              have : (i + 1) * l.esz ≤ i' * l.esz := Nat.mul_le_mul_right _ h3
              rw [Nat.add_mul, Nat.one_mul] at this
              omega
      · simp only [List.length_set] at hi'
        by_cases h1 : i' = i
        · subst h1
          have e1 : (es.set i' e')[i']'(by simpa using hi') = e' := by simp
          have hj2 : j' < e'.cells.length := by rw [← e1]; exact hj'
          simp only [e1]
          have hj3 : j' < (splice es[i'].cells j (aeval st y).cells).length := by rw [← he']; exact hj2
          have e2 : e'.cells[j'] = (splice es[i'].cells j (aeval st y).cells)[j'] := by simp only [he']
          rw [e2]
          rcases splice_get hj j' hj3 with ⟨hk', h1, e⟩ | ⟨h1, hk', e⟩
          · rw [e, if_pos ⟨trivial, h1, by omega⟩]
            exact (hy4 (j' - j) hk').mono (fun _ h => h) hI
          · rw [e, if_neg (fun h => by omega)]
            exact (hr i' hi j' hk').mono (fun _ h => h) hI
        · have e1 : (es.set i e')[i']'(by simpa using hi') = es[i'] := by rw [List.getElem_set_ne (fun h => h1 h.symm)]
          have hj2 : j' < (es[i']).cells.length := by rw [← e1]; exact hj'
          rw [if_neg (by omega)]
          simp only [e1]
          exact (hr i' hi' j' hj2).mono (fun _ h => h) hI
    unfold Oper.wp
    rw [hrun]
    exact hnext _ _ _ _ _ hN ((R.update hl hs1 ho1 hrelo).put (.undef _ _) o.dst) (Step.update hl hs1 ho1 hx1) (Pre.refl _ _ hn)

end Go.Q
