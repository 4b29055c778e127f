/- Append, as an operation of the walk. -/
import Derived.Test.YthdklcpkoeehnaaDoorQH
namespace Go.Q
open Go

theorem Step.scratch {I : Nat → Prop} {μ : MM} {w w' : World} {B : Nat} (hw : ∀ b, b ≠ B → w'.heap[b]? = w.heap[b]?) (hsz : w'.heap.size = w.heap.size) (h : μ.owns B) (hx : w'.os = w.os ∧ w'.output = w.output) : Step I μ w I μ w' :=
  ⟨fun _ h => h, by omega, fun b _ hn => hw b (fun e => hn (e ▸ h)), fun _ h => .inl h, fun _ h => .inl h, hx⟩

theorem kill_loc {μ : MM} {k j : Nat} {l : Loc} (h : MM.loc (μ.set k .gone) j = some l) : μ.loc j = some l := by
  rw [MM.loc_some] at h ⊢
  by_cases e' : k = j
  · subst e'
    rcases Nat.lt_or_ge k μ.length with h1 | h1
    · rw [List.getElem?_set_self h1] at h; cases h
    · rw [List.getElem?_eq_none (by simpa using h1)] at h; cases h
  · rwa [List.getElem?_set_ne e'] at h

theorem Step.push {I : Nat → Prop} {μ μ' : MM} {w w' : World} (S : Step I μ w I μ' w') {x : Slot} (hx : ∀ l, x = .at l → μ.owns l.block ∨ w.heap.size ≤ l.block) : Step I μ w I (μ' ++ [x]) w' := by
  refine ⟨S.mono, S.grow, S.same, fun b hb => ?_, S.imm, S.ext⟩
  obtain ⟨j, l, e, rfl⟩ := hb
  rw [MM.loc_some] at e
  rcases Nat.lt_trichotomy j μ'.length with h1 | h1 | h1
  · rw [List.getElem?_append_left h1] at e; exact S.own _ ⟨j, l, MM.loc_some.2 e, rfl⟩
  · subst h1; rw [get_append_self] at e; cases e; exact hx l rfl
  · rw [List.getElem?_eq_none (by simp; omega)] at e; cases e

/-- The base of an append, as the machine has it. -/
inductive BaseV (I : Nat → Prop) (μ : MM) (w : World) (s : Nat) (bs : List AV) : Option Nat → Value → Prop
  | nil : bs = [] → BaseV I μ w s bs none (.slice none 0 0)
  | nil' (k : Nat) : bs = [] → BaseV I μ w s bs (some k) (.slice none 0 0)
  | empty (k : Nat) (ad : Option Addr) (l : Loc) : bs = [] → μ.loc k = some l → BlockOK w l → l.esz = s → l.base ≤ l.size → BaseV I μ w s bs (some k) (.slice ad 0 0)
  | row (k : Nat) (l : Loc) (off cap : Nat) (val : Nat → Nat → Value) : μ.loc k = some l → bs.length ≤ cap → l.base + (off + cap) * s ≤ l.size → l.esz = s → BlockOK w l →
      Elems I w s bs val → (∀ i j, i < bs.length → j < s → w.cell? ⟨l.block, l.base + (off + i) * s + j, none⟩ = some (val i j)) →
      BaseV I μ w s bs (some k) (.slice (some ⟨l.block, l.base + off * s, none⟩) bs.length cap)

theorem Base.val {st : St} {x : Operand} {s : Nat} {ko : Option Nat} {bs : List AV} (h : Base st x s ko bs) {I : Nat → Prop} {μ : MM} {a : Act} {w : World} (R : Rel I μ st a w) :
    BaseV I μ w s bs ko (a.eval x) := by
  have hv := R.eval x
  rcases h with ⟨hx, rfl, rfl⟩ | ⟨k, off, len, es, hx, hk, hle, rfl, rfl⟩
  · rw [hx] at hv
    generalize a.eval x = v at hv
    cases hv
    exact .nil rfl
  · rw [hx] at hv
    have hlen : ((es.drop off).take len).length = len := by simp; omega
    rcases Rel.ref R.heap hk hv with ⟨e, rfl, rfl, rfl, _⟩ | ⟨ad, l, e, rfl, hl⟩ | ⟨l, cap, val, hl, e, hcap, hsz, hes, hb, hsz', hn, hc, hr⟩
    · rw [e]; exact .nil' k (by simp)
    · rw [e]
      obtain ⟨y, hy, hO⟩ := Rel.slot R.heap hk
      rw [MM.loc_some, hy] at hl
      cases hl
      rcases hO.arr_inv with ⟨e1, _⟩ | ⟨l', val, e1, hes, hb, hle', _⟩
      · cases e1
      · cases e1
        exact .empty k ad l (by simp) (MM.loc_some.2 hy) hb hes (by omega)
    · rw [e]
      have := BaseV.row (I := I) (μ := μ) (w := w) (s := s) (bs := (es.drop off).take len) k l off cap (fun i j => val (off + i) j) hl (by rw [hlen]; exact hcap) hsz hes hb
        ⟨fun i hi => by rw [hlen] at hi; simpa using hn (off + i) (by omega), fun i hi j hj => by
          rw [hlen] at hi
          have e1 : ((es.drop off).take len)[i]'(by rw [hlen]; exact hi) = es[off + i] := by simp
          have hj' : j < (es[off + i]).cells.length := by rw [← e1]; exact hj
          simpa [e1] using hr (off + i) (by omega) j hj'⟩
        (fun i j hi hj => by rw [hlen] at hi; exact hc (off + i) j (by omega) hj)
      rwa [hlen] at this

theorem Elems.append {I : Nat → Prop} {w : World} {s : Nat} {xs ys : List AV} {v1 v2 : Nat → Nat → Value} (h1 : Elems I w s xs v1) (h2 : Elems I w s ys v2) :
    Elems I w s (xs ++ ys) (fun i j => if i < xs.length then v1 i j else v2 (i - xs.length) j) := by
  refine ⟨fun i hi => ?_, fun i hi j hj => ?_⟩
  · rw [List.getElem_append]
    split
    · exact h1.1 _ _
    · exact h2.1 _ _
  · by_cases h : i < xs.length
    · have e : (xs ++ ys)[i] = xs[i] := List.getElem_append_left h
      have hj' : j < (xs[i]).cells.length := by rw [← e]; exact hj
      simp only [e, if_pos h]
      exact h1.2 i h j hj'
    · have hi' : i - xs.length < ys.length := by simp at hi; omega
      have e : (xs ++ ys)[i] = ys[i - xs.length] := List.getElem_append_right (by omega)
      have hj' : j < (ys[i - xs.length]).cells.length := by rw [← e]; exact hj
      simp only [e, if_neg h]
      exact h2.2 (i - xs.length) hi' j hj'

theorem Elems.mono {I : Nat → Prop} {w w' : World} {s : Nat} {xs : List AV} {v : Nat → Nat → Value} (h : Elems I w s xs v) (hw : ∀ b, I b → w'.heap[b]? = w.heap[b]?) : Elems I w' s xs v :=
  ⟨h.1, fun i hi j hj => (h.2 i hi j hj).mono (fun _ h => h) hw⟩

/-- Append: the new object holds what was there and what is appended; the old one is gone. -/
theorem SOp.append {P : Program} {n : Nat} {o : Oper} {N : St → Prop} {st : St} {t u e s : Nat} {x y : Operand} (ho : o.op = .call { callee := .builtin .append, args := #[x, y], argTypes := #[t, u] })
    (ht : P.underlying t = some (.slice e)) (hu : P.underlying u = some .string ∨ ∃ e', P.underlying u = some (.slice e')) {i : TypeInfo} (hi : P.info? e = some i) (his : i.size = s) (hs : 0 < s) {z : Value} (hz : i.zero = some z) (hzs : z.cells.size = s)
    {ko : Option Nat} {bs xs : List AV} (hb : Base st x s ko bs) (hsrc : Src P st y s xs) (hfit : (bs.length + xs.length) * i.bytes ≤ 140737488355328) (h63 : bs.length + xs.length ≤ 9223372036854775807)
    (hN : N (({ st with h := killQ st.h ko ++ [.arr s (bs ++ xs)] } : St).put o.dst (.ref st.h.length 0 (bs.length + xs.length)))) : SOp P n o N st := by
  intro I μ a w R hn next Q hk
  obtain ⟨v2, hE2, hlen2, hfc2, hone2⟩ := hsrc I μ a w R
  have hbv := hb.val R
  subst his
  have hfc2' : ∀ w', w'.heap = w.heap → (Builtin.firstCells i.size xs.length (a.eval y)).run P w' = .ok (rowVals xs.length i.size v2).toArray w' := hfc2 _ (Nat.le_refl _)
  have hexec : execOp a.eval o = (do let r ← Builtin.append_ #[t, u] o.type #[a.eval x, a.eval y]; Pure.pure (.value r) : Sem Next) := by
    simp only [execOp, ho, resolve, List.map_toArray, List.map_cons, List.map_nil]
    rfl
  -- how it ends, once the value, the world and the new object are known
  have fin : ∀ (r : Value) (w' : World) (x' : Slot), (Builtin.append_ #[t, u] o.type #[a.eval x, a.eval y]).run P w = .ok r w' → Rel I (killM μ ko) { st with h := killQ st.h ko } a w' → Step I μ w I (killM μ ko) w' →
      RelO I w' (killM μ ko ++ [x']) (.arr i.size (bs ++ xs)) x' → (∀ l, x' = .at l → ¬ (killM μ ko).owns l.block ∧ ¬ I l.block) → (∀ l, x' = .at l → μ.owns l.block ∨ w.heap.size ≤ l.block) →
      RelV I w' (killM μ ko ++ [x']) (.ref st.h.length 0 (bs.length + xs.length)) r → o.wp P a w next Q := by
    intro r w' x' hr R1 S1 hO hx1 hx2 hv
    unfold Oper.wp
    rw [hexec, Sem.run_bind, hr]
    have R2 := R1.push hO hx1
    refine hk _ _ _ _ _ hN (R2.put hv o.dst) (S1.push hx2) ?_
    exact (Pre.killO ko hn).trans (Pre.append _ (by rw [killM_length]; exact hn))
  have hidx : (killM μ ko ++ [Slot.nil])[st.h.length]? = some .nil := by
    rw [← R.heap.len, ← killM_length μ ko, get_append_self]
  have hidx2 : ∀ l, MM.loc (killM μ ko ++ [Slot.at l]) st.h.length = some l := fun l => by
    rw [MM.loc_some, ← R.heap.len, ← killM_length μ ko, get_append_self]
  -- the new array, in a block of its own
  have finNew : ∀ (base : Option Addr) (cap : Nat) (v1 : Nat → Nat → Value), a.eval x = .slice base bs.length cap → (∀ w', w'.heap = w.heap → (Builtin.firstCells i.size bs.length (.slice base bs.length cap)).run P w' = .ok (rowVals bs.length i.size v1).toArray w') →
      Elems I w i.size bs v1 → cap < bs.length + xs.length → o.wp P a w next Q := by
    intro base cap v1 e1 hold hE1 hg
    obtain ⟨cap', w', hr, hcap, hw', hx0⟩ := run_append_new (P := P) (w := w) (ty := o.type) ht hu hi hz hlen2 hfc2' (base := base) (sLen := bs.length) (sCap := cap) hold hg h63 hfit
    have hold' : ∀ b, b < w.heap.size → w'.heap[b]? = w.heap[b]? := fun b hb => by rw [hw', Array.getElem?_push_lt hb, Array.getElem?_eq_getElem hb]
    obtain ⟨cells, hcells⟩ : ∃ c : Array Value, c = (rowVals bs.length i.size v1).toArray ++ (rowVals xs.length i.size v2).toArray ++ Builtin.zeroCells z.cells (cap' - (bs.length + xs.length)) := ⟨_, rfl⟩
    rw [← hcells] at hw'
    have hcs : cells.size = cap' * i.size := by
      simp only [hcells, Array.size_append, List.size_toArray, rowVals_length, Builtin.zeroCells, Array.size_map, Array.size_range, hzs]
      rw [← Nat.add_mul, ← Nat.add_mul]
      congr 1; omega
    let l : Loc := ⟨w.heap.size, 0, i.size, cells.size⟩
    have hnewcell : ∀ q, w'.cell? ⟨w.heap.size, q, none⟩ = cells[q]? := fun q => by simp [World.cell?, hw']
    have R0 := R.killO ko
    have hnown : ∀ b, (killM μ ko).owns b → b < w.heap.size := fun b hb => R0.heap.size_owned hb
    have R1 : Rel I (killM μ ko) { st with h := killQ st.h ko } a w' := by
      refine ⟨fun d => (R0.tmps d).mono (fun _ h => h) (fun b hb => hold' b (R.heap.imm b hb)), R0.size, R0.defers, ⟨R0.heap.len, fun k ob y h1 h2 => ?_, R0.heap.notI, R0.heap.apart, fun b hb => ?_⟩⟩
      · refine (R0.heap.objs k ob y h1 h2).mono (fun _ h => h) (fun b hb => hold' b (R.heap.imm b hb)) (fun _ _ h => h) (fun l e => hold' _ (hnown _ ⟨k, l, ?_, rfl⟩))
        subst e; exact MM.loc_some.2 h2
      · rw [hw']; have := R.heap.imm b hb; simp; omega
    have hE := (hE1.append hE2).mono (w' := w') (fun b hb => hold' b (R.heap.imm b hb))
    refine fin _ w' (.at l) (by rw [e1]; exact hr) R1 ?_ ?_ (fun l' e => ?_) (fun l' e => ?_) ?_
    · refine (Step.killO ko).trans ⟨fun _ h => h, by rw [hw']; simp, fun b hb _ => hold' b hb, fun _ h => .inl h, fun _ h => .inl h, hx0⟩
    · refine .arr _ _ l _ rfl ⟨cells, e, 0, 0, by simp [l, hw'], rfl, by omega⟩ ?_ hE.1 (fun p q hp hq => ?_) hE.2
      · simp only [l, Nat.zero_add, List.length_append]
        rw [hcs]; exact Nat.mul_le_mul_right _ hcap
      · simp only [l, Nat.zero_add, hnewcell]
        simp only [List.length_append] at hp
        by_cases h1 : p < bs.length
        · rw [if_pos h1, ← rowVals_get h1 hq]
          have hlt : p * i.size + q < (rowVals bs.length i.size v1).length := by
            have := rowVals_get (val := v1) h1 hq
            rcases Nat.lt_or_ge (p * i.size + q) (rowVals bs.length i.size v1).length with h2 | h2
            · exact h2
            · rw [List.getElem?_eq_none h2] at this; cases this
          rw [hcells, Array.getElem?_append_left (by simp; omega), Array.getElem?_append_left (by simpa using hlt)]
          simp
        · have h2 : p - bs.length < xs.length := by omega
          have hpe : p * i.size + q = bs.length * i.size + ((p - bs.length) * i.size + q) := by
            have : p = bs.length + (p - bs.length) := by omega
            rw [this, Nat.add_mul, Nat.add_sub_cancel_left]; omega
          rw [if_neg h1, ← rowVals_get h2 hq]
          have hlt : (p - bs.length) * i.size + q < (rowVals xs.length i.size v2).length := by
            have := rowVals_get (val := v2) h2 hq
            rcases Nat.lt_or_ge ((p - bs.length) * i.size + q) (rowVals xs.length i.size v2).length with h3 | h3
            · exact h3
            · rw [List.getElem?_eq_none h3] at this; cases this
          rw [hcells, hpe, Array.getElem?_append_left (by simp [rowVals_length] at hlt ⊢; omega), Array.getElem?_append_right (by simp [rowVals_length])]
          simp [rowVals_length]
    · cases e
      exact ⟨fun h => by have := hnown _ h; simp [l] at this, fun h => by have := R.heap.imm _ h; simp [l] at this⟩
    · cases e; right; simp [l]
    · have := RelV.ref (I := I) (w := w') (killM μ ko ++ [.at l]) st.h.length 0 (bs.length + xs.length) cap' l (hidx2 l) hcap (by simp only [l, Nat.zero_add, hcs]; exact Nat.le_refl _)
      simpa [l] using this
  -- nothing there
  have finNone : ∀ (ad : Option Addr) (x' : Slot), bs = [] → a.eval x = .slice ad 0 0 → (xs = [] → RelO I w (killM μ ko ++ [x']) (.arr i.size []) x') → (∀ l, x' = .at l → ¬ (killM μ ko).owns l.block ∧ ¬ I l.block) → (∀ l, x' = .at l → μ.owns l.block ∨ w.heap.size ≤ l.block) →
      RelV I w (killM μ ko ++ [x']) (.ref st.h.length 0 0) (.slice ad 0 0) → o.wp P a w next Q := by
    intro ad x' hbs e hO h1 h2 hv
    subst hbs
    by_cases hx : xs = []
    · subst hx
      refine fin (.slice ad 0 0) w x' ?_ (R.killO ko) (Step.killO ko) (hO rfl) h1 h2 hv
      have := run_append_zero (P := P) (w := w) (ty := o.type) ht hu hi hz hlen2 hfc2' (base := ad) (sLen := 0) (sCap := 0) (.inr (by simp [rowVals])) (by simp)
      simpa [e] using this
    · have hpos : 0 < xs.length := List.length_pos_iff.2 hx
      refine finNew ad 0 (fun _ _ => Go.undef) (by simpa using e) (fun w' _ => ?_) ⟨fun i hi => by simp at hi, fun i hi => by simp at hi⟩ (by simpa using hpos)
      cases ad with
      | none => simp [Builtin.firstCells, rowVals]
      | some p => simp [Builtin.firstCells, rowVals, loadCells, loadCellsFrom]
  clear hb
  generalize hev : a.eval x = v at hbv
  cases hbv with
  | nil hbs => exact finNone none .nil hbs hev (fun _ => .arr0 _) (fun l e => by cases e) (fun l e => by cases e) (.ref0 _ _ hidx)
  | nil' k hbs => exact finNone none .nil hbs hev (fun _ => .arr0 _) (fun l e => by cases e) (fun l e => by cases e) (.ref0 _ _ hidx)
  | empty k ad l hbs hl hb hes hle =>
    refine finNone ad (.at l) hbs hev (fun _ => .arr _ _ l (fun _ _ => Go.undef) hes hb ?_ (fun i hi => by simp at hi) (fun i j hi => by simp at hi) (fun i hi => by simp at hi)) (fun l' e => ?_) (fun l' e => ?_) (.refE _ _ _ l ad (hidx2 l))
    · simpa using hle
    · cases e; exact ⟨not_owns_kill R.heap hl, fun h => R.heap.notI _ ⟨k, l, hl, rfl⟩ h⟩
    · cases e; exact .inl ⟨k, l, hl, rfl⟩
  | row k l off cap v1 hl hcap hsz hes hb hE1 hc1 =>
    by_cases hg : cap < bs.length + xs.length
    · exact finNew _ cap v1 hev (fun w' hw' => firstCells_some hs (fun p q hp hq => by
        rw [← hc1 p q hp hq, Nat.add_mul, ← Nat.add_assoc]
        unfold World.cell?; rw [hw'])) hE1 hg
    · have hg' : bs.length + xs.length ≤ cap := by omega
      have hbd : l.base + off * i.size + (bs.length + xs.length) * i.size ≤ l.size := by
        have : (off + (bs.length + xs.length)) * i.size ≤ (off + cap) * i.size := Nat.mul_le_mul_right _ (by omega)
        rw [Nat.add_mul] at this; omega
      obtain ⟨w', hrn, ⟨hs1, hx1⟩, ho1, hb1, hc'⟩ := storeCells_ok (P := P) (l := l) (rowVals xs.length i.size v2) (l.base + off * i.size + bs.length * i.size) 0 w hb
        (by rw [rowVals_length]; rw [Nat.add_mul] at hbd; omega) (rowVals_one hs hone2)
      have hrun := run_append_in (P := P) (w := w) (ty := o.type) ht hu hi hz hlen2 hfc2' (sLen := bs.length) (sCap := cap) (b := l.block) (off := l.base + off * i.size) rfl hg'
      rw [hrn, Result.andThen_ok] at hrun
      have hown : μ.owns l.block := ⟨k, l, hl, rfl⟩
      have hnI : ¬ I l.block := R.heap.notI _ hown
      have hI : ∀ b, I b → w'.heap[b]? = w.heap[b]? := fun b hb => ho1 b (fun e => hnI (e ▸ hb))
      let l' : Loc := ⟨l.block, l.base + off * i.size, i.size, l.size⟩
      have hE := (hE1.append hE2).mono (w' := w') hI
      refine fin _ w' (.at l') (by rw [hev]; exact hrun) ((R.killO (some k)).scratch ho1 hs1 (not_owns_kill R.heap hl) hnI) ((Step.scratch ho1 hs1 hown hx1).trans (Step.killO (some k))) ?_ (fun l2 e => ?_) (fun l2 e => ?_) ?_
      · refine .arr _ _ l' _ rfl hb1 (by simp only [l', List.length_append]; exact hbd) hE.1 (fun p q hp hq => ?_) hE.2
        simp only [l', hc', Nat.add_zero, rowVals_length]
        simp only [List.length_append] at hp
        by_cases h1 : p < bs.length
        · have hlt : p * i.size + q < bs.length * i.size := by
            have : (p + 1) * i.size ≤ bs.length * i.size := Nat.mul_le_mul_right _ h1
            rw [Nat.add_mul, Nat.one_mul] at this; omega
          rw [if_neg (by omega), if_pos h1, ← hc1 p q h1 hq, Nat.add_mul, ← Nat.add_assoc]
        · have h2 : p - bs.length < xs.length := by omega
          have hpe : p * i.size + q = bs.length * i.size + ((p - bs.length) * i.size + q) := by
            have : p = bs.length + (p - bs.length) := by omega
            rw [this, Nat.add_mul, Nat.add_sub_cancel_left]; omega
          have hlt : (p - bs.length) * i.size + q < xs.length * i.size := by
            have : (p - bs.length + 1) * i.size ≤ xs.length * i.size := Nat.mul_le_mul_right _ h2
            rw [Nat.add_mul, Nat.one_mul] at this; omega
          rw [if_pos (by omega), if_neg h1, ← rowVals_get h2 hq]
          congr 1; omega
      · cases e; exact ⟨(not_owns_kill R.heap hl : ¬ MM.owns (μ.set k .gone) l.block), hnI⟩
      · cases e; exact .inl hown
      · have := RelV.ref (I := I) (w := w') (killM μ (some k) ++ [.at l']) st.h.length 0 (bs.length + xs.length) cap l' (hidx2 l') hg' (by simp only [l', Nat.zero_add]; rw [Nat.add_mul] at hsz; omega)
        simpa [l'] using this

end Go.Q
