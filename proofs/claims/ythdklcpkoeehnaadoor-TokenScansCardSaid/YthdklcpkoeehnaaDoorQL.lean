/- Operations that make arrays. -/
import Derived.Test.YthdklcpkoeehnaaDoorQK
namespace Go.Q
open Go

theorem relH_nil {I : Nat → Prop} {w : World} (h : ∀ b, I b → b < w.heap.size) : RelH I [] [] w :=
  ⟨rfl, fun o ob x h => by simp at h, fun b ⟨o, l, h, _⟩ => by simp [MM.loc] at h, fun o o' l l' h => by simp [MM.loc] at h, h⟩

def flat (es : List AV) : List AV := es.flatMap AV.cells

theorem flat_length {s : Nat} : ∀ {es : List AV}, (∀ e ∈ es, e.cells.length = s) → (flat es).length = es.length * s
  | [], _ => by simp [flat]
  | e :: es, h => by
    have ih := flat_length (s := s) (es := es) (fun x hx => h x (by simp [hx]))
    have h0 := h e (by simp)
    simp only [flat] at ih ⊢
    simp only [List.flatMap_cons, List.length_append, ih, h0, List.length_cons, Nat.add_mul, Nat.one_mul]
    omega

theorem flat_get {s : Nat} : ∀ {es : List AV}, (∀ e ∈ es, e.cells.length = s) → ∀ i (hi : i < es.length) j (hj : j < (es[i]).cells.length), (flat es)[i * s + j]? = some ((es[i]).cells[j])
  | [], _, i, hi, _, _ => by simp at hi
  | e :: es, h, i, hi, j, hj => by
    have h0 := h e (by simp)
    cases i with
    | zero =>
      simp only [List.getElem_cons_zero] at hj ⊢
      simp only [flat, List.flatMap_cons, Nat.zero_mul, Nat.zero_add]
      rw [List.getElem?_append_left hj, List.getElem?_eq_getElem hj]
    | succ i =>
      simp only [List.getElem_cons_succ] at hj ⊢
      have ih := flat_get (s := s) (es := es) (fun x hx => h x (by simp [hx])) i (by simpa using hi) j hj
      simp only [flat, List.flatMap_cons] at ih ⊢
      rw [List.getElem?_append_right (by rw [h0, Nat.add_mul]; omega), h0, ← ih]
      congr 1
      rw [Nat.add_mul]; omega

theorem flat_set {s : Nat} : ∀ {es : List AV}, (∀ e ∈ es, e.cells.length = s) → ∀ i, i < es.length → ∀ v : AV, v.cells.length = s → splice (flat es) (i * s) v.cells = flat (es.set i v)
  | [], _, i, hi, _, _ => by simp at hi
  | e :: es, h, i, hi, v, hv => by
    have h0 := h e (by simp)
    cases i with
    | zero =>
      simp only [splice, flat, Nat.zero_mul, List.flatMap_cons, List.set_cons_zero, List.take_zero, List.nil_append, Nat.zero_add, hv]
      rw [← h0, List.drop_left]
    | succ i =>
      have ih := flat_set (s := s) (es := es) (fun x hx => h x (by simp [hx])) i (by simpa using hi) v hv
      simp only [splice, flat, List.flatMap_cons, List.set_cons_succ] at ih ⊢
      rw [← ih]
      have e1 : (i + 1) * s = e.cells.length + i * s := by rw [h0, Nat.add_mul]; omega
      rw [e1, List.take_append, List.take_of_length_le (by omega), Nat.add_sub_cancel_left, List.drop_append, List.drop_of_length_le (by omega), List.nil_append]
      rw [show e.cells.length + i * s + v.cells.length - e.cells.length = i * s + v.cells.length by omega]
      simp [List.append_assoc]

def setElems (s : Nat) : List AV → List (Nat × AV) → Option (List AV)
  | es, [] => some es
  | es, (i, v) :: r => if i < es.length ∧ v.cells.length = s then setElems s (es.set i v) r else none

theorem setElems_fill {s : Nat} : ∀ (ps : List (Nat × AV)) (es es' : List AV), (∀ e ∈ es, e.cells.length = s) → setElems s es ps = some es' →
    afill (fun i => some (i * s, s)) (flat es) ps = some (flat es') ∧ (∀ e ∈ es', e.cells.length = s) ∧ es'.length = es.length := by
  intro ps
  induction ps with
  | nil => intro es es' h he; cases he; exact ⟨rfl, h, rfl⟩
  | cons p ps ih =>
    intro es es' h he
    obtain ⟨i, v⟩ := p
    simp only [setElems] at he
    split at he
    · rename_i hc
      obtain ⟨h1, h2⟩ := hc
      obtain ⟨k1, k2, k3⟩ := ih (es.set i v) es' (fun e he => by
        rcases List.mem_or_eq_of_mem_set he with h3 | rfl
        · exact h e h3
        · exact h2) he
      refine ⟨?_, k2, by rw [k3]; simp⟩
      have hle : i * s + s ≤ (flat es).length := by
        rw [flat_length h]
        have : (i + 1) * s ≤ es.length * s := Nat.mul_le_mul_right _ h1
        rwa [Nat.add_mul, Nat.one_mul] at this
      simp only [afill]
      rw [if_pos ⟨h2, hle⟩, flat_set h i h1 v h2]
      exact k1
    · cases he

theorem flat_replicate (n : Nat) (z : AV) : flat (List.replicate n z) = (List.replicate n z.cells).flatten := by
  simp [flat, List.flatMap_replicate]

/-- A zero element. -/
def zelem (P : Program) (e : TypeId) : Option AV :=
  match P.info? e with
  | some i => match i.zero with
    | some z => some (constAV z)
    | none => none
  | none => none

theorem constAV_cells (z : Value) (h : ∀ x ∈ z.cells.toList, x.oneCell' = true) : (constAV z).cells = z.cells.toList.map constCell := by
  unfold constAV
  split
  · simp [AV.cells, Value.cells]
  · rename_i hne
    have hz : z.cells = #[z] := by
      cases z <;> first | rfl | (exfalso; exact hne _ rfl)
    rw [hz]
    simp only [List.map_cons, List.map_nil]
    unfold constCell
    split <;> rfl

theorem flat_rel {I : Nat → Prop} {w : World} {s : Nat} {es : List AV} {cells : Array Value} (hes : ∀ e ∈ es, e.cells.length = s) (_hn : cells.size = (flat es).length) (h : ∀ j (hj : j < (flat es).length), RelV I w [] (flat es)[j] (cells.getD j Go.undef)) :
    ∀ i (hi : i < es.length) j (hj : j < (es[i]).cells.length), RelV I w [] ((es[i]).cells[j]) (cells.getD (i * s + j) Go.undef) := by
  intro i hi j hj
  have h1 := flat_get hes i hi j hj
  have hlt : i * s + j < (flat es).length := by
    rcases Nat.lt_or_ge (i * s + j) (flat es).length with h2 | h2
    · exact h2
    · rw [List.getElem?_eq_none h2] at h1; cases h1
  rw [List.getElem?_eq_getElem hlt] at h1
  rw [← Option.some.inj h1]
  exact h _ hlt

theorem zeros_rel {I : Nat → Prop} {w : World} {z : Value} {n : Nat} {m : Nat} (hz : ∀ x ∈ z.cells.toList, x.oneCell' = true) (hs : 0 < z.cells.size) (hm : m = n * z.cells.size) :
    ((Array.range m).map (z.cells[· % z.cells.size]!)).size = (flat (List.replicate n (constAV z))).length ∧
    ∀ j (hj : j < (flat (List.replicate n (constAV z))).length), RelV I w [] (flat (List.replicate n (constAV z)))[j] (((Array.range m).map (z.cells[· % z.cells.size]!)).getD j Go.undef) := by
  have hc := constAV_cells z hz
  have hlen : (constAV z).cells.length = z.cells.size := by rw [hc]; simp
  have hall : ∀ e ∈ List.replicate n (constAV z), e.cells.length = z.cells.size := fun e he => by rw [List.eq_of_mem_replicate he]; exact hlen
  have hfl := flat_length hall
  rw [List.length_replicate] at hfl
  refine ⟨by rw [hfl]; simp [hm], fun j hj => ?_⟩
  rw [hfl] at hj
  have hi : j / z.cells.size < n := by rw [Nat.div_lt_iff_lt_mul hs]; exact hj
  have hr : j % z.cells.size < z.cells.size := Nat.mod_lt _ hs
  have hg := flat_get hall (j / z.cells.size) (by simpa using hi) (j % z.cells.size) (by simp [hlen, hr])
  have hj2 : j / z.cells.size * z.cells.size + j % z.cells.size = j := by rw [Nat.mul_comm]; exact Nat.div_add_mod j _
  rw [hj2, List.getElem?_eq_getElem (by rw [hfl]; exact hj)] at hg
  rw [Option.some.inj hg]
  rw [getD_of (by simp [hm]; exact hj)]
  simp only [List.getElem_replicate, hc, List.getElem_map, Array.getElem_toList, Array.getElem_map, Array.getElem_range]
  rw [getElem!_pos z.cells _ hr]
  exact rel_constCell _

theorem range0_map (f : Nat → Value) : (Array.range 0).map f = #[] := Array.eq_empty_of_size_eq_zero (by simp)

theorem SOp.buildSlice {P : Program} {n : Nat} {o : Oper} {N : St → Prop} {st : St} {t e len : Nat} {parts : Array (Nat × Operand)} (ho : o.op = .buildSlice t len parts) (ht : P.underlying t = some (.slice e)) {i : TypeInfo} (hi : P.info? e = some i)
    {s : Nat} (his : i.size = s) (hs : 0 < s) {z : Value} (hiz : i.zero = some z) (hzs : z.cells.size = s) (hz1 : z.cells.toList.all Value.oneCell' = true) (hbig : len * s ≤ 16777216) {es : List AV}
    (hes : setElems s (List.replicate len (constAV z)) (parts.toList.map fun p => (p.1, aeval st p.2)) = some es) (hq : ∀ p ∈ parts.toList, cellsQ [] (aeval st p.2) = true) (hp : ∀ p ∈ parts.toList, pureQ (aeval st p.2) = true)
    (hN : N (({ st with h := st.h ++ [.arr s es] } : St).put o.dst (.ref st.h.length 0 len))) : SOp P n o N st := by
  subst his
  simp only [List.all_eq_true] at hz1
  have hc := constAV_cells z hz1
  have hall : ∀ e ∈ List.replicate len (constAV z), e.cells.length = i.size := fun e he => by rw [List.eq_of_mem_replicate he, hc]; simpa using hzs
  obtain ⟨k1, k2, k3⟩ := setElems_fill _ _ es hall hes
  rw [List.length_replicate] at k3
  subst k3
  refine SOp.newArr (fun I μ a w R => ?_) hN
  obtain ⟨z1, z2⟩ := zeros_rel (I := I) (w := w) (z := z) (n := es.length) (m := es.length * i.size) hz1 (by omega) (by rw [hzs])
  obtain ⟨xs', f1, f2, f3, f4⟩ := afill_ok (relH_nil R.heap.imm) _ _ (parts.toList.map fun p => (p.1, a.eval p.2)) _ _ _ k1 (by simp) (fun i h1 h2 => by
      simp only [List.getElem_map]
      exact ⟨trivial, pureQ_ok (hp _ (List.getElem_mem _)) (R.eval _) []⟩) (fun p hp => by
      simp only [List.mem_map] at hp
      obtain ⟨q, hq1, rfl⟩ := hp
      exact hq q hq1) z1 z2
  have hfl := flat_length k2
  refine ⟨w.alloc (.cells xs' e), e, xs', 0, 0, es.length, fun i' j => xs'.getD (i' * i.size + j) Go.undef, ?_, ⟨rfl, rfl, rfl⟩, fun k hk => by omega, Nat.le_refl _, by rw [f2, hfl]; exact Nat.le_refl _, fun i' hi' => k2 _ (List.getElem_mem hi'), fun p q hp' hq' => ?_, flat_rel k2 f2 f4⟩
  · have hmap : (parts.map fun (i, x) => (i, a.eval x)).toList = parts.toList.map fun p => (p.1, a.eval p.2) := by simp
    simp only [execOp, ho, Instr.buildSlice, Sem.run_bind, run_underQ ht, Result.andThen_ok, sizeOf, typeInfo, run_program, hi, Sem.run_pure, hmap]
    rw [if_neg (by omega)]
    by_cases h0 : es.length * i.size = 0
    · have f1' : Instr.fill (fun i_1 => some (i_1 * i.size, i.size)) #[] (parts.toList.map fun p => (p.1, a.eval p.2)) = some xs' := by
        rw [← f1, h0, range0_map]
      have hr0 : ∀ f : Nat → Value, (Array.range 0).map f = #[] := range0_map
      simp [h0, hr0, f1', newRow]
    · simp [h0, zeroValue, typeInfo, hi, hiz, f1, newRow]
  · have hlt : p * i.size + q < xs'.size := by
      rw [f2, hfl]
      have : (p + 1) * i.size ≤ es.length * i.size := Nat.mul_le_mul_right _ hp'
      rw [Nat.add_mul, Nat.one_mul] at this; omega
    dsimp only
    rw [getD_of hlt, Array.getElem?_eq_getElem hlt]

theorem SOp.makeSlice {P : Program} {n : Nat} {o : Oper} {N : St → Prop} {st : St} {t e : Nat} {x y : Operand} (ho : o.op = .makeSlice t x y) (ht : P.underlying t = some (.slice e)) {i : TypeInfo} (hi : P.info? e = some i)
    {s : Nat} (his : i.size = s) (hs : 0 < s) {z : Value} (hiz : i.zero = some z) (hzs : z.cells.size = s) (hz1 : z.cells.toList.all Value.oneCell' = true) {k k' : IntKind} {l c : Int} (hx : aeval st x = .lit (.int k l)) (hy : aeval st y = .lit (.int k' c))
    (h0 : 0 ≤ l) (h1 : l ≤ c) (h2 : c ≤ 9223372036854775807) (h3 : i.bytes * c ≤ 140737488355328)
    (hN : N (({ st with h := st.h ++ [.arr s (List.replicate l.toNat (constAV z))] } : St).put o.dst (.ref st.h.length 0 l.toNat))) : SOp P n o N st := by
  subst his
  simp only [List.all_eq_true] at hz1
  have hc := constAV_cells z hz1
  have hall : ∀ m, ∀ e ∈ List.replicate m (constAV z), e.cells.length = i.size := fun m e he => by rw [List.eq_of_mem_replicate he, hc]; simpa using hzs
  have hlen : (List.replicate l.toNat (constAV z)).length = l.toNat := by simp
  rw [← hlen] at hN
  simp only [hlen] at hN
  refine SOp.newArr (es := List.replicate l.toNat (constAV z)) (fun I μ a w R => ?_) (by rw [hlen]; exact hN)
  have e1 := R.eval x; rw [hx] at e1
  have e2 := R.eval y; rw [hy] at e2
  obtain ⟨z1, z2⟩ := zeros_rel (I := I) (w := w) (z := z) (n := c.toNat) (m := c.toNat * i.size) hz1 (by omega) (by rw [hzs])
  have hfl := flat_length (hall c.toNat)
  rw [List.length_replicate] at hfl
  have hrel := flat_rel (hall c.toNat) z1 z2
  let cells := (Array.range (c.toNat * i.size)).map (z.cells[· % z.cells.size]!)
  refine ⟨w.alloc (.cells cells e), e, cells, 0, 0, c.toNat, fun i' j => cells.getD (i' * i.size + j) Go.undef, ?_, ⟨rfl, rfl, rfl⟩, fun k hk => by omega, by rw [hlen]; omega, by rw [z1, hfl]; exact Nat.le_refl _, fun i' hi' => hall _ _ (List.getElem_mem hi'), fun p q hp' hq' => ?_, fun p hp' q hq' => ?_⟩
  · have w1 : IntKind.i64.wrap l = l := by
      simp only [IntKind.wrap, IntKind.bits, IntKind.signed]; simp; omega
    have w2 : IntKind.i64.wrap c = c := by
      simp only [IntKind.wrap, IntKind.bits, IntKind.signed]; simp; omega
    have hneg : ¬ (c < 0 ∨ (i.bytes : Int) * c > 281474976710656) := by omega
    have hb : ((decide (c < 0) || decide ((i.bytes : Int) * c > 2 ^ 48)) || decide (l < 0) || decide (l > c)) = false := by
      simp only [Bool.or_eq_false_iff, decide_eq_false_iff_not]
      refine ⟨⟨⟨by omega, by omega⟩, by omega⟩, by omega⟩
    simp only [execOp, ho, Instr.makeSlice, e1.lit_eq, e2.lit_eq, Sem.run_bind, run_underQ ht, Result.andThen_ok, asInt, asIntOf, Sem.run_pure, typeInfo, run_program, hi, w1, w2, hb, Bool.false_eq_true, if_false, run_askRoom, sizeOf]
    by_cases h0 : c.toNat * i.size = 0
    · have : cells = #[] := by simp only [cells, h0]; exact range0_map _
      have hr0 : ∀ f : Nat → Value, (Array.range 0).map f = #[] := range0_map
      simp [h0, newRow, this, hlen, hr0]
    · simp [h0, zeroValue, typeInfo, hi, hiz, newRow, cells, hlen]
  · have hlt : p * i.size + q < cells.size := by
      simp only [hlen] at hp'
      rw [z1, hfl]
      have : (p + 1) * i.size ≤ c.toNat * i.size := Nat.mul_le_mul_right _ (by omega)
      rw [Nat.add_mul, Nat.one_mul] at this; omega
    dsimp only
    rw [getD_of hlt, Array.getElem?_eq_getElem hlt]
  · simp only [hlen] at hp'
    have := hrel p (by simp; omega) q (by simpa using hq')
    simp only [List.getElem_replicate] at this ⊢
    exact this

theorem SOp.convToBytes {P : Program} {n : Nat} {o : Oper} {N : St → Prop} {st : St} {s t e : TypeId} {x : Operand} (ho : o.op = .convert s t x) (hs : P.underlying s = some .string) (ht : P.underlying t = some (.slice e)) (he : P.underlying e = some (.int .u8))
    {b : ByteArray} (hx : aeval st x = .lit (.string b)) (hN : N (({ st with h := st.h ++ [.arr 1 (b.data.toList.map fun c => .lit (.int .u8 c.toNat))] } : St).put o.dst (.ref st.h.length 0 b.size))) : SOp P n o N st := by
  have hlen : (b.data.toList.map fun c => AV.lit (.int .u8 c.toNat)).length = b.size := by
    rw [List.length_map, Array.length_toList]; rfl
  refine SOp.newArr (es := b.data.toList.map fun c => .lit (.int .u8 c.toNat)) (fun I μ a w R => ?_) (by rw [hlen]; exact hN)
  have e1 := R.eval x; rw [hx] at e1
  obtain ⟨cap, hcap⟩ : ∃ cap, cap = (Question.appendCap b.size 0 e).cut (w.tape w.drawn (.appendCap b.size 0 e)) := ⟨_, rfl⟩
  have hle : b.size ≤ cap := by rw [hcap]; simp only [Question.cut]; omega
  let elems : Array Value := b.data.map fun c => .int .u8 c.toNat
  have hel : elems.size = b.size := by simp only [elems, Array.size_map]; rfl
  let cells := elems ++ Array.replicate (cap - b.size) (.int .u8 0)
  have hcs : cells.size = cap := by simp only [cells, Array.size_append, Array.size_replicate, hel]; omega
  refine ⟨(w.drew.alloc (.cells cells e)).freeze { block := w.heap.size, off := cells.size } 1, e, cells, cells.size, cells.size + 1, cap, fun i _ => .int .u8 (b.data.toList.getD i 0).toNat, ?_, ?_, fun k hk => by omega, by rw [hlen]; exact hle, by rw [hcs]; omega, fun i hi => ?_, fun i j hi hj => ?_, fun i hi j hj => ?_⟩
  · have hg : (w.drew.heap.push (Obj.cells cells e))[w.heap.size]? = some (.cells cells e) := Array.getElem?_push_size (xs := w.drew.heap)
    have hsh : (w.drew.alloc (.cells cells e)).shape? w.heap.size = some (e, cells.size) := by simp only [World.shape?, alloc_heap, hg]
    have hn : Question.forced (.appendCap b.size 0 e) = false := rfl
    simp only [execOp, ho, e1.lit_eq, convert, Sem.run_bind, run_underQ hs, run_underQ ht, run_underQ he, Result.andThen_ok, Conv.stringToBytes, run_choose, hn, Bool.false_eq_true, if_false, ← hcap, newRow, run_newObj, Sem.run_pure, markStringish, run_shape]
    have : ({ heap := { heap := w.heap, tape := w.tape, drawn := w.drawn + 1, os := w.os, output := w.output : World }.heap.push (.cells (Array.map (fun b => Value.int IntKind.u8 ↑b.toNat) b.data ++ Array.replicate (cap - b.size) (Value.int IntKind.u8 0)) e), tape := w.tape, drawn := w.drawn + 1, os := w.os, output := w.output } : World) = w.drew.alloc (.cells cells e) := rfl
    rw [this, hsh]
    simp only [run_freeze, Result.andThen_ok, hlen]
  · simp only [World.freeze, if_neg (show (1 : Nat) ≠ 0 by decide)]
    refine ⟨?_, rfl, rfl⟩
    apply Array.ext
    · simp [alloc_heap]
    · intro k h1 h2
      rw [Array.getElem_modify]
      simp only [alloc_heap]
      by_cases hk : w.heap.size = k
      · subst hk
        have hg : (w.drew.heap.push (Obj.cells cells e))[w.heap.size]'(by simp) = .cells cells e := by
          have := Array.getElem?_push_size (xs := w.drew.heap) (x := Obj.cells cells e)
          rw [Array.getElem?_eq_getElem (by simp)] at this
          exact Option.some.inj this
        rw [if_pos rfl, hg]
        simp
      · rw [if_neg hk]
        simp only [Array.size_push] at h2
        have hk2 : k < w.heap.size := by omega
        rw [Array.getElem_push_lt (show k < w.drew.heap.size from hk2), Array.getElem_push_lt hk2]
        rfl
  · simp only [List.getElem_map, AV.cells, List.length_cons, List.length_nil]
  · have : j = 0 := by omega
    subst this
    simp only [hlen] at hi
    have hi' : i < b.data.size := by exact hi
    simp only [cells, elems, Nat.mul_one, Nat.add_zero]
    rw [Array.getElem?_append_left (by simpa using hi')]
    simp [Array.getElem?_eq_getElem hi', List.getD]
  · simp only [hlen] at hi
    have : j = 0 := by simp [AV.cells] at hj; exact hj
    subst this
    have hi' : i < b.data.toList.length := by rw [Array.length_toList]; exact hi
    simp only [List.getElem_map, AV.cells, List.getElem_cons_zero]
    rw [show b.data.toList.getD i 0 = b.data.toList[i] by simp only [List.getD, List.getElem?_eq_getElem hi', Option.getD_some]]
    exact .lit _ _

end Go.Q
