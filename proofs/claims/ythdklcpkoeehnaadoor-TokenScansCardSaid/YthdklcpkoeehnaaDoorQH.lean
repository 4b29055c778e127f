/- Slices of objects, and append. -/
import Derived.Test.YthdklcpkoeehnaaDoorQG
namespace Go.Q
open Go

theorem RelH.heap_eq {I : Nat → Prop} {μ : MM} {h : List AObj} {w w' : World} (H : RelH I μ h w) (e : w'.heap = w.heap) : RelH I μ h w' :=
  ⟨H.len, fun k ob x h1 h2 => (H.objs k ob x h1 h2).mono (fun _ h => h) (fun b _ => by rw [e]) (fun _ _ h => h) (fun _ _ => by rw [e]), H.notI, H.apart, fun b hb => by rw [e]; exact H.imm b hb⟩

theorem Rel.heap_eq {I : Nat → Prop} {μ : MM} {st : St} {a : Act} {w w' : World} (R : Rel I μ st a w) (e : w'.heap = w.heap) : Rel I μ st a w' :=
  ⟨fun d => (R.tmps d).mono (fun _ h => h) (fun b _ => by rw [e]), R.size, R.defers, R.heap.heap_eq e⟩

theorem Step.heap_eq {I I' : Nat → Prop} {μ μ' : MM} {w w' w'' : World} (S : Step I μ w I' μ' w') (e : w''.heap = w'.heap) (hx : w''.os = w'.os ∧ w''.output = w'.output) : Step I μ w I' μ' w'' :=
  ⟨S.mono, by rw [e]; exact S.grow, fun b h1 h2 => by rw [e]; exact S.same b h1 h2, S.own, S.imm, ⟨hx.1.trans S.ext.1, hx.2.trans S.ext.2⟩⟩

theorem Step.heap_eq' {I I' : Nat → Prop} {μ μ' : MM} {w w' w'' : World} (S : Step I μ w'' I' μ' w') (e : w''.heap = w.heap) (hx : w''.os = w.os ∧ w''.output = w.output) : Step I μ w I' μ' w' :=
  ⟨S.mono, by rw [← e]; exact S.grow, fun b h1 h2 => by rw [← e]; exact S.same b (by rw [e]; exact h1) h2, fun b hb => by rw [← e]; exact S.own b hb, fun b hb => by rw [← e]; exact S.imm b hb, ⟨S.ext.1.trans hx.1, S.ext.2.trans hx.2⟩⟩

/-- A row of n elements of s cells each, laid out. -/
def rowVals (n s : Nat) (val : Nat → Nat → Value) : List Value := (List.range (n * s)).map fun q => val (q / s) (q % s)

theorem rowVals_length (n s : Nat) (val : Nat → Nat → Value) : (rowVals n s val).length = n * s := by simp [rowVals]

theorem rowVals_get {n s : Nat} {val : Nat → Nat → Value} {i j : Nat} (hi : i < n) (hj : j < s) : (rowVals n s val)[i * s + j]? = some (val i j) := by
  have hlt : i * s + j < n * s := by
    have : (i + 1) * s ≤ n * s := Nat.mul_le_mul_right _ hi
    rw [Nat.add_mul, Nat.one_mul] at this
    omega
  have h1 : (i * s + j) / s = i := by
    rw [Nat.mul_comm, Nat.mul_add_div (by omega), Nat.div_eq_of_lt hj, Nat.add_zero]
  have h2 : (i * s + j) % s = j := by
    rw [Nat.mul_comm, Nat.mul_add_mod, Nat.mod_eq_of_lt hj]
  simp [rowVals, hlt, h1, h2]

/-- Elements that stand for immutable data. -/
def Elems (I : Nat → Prop) (w : World) (s : Nat) (xs : List AV) (val : Nat → Nat → Value) : Prop :=
  (∀ i (hi : i < xs.length), (xs[i]).cells.length = s) ∧ ∀ i (hi : i < xs.length) j (hj : j < (xs[i]).cells.length), RelV I w [] ((xs[i]).cells[j]) (val i j)

/-- What a source of an append, or a copy, gives. -/
def Src (P : Program) (st : St) (x : Operand) (s : Nat) (xs : List AV) : Prop :=
  ∀ I μ a w, Rel I μ st a w → ∃ val, Elems I w s xs val ∧ (Builtin.lenOf (a.eval x)).run P w = .ok xs.length w ∧
    (∀ n, n ≤ xs.length → ∀ w', w'.heap = w.heap → (Builtin.firstCells s n (a.eval x)).run P w' = .ok (rowVals n s val).toArray w') ∧
    (∀ i j, i < xs.length → j < s → (val i j).oneCell' = true)

theorem firstCells_some {P : Program} {w : World} {b off s n len cap : Nat} {val : Nat → Nat → Value} (hs : 0 < s) (hc : ∀ i j, i < n → j < s → w.cell? ⟨b, off + i * s + j, none⟩ = some (val i j)) :
    (Builtin.firstCells s n (.slice (some ⟨b, off, none⟩) len cap)).run P w = .ok (rowVals n s val).toArray w := by
  have := loadCells_ok (P := P) (w := w) (b := b) (off := off) (val := fun q => val (q / s) (q % s)) (n * s) (fun q hq => by
    have h1 : q / s < n := by rw [Nat.div_lt_iff_lt_mul hs]; exact hq
    have h2 : q % s < s := Nat.mod_lt _ hs
    rw [← hc (q / s) (q % s) h1 h2]
    congr 2
    have := Nat.div_add_mod q s
    rw [Nat.mul_comm] at this
    omega)
  simpa [Builtin.firstCells, rowVals] using this

theorem relI_one {I : Nat → Prop} {w : World} {c : AV} {v : Value} (hw : ∀ b, I b → b < w.heap.size) (hc : oneQ [] c = true) (hv : RelV I w [] c v) : v.oneCell' = true :=
  oneQ_ok (μ := []) (h := []) ⟨rfl, fun o ob x h => by simp at h, fun b ⟨o, l, h, _⟩ => by simp [MM.loc] at h, fun o o' l l' h => by simp [MM.loc] at h, hw⟩ hc hv

/-- Elements each of whose cells is one. -/
def OneCells (xs : List AV) : Prop := ∀ x ∈ xs, ∀ c ∈ x.cells, oneQ [] c = true

theorem Src.vs {P : Program} {st : St} {x : Operand} {s : Nat} {xs : List AV} (hs : 0 < s) (hx : aeval st x = .vs s xs) (h1 : OneCells xs) : Src P st x s xs := by
  intro I μ a w R
  have hv := R.eval x
  rw [hx] at hv
  obtain ⟨ad, cap, val, e, hcap, ha, hn, hr⟩ := hv.vs_inv
  refine ⟨val, ⟨hn, hr⟩, by rw [e]; simp [Builtin.lenOf], fun n hle w' hw' => ?_, fun i j hi hj => ?_⟩
  · rw [e]
    rcases Nat.eq_zero_or_pos n with h0 | h0
    · subst h0
      cases ad with
      | none => simp [Builtin.firstCells, rowVals]
      | some p => simp [Builtin.firstCells, rowVals, loadCells, loadCellsFrom]
    · obtain ⟨b, off, rfl, hb, hc⟩ := ha (by omega)
      refine firstCells_some hs (fun i j hi hj => ?_)
      rw [← hc i j (by omega) hj]
      unfold World.cell?; rw [hw']
  · have hlen := hn i hi
    exact relI_one R.heap.imm (h1 _ (List.getElem_mem hi) _ (List.getElem_mem (by omega))) (hr i hi j (by omega))

theorem Src.nils {P : Program} {st : St} {x : Operand} {s : Nat} (hx : aeval st x = .nils) : Src P st x s [] := by
  intro I μ a w R
  have hv := R.eval x
  rw [hx] at hv
  have e : a.eval x = .slice none 0 0 := by
    generalize a.eval x = v at hv; cases hv; rfl
  refine ⟨fun _ _ => Go.undef, ⟨fun i hi => by simp at hi, fun i hi => by simp at hi⟩, by rw [e]; simp [Builtin.lenOf], fun n hle w' hw' => ?_, fun i j hi => by simp at hi⟩
  simp only [List.length_nil] at hle
  obtain rfl : n = 0 := by omega
  rw [e]; simp [Builtin.firstCells, rowVals]

theorem Src.str {P : Program} {st : St} {x : Operand} {b : ByteArray} (hx : aeval st x = .lit (.string b)) : Src P st x 1 (b.data.toList.map fun c => .lit (.int .u8 c.toNat)) := by
  intro I μ a w R
  have hv := R.eval x
  rw [hx] at hv
  have e := hv.lit_eq
  have hsz : b.size = b.data.toList.length := by rw [Array.length_toList]; rfl
  refine ⟨fun i _ => .int .u8 (b.data.toList.getD i 0).toNat, ⟨fun i hi => by simp only [List.getElem_map, AV.cells, List.length_cons, List.length_nil], fun i hi j hj => ?_⟩, by rw [e]; simp only [Builtin.lenOf, Sem.run_pure, List.length_map, hsz], fun n hle w' hw' => ?_, fun i j _ _ => rfl⟩
  · simp only [List.length_map] at hi
    have : j = 0 := by simp [AV.cells] at hj; exact hj
    subst this
    simp only [List.getElem_map, AV.cells, List.getElem_cons_zero]
    rw [show b.data.toList.getD i 0 = b.data.toList[i] by simp [List.getD, List.getElem?_eq_getElem hi]]
    exact .lit _ _
  · simp only [List.length_map] at hle
    rw [e]
    simp only [Builtin.firstCells, Sem.run_pure]
    congr 1
    apply Array.ext'
    simp only [rowVals, Nat.mul_one, Nat.div_one]
    apply List.ext_getElem
    · simp only [Array.length_toList, Array.size_map, List.length_map, List.length_range]
      rw [show (b.extract 0 n).data.size = (b.extract 0 n).size from rfl, ByteArray.size_extract, hsz]
      omega
    · intro i h1 h2
      simp only [List.length_map, List.length_range] at h2
      have h3 : i < b.data.size := by rw [← Array.length_toList]; omega
      simp [ByteArray.data_extract, List.getD, Array.getElem?_eq_getElem h3]

theorem Src.ref {P : Program} {st : St} {x : Operand} {s k off len : Nat} {es : List AV} (hs : 0 < s) (hx : aeval st x = .ref k off len) (hk : st.h[k]? = some (.arr s es)) (hle : off + len ≤ es.length)
    (h1 : OneCells es) : Src P st x s ((es.drop off).take len) := by
  intro I μ a w R
  have hv := R.eval x
  rw [hx] at hv
  have hlen : ((es.drop off).take len).length = len := by simp; omega
  rcases Rel.ref R.heap hk hv with ⟨e, rfl, rfl, rfl, _⟩ | ⟨ad, l, e, rfl, _⟩ | ⟨l, cap, val, hl, e, hcap, hsz, hes, hb, hsz', hn, hc, hr⟩
  · refine ⟨fun _ _ => Go.undef, ⟨fun i hi => by simp at hi, fun i hi => by simp at hi⟩, by rw [e]; simp [Builtin.lenOf], fun n hle w' hw' => ?_, fun i j hi => by simp at hi⟩
    simp at hle
    subst hle
    rw [e]; simp [Builtin.firstCells, rowVals]
  · refine ⟨fun _ _ => Go.undef, ⟨fun i hi => by simp at hi, fun i hi => by simp at hi⟩, by rw [e]; simp [Builtin.lenOf], fun n hle w' hw' => ?_, fun i j hi => by simp at hi⟩
    simp at hle
    subst hle
    rw [e]
    cases ad with
    | none => simp [Builtin.firstCells, rowVals]
    | some p => simp [Builtin.firstCells, rowVals, loadCells, loadCellsFrom]
  · refine ⟨fun i j => val (off + i) j, ⟨fun i hi => ?_, fun i hi j hj => ?_⟩, by rw [e, hlen]; simp [Builtin.lenOf], fun n hle' w' hw' => ?_, fun i j hi hj => ?_⟩
    · rw [hlen] at hi
      simpa using hn (off + i) (by omega)
    · rw [hlen] at hi
      have e1 : ((es.drop off).take len)[i]'(by rw [hlen]; exact hi) = es[off + i] := by simp
      have hj' : j < (es[off + i]).cells.length := by rw [← e1]; exact hj
      simpa [e1] using hr (off + i) (by omega) j hj'
    · rw [hlen] at hle'
      rw [e]
      refine firstCells_some hs (fun i j hi hj => ?_)
      rw [← hc (off + i) j (by omega) hj, Nat.add_mul, ← Nat.add_assoc]
      unfold World.cell?; rw [hw']
    · rw [hlen] at hi
      have h2 := hn (off + i) (by omega)
      exact relI_one R.heap.imm (h1 _ (List.getElem_mem (show off + i < es.length by omega)) _ (List.getElem_mem (by omega))) (hr (off + i) (by omega) j (by omega))

/-- The slice to which is appended: the object that it was of (if any), and what it holds. -/
def Base (st : St) (x : Operand) (s : Nat) (ko : Option Nat) (bs : List AV) : Prop :=
  (aeval st x = .nils ∧ ko = none ∧ bs = []) ∨
  ∃ k off len es, aeval st x = .ref k off len ∧ st.h[k]? = some (.arr s es) ∧ off + len ≤ es.length ∧ ko = some k ∧ bs = (es.drop off).take len

def killQ (h : List AObj) : Option Nat → List AObj
  | none => h
  | some k => h.set k .dead

def killM (μ : MM) : Option Nat → MM
  | none => μ
  | some k => μ.set k .gone

theorem killM_length (μ : MM) (ko : Option Nat) : (killM μ ko).length = μ.length := by cases ko <;> simp [killM]
theorem killQ_length (h : List AObj) (ko : Option Nat) : (killQ h ko).length = h.length := by cases ko <;> simp [killQ]

theorem Rel.killO {I : Nat → Prop} {μ : MM} {st : St} {a : Act} {w : World} (R : Rel I μ st a w) (ko : Option Nat) : Rel I (killM μ ko) { st with h := killQ st.h ko } a w := by
  cases ko with
  | none => exact R
  | some k => exact R.kill k

theorem Step.killO {I : Nat → Prop} {μ : MM} {w : World} (ko : Option Nat) : Step I μ w I (killM μ ko) w := by
  cases ko with
  | none => exact Step.refl _ _ _
  | some k => exact Step.kill k

theorem Pre.killO {n : Nat} {μ : MM} (ko : Option Nat) (h : n ≤ μ.length) : Pre n μ (killM μ ko) := by
  cases ko with
  | none => exact Pre.refl _ _ h
  | some k => exact Pre.gone k h

/-- An object more, in memory that is nobody's. -/
theorem Rel.push {I : Nat → Prop} {μ : MM} {st : St} {a : Act} {w : World} (R : Rel I μ st a w) {x : Slot} {ob : AObj} (ho : RelO I w (μ ++ [x]) ob x)
    (hx : ∀ l, x = .at l → ¬ μ.owns l.block ∧ ¬ I l.block) : Rel I (μ ++ [x]) { st with h := st.h ++ [ob] } a w := by
  have H := R.heap
  have hloc : ∀ k l', MM.loc (μ ++ [x]) k = some l' → (MM.loc μ k = some l' ∧ k < μ.length) ∨ (k = μ.length ∧ x = .at l') := by
    intro k l' e
    rw [MM.loc_some] at e
    rcases Nat.lt_trichotomy k μ.length with h1 | h1 | h1
    · rw [List.getElem?_append_left h1] at e; exact .inl ⟨MM.loc_some.2 e, h1⟩
    · subst h1; rw [get_append_self] at e; cases e; exact .inr ⟨rfl, rfl⟩
    · rw [List.getElem?_eq_none (by simp; omega)] at e; cases e
  refine ⟨fun d => (R.tmps d).sub (MM.sub_append _ _), R.size, R.defers, ⟨by simp [H.len], fun k ob' y hk hy => ?_, fun b hb => ?_, fun k k' l1 l2 e1 e2 e => ?_, H.imm⟩⟩
  · rcases Nat.lt_trichotomy k st.h.length with h1 | h1 | h1
    · rw [List.getElem?_append_left h1] at hk
      rw [List.getElem?_append_left (by rw [H.len]; exact h1)] at hy
      exact (H.objs k ob' y hk hy).mono (fun _ h => h) (fun _ _ => rfl) (fun _ _ h => h.sub (MM.sub_append _ _)) (fun _ _ => rfl)
    · subst h1
      rw [get_append_self] at hk
      rw [← H.len, get_append_self] at hy
      cases hk; cases hy
      exact ho
    · rw [List.getElem?_eq_none (by simp; omega)] at hk; cases hk
  · obtain ⟨k, l', e, rfl⟩ := hb
    rcases hloc k l' e with ⟨h1, _⟩ | ⟨_, h1⟩
    · exact H.notI _ ⟨k, l', h1, rfl⟩
    · exact (hx l' h1).2
  · rcases hloc k l1 e1 with ⟨h1, hk⟩ | ⟨rfl, h1⟩ <;> rcases hloc k' l2 e2 with ⟨h2, hk'⟩ | ⟨rfl, h2⟩
    · exact H.apart _ _ _ _ h1 h2 e
    · exact absurd ⟨k, l1, h1, e⟩ (hx l2 h2).1
    · exact absurd ⟨k', l2, h2, e.symm⟩ (hx l1 h1).1
    · rfl

/-- Memory that is nobody's changes. -/
theorem Rel.scratch {I : Nat → Prop} {μ : MM} {st : St} {a : Act} {w w' : World} (R : Rel I μ st a w) {B : Nat} (hw : ∀ b, b ≠ B → w'.heap[b]? = w.heap[b]?) (hsz : w'.heap.size = w.heap.size)
    (h1 : ¬ μ.owns B) (h2 : ¬ I B) : Rel I μ st a w' := by
  have hI : ∀ b, I b → w'.heap[b]? = w.heap[b]? := fun b hb => hw b (fun e => h2 (e ▸ hb))
  refine ⟨fun d => (R.tmps d).mono (fun _ h => h) hI, R.size, R.defers, ⟨R.heap.len, fun k ob x hk hx => ?_, R.heap.notI, R.heap.apart, fun b hb => by rw [hsz]; exact R.heap.imm b hb⟩⟩
  refine (R.heap.objs k ob x hk hx).mono (fun _ h => h) hI (fun _ _ h => h) (fun l e => hw _ (fun e' => h1 ⟨k, l, ?_, e'⟩))
  subst e
  exact MM.loc_some.2 hx

theorem not_owns_kill {I : Nat → Prop} {μ : MM} {h : List AObj} {w : World} (H : RelH I μ h w) {k : Nat} {l : Loc} (hl : μ.loc k = some l) : ¬ MM.owns (μ.set k .gone) l.block := by
  rintro ⟨j, l', e, e'⟩
  rw [MM.loc_some] at e
  by_cases e3 : k = j
  · subst e3
    rcases Nat.lt_or_ge k μ.length with h1 | h1
    · rw [List.getElem?_set_self h1] at e; cases e
    · rw [List.getElem?_eq_none (by simpa using h1)] at e; cases e
  · rw [List.getElem?_set_ne e3] at e
    exact e3 (H.apart _ _ _ _ hl (MM.loc_some.2 e) e'.symm)

theorem rowVals_one {n s : Nat} {val : Nat → Nat → Value} (hs : 0 < s) (h : ∀ i j, i < n → j < s → (val i j).oneCell' = true) : ∀ v ∈ rowVals n s val, v.oneCell' = true := by
  intro v hv
  simp only [rowVals, List.mem_map, List.mem_range] at hv
  obtain ⟨q, hq, rfl⟩ := hv
  exact h _ _ (by rw [Nat.div_lt_iff_lt_mul hs]; exact hq) (Nat.mod_lt _ hs)

section
variable {P : Program} {w : World} {t u e ty : Nat} (ht : P.underlying t = some (.slice e)) (hu : P.underlying u = some .string ∨ ∃ e', P.underlying u = some (.slice e')) {i : TypeInfo} (hi : P.info? e = some i) {z : Value} (hz : i.zero = some z)
  {base : Option Addr} {sLen sCap n : Nat} {v : Value} {news : Array Value} (hlen : (Builtin.lenOf v).run P w = .ok n w) (hnew : ∀ w', w'.heap = w.heap → (Builtin.firstCells i.size n v).run P w' = .ok news w')
include ht hu hi hz hlen hnew

theorem run_append_new {olds : Array Value} (hold : ∀ w', w'.heap = w.heap → (Builtin.firstCells i.size sLen (.slice base sLen sCap)).run P w' = .ok olds w') (hg : sCap < sLen + n)
    (h63 : sLen + n ≤ 9223372036854775807) (hfit : (sLen + n) * i.bytes ≤ 140737488355328) :
    ∃ cap w', (Builtin.append_ #[t, u] ty #[.slice base sLen sCap, v]).run P w = .ok (.slice (some ⟨w.heap.size, 0, none⟩) (sLen + n) cap) w' ∧ sLen + n ≤ cap ∧
      w'.heap = w.heap.push (.cells (olds ++ news ++ Builtin.zeroCells z.cells (cap - (sLen + n))) e) ∧ w'.os = w.os ∧ w'.output = w.output := by
  have hn : ¬ (sLen + n ≤ sCap) := by omega
  have h48 : ¬ (281474976710656 < Builtin.nextslicecap (sLen + n) sCap * i.bytes) := by
    have := growslice_fits (need := sLen + n) (old := sCap) (bytes := i.bytes) hg hfit
    omega
  have h63' : ¬ (9223372036854775807 < ((sLen : Int) + (n : Int))) := by omega
  have h1 := hold w.drew rfl
  have h2 := hnew w.drew rfl
  refine ⟨(Question.appendCap (sLen + n) sCap e).cut (w.tape w.drawn (.appendCap (sLen + n) sCap e)), w.drew.alloc (.cells (olds ++ news ++ Builtin.zeroCells z.cells ((Question.appendCap (sLen + n) sCap e).cut (w.tape w.drawn (.appendCap (sLen + n) sCap e)) - (sLen + n))) e), ?_, ?_, rfl, rfl, rfl⟩
  · rcases hu with hd | ⟨e', hd⟩ <;>
      simp [Builtin.append_, run_underlying ht, run_underlying hd, sizeOf, typeInfo, zeroValue, hi, hz, hlen, hn, h63', h48, Question.forced, newRow, h1, h2]
  · simp only [Question.cut]; omega

theorem run_append_in {b off : Nat} (hbase : base = some ⟨b, off, none⟩) (hg : sLen + n ≤ sCap) :
    (Builtin.append_ #[t, u] ty #[.slice base sLen sCap, v]).run P w =
      ((storeCells ⟨b, off + sLen * i.size, none⟩ news.toList).run P w).andThen fun _ w' => .ok (.slice base (sLen + n) sCap) w' := by
  have _hz := hz
  rcases hu with hd | ⟨e', hd⟩ <;> simp [Builtin.append_, run_underlying ht, run_underlying hd, sizeOf, typeInfo, hi, hlen, hg, hbase, hnew w rfl, addr_add]

theorem run_append_zero (hb : base = none ∨ news = #[]) (hg : sLen + n ≤ sCap) :
    (Builtin.append_ #[t, u] ty #[.slice base sLen sCap, v]).run P w = .ok (.slice base (sLen + n) sCap) w := by
  have _hz := hz
  cases base with
  | none => rcases hu with hd | ⟨e', hd⟩ <;> simp [Builtin.append_, run_underlying ht, run_underlying hd, sizeOf, typeInfo, hi, hlen, hg, hnew w rfl]
  | some p =>
    rcases hb with hb | rfl
    · cases hb
    · rcases hu with hd | ⟨e', hd⟩ <;> simp [Builtin.append_, run_underlying ht, run_underlying hd, sizeOf, typeInfo, hi, hlen, hg, hnew w rfl, storeCells]
end

end Go.Q
