/- Operations that make memory. -/
import Derived.Test.YthdklcpkoeehnaaDoorQJ
namespace Go.Q
open Go

theorem SOp.box {P : Program} {n : Nat} {o : Oper} {N : St → Prop} {st : St} {t : TypeId} {x : Operand} (ho : o.op = .box t x) (hc : cellsQ st.h (aeval st x) = true)
    (hN : N (({ st with h := st.h ++ [.box (aeval st x).cells] } : St).put o.dst (.ptr st.h.length 0))) : SOp P n o N st := by
  refine SOp.newBox (fun I μ a w R => ?_) hN
  obtain ⟨h1, h2, h3⟩ := cellsQ_ok R.heap hc (R.eval x)
  exact ⟨(a.eval x).cells, t, by simp [execOp, ho, Instr.box, newVar, newRow], h1, h3⟩

/-- A type's zero value. -/
def azero (P : Program) (t : TypeId) : Option (List AV) :=
  match P.info? t with
  | some i => match i.zero with
    | some z => some (z.cells.toList.map constCell)
    | none => none
  | none => none

theorem rel_zero {I : Nat → Prop} {w : World} {μ : MM} {xs : Array Value} (j : Nat) (hj : j < (xs.toList.map constCell).length) : RelV I w μ (xs.toList.map constCell)[j] (xs.getD j Go.undef) := by
  have hj' : j < xs.size := by simpa using hj
  rw [getD_of hj']
  simp only [List.getElem_map, Array.getElem_toList]
  exact rel_constCell _

theorem SOp.alloc {P : Program} {n : Nat} {o : Oper} {N : St → Prop} {st : St} {t : TypeId} (ho : o.op = .alloc t) {cs : List AV} (hz : azero P t = some cs)
    (hN : N (({ st with h := st.h ++ [.box cs] } : St).put o.dst (.ptr st.h.length 0))) : SOp P n o N st := by
  refine SOp.newBox (fun I μ a w R => ?_) hN
  unfold azero at hz
  split at hz
  · rename_i i hi
    split at hz
    · rename_i z hiz
      cases hz
      exact ⟨z.cells, t, by simp [execOp, ho, Instr.alloc, zeroValue, typeInfo, hi, hiz, newVar, newRow], by simp, fun j hj => rel_zero j hj⟩
    · cases hz
  · cases hz

/-- Parts put into a value's cells. -/
def afill (place : Nat → Option (Nat × Nat)) (cs : List AV) : List (Nat × AV) → Option (List AV)
  | [] => some cs
  | (i, v) :: rest => match place i with
    | none => none
    | some (off, size) => if v.cells.length = size ∧ off + size ≤ cs.length then afill place (splice cs off v.cells) rest else none

theorem foldl_set (off : Nat) : ∀ (xs : List Value) (k : Nat) (cs : Array Value), off + k + xs.length ≤ cs.size →
    ((xs.zipIdx k).foldl (fun cs (p : Value × Nat) => cs.setIfInBounds (off + p.2) p.1) cs).size = cs.size ∧
    ∀ q, ((xs.zipIdx k).foldl (fun cs (p : Value × Nat) => cs.setIfInBounds (off + p.2) p.1) cs)[q]? = if off + k ≤ q ∧ q < off + k + xs.length then xs[q - (off + k)]? else cs[q]? := by
  intro xs
  induction xs with
  | nil => intro k cs _; exact ⟨rfl, fun q => by rw [if_neg (by simp only [List.length_nil]; omega)]; rfl⟩
  | cons x xs ih =>
    intro k cs h
    simp only [List.length_cons] at h
    obtain ⟨h1, h2⟩ := ih (k + 1) (cs.setIfInBounds (off + k) x) (by simp; omega)
    simp only [List.zipIdx_cons, List.foldl_cons]
    refine ⟨by rw [h1]; simp, fun q => ?_⟩
    rw [h2 q]
    simp only [List.length_cons]
    by_cases e : q = off + k
    · subst e
      rw [if_neg (by omega), if_pos (by omega), Array.getElem?_setIfInBounds_self_of_lt (by omega)]
      simp
    · by_cases e2 : off + (k + 1) ≤ q ∧ q < off + (k + 1) + xs.length
      · rw [if_pos e2, if_pos (by omega), show q - (off + k) = (q - (off + (k + 1))) + 1 by omega]
        simp
      · rw [if_neg e2, if_neg (by omega), Array.getElem?_setIfInBounds_ne (by omega)]

theorem afill_ok {I : Nat → Prop} {μ : MM} {h : List AObj} {w : World} (H : RelH I μ h w) (place : Nat → Option (Nat × Nat)) : ∀ (ps : List (Nat × AV)) (vs : List (Nat × Value)) (cs cs' : List AV) (xs : Array Value),
    afill place cs ps = some cs' → ps.length = vs.length → (∀ i (h1 : i < ps.length) (h2 : i < vs.length), (ps[i]).1 = (vs[i]).1 ∧ RelV I w μ (ps[i]).2 (vs[i]).2) → (∀ p ∈ ps, cellsQ h p.2 = true) →
    xs.size = cs.length → (∀ j (hj : j < cs.length), RelV I w μ cs[j] (xs.getD j Go.undef)) →
    ∃ xs', Instr.fill place xs vs = some xs' ∧ xs'.size = cs'.length ∧ cs'.length = cs.length ∧ ∀ j (hj : j < cs'.length), RelV I w μ cs'[j] (xs'.getD j Go.undef) := by
  intro ps
  induction ps with
  | nil =>
    intro vs cs cs' xs hf hl _ _ hx hr
    obtain rfl : vs = [] := by cases vs <;> simp_all
    cases hf
    exact ⟨xs, rfl, hx, rfl, hr⟩
  | cons p ps ih =>
    intro vs cs cs' xs hf hl hv hq hx hr
    cases vs with
    | nil => simp at hl
    | cons v vs =>
      obtain ⟨i, pv⟩ := p
      obtain ⟨i', vv⟩ := v
      have h0 := hv 0 (by simp) (by simp)
      simp only [List.getElem_cons_zero] at h0
      obtain ⟨rfl, h0⟩ := h0
      simp only [afill] at hf
      cases hp : place i with
      | none => rw [hp] at hf; cases hf
      | some os =>
        obtain ⟨off, size⟩ := os
        rw [hp] at hf
        simp only at hf
        split at hf
        · rename_i hc
          obtain ⟨hc1, hc2⟩ := hc
          subst hc1
          have q0 := cellsQ_ok H (c := pv) (hq (i, pv) (by simp)) h0
          obtain ⟨q1, q2, q3⟩ := q0
          obtain ⟨s1, s2⟩ := foldl_set off vv.cells.toList 0 xs (by simp only [Array.length_toList, q1]; omega)
          have harr : vv.cells.zipIdx.foldl (fun cs (c, j) => cs.setIfInBounds (off + j) c) xs = (vv.cells.toList.zipIdx 0).foldl (fun cs (p : Value × Nat) => cs.setIfInBounds (off + p.2) p.1) xs := by
            rw [← Array.foldl_toList, Array.toList_zipIdx]
          have hsl := splice_length hc2
          obtain ⟨xs', f1, f2, f3, f4⟩ := ih vs (splice cs off pv.cells) cs' (vv.cells.zipIdx.foldl (fun cs (c, j) => cs.setIfInBounds (off + j) c) xs) hf (by simpa using hl)
            (fun k h1 h2 => by
              have h3 := hv (k + 1) (by simp; omega) (by simp; omega)
              simp only [List.getElem_cons_succ] at h3
              exact h3) (fun p hp => hq p (by simp [hp])) (by rw [harr, s1, hsl, hx]) (fun j hj => by
              rw [harr]
              have hj2 : j < cs.length := by rw [hsl] at hj; exact hj
              rw [getD_of (by rw [s1]; omega)]
              have hs2 := s2 j
              rw [Array.getElem?_eq_getElem (by rw [s1]; omega)] at hs2
              rcases splice_get hc2 j hj with ⟨k1, k2, k3⟩ | ⟨k1, k2, k3⟩
              · rw [k3]
                rw [if_pos (by simp only [Array.length_toList, q1]; omega)] at hs2
                have hlt : j - off < vv.cells.size := by omega
                have h5 := q3 (j - off) k1
                rw [getD_of hlt] at h5
                have e : vv.cells.toList[j - (off + 0)]? = some (vv.cells[j - off]) := by simp [hlt]
                rw [e] at hs2
                rw [Option.some.inj hs2]
                exact h5
              · rw [k3]
                rw [if_neg (by simp only [Array.length_toList, q1]; omega)] at hs2
                have h5 := hr j k2
                rw [getD_of (by omega)] at h5
                rw [Array.getElem?_eq_getElem (by omega)] at hs2
                rw [Option.some.inj hs2]
                exact h5)
          refine ⟨xs', ?_, f2, by rw [f3, hsl], f4⟩
          simp only [Instr.fill, hp]
          rw [if_neg (by simp [q1]; omega)]
          exact f1
        · cases hf

/-- A struct, or an array, built of parts. -/
def abuild (P : Program) (t : TypeId) (ps : List (Nat × AV)) : Option (List AV) :=
  match azero P t, P.underlying t with
  | some cs, some (.array _ e) => match sizeQ P e with
    | some s => afill (fun i => some (i * s, s)) cs ps
    | none => none
  | some cs, some (.struct fields) => match fields.toList.mapM (fun f => (P.info? f.type).map fun i => (f.offset, i.size)) with
    | some places => afill (places.toArray[·]?) cs ps
    | none => none
  | _, _ => none

theorem SOp.build {P : Program} {n : Nat} {o : Oper} {N : St → Prop} {st : St} {t : TypeId} {parts : Array (Nat × Operand)} (ho : o.op = .build t parts) {cs : List AV}
    (hb : abuild P t (parts.toList.map fun p => (p.1, aeval st p.2)) = some cs) (hq : ∀ p ∈ parts.toList, cellsQ st.h (aeval st p.2) = true) (hN : N (st.put o.dst (.agg cs))) : SOp P n o N st := by
  refine SOp.pure (fun I μ a w R => ?_) hN
  have key : ∃ cells, P.built t (parts.toList.map fun p => (p.1, a.eval p.2)) = some cells ∧ cells.size = cs.length ∧ ∀ j (hj : j < cs.length), RelV I w μ cs[j] (cells.getD j Go.undef) := by
    unfold abuild at hb
    unfold Program.built
    have hzero : ∀ zs, azero P t = some zs → ∃ i z, P.info? t = some i ∧ i.zero = some z ∧ zs = z.cells.toList.map constCell := by
      intro zs hz
      unfold azero at hz
      split at hz
      · rename_i i hi
        split at hz
        · rename_i z hiz; cases hz; exact ⟨i, z, hi, hiz, rfl⟩
        · cases hz
      · cases hz
    have fin : ∀ place zs (z : Value), zs = z.cells.toList.map constCell → afill place zs (parts.toList.map fun p => (p.1, aeval st p.2)) = some cs →
        ∃ cells, Instr.fill place z.cells (parts.toList.map fun p => (p.1, a.eval p.2)) = some cells ∧ cells.size = cs.length ∧ ∀ j (hj : j < cs.length), RelV I w μ cs[j] (cells.getD j Go.undef) := by
      intro place zs z e hf
      subst e
      obtain ⟨xs', f1, f2, _, f4⟩ := afill_ok R.heap place _ (parts.toList.map fun p => (p.1, a.eval p.2)) _ cs z.cells hf (by simp) (fun i h1 h2 => by simp; exact R.eval _) (fun p hp => by
        simp only [List.mem_map] at hp
        obtain ⟨q, hq1, rfl⟩ := hp
        exact hq q hq1) (by simp) (fun j hj => rel_zero j hj)
      exact ⟨xs', f1, f2, f4⟩
    split at hb
    · rename_i zs _ e hz hu
      obtain ⟨i, z, hi, hiz, rfl⟩ := hzero zs hz
      split at hb
      · rename_i s hs
        unfold sizeQ at hs
        cases hie : P.info? e with
        | none => rw [hie] at hs; cases hs
        | some ie =>
          rw [hie] at hs
          simp only [Option.map_some, Option.some.injEq] at hs
          subst hs
          simp only [hi, hu, hiz, hie]
          exact fin _ _ z rfl hb
      · cases hb
    · rename_i zs fields hz hu
      obtain ⟨i, z, hi, hiz, rfl⟩ := hzero zs hz
      split at hb
      · rename_i places hp
        simp only [hi, hu, hiz, hp]
        exact fin _ _ z rfl hb
      · cases hb
    · cases hb
  obtain ⟨cells, h1, h2, h3⟩ := key
  refine ⟨.agg cells, ?_, .agg _ _ _ h2 h3⟩
  have hmap : (parts.map fun (i, x) => (i, a.eval x)).toList = parts.toList.map fun p => (p.1, a.eval p.2) := by simp
  have := run_build (P := P) w t (parts.map fun (i, x) => (i, a.eval x)) cells (by rw [hmap]; exact h1)
  simp only [execOp, ho, Sem.run_bind, this, Result.andThen_ok, Sem.run_pure]

end Go.Q
