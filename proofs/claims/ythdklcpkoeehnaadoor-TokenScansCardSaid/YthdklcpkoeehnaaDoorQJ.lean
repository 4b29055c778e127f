/- The other operations, one lemma each. -/
import Derived.Test.YthdklcpkoeehnaaDoorQI
namespace Go.Q
open Go

/-- The byte of a text at a place. -/
def bt (s : ByteArray) (i : Int) : Int := ((s.data.toList.getD i.toNat 0).toNat : Int)

theorem SOp.index {P : Program} {n : Nat} {o : Oper} {N : St → Prop} {st : St} {t : TypeId} {x y : Operand} (ho : o.op = .index t x y) (ht : P.underlying t = some .string) {s : ByteArray} {k : IntKind} {i : Int}
    (hx : aeval st x = .lit (.string s)) (hy : aeval st y = .lit (.int k i)) (h0 : 0 ≤ i) (h1 : i < s.size) (hN : N (st.put o.dst (.lit (.int .u8 (bt s i))))) : SOp P n o N st := by
  refine SOp.pure (fun I μ a w R => ⟨.int .u8 (bt s i), ?_, .lit _ _⟩) hN
  have e1 := R.eval x; rw [hx] at e1
  have e2 := R.eval y; rw [hy] at e2
  simp only [execOp, ho, e1.lit_eq, e2.lit_eq, Sem.run_bind, run_index_string w t s k i ht]
  rw [dif_pos ⟨h0, h1⟩]
  have hlt : i.toNat < s.data.size := by
    have : s.data.size = s.size := rfl
    omega
  have : (s.data.toList.getD i.toNat 0) = s[i.toNat]'(by omega) := by
    simp only [List.getD, Array.getElem?_toList, Array.getElem?_eq_getElem hlt, Option.getD_some]
    rfl
  simp only [bt, this, Result.andThen_ok, Sem.run_pure]

theorem SOp.indexVs {P : Program} {n : Nat} {o : Oper} {N : St → Prop} {st : St} {t et : TypeId} {x y : Operand} (ho : o.op = .indexAddr t x y) (ht : P.underlying t = some (.slice et)) {s : Nat} (hsz : sizeQ P et = some s)
    {es : List AV} (hx : aeval st x = .vs s es) {k : IntKind} {i : Int} (hy : aeval st y = .lit (.int k i)) (h0 : 0 ≤ i) {e : AV} (he : es[i.toNat]? = some e) (hN : N (st.put o.dst (.iptr e))) : SOp P n o N st := by
  refine SOp.pure (fun I μ a w R => ?_) hN
  have e1 := R.eval x; rw [hx] at e1
  have e2 := R.eval y; rw [hy] at e2
  obtain ⟨ad, cap, val, hv, _⟩ := e1.vs_inv
  rw [hv] at e1
  obtain ⟨b, off, rfl, hlt, hr⟩ := e1.vs_at he
  refine ⟨_, ?_, hr⟩
  have h2 : 0 ≤ i ∧ i < (es.length : Int) := ⟨h0, by omega⟩
  simp only [execOp, ho, Instr.indexAt, hv, e2.lit_eq, asIntOf, Sem.run_bind, Sem.run_pure, Result.andThen_ok, run_underQ ht, h2, and_self, if_true, Sem.run_ite, run_sizeQ hsz]

theorem SOp.sliceStr {P : Program} {n : Nat} {o : Oper} {N : St → Prop} {st : St} {t : TypeId} {x : Operand} {lo hi : Option Operand} (ho : o.op = .slice t x lo hi none) (ht : P.underlying t = some .string) {s : ByteArray}
    (hx : aeval st x = .lit (.string s)) (h : asl (lo.map (aeval st)) (hi.map (aeval st)) s.size (fun l r => N (st.put o.dst (.lit (.string (s.extract l r)))))) : SOp P n o N st := by
  obtain ⟨l, r, hlr, hr, hN, hb⟩ := asl_ok (P := P) h
  refine SOp.pure (fun I μ a w R => ⟨.string (s.extract l r), ?_, .lit _ _⟩) hN
  have e1 := R.eval x; rw [hx] at e1
  have hb' := hb I μ a w R false s.size (Nat.le_refl _)
  simp only [execOp, ho, e1.lit_eq, Sem.run_bind, Option.map_none, run_sliceAt_string w t _ _ _ _ ht, Instr.slice, run_underQ ht, Result.andThen_ok, Option.isSome_none, Bool.false_eq_true, if_false, Sem.run_pure, hb']

theorem SOp.sliceVs {P : Program} {n : Nat} {o : Oper} {N : St → Prop} {st : St} {t et : TypeId} {x : Operand} {lo hi : Option Operand} (ho : o.op = .slice t x lo hi none) (ht : P.underlying t = some (.slice et)) {s : Nat} (hsz : sizeQ P et = some s)
    {es : List AV} (hx : aeval st x = .vs s es) (h : asl (lo.map (aeval st)) (hi.map (aeval st)) es.length (fun l r => N (st.put o.dst (.vs s ((es.drop l).take (r - l)))))) : SOp P n o N st := by
  obtain ⟨l, r, hlr, hr, hN, hb⟩ := asl_ok (P := P) h
  refine SOp.pure (fun I μ a w R => ?_) hN
  have e1 := R.eval x; rw [hx] at e1
  obtain ⟨ad, cap, val, hv, hcap, _⟩ := e1.vs_inv
  rw [hv] at e1
  refine ⟨_, ?_, e1.vs_cut hlr hr⟩
  have hb' := hb I μ a w R true cap hcap
  have he : P.elem t = et := by simp [Program.elem, ht]
  simp only [execOp, ho, hv, Sem.run_bind, Option.map_none, run_sliceAt_slice w t _ _ _ _ (by rw [he]; exact ht), Instr.slice, run_underQ ht, Result.andThen_ok, hb', run_sizeQ hsz, Sem.run_pure, sliced]

theorem SOp.sliceRef {P : Program} {n : Nat} {o : Oper} {N : St → Prop} {st : St} {t et : TypeId} {x : Operand} {lo hi : Option Operand} (ho : o.op = .slice t x lo hi none) (ht : P.underlying t = some (.slice et)) {s : Nat} (hsz : sizeQ P et = some s)
    {k off len : Nat} {es : List AV} (hx : aeval st x = .ref k off len) (hk : st.h[k]? = some (.arr s es)) (h : asl (lo.map (aeval st)) (hi.map (aeval st)) len (fun l r => N (st.put o.dst (.ref k (off + l) (r - l))))) : SOp P n o N st := by
  obtain ⟨l, r, hlr, hr, hN, hb⟩ := asl_ok (P := P) h
  refine SOp.pure (fun I μ a w R => ?_) hN
  have e1 := R.eval x; rw [hx] at e1
  have he : P.elem t = et := by simp [Program.elem, ht]
  have run : ∀ ad cap, a.eval x = .slice ad len cap → len ≤ cap → (execOp a.eval o).run P w = .ok (.value (sliced ad l r cap s)) w := by
    intro ad cap hv hcap
    have hb' := hb I μ a w R true cap hcap
    simp only [execOp, ho, hv, Sem.run_bind, Option.map_none, run_sliceAt_slice w t _ _ _ _ (by rw [he]; exact ht), Instr.slice, run_underQ ht, Result.andThen_ok, hb', run_sizeQ hsz, Sem.run_pure, sliced]
  rcases Rel.ref R.heap hk e1 with ⟨e, rfl, rfl, rfl, hs⟩ | ⟨ad, l', e, rfl, hl⟩ | ⟨l', cap, val, hl, e, hcap, hle, hes, _⟩
  · obtain rfl : r = 0 := by omega
    obtain rfl : l = 0 := by omega
    refine ⟨_, run _ _ e (by omega), ?_⟩
    simpa [sliced] using RelV.ref0 (I := I) (w := w) μ k hs
  · obtain rfl : r = 0 := by omega
    obtain rfl : l = 0 := by omega
    refine ⟨_, run _ _ e (by omega), ?_⟩
    simpa [sliced] using RelV.refE (I := I) (w := w) μ k (off + 0) l' ad hl
  · refine ⟨_, run _ _ e hcap, ?_⟩
    unfold sliced
    by_cases hc : cap = l
    · subst hc
      have : r - cap = 0 := by omega
      rw [if_pos rfl, this, Nat.sub_self]
      exact .refE _ _ _ l' _ hl
    · rw [if_neg hc]
      simp only [Option.map_some, addr_add]
      have := RelV.ref (I := I) (w := w) μ k (off + l) (r - l) (cap - l) l' hl (by omega) (by rw [hes]; rw [show off + l + (cap - l) = off + cap by omega]; exact hle)
      rw [hes, Nat.add_mul, ← Nat.add_assoc] at this
      exact this

theorem SOp.lenStr {P : Program} {n : Nat} {o : Oper} {N : St → Prop} {st : St} {t : TypeId} {x : Operand} (ho : o.op = .call { callee := .builtin .len, args := #[x], argTypes := #[t] }) (ht : P.underlying t = some .string) {s : ByteArray}
    (hx : aeval st x = .lit (.string s)) (hN : N (st.put o.dst (.lit (.int .i64 s.size)))) : SOp P n o N st := by
  refine SOp.pure (fun I μ a w R => ⟨.int .i64 s.size, ?_, .lit _ _⟩) hN
  have e1 := R.eval x; rw [hx] at e1
  have := run_len_string (P := P) w t o.type s ht
  simp only [execOp, ho, resolve, List.map_toArray, List.map_cons, List.map_nil, e1.lit_eq, pure_bind, invoke, builtin, Sem.run_bind, this, Result.andThen_ok, Sem.run_pure, goInt]

theorem run_lenSlice {P : Program} {w : World} {t et ty : TypeId} (ht : P.underlying t = some (.slice et)) {a : Option Addr} {len cap : Nat} : (Builtin.len_ #[t] ty #[.slice a len cap]).run P w = .ok (goInt len) w := by
  simp [Builtin.len_, run_underQ ht]

/-- How long a slice is. -/
def alen : AV → Option Nat
  | .nils => some 0
  | .vs _ es => some es.length
  | .ref _ _ len => some len
  | _ => none

/-- Is it a slice that can still be used? -/
def usable (h : List AObj) : AV → Bool
  | .ref k _ _ => match h[k]? with | some (.arr _ _) => true | _ => false
  | _ => true

theorem alen_ok {I : Nat → Prop} {μ : MM} {h : List AObj} {w : World} (H : RelH I μ h w) {av : AV} {m : Nat} (hm : alen av = some m) (hu : usable h av = true) {v : Value} (hv : RelV I w μ av v) : ∃ a cap, v = .slice a m cap := by
  cases av <;> simp only [alen] at hm <;> try (cases hm; done)
  · cases hm; cases hv; exact ⟨_, _, rfl⟩
  · cases hm
    obtain ⟨a, cap, _, e, _⟩ := hv.vs_inv
    exact ⟨a, cap, e⟩
  · rename_i k off len
    cases hm
    simp only [usable] at hu
    split at hu
    · rename_i s es hk
      rcases Rel.ref H hk hv with ⟨e, rfl, rfl, _⟩ | ⟨ad, l, e, rfl, _⟩ | ⟨l, cap, val, hl, e, _⟩
      · exact ⟨_, _, e⟩
      · exact ⟨_, _, e⟩
      · exact ⟨_, _, e⟩
    · cases hu

theorem SOp.lenSlice {P : Program} {n : Nat} {o : Oper} {N : St → Prop} {st : St} {t et : TypeId} {x : Operand} (ho : o.op = .call { callee := .builtin .len, args := #[x], argTypes := #[t] }) (ht : P.underlying t = some (.slice et)) {m : Nat}
    (hm : alen (aeval st x) = some m) (hu : usable st.h (aeval st x) = true) (hN : N (st.put o.dst (.lit (.int .i64 m)))) : SOp P n o N st := by
  refine SOp.pure (fun I μ a w R => ⟨.int .i64 m, ?_, .lit _ _⟩) hN
  obtain ⟨ad, cap, e⟩ := alen_ok R.heap hm hu (R.eval x)
  have := run_lenSlice (P := P) (w := w) (ty := o.type) (a := ad) (len := m) (cap := cap) ht
  simp only [execOp, ho, resolve, List.map_toArray, List.map_cons, List.map_nil, e, pure_bind, invoke, builtin, Sem.run_bind, this, Result.andThen_ok, Sem.run_pure, goInt]

theorem SOp.max2 {P : Program} {n : Nat} {o : Oper} {N : St → Prop} {st : St} {ts : Array TypeId} {x y : Operand} (ho : o.op = .call { callee := .builtin .max, args := #[x, y], argTypes := ts }) {k k' : IntKind} {a b : Int}
    (hx : aeval st x = .lit (.int k a)) (hy : aeval st y = .lit (.int k' b)) (hN : N (st.put o.dst (.lit (.int k (if b > a then b else a))))) : SOp P n o N st := by
  refine SOp.pure (fun I μ a w R => ⟨_, ?_, .lit _ _⟩) hN
  have e1 := R.eval x; rw [hx] at e1
  have e2 := R.eval y; rw [hy] at e2
  simp only [execOp, ho, resolve, List.map_toArray, List.map_cons, List.map_nil, e1.lit_eq, e2.lit_eq, pure_bind, invoke, builtin, Sem.run_bind, run_max_int2, Result.andThen_ok, Sem.run_pure]

theorem SOp.min2 {P : Program} {n : Nat} {o : Oper} {N : St → Prop} {st : St} {ts : Array TypeId} {x y : Operand} (ho : o.op = .call { callee := .builtin .min, args := #[x, y], argTypes := ts }) {k k' : IntKind} {a b : Int}
    (hx : aeval st x = .lit (.int k a)) (hy : aeval st y = .lit (.int k' b)) (hN : N (st.put o.dst (.lit (.int k (if b < a then b else a))))) : SOp P n o N st := by
  refine SOp.pure (fun I μ a w R => ⟨_, ?_, .lit _ _⟩) hN
  have e1 := R.eval x; rw [hx] at e1
  have e2 := R.eval y; rw [hy] at e2
  simp only [execOp, ho, resolve, List.map_toArray, List.map_cons, List.map_nil, e1.lit_eq, e2.lit_eq, pure_bind, invoke, builtin, Sem.run_bind, run_min_int2, Result.andThen_ok, Sem.run_pure]

theorem SOp.move {P : Program} {n : Nat} {o : Oper} {N : St → Prop} {st : St} {x : Operand} (ho : o.op = .move x ∨ o.op = .assign x) (hN : N (st.put o.dst (aeval st x))) : SOp P n o N st := by
  refine SOp.pure (fun I μ a w R => ⟨a.eval x, ?_, R.eval x⟩) hN
  rcases ho with ho | ho <;> simp only [execOp, ho, Sem.run_pure]

theorem SOp.pick {P : Program} {n : Nat} {o : Oper} {N : St → Prop} {st : St} {c x y : Operand} (ho : o.op = .pick c x y) {b : Bool} (hc : aeval st c = .lit (.bool b)) (h1 : b = true → N (st.put o.dst (aeval st x)))
    (h2 : b = false → N (st.put o.dst (aeval st y))) : SOp P n o N st := by
  cases b with
  | true =>
    refine SOp.pure (fun I μ a w R => ⟨a.eval x, ?_, R.eval x⟩) (h1 rfl)
    have e1 := R.eval c; rw [hc] at e1
    simp [execOp, ho, e1.lit_eq, asBool]
  | false =>
    refine SOp.pure (fun I μ a w R => ⟨a.eval y, ?_, R.eval y⟩) (h2 rfl)
    have e1 := R.eval c; rw [hc] at e1
    simp [execOp, ho, e1.lit_eq, asBool]

theorem SOp.bin {P : Program} {n : Nat} {o : Oper} {N : St → Prop} {st : St} {op : BinOp} {t u : TypeId} {x y : Operand} (ho : o.op = .binOp op t x y u) (h : abin P op t (aeval st x) (aeval st y) (fun v => N (st.put o.dst v))) : SOp P n o N st := by
  obtain ⟨av, hN, hr⟩ := abin_ok h
  refine SOp.pure (fun I μ a w R => ?_) hN
  obtain ⟨r, h1, h2⟩ := hr I w μ _ _ x y (R.eval x) (R.eval y)
  simp only [Sem.run_bind] at h1
  refine ⟨r, ?_, h2⟩
  simp only [execOp, ho, Sem.run_bind]
  rw [h1]; rfl

theorem SOp.un {P : Program} {n : Nat} {o : Oper} {N : St → Prop} {st : St} {op : UnOp} {t : TypeId} {x : Operand} (ho : o.op = .unOp op t x) (h : aun op (aeval st x) (fun v => N (st.put o.dst v))) : SOp P n o N st := by
  obtain ⟨av, hN, hr⟩ := aun_ok (P := P) h
  refine SOp.pure (fun I μ a w R => ?_) hN
  obtain ⟨r, h1, h2⟩ := hr I w μ _ (R.eval x)
  exact ⟨r, by simp only [execOp, ho, Sem.run_bind, h1, Result.andThen_ok, Sem.run_pure], h2⟩

theorem SOp.extract {P : Program} {n : Nat} {o : Oper} {N : St → Prop} {st : St} {x : Operand} {i : Nat} (ho : o.op = .extract x i) {vs : List AV} (hx : aeval st x = .tup vs) {v : AV} (hv : vs[i]? = some v) (hN : N (st.put o.dst v)) : SOp P n o N st := by
  refine SOp.pure (fun I μ a w R => ?_) hN
  have e1 := R.eval x; rw [hx] at e1
  obtain ⟨xs, e, hn, hr⟩ := e1.tup_inv
  have hi : i < vs.length := by
    rcases Nat.lt_or_ge i vs.length with h1 | h1
    · exact h1
    · rw [List.getElem?_eq_none h1] at hv; cases hv
  rw [List.getElem?_eq_getElem hi] at hv
  cases hv
  have := hr i hi
  rw [getD_of (by omega)] at this
  refine ⟨_, ?_, this⟩
  simp only [execOp, ho, e, Sem.run_bind, Instr.extract]
  rw [Array.getElem?_eq_getElem (by omega)]
  rfl

theorem SOp.field {P : Program} {n : Nat} {o : Oper} {N : St → Prop} {st : St} {t : TypeId} {x : Operand} {f : Nat} (ho : o.op = .field t x f) {cs : List AV} (hx : aeval st x = .agg cs) {v : AV} (hv : afield P t cs f = some v) (hN : N (st.put o.dst v)) : SOp P n o N st := by
  refine SOp.pure (fun I μ a w R => ?_) hN
  have e1 := R.eval x; rw [hx] at e1
  obtain ⟨r, h1, h2⟩ := afield_ok hv e1
  exact ⟨r, by simp only [execOp, ho, Sem.run_bind, h1, Result.andThen_ok, Sem.run_pure], h2⟩

/-- Where a field lies, and how many cells it takes (never none). -/
def aplace (P : Program) (t : TypeId) (f : Nat) : Option Nat :=
  match P.underlying t with
  | some (.struct fs) => match fs[f]? with
    | some fl => match sizeQ P fl.type with
      | some 0 => none
      | some _ => some fl.offset
      | none => none
    | none => none
  | _ => none

theorem aplace_ok {P : Program} {w : World} {t : TypeId} {f off b base : Nat} (h : aplace P t f = some off) : (Instr.fieldAt t (.pointer (some ⟨b, base, none⟩)) f).run P w = .ok (.pointer (some ⟨b, base + off, none⟩)) w := by
  unfold aplace at h
  split at h
  · rename_i fs hu
    split at h
    · rename_i fl hf
      split at h
      · cases h
      · rename_i m hne hs
        cases h
        have hm : m ≠ 0 := by rintro rfl; exact hne rfl
        simp only [Instr.fieldAt, Sem.run_bind, run_underQ hu, Result.andThen_ok, hf, Instr.sureAddr, Sem.run_pure, fieldPlace, run_sizeQ hs, hm, if_false, Sem.run_ite, addr_add]
      · cases h
    · cases h
  · cases h

theorem RelV.ptr_inv {I : Nat → Prop} {w : World} {μ : MM} {k j : Nat} {v : Value} (h : RelV I w μ (.ptr k j) v) : (∃ l, μ.loc k = some l ∧ v = .pointer (some ⟨l.block, l.base + j, none⟩)) ∨ μ[k]? = some .gone := by
  cases h with
  | ptr _ _ _ l hl => exact .inl ⟨l, hl, rfl⟩
  | ptrX _ _ _ _ hl => exact .inr hl

theorem RelV.eptr_inv {I : Nat → Prop} {w : World} {μ : MM} {k i j : Nat} {v : Value} (h : RelV I w μ (.eptr k i j) v) : (∃ l, μ.loc k = some l ∧ v = .pointer (some ⟨l.block, l.base + i * l.esz + j, none⟩)) ∨ μ[k]? = some .gone := by
  cases h with
  | eptr _ _ _ _ l hl => exact .inl ⟨l, hl, rfl⟩
  | eptrX _ _ _ _ _ hl => exact .inr hl

theorem SOp.fieldPtr {P : Program} {n : Nat} {o : Oper} {N : St → Prop} {st : St} {t : TypeId} {x : Operand} {f off : Nat} (ho : o.op = .fieldAddr t x f) (hf : aplace P t f = some off) {k j : Nat} {ob : AObj}
    (hx : aeval st x = .ptr k j) (hk : st.h[k]? = some ob) (hne : ob ≠ .dead) (hN : N (st.put o.dst (.ptr k (j + off)))) : SOp P n o N st := by
  refine SOp.pure (fun I μ a w R => ?_) hN
  have e1 := R.eval x; rw [hx] at e1
  rcases e1.ptr_inv with ⟨l, hl, e⟩ | hg
  · refine ⟨.pointer (some ⟨l.block, l.base + (j + off), none⟩), ?_, .ptr _ _ _ l hl⟩
    simp only [execOp, ho, e, Sem.run_bind, aplace_ok hf, Result.andThen_ok, Sem.run_pure, Nat.add_assoc]
  · obtain ⟨y, hy, hO⟩ := Rel.slot R.heap hk
    rw [hg] at hy; cases hy
    exact absurd hO.not_gone hne

theorem SOp.fieldEptr {P : Program} {n : Nat} {o : Oper} {N : St → Prop} {st : St} {t : TypeId} {x : Operand} {f off : Nat} (ho : o.op = .fieldAddr t x f) (hf : aplace P t f = some off) {k i j : Nat} {ob : AObj}
    (hx : aeval st x = .eptr k i j) (hk : st.h[k]? = some ob) (hne : ob ≠ .dead) (hN : N (st.put o.dst (.eptr k i (j + off)))) : SOp P n o N st := by
  refine SOp.pure (fun I μ a w R => ?_) hN
  have e1 := R.eval x; rw [hx] at e1
  rcases e1.eptr_inv with ⟨l, hl, e⟩ | hg
  · refine ⟨.pointer (some ⟨l.block, l.base + i * l.esz + (j + off), none⟩), ?_, .eptr _ _ _ _ l hl⟩
    simp only [execOp, ho, e, Sem.run_bind, aplace_ok hf, Result.andThen_ok, Sem.run_pure, Nat.add_assoc]
  · obtain ⟨y, hy, hO⟩ := Rel.slot R.heap hk
    rw [hg] at hy; cases hy
    exact absurd hO.not_gone hne

theorem acut_cells {P : Program} {t : TypeId} {cs : List AV} {off : Nat} {c : AV} (h : acut P t cs off = some c) (hc : aggQ P t = some true ∨ c.isAgg = false) :
    off + c.cells.length ≤ cs.length ∧ ∀ j (hj : j < c.cells.length) (hj' : off + j < cs.length), c.cells[j] = cs[off + j] := by
  unfold acut at h
  split at h
  · split at h
    · cases h
      refine ⟨by simp [AV.cells]; omega, fun j hj hj' => by simp [AV.cells]⟩
    · cases h
  · rename_i ha
    have hlt : off < cs.length := by
      rcases Nat.lt_or_ge off cs.length with h1 | h1
      · exact h1
      · rw [List.getElem?_eq_none h1] at h; cases h
    rw [List.getElem?_eq_getElem hlt] at h
    obtain rfl := Option.some.inj h
    rcases hc with h1 | h1
    · rw [ha] at h1; cases h1
    · have hcells : (cs[off]).cells = [cs[off]] := by
        generalize cs[off] = c at h1
        cases c <;> first | rfl | cases h1
      refine ⟨by rw [hcells]; exact hlt, fun j hj hj' => ?_⟩
      have : j = 0 := by rw [hcells] at hj; simpa using hj
      subst this
      simp [hcells]
  · cases h

/-- A field of a struct in immutable memory. -/
def aifield (P : Program) (t : TypeId) (cs : List AV) (f : Nat) : Option AV :=
  match P.underlying t with
  | some (.struct fs) => match fs[f]? with
    | some fl => match aggQ P fl.type, acut P fl.type cs fl.offset with
      | some true, some c => some c
      | some false, some c => if c.isAgg then none else some c
      | _, _ => none
    | none => none
  | _ => none

theorem SOp.fieldIptr {P : Program} {n : Nat} {o : Oper} {N : St → Prop} {st : St} {t : TypeId} {x : Operand} {f off : Nat} (ho : o.op = .fieldAddr t x f) (hf : aplace P t f = some off) {cs : List AV} {c : AV}
    (hx : aeval st x = .iptr (.agg cs)) (hc : aifield P t cs f = some c) (hN : N (st.put o.dst (.iptr c))) : SOp P n o N st := by
  refine SOp.pure (fun I μ a w R => ?_) hN
  have e1 := R.eval x; rw [hx] at e1
  obtain ⟨b, base, val, e, hI, hcell, hr⟩ := e1.iptr_inv
  refine ⟨.pointer (some ⟨b, base + off, none⟩), ?_, ?_⟩
  · simp only [execOp, ho, e, Sem.run_bind, aplace_ok hf, Result.andThen_ok, Sem.run_pure]
  · have key : off + c.cells.length ≤ cs.length ∧ ∀ j (hj : j < c.cells.length) (hj' : off + j < cs.length), c.cells[j] = cs[off + j] := by
      unfold aplace at hf
      unfold aifield at hc
      split at hf
      · rename_i fs hu
        rw [hu] at hc
        simp only at hc
        split at hf
        · rename_i fl hfl
          rw [hfl] at hc
          simp only at hc
          split at hf
          · cases hf
          · cases hf
            split at hc
            · rename_i ha hcut
              cases hc
              exact acut_cells hcut (.inl ha)
            · rename_i ha hcut
              split at hc
              · cases hc
              · rename_i hn
                cases hc
                exact acut_cells hcut (.inr (by simpa using hn))
            · cases hc
          · cases hf
        · cases hf
      · cases hf
    obtain ⟨h1, h2⟩ := key
    have hcs : (AV.agg cs).cells = cs := rfl
    refine .iptr μ c b (base + off) (fun j => val (off + j)) hI (fun j hj => ?_) (fun j hj => ?_)
    · rw [Nat.add_assoc]; exact hcell (off + j) (by rw [hcs]; omega)
    · rw [h2 j hj (by omega)]
      exact hr (off + j) (by rw [hcs]; omega)

theorem SOp.convInt {P : Program} {n : Nat} {o : Oper} {N : St → Prop} {st : St} {s t : TypeId} {x : Operand} (ho : o.op = .convert s t x) {sd : TypeDesc} (hs : P.underlying s = some sd) {k k' : IntKind} (ht : P.underlying t = some (.int k)) {i : Int}
    (hx : aeval st x = .lit (.int k' i)) (hN : N (st.put o.dst (.lit (.int k (k.wrap i))))) : SOp P n o N st := by
  refine SOp.pure (fun I μ a w R => ⟨.int k (k.wrap i), ?_, .lit _ _⟩) hN
  have e1 := R.eval x; rw [hx] at e1
  simp [execOp, ho, e1.lit_eq, convert, run_underQ hs, run_underQ ht, Conv.intToInt]

theorem SOp.convStr {P : Program} {n : Nat} {o : Oper} {N : St → Prop} {st : St} {s t : TypeId} {x : Operand} (ho : o.op = .convert s t x) {sd : TypeDesc} (hs : P.underlying s = some sd) (ht : P.underlying t = some .string) {b : ByteArray}
    (hx : aeval st x = .lit (.string b)) (hN : N (st.put o.dst (.lit (.string b)))) : SOp P n o N st := by
  refine SOp.pure (fun I μ a w R => ⟨.string b, ?_, .lit _ _⟩) hN
  have e1 := R.eval x; rw [hx] at e1
  simp [execOp, ho, e1.lit_eq, convert, run_underQ hs, run_underQ ht]

/-- A text of bytes. -/
def ofInts (ns : List Int) : ByteArray := ⟨(ns.map fun n => UInt8.ofNat n.toNat).toArray⟩

theorem foldl_ofInts (ns : List Int) : ∀ b : ByteArray, ns.foldl (fun r n => r.push (UInt8.ofNat n.toNat)) b = ⟨b.data ++ (ns.map fun n => UInt8.ofNat n.toNat).toArray⟩ := by
  induction ns with
  | nil => intro b; simp
  | cons x xs ih =>
    intro b
    rw [List.foldl_cons, ih]
    congr 1
    apply Array.ext'
    simp [ByteArray.push]

theorem SOp.convBytes {P : Program} {n : Nat} {o : Oper} {N : St → Prop} {st : St} {s t e : TypeId} {x : Operand} (ho : o.op = .convert s t x) (hs : P.underlying s = some (.slice e)) (he : P.underlying e = some (.int .u8)) (ht : P.underlying t = some .string)
    {ns : List Int} (hsrc : Src P st x 1 (ns.map fun n => .lit (.int .u8 n))) (hal : ∃ m, alen (aeval st x) = some m) (hu : usable st.h (aeval st x) = true) (hN : N (st.put o.dst (.lit (.string (ofInts ns))))) : SOp P n o N st := by
  refine SOp.pure (fun I μ a w R => ⟨.string (ofInts ns), ?_, .lit _ _⟩) hN
  obtain ⟨m, hm⟩ := hal
  obtain ⟨ad, cap, ev⟩ := alen_ok R.heap hm hu (R.eval x)
  obtain ⟨val, hE, hlen, hfc, _⟩ := hsrc I μ a w R
  rw [ev] at hlen hfc
  have hml : m = ns.length := by
    simp [Builtin.lenOf] at hlen; exact hlen
  subst hml
  have h1 := hfc ns.length (by simp) w rfl
  have hvals : rowVals ns.length 1 val = ns.map (Value.int .u8) := by
    apply List.ext_getElem
    · simp [rowVals]
    · intro i h1 h2
      simp only [List.length_map] at h2
      have := hE.2 i (by simpa using h2) 0 (by simp [AV.cells])
      simp only [List.getElem_map, AV.cells, List.getElem_cons_zero] at this
      simp only [rowVals, List.getElem_map, List.getElem_range, Nat.div_one, Nat.mod_one, Nat.mul_one]
      exact this.lit_eq
  rw [hvals] at h1
  simp only [execOp, ho, ev, Sem.run_bind, run_convert_bytes_string w s t e _ _ _ hs he ht]
  cases ad with
  | none =>
    simp [Builtin.firstCells] at h1
    have : ns = [] := by simpa using h1
    subst this
    simp [Conv.bytesToString, ofInts]; rfl
  | some p =>
    simp only [Builtin.firstCells, Nat.mul_one] at h1
    rw [run_bytesToString w p ns.length cap ns h1, foldl_ofInts]
    simp [ofInts]

theorem SOp.nilCheck {P : Program} {n : Nat} {o : Oper} {N : St → Prop} {st : St} {x : Operand} (ho : o.op = .nilCheck x) {k j : Nat} {ob : AObj} (hx : aeval st x = .ptr k j) (hk : st.h[k]? = some ob) (hne : ob ≠ .dead)
    (hN : N (st.put o.dst (.ptr k j))) : SOp P n o N st := by
  refine SOp.pure (fun I μ a w R => ?_) hN
  have e1 := R.eval x; rw [hx] at e1
  rcases e1.ptr_inv with ⟨l, hl, e⟩ | hg
  · exact ⟨.pointer (some ⟨l.block, l.base + j, none⟩), by simp [execOp, ho, e], .ptr _ _ _ l hl⟩
  · obtain ⟨y, hy, hO⟩ := Rel.slot R.heap hk
    rw [hg] at hy; cases hy
    exact absurd hO.not_gone hne

theorem SOp.nilCheckE {P : Program} {n : Nat} {o : Oper} {N : St → Prop} {st : St} {x : Operand} (ho : o.op = .nilCheck x) {k i j : Nat} {ob : AObj} (hx : aeval st x = .eptr k i j) (hk : st.h[k]? = some ob) (hne : ob ≠ .dead)
    (hN : N (st.put o.dst (.eptr k i j))) : SOp P n o N st := by
  refine SOp.pure (fun I μ a w R => ?_) hN
  have e1 := R.eval x; rw [hx] at e1
  rcases e1.eptr_inv with ⟨l, hl, e⟩ | hg
  · exact ⟨_, by simp [execOp, ho, e], .eptr _ _ _ _ l hl⟩
  · obtain ⟨y, hy, hO⟩ := Rel.slot R.heap hk
    rw [hg] at hy; cases hy
    exact absurd hO.not_gone hne

theorem SOp.nilCheckI {P : Program} {n : Nat} {o : Oper} {N : St → Prop} {st : St} {x : Operand} (ho : o.op = .nilCheck x) {c : AV} (hx : aeval st x = .iptr c) (hN : N (st.put o.dst (.iptr c))) : SOp P n o N st := by
  refine SOp.pure (fun I μ a w R => ?_) hN
  have e1 := R.eval x; rw [hx] at e1
  obtain ⟨b, off, val, e, _⟩ := e1.iptr_inv
  rw [e] at e1
  exact ⟨_, by simp only [execOp, ho, e, Sem.run_pure], e1⟩

theorem SOp.makeFunc {P : Program} {n : Nat} {o : Oper} {N : St → Prop} {st : St} {f : Fn} {first captured : Array Operand} (ho : o.op = .makeFunc f first captured)
    (hN : N (st.put o.dst (.fn f (first.toList.map (aeval st)) (captured.toList.map (aeval st))))) : SOp P n o N st := by
  refine SOp.pure (fun I μ a w R => ⟨.func f (first.map a.eval) (captured.map a.eval), ?_, ?_⟩) hN
  · simp only [execOp, ho, Instr.makeFunc, Sem.run_bind, Sem.run_pure, Result.andThen_ok]
  · have key : ∀ xs : Array Operand, ∀ i (hi : i < (xs.toList.map (aeval st)).length), RelV I w μ (xs.toList.map (aeval st))[i] ((xs.map a.eval).getD i Go.undef) := by
      intro xs i hi
      simp only [List.length_map, Array.length_toList] at hi
      rw [getD_of (by simpa using hi)]
      simpa using R.eval xs[i]
    exact .fn _ _ _ _ _ _ (by simp) (by simp) (key first) (key captured)

end Go.Q
