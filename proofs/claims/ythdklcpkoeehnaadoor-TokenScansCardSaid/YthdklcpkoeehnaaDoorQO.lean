/- States seen with less: objects dropped, renumbered, frozen. -/
import Derived.Test.YthdklcpkoeehnaaDoorQN
namespace Go.Q
open Go

/-- How a value is seen when of the objects of h just those of keep stay (in that order), those of frz are frozen, and empty arrays stand from number e on (m of them). -/
inductive WV (h : List AObj) (keep frz : List Nat) (m : Nat) : AV → AV → Prop
  | undef (a : AV) : WV h keep frz m a .undef
  | same (a : AV) (hp : pureQ a = true) : WV h keep frz m a a
  | nilsVs (s : Nat) : WV h keep frz m .nils (.vs s [])
  | nilsRef (i : Nat) (h1 : keep.length ≤ i) (h2 : i < keep.length + m) : WV h keep frz m .nils (.ref i 0 0)
  | vsNil (s s' : Nat) : WV h keep frz m (.vs s []) (.vs s' [])
  | ref (o off len i : Nat) (hk : keep[i]? = some o) : WV h keep frz m (.ref o off len) (.ref i off len)
  | refFrz (o off len s : Nat) (es : List AV) (hf : o ∈ frz) (ho : h[o]? = some (.arr s es)) (hle : off + len ≤ es.length) : WV h keep frz m (.ref o off len) (.vs s ((es.drop off).take len))
  | ptr (o j i : Nat) (hk : keep[i]? = some o) : WV h keep frz m (.ptr o j) (.ptr i j)
  | ptrFrz (o : Nat) (c : AV) (hf : o ∈ frz) (ho : h[o]? = some (.box c.cells)) (hp : c.cells.all pureQ.pureQ1 = true) : WV h keep frz m (.ptr o 0) (.iptr c)
  | eptr (o p j i : Nat) (hk : keep[i]? = some o) : WV h keep frz m (.eptr o p j) (.eptr i p j)
  | agg (cs cs' : List AV) (hl : cs'.length = cs.length) (hc : ∀ i (h1 : i < cs.length) (h2 : i < cs'.length), WV h keep frz m cs[i] cs'[i]) : WV h keep frz m (.agg cs) (.agg cs')
  | tup (cs cs' : List AV) (hl : cs'.length = cs.length) (hc : ∀ i (h1 : i < cs.length) (h2 : i < cs'.length), WV h keep frz m cs[i] cs'[i]) : WV h keep frz m (.tup cs) (.tup cs')
  | fn (f : Fn) (a b b' : List AV) (ha : a = []) (hl : b'.length = b.length) (hc : ∀ i (h1 : i < b.length) (h2 : i < b'.length), WV h keep frz m b[i] b'[i]) : WV h keep frz m (.fn f a b) (.fn f a b')

inductive WO (h : List AObj) (keep frz : List Nat) (m : Nat) : AObj → AObj → Prop
  | dead : WO h keep frz m .dead .dead
  | arr (s : Nat) (es : List AV) : WO h keep frz m (.arr s es) (.arr s es)
  | box (cs cs' : List AV) (hl : cs'.length = cs.length) (hc : ∀ i (h1 : i < cs.length) (h2 : i < cs'.length), WV h keep frz m cs[i] cs'[i]) : WO h keep frz m (.box cs) (.box cs')

/-- The objects of a state seen with less. -/
structure WH (n : Nat) (h : List AObj) (keep frz : List Nat) (m : Nat) (h' : List AObj) : Prop where
  nodup : keep.Nodup
  pre : ∀ o, o < n → keep[o]? = some o
  apart : ∀ o ∈ frz, o ∉ keep
  len : h'.length = keep.length + m
  objs : ∀ i (hi : i < keep.length), ∃ ob ob', h[keep[i]]? = some ob ∧ h'[i]? = some ob' ∧ WO h keep frz m ob ob'
  more : ∀ i, keep.length ≤ i → i < keep.length + m → ∃ s, h'[i]? = some (.arr s [])

def newMM (μ : MM) (keep : List Nat) (m : Nat) : MM := keep.map (fun o => (μ[o]?).getD .gone) ++ List.replicate m .nil

theorem newMM_get {μ : MM} {keep : List Nat} {m i o : Nat} (h : keep[i]? = some o) {x : Slot} (hx : μ[o]? = some x) : (newMM μ keep m)[i]? = some x := by
  have hi : i < keep.length := by
    rcases Nat.lt_or_ge i keep.length with h1 | h1
    · exact h1
    · rw [List.getElem?_eq_none h1] at h; cases h
  unfold newMM
  rw [List.getElem?_append_left (by simpa using hi), List.getElem?_map, h]
  simp [hx]

theorem newMM_more {μ : MM} {keep : List Nat} {m i : Nat} (h1 : keep.length ≤ i) (h2 : i < keep.length + m) : (newMM μ keep m)[i]? = some .nil := by
  unfold newMM
  rw [List.getElem?_append_right (by simpa using h1)]
  have h3 : i - (keep.map (fun o => (μ[o]?).getD Slot.gone)).length < (List.replicate m Slot.nil).length := by simp; omega
  rw [List.getElem?_eq_getElem h3]
  simp

theorem newMM_loc {μ : MM} {keep : List Nat} {m i : Nat} {l : Loc} (h : (newMM μ keep m).loc i = some l) : ∃ o, keep[i]? = some o ∧ μ.loc o = some l := by
  rw [MM.loc_some] at h
  unfold newMM at h
  rcases Nat.lt_or_ge i keep.length with h1 | h1
  · rw [List.getElem?_append_left (by simpa using h1), List.getElem?_map, List.getElem?_eq_getElem h1] at h
    refine ⟨keep[i], List.getElem?_eq_getElem h1, ?_⟩
    simp only [Option.map_some, Option.some.injEq] at h
    rw [MM.loc_some]
    cases hx : μ[keep[i]]? with
    | none => rw [hx] at h; cases h
    | some x => rw [hx] at h; simp at h; rw [h]
  · rw [List.getElem?_append_right (by simpa using h1)] at h
    rcases Nat.lt_or_ge (i - keep.length) m with h2 | h2
    · simp [h2] at h
    · rw [List.getElem?_eq_none (by simpa using h2)] at h; cases h

/-- What is immutable when some objects are frozen. -/
def frzI (I : Nat → Prop) (μ : MM) (frz : List Nat) : Nat → Prop := fun b => I b ∨ ∃ o l, o ∈ frz ∧ μ.loc o = some l ∧ l.block = b

theorem WV.rel {h : List AObj} {keep frz : List Nat} {m : Nat} {a b : AV} (hw : WV h keep frz m a b) {I : Nat → Prop} {μ : MM} {w : World} (H : RelH I μ h w) :
    ∀ {v : Value}, RelV I w μ a v → RelV (frzI I μ frz) w (newMM μ keep m) b v := by
  have mono : ∀ {ν : MM} {a : AV} {v : Value}, RelV I w ν a v → RelV (frzI I μ frz) w ν a v := fun r => r.mono (fun _ h => .inl h) (fun _ _ => rfl)
  induction hw with
  | undef a => intro v _; exact .undef _ _
  | same a hp => intro v r; exact mono (pureQ_ok hp r _)
  | nilsVs s =>
    intro v r
    cases r
    simpa using RelV.vs (I := frzI I μ frz) (w := w) (newMM μ keep m) s [] none 0 (fun _ _ => Go.undef) (by simp) (fun h => by simp at h) (fun i hi => by simp at hi) (fun i hi => by simp at hi)
  | nilsRef i h1 h2 => intro v r; cases r; exact .ref0 _ _ (newMM_more h1 h2)
  | vsNil s s' =>
    intro v r
    obtain ⟨ad, cap, val, rfl, hcap, _⟩ := r.vs_inv
    simpa using RelV.vs (I := frzI I μ frz) (w := w) (newMM μ keep m) s' [] ad cap (fun _ _ => Go.undef) (by simp) (fun h => by simp at h) (fun i hi => by simp at hi) (fun i hi => by simp at hi)
  | ref o off len i hk =>
    intro v r
    cases r with
    | ref _ _ _ _ cap l hl hlen hcap => exact .ref _ _ off len cap l (MM.loc_some.2 (newMM_get hk (MM.loc_some.1 hl))) hlen hcap
    | ref0 _ _ hl => exact .ref0 _ _ (newMM_get hk hl)
    | refE _ _ off l ad hl => exact .refE _ _ off l ad (MM.loc_some.2 (newMM_get hk (MM.loc_some.1 hl)))
    | refX _ _ _ _ v hl => exact .refX _ _ off len v (newMM_get hk hl)
  | refFrz o off len s es hf ho hle =>
    intro v r
    have hlen : ((es.drop off).take len).length = len := by simp; omega
    rcases Rel.ref H ho r with ⟨e, rfl, rfl, rfl, _⟩ | ⟨ad, l, e, rfl, _⟩ | ⟨l, cap, val, hl, e, hcap, hsz, hes, hb, hsz', hn, hc, hr⟩
    · rw [e]; simpa using RelV.vs (I := frzI I μ frz) (w := w) (newMM μ keep m) s [] none 0 (fun _ _ => Go.undef) (by simp) (fun h => by simp at h) (fun i hi => by simp at hi) (fun i hi => by simp at hi)
    · rw [e]; simpa using RelV.vs (I := frzI I μ frz) (w := w) (newMM μ keep m) s [] ad 0 (fun _ _ => Go.undef) (by simp) (fun h => by simp at h) (fun i hi => by simp at hi) (fun i hi => by simp at hi)
    · rw [e]
      have := RelV.vs (I := frzI I μ frz) (w := w) (newMM μ keep m) s ((es.drop off).take len) (some ⟨l.block, l.base + off * s, none⟩) cap (fun i j => val (off + i) j) (by rw [hlen]; exact hcap)
        (fun _ => ⟨l.block, l.base + off * s, rfl, .inr ⟨o, l, hf, hl, rfl⟩, fun p q hp hq => by
          rw [hlen] at hp
          rw [← hc (off + p) q (by omega) hq, Nat.add_mul, ← Nat.add_assoc]⟩)
        (fun p hp => by rw [hlen] at hp; simpa using hn (off + p) (by omega))
        (fun p hp q hq => by
          rw [hlen] at hp
          have e1 : ((es.drop off).take len)[p]'(by rw [hlen]; exact hp) = es[off + p] := by simp
          have hq' : q < (es[off + p]).cells.length := by rw [← e1]; exact hq
          have := mono (hr (off + p) (by omega) q hq')
          simpa [e1] using this)
      rwa [hlen] at this
  | ptr o j i hk =>
    intro v r
    cases r with
    | ptr _ _ _ l hl => exact .ptr _ _ j l (MM.loc_some.2 (newMM_get hk (MM.loc_some.1 hl)))
    | ptrX _ _ _ v hl => exact .ptrX _ _ j v (newMM_get hk hl)
  | ptrFrz o c hf ho hp =>
    intro v r
    obtain ⟨l, val, hl, rfl, hb, hsz, hc, hr⟩ := Rel.ptr H ho r
    simp only [List.all_eq_true] at hp
    exact .iptr _ c l.block (l.base + 0) val (.inr ⟨o, l, hf, hl, rfl⟩) (fun j hj => by rw [Nat.add_zero]; exact hc j hj) (fun j hj => mono (pureQ1_ok (hp _ (List.getElem_mem hj)) (hr j hj) []))
  | eptr o p j i hk =>
    intro v r
    cases r with
    | eptr _ _ _ _ l hl => exact .eptr _ _ p j l (MM.loc_some.2 (newMM_get hk (MM.loc_some.1 hl)))
    | eptrX _ _ _ _ v hl => exact .eptrX _ _ p j v (newMM_get hk hl)
  | agg cs cs' hl hc ih =>
    intro v r
    obtain ⟨xs, rfl, hn, hx⟩ := r.agg_inv
    exact .agg _ _ xs (by omega) (fun i hi => ih i (by omega) hi (hx i (by omega)))
  | tup cs cs' hl hc ih =>
    intro v r
    obtain ⟨xs, rfl, hn, hx⟩ := r.tup_inv
    exact .tup _ _ xs (by omega) (fun i hi => ih i (by omega) hi (hx i (by omega)))
  | fn f a b b' ha hl hc ih =>
    intro v r
    subst ha
    cases r with
    | fn _ _ _ _ fs cs hf hcs h1 h2 => exact .fn _ f [] b' fs cs hf (by omega) (fun i hi => by simp at hi) (fun i hi => ih i (by omega) hi (h2 i (by omega)))

theorem WH.rel {n : Nat} {h h' : List AObj} {keep frz : List Nat} {m : Nat} (W : WH n h keep frz m h') {I : Nat → Prop} {μ : MM} {w : World} (H : RelH I μ h w) (hn : n ≤ μ.length) :
    RelH (frzI I μ frz) (newMM μ keep m) h' w ∧ Step I μ w (frzI I μ frz) (newMM μ keep m) w ∧ Pre n μ (newMM μ keep m) := by
  have hlen : (newMM μ keep m).length = h'.length := by rw [W.len]; simp [newMM]
  refine ⟨⟨hlen, fun i ob x hi hx => ?_, fun b hb => ?_, fun i j l l' e1 e2 e => ?_, fun b hb => ?_⟩, ⟨fun _ h => .inl h, Nat.le_refl _, fun _ _ _ => rfl, fun b hb => ?_, fun b hb => ?_, rfl, rfl⟩, ⟨?_, fun o ho => ?_⟩⟩
  · have hlt : i < h'.length := by
      rcases Nat.lt_or_ge i h'.length with h1 | h1
      · exact h1
      · rw [List.getElem?_eq_none h1] at hi; cases hi
    rw [W.len] at hlt
    rcases Nat.lt_or_ge i keep.length with h1 | h1
    · obtain ⟨ob1, ob2, g1, g2, g3⟩ := W.objs i h1
      rw [g2] at hi; cases hi
      obtain ⟨y, hy, hO⟩ := Rel.slot H g1
      rw [newMM_get (List.getElem?_eq_getElem h1) hy] at hx
      cases hx
      cases g3 with
      | dead => cases hO; exact .dead
      | arr s es =>
        cases hO with
        | arr0 => exact .arr0 s
        | arr _ _ l val hs hb hsz hnn hc hv => exact .arr s es l val hs hb hsz hnn hc (fun i hi j hj => (hv i hi j hj).mono (fun _ h => .inl h) (fun _ _ => rfl))
      | box cs cs' hl hc =>
        cases hO with
        | box _ l val hb hsz hcell hv => exact .box cs' l val hb (by omega) (fun j hj => hcell j (by omega)) (fun j hj => (hc j (by omega) hj).rel H (hv j (by omega)))
    · obtain ⟨s, hs⟩ := W.more i h1 hlt
      rw [hs] at hi; cases hi
      rw [newMM_more h1 hlt] at hx; cases hx
      exact .arr0 s
  · obtain ⟨i, l, e, rfl⟩ := hb
    obtain ⟨o, hk, hl⟩ := newMM_loc e
    rintro (h1 | ⟨o', l', hf, hl', e'⟩)
    · exact H.notI _ ⟨o, l, hl, rfl⟩ h1
    · have := H.apart _ _ _ _ hl' hl e'
      subst this
      exact W.apart _ hf (List.mem_of_getElem? hk)
  · obtain ⟨o, hk, hl⟩ := newMM_loc e1
    obtain ⟨o', hk', hl'⟩ := newMM_loc e2
    have := H.apart _ _ _ _ hl hl' e
    subst this
    have hi : i < keep.length := by
      rcases Nat.lt_or_ge i keep.length with h1 | h1
      · exact h1
      · rw [List.getElem?_eq_none h1] at hk; cases hk
    exact (List.getElem?_inj hi W.nodup).1 (hk.trans hk'.symm)
  · rcases hb with h1 | ⟨o, l, _, hl, rfl⟩
    · exact H.imm b h1
    · exact H.size_owned ⟨o, l, hl, rfl⟩
  · obtain ⟨i, l, e, rfl⟩ := hb
    obtain ⟨o, _, hl⟩ := newMM_loc e
    exact .inl ⟨o, l, hl, rfl⟩
  · rcases hb with h1 | ⟨o, l, _, hl, rfl⟩
    · exact .inl h1
    · exact .inr (.inl ⟨o, l, hl, rfl⟩)
  · rcases Nat.eq_zero_or_pos n with h0 | h0
    · omega
    · have := W.pre (n - 1) (by omega)
      have hi : n - 1 < keep.length := by
        rcases Nat.lt_or_ge (n - 1) keep.length with h1 | h1
        · exact h1
        · rw [List.getElem?_eq_none h1] at this; cases this
      simp [newMM]; omega
  · have hm : o < μ.length := by omega
    have hx := List.getElem?_eq_getElem hm
    left
    rw [newMM_get (W.pre o ho) hx, hx]

/-- A state seen with less. -/
structure Weak (n : Nat) (st st' : St) (keep frz : List Nat) (m : Nat) : Prop where
  size : st'.n = st.n
  heap : WH n st.h keep frz m st'.h
  tmps : ∀ p ∈ st'.ts, WV st.h keep frz m (st.get p.1) p.2

theorem look_mem {d : Nat} : ∀ {ts : List (Nat × AV)}, look d ts = .undef ∨ (d, look d ts) ∈ ts
  | [] => .inl rfl
  | (k, v) :: r => by
    unfold look
    split
    · rename_i e; subst e; exact .inr (by simp)
    · rcases look_mem (d := d) (ts := r) with h | h
      · exact .inl h
      · exact .inr (by simp [h])

theorem Weak.rel {n : Nat} {st st' : St} {keep frz : List Nat} {m : Nat} (W : Weak n st st' keep frz m) {I : Nat → Prop} {μ : MM} {a : Act} {w : World} (R : Rel I μ st a w) (hn : n ≤ μ.length) :
    Rel (frzI I μ frz) (newMM μ keep m) st' a w ∧ Step I μ w (frzI I μ frz) (newMM μ keep m) w ∧ Pre n μ (newMM μ keep m) := by
  obtain ⟨h1, h2, h3⟩ := W.heap.rel R.heap hn
  refine ⟨⟨fun d => ?_, by rw [W.size]; exact R.size, R.defers, h1⟩, h2, h3⟩
  unfold St.get
  split
  · rcases look_mem (d := d) (ts := st'.ts) with h | h
    · rw [h]; exact .undef _ _
    · exact (W.tmps _ h).rel R.heap (R.tmps d)
  · exact .undef _ _

end Go.Q
