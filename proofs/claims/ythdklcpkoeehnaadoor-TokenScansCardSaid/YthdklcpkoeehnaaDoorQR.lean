/- A region whose order is open is walked once, in the text's order. -/
import Derived.Test.YthdklcpkoeehnaaDoorQQ
namespace Go.Q
open Go

structure SameSt (s t : St) : Prop where
  get : ∀ d, s.get d = t.get d
  n : s.n = t.n
  h : s.h = t.h

/-- An operation that gives av, and leaves memory as it is, out of what it sees of s. -/
def DO (P : Program) (o : Oper) (s : St) (av : AV) : Prop := SOp P s.h.length o (fun st'' => st'' = (restrict o s).put o.dst av) (restrict o s)

def OpOK (P : Program) (ops : Array Oper) (o : Oper) (st : St) (av : AV) : Prop :=
  ∃ s, SameSt s st ∧ match o.guard with
    | none => DO P o s av
    | some (j, want) => ∃ d, (ops[j]?).bind (·.dst) = some d ∧ ((∃ b, s.get d = .lit (.bool b) ∧ ((b = want ∧ DO P o s av) ∨ (b ≠ want ∧ av = .tup []))) ∨ (s.get d = .tup [] ∧ av = .tup []))

def TraceL (P : Program) (ops : Array Oper) : List Oper → St → List AV → St → Prop
  | [], st, tr, sF => tr = [] ∧ SameSt st sF
  | o :: r, st, tr, sF => ∃ av tr', tr = av :: tr' ∧ OpOK P ops o st av ∧ TraceL P ops r (st.put o.dst av) tr' sF

def seqSt : List Oper → List AV → Nat → St → St
  | o :: r, av :: tr, i + 1, st => seqSt r tr i (st.put o.dst av)
  | _, _, _, st => st

theorem put_n (st : St) (d : Option Nat) (v : AV) : (st.put d v).n = st.n := by cases d <;> rfl
theorem put_h (st : St) (d : Option Nat) (v : AV) : (st.put d v).h = st.h := by cases d <;> rfl

theorem act_put_defers (a : Act) (d : Option Nat) (v : Value) : (a.put d v).defers = a.defers := by cases d <;> rfl

theorem put_get (st : St) (d : Option Nat) (v : AV) (t : Nat) : (st.put d v).get t = if d = some t ∧ t < st.n then v else st.get t := by
  cases d with
  | none => simp [St.put]
  | some k =>
    simp only [St.put, St.get, look, Option.some.injEq]
    by_cases h1 : t < st.n
    · rw [if_pos h1, if_pos h1]
      by_cases h2 : k = t
      · rw [if_pos h2, if_pos ⟨h2, h1⟩]
      · rw [if_neg h2, if_neg (fun h => h2 h.1)]
    · rw [if_neg h1, if_neg h1, if_neg (fun h => h1 h.2)]

theorem traceL_at {P : Program} {ops : Array Oper} : ∀ {l : List Oper} {st : St} {tr : List AV} {sF : St}, TraceL P ops l st tr sF →
    SameSt (seqSt l tr l.length st) sF ∧ ∀ i o, l[i]? = some o → OpOK P ops o (seqSt l tr i st) (tr.getD i .undef) ∧ seqSt l tr (i + 1) st = (seqSt l tr i st).put o.dst (tr.getD i .undef)
  | [], st, tr, sF, h => by
    obtain ⟨rfl, h⟩ := h
    exact ⟨h, fun i o hi => by simp at hi⟩
  | o :: r, st, tr, sF, h => by
    obtain ⟨av, tr', rfl, ho, h⟩ := h
    obtain ⟨h1, h2⟩ := traceL_at h
    refine ⟨h1, fun i p hi => ?_⟩
    cases i with
    | zero =>
      simp only [List.getElem?_cons_zero, Option.some.injEq] at hi
      subst hi
      have e : seqSt (o :: r) (av :: tr') 0 st = st := by simp [seqSt]
      have e1 : seqSt r tr' 0 (st.put o.dst av) = st.put o.dst av := by cases r <;> cases tr' <;> simp [seqSt]
      rw [e]
      refine ⟨by simpa using ho, ?_⟩
      simp only [seqSt, e1, List.getD_cons_zero]
    | succ i =>
      simp only [List.getElem?_cons_succ] at hi
      have := h2 i p hi
      simpa [seqSt] using this

section
variable {P : Program} {ops : Array Oper} (st0 : St) (tr : List AV)

def dstAt (ops : Array Oper) (j : Nat) : Option Nat := (ops[j]?).bind (·.dst)

/-- What a temporary holds when the operations of S have come. -/
def GS (ops : Array Oper) (st0 : St) (tr : List AV) (S : List Nat) : Nat → Nat → AV
  | 0, t => st0.get t
  | j + 1, t => if j ∈ S ∧ dstAt ops j = some t ∧ t < st0.n then tr.getD j .undef else GS ops st0 tr S j t

theorem seq_get (hstep : ∀ i o, ops.toList[i]? = some o → seqSt ops.toList tr (i + 1) st0 = (seqSt ops.toList tr i st0).put o.dst (tr.getD i .undef)) :
    ∀ j, j ≤ ops.size → (seqSt ops.toList tr j st0).n = st0.n ∧ (seqSt ops.toList tr j st0).h = st0.h ∧ ∀ t, (seqSt ops.toList tr j st0).get t = GS ops st0 tr (List.range ops.size) j t := by
  intro j
  induction j with
  | zero =>
    intro _
    have : seqSt ops.toList tr 0 st0 = st0 := by cases ops.toList <;> cases tr <;> simp [seqSt]
    rw [this]
    exact ⟨rfl, rfl, fun t => rfl⟩
  | succ j ih =>
    intro hj
    obtain ⟨h1, h2, h3⟩ := ih (by omega)
    have ho : ops.toList[j]? = some ops[j] := by rw [Array.getElem?_toList, Array.getElem?_eq_getElem (by omega)]
    rw [hstep j _ ho]
    refine ⟨by rw [put_n, h1], by rw [put_h, h2], fun t => ?_⟩
    rw [put_get, h1, h3 t]
    simp only [GS]
    have hd : dstAt ops j = ops[j].dst := by simp [dstAt, Array.getElem?_eq_getElem (show j < ops.size by omega)]
    rw [hd]
    by_cases hc : ops[j].dst = some t ∧ t < st0.n
    · rw [if_pos hc, if_pos ⟨by simp; omega, hc⟩]
    · rw [if_neg hc, if_neg (fun h => hc h.2)]

theorem GS_stay (S : List Nat) (t : Nat) (i : Nat) : ∀ j, i ≤ j → (∀ k, i ≤ k → k < j → k ∈ S → dstAt ops k ≠ some t) → GS ops st0 tr S j t = GS ops st0 tr S i t := by
  intro j
  induction j with
  | zero =>
    intro h _
    have h0 : i = 0 := by omega
    rw [h0]
  | succ j ih =>
    intro h hk
    by_cases he : i = j + 1
    · rw [he]
    · simp only [GS]
      rw [if_neg (fun hc => hk j (by omega) (by omega) hc.1 hc.2.1)]
      exact ih (by omega) (fun k h1 h2 => hk k h1 (by omega))

theorem GS_same (S S' : List Nat) (t : Nat) : ∀ i, (∀ k, k < i → dstAt ops k = some t → (k ∈ S ↔ k ∈ S')) → GS ops st0 tr S i t = GS ops st0 tr S' i t := by
  intro i
  induction i with
  | zero => intro _; rfl
  | succ i ih =>
    intro h
    simp only [GS]
    rw [ih (fun k hk => h k (by omega))]
    by_cases hd : dstAt ops i = some t
    · have := h i (by omega) hd
      simp only [this]
    · rw [if_neg (fun hc => hd hc.2.1), if_neg (fun hc => hd hc.2.1)]
end

theorem mu_same {I : Nat → Prop} {μ μ' : MM} {h : List AObj} {w w' : World} {I' : Nat → Prop} (H : RelH I μ h w) (H' : RelH I' μ' h w') (p : Pre h.length μ μ') : μ' = μ := by
  have h1 := H.len
  have h2 := H'.len
  apply List.ext_getElem? 
  intro o
  rcases Nat.lt_or_ge o h.length with h3 | h3
  · rcases p.2 o h3 with e | e
    · exact e
    · have ho := H'.objs o _ _ (List.getElem?_eq_getElem h3) e
      have hd := ho.not_gone
      have hx := List.getElem?_eq_getElem (l := μ) (i := o) (by omega)
      have := H.objs o _ _ (List.getElem?_eq_getElem h3) hx
      rw [hd] at this
      rw [e, hx]
      generalize μ[o] = x at this
      cases this
      rfl
  · rw [List.getElem?_eq_none (by omega), List.getElem?_eq_none (by omega)]

theorem SWP.draw {P : Program} {n id : Nat} {ops : Array Oper} {Q : Exit → St → Prop} {st0 sF : St} {tr : List AV} (hm : P.follows .mixedOrders = true) (hd : drawOk ops = true) (ht : TraceL P ops ops.toList st0 tr sF) (hQ : Q .normal sF) :
    SWP P n (.region id ops true) Q st0 := by
  intro I μ a w R hn
  have D := drawOk_ok hd
  obtain ⟨hF, hAt⟩ := traceL_at ht
  have hseq := seq_get st0 tr (fun i o ho => (hAt i o ho).2)
  refine wp_region_draw (fun t => ?_)
  have O := schedule_order D hm t
  generalize Region.schedule (P.follows .mixedOrders) ops t = π at O
  have hB : ∀ p i, π[p]? = some i → ∀ k ∈ (befores ops.toList []).getD i [], k ∈ π.take p := fun p i hp => O.before D i p hp
  -- two operations that name one temporary stand in order
  have clash_of : ∀ i k, i < ops.size → k < ops.size → i < k → ∀ t, dstAt ops k = some t → (dstAt ops i = some t ∨ (∀ o, ops.toList[i]? = some o → t ∈ readsOf ops o)) → i ∈ (befores ops.toList []).getD k [] := by
    intro i k hi hk hik t hdk hor
    have ho : ops.toList[i]? = some ops[i] := by rw [Array.getElem?_toList, Array.getElem?_eq_getElem hi]
    have hp : ops.toList[k]? = some ops[k] := by rw [Array.getElem?_toList, Array.getElem?_eq_getElem hk]
    have hdk' : ops[k].dst = some t := by simpa [dstAt, Array.getElem?_eq_getElem hk] using hdk
    refine D.clash k i _ _ hik hp ho ?_
    unfold clash
    rw [hdk']
    rcases hor with h1 | h1
    · have : ops[i].dst = some t := by simpa [dstAt, Array.getElem?_eq_getElem hi] using h1
      rw [this]; simp
    · have := h1 _ ho
      simp [this]
  have clash_of2 : ∀ i k, i < ops.size → k < ops.size → k < i → ∀ t, dstAt ops k = some t → (dstAt ops i = some t ∨ (∀ o, ops.toList[i]? = some o → t ∈ readsOf ops o)) → k ∈ (befores ops.toList []).getD i [] := by
    intro i k hi hk hik t hdk hor
    have ho : ops.toList[i]? = some ops[i] := by rw [Array.getElem?_toList, Array.getElem?_eq_getElem hi]
    have hp : ops.toList[k]? = some ops[k] := by rw [Array.getElem?_toList, Array.getElem?_eq_getElem hk]
    have hdk' : ops[k].dst = some t := by simpa [dstAt, Array.getElem?_eq_getElem hk] using hdk
    refine D.clash i k _ _ hik ho hp ?_
    unfold clash
    rw [hdk']
    rcases hor with h1 | h1
    · have : ops[i].dst = some t := by simpa [dstAt, Array.getElem?_eq_getElem hi] using h1
      rw [this]; simp
    · have := h1 _ ho
      simp [this]
  have dst_lt : ∀ k t, dstAt ops k = some t → k < ops.size := fun k t h => by
    unfold dstAt at h
    rcases Nat.lt_or_ge k ops.size with h1 | h1
    · exact h1
    · rw [Array.getElem?_eq_none h1] at h; cases h
  let w0 : World := { w with drawn := w.drawn + 1 }
  have hw0 : w0.heap = w.heap := rfl
  have main : ∀ m p, p + m = ops.size → ∀ (I' : Nat → Prop) (a' : Act) (w' : World), (∀ t, RelV I' w' μ (GS ops st0 tr (π.take p) ops.size t) (a'.tmps.getD t Go.undef)) → a'.tmps.size = st0.n → a'.defers = [] → RelH I' μ st0.h w' → Step I μ w I' μ w' →
      wpOps P ops (Post n I μ w Q) (π.drop p) a' w' := by
    intro m
    induction m with
    | zero =>
      intro p hp I' a' w' hT hsz hdf hH hS
      have hpl : p = π.length := by rw [O.len]; omega
      rw [hpl, List.drop_length]
      refine ⟨I', μ, sF, hQ, ⟨fun t => ?_, by rw [hsz, ← hF.n, (hseq _ (by simp)).1], hdf, ?_⟩, hS, Pre.refl _ _ hn⟩
      · have h1 := hT t
        rw [hpl, List.take_length] at h1
        rw [GS_same (ops := ops) st0 tr π (List.range ops.size) t ops.size (fun k hk _ => ⟨fun _ => by simpa using hk, fun _ => ?_⟩)] at h1
        · rw [← hF.get t]
          have := (hseq ops.size (Nat.le_refl _)).2.2 t
          rw [show ops.toList.length = ops.size by simp, this]
          exact h1
        · -- all have come
          have hall : ∀ x ∈ List.range ops.size, x ∈ π := by
            intro x hx
            by_cases hm : x ∈ π
            · exact hm
            · exfalso
              have hlen := nodup_le (l := x :: π) (acc := List.range ops.size) (List.nodup_cons.2 ⟨hm, O.nodup⟩) (fun y hy => by
                rcases List.mem_cons.1 hy with rfl | hy
                · exact hx
                · simpa using O.lt y hy)
              simp [O.len] at hlen
              omega
          exact hall k (by simpa using hk)
      · rw [← hF.h, (hseq _ (by simp)).2.1]; exact hH
    | succ m ih =>
      intro p hp I' a' w' hT hsz hdf hH hS
      have hplt : p < π.length := by rw [O.len]; omega
      have hpi : π[p]? = some π[p] := List.getElem?_eq_getElem hplt
      rw [List.drop_eq_getElem_cons hplt]
      generalize hi : π[p] = i at hpi
      have hilt : i < ops.size := O.lt i (List.mem_of_getElem? hpi)
      have ho : ops.toList[i]? = some ops[i] := by rw [Array.getElem?_toList, Array.getElem?_eq_getElem hilt]
      have hnot : i ∉ π.take p := by
        intro hm
        obtain ⟨q, hq, hq2⟩ := List.getElem_of_mem hm
        simp only [List.length_take] at hq
        rw [List.getElem_take] at hq2
        have : q = p := (List.getElem?_inj (by omega) O.nodup).1 (by rw [List.getElem?_eq_getElem (by omega), hq2, hpi])
        omega
      have hsucc : π.take (p + 1) = π.take p ++ [i] := by rw [List.take_succ_eq_append_getElem hplt, hi]
      -- a later writer has not come
      have later : ∀ k t, i < k → k ∈ π.take p → dstAt ops k = some t → (dstAt ops i = some t ∨ (∀ o, ops.toList[i]? = some o → t ∈ readsOf ops o)) → False := by
        intro k t hik hk hdk hor
        have hin := clash_of i k hilt (dst_lt k t hdk) hik t hdk hor
        obtain ⟨q, hq, hq2⟩ := List.getElem_of_mem hk
        simp only [List.length_take] at hq
        rw [List.getElem_take] at hq2
        have h3 := hB q k (by rw [List.getElem?_eq_getElem (by omega), hq2]) i hin
        exact hnot (List.mem_of_mem_take (by
          have : i ∈ (π.take p).take q := by rw [List.take_take, Nat.min_eq_left (by omega)]; exact h3
          exact this))
      -- what the operation reads is as in the text's order
      have reads : ∀ t, t ∈ readsOf ops ops[i] → GS ops st0 tr (π.take p) ops.size t = (seqSt ops.toList tr i st0).get t := by
        intro t ht
        have hr : ∀ o, ops.toList[i]? = some o → t ∈ readsOf ops o := fun o h => by rw [ho] at h; cases h; exact ht
        rw [GS_stay st0 tr (π.take p) t i ops.size (by omega) (fun k h1 h2 h3 h4 => by
          rcases Nat.lt_or_ge i k with h5 | h5
          · exact later k t h5 h3 h4 (.inr hr)
          · have : k = i := by omega
            subst this; exact hnot h3)]
        rw [(hseq i (by omega)).2.2 t]
        refine GS_same st0 tr _ _ t i (fun k hk hdk => ⟨fun _ => by simp; omega, fun _ => ?_⟩)
        exact hB p i hpi k (clash_of2 i k hilt (by omega) hk t hdk (.inr hr))
      -- what holds behind it
      have behind : ∀ t, GS ops st0 tr (π.take (p + 1)) ops.size t = if dstAt ops i = some t ∧ t < st0.n then tr.getD i .undef else GS ops st0 tr (π.take p) ops.size t := by
        intro t
        by_cases hc : dstAt ops i = some t
        · rw [GS_stay st0 tr (π.take (p + 1)) t (i + 1) ops.size (by omega) (fun k h1 h2 h3 h4 => by
            rw [hsucc] at h3
            rcases List.mem_append.1 h3 with h5 | h5
            · exact later k t (by omega) h5 h4 (.inl hc)
            · simp at h5; omega)]
          simp only [GS]
          by_cases hlt : t < st0.n
          · rw [if_pos ⟨by rw [hsucc]; simp, hc, hlt⟩, if_pos ⟨hc, hlt⟩]
          · rw [if_neg (fun h => hlt h.2.2), if_neg (fun h => hlt h.2)]
            rw [GS_stay st0 tr (π.take p) t i ops.size (by omega) (fun k h1 h2 h3 h4 => by
              rcases Nat.lt_or_ge i k with h5 | h5
              · exact later k t h5 h3 h4 (.inl hc)
              · have : k = i := by omega
                subst this; exact hnot h3)]
            refine GS_same st0 tr _ _ t i (fun k hk _ => ?_)
            rw [hsucc]
            constructor
            · intro h
              rcases List.mem_append.1 h with h5 | h5
              · exact h5
              · simp at h5; omega
            · intro h; simp [h]
        · rw [if_neg (fun h => hc h.1)]
          refine GS_same st0 tr _ _ t ops.size (fun k hk hdk => ?_)
          rw [hsucc]
          constructor
          · intro h
            rcases List.mem_append.1 h with h5 | h5
            · exact h5
            · simp only [List.mem_singleton] at h5; subst h5; exact absurd hdk hc
          · intro h; simp [h]
      obtain ⟨⟨s, hs, hop⟩, _⟩ := hAt i _ ho
      have hsn : s.n = st0.n := by rw [hs.n, (hseq i (by omega)).1]
      have hsh : s.h = st0.h := by rw [hs.h, (hseq i (by omega)).2.1]
      have hdst : dstAt ops i = ops[i].dst := by simp [dstAt, Array.getElem?_eq_getElem hilt]
      -- carrying on
      have cont : ∀ (J : Nat → Prop) (v : Value) (w2 : World), RelV J w2 μ (tr.getD i .undef) v → RelH J μ st0.h w2 → Step I' μ w' J μ w2 → wpOps P ops (Post n I μ w Q) (π.drop (p + 1)) (a'.put ops[i].dst v) w2 := by
        intro J v w2 hv hH2 S2
        refine ih (p + 1) (by omega) J _ w2 (fun t => ?_) ?_ (by rw [act_put_defers]; exact hdf) hH2 (hS.trans S2)
        · rw [behind t, hdst]
          have hold := (hT t).mono S2.mono (S2.keepI hH)
          cases hdd : ops[i].dst with
          | none => simpa [Act.put, hdd] using hold
          | some k =>
            simp only [Act.put, Option.some.injEq]
            by_cases hkt : k = t
            · subst hkt
              by_cases hlt : k < st0.n
              · rw [if_pos ⟨rfl, hlt⟩]
                have hlt' : k < a'.tmps.size := by rw [hsz]; exact hlt
                rw [show (a'.tmps.setIfInBounds k v).getD k Go.undef = v by simp [Array.getD, hlt']]
                exact hv
              · rw [if_neg (fun h => hlt h.2)]
                have : (a'.tmps.setIfInBounds k v).getD k Go.undef = a'.tmps.getD k Go.undef := by
                  have hge : ¬ k < a'.tmps.size := by rw [hsz]; exact hlt
                  simp [Array.getD, hge]
                rw [this]; exact hold
            · rw [if_neg (fun h => hkt h.1)]
              have : (a'.tmps.setIfInBounds k v).getD t Go.undef = a'.tmps.getD t Go.undef := by
                by_cases hlt : t < a'.tmps.size
                · simp [Array.getD, hlt]; rw [Array.getElem_setIfInBounds_ne (by simpa using hlt) hkt]
                · simp [Array.getD, hlt]
              rw [this]; exact hold
        · cases hdd : ops[i].dst <;> simp [Act.put, hsz]
      have runop : DO P ops[i] s (tr.getD i .undef) → ops[i].wp P a' w' (wpOps P ops (Post n I μ w Q) (π.drop (p + 1))) (Post n I μ w Q) := by
        intro hdo
        unfold DO at hdo
        have hrestr : Rel I' μ (restrict ops[i] s) a' w' := by
          refine ⟨fun t => ?_, by simp only [restrict]; rw [hsz, hsn], hdf, by simp only [restrict]; rw [hsh]; exact hH⟩
          have hlook : ∀ ts : List Nat, look t (ts.map fun t => (t, s.get t)) = .undef ∨ (t ∈ ts ∧ look t (ts.map fun t => (t, s.get t)) = s.get t) := by
            intro ts
            induction ts with
            | nil => exact .inl rfl
            | cons x xs ihx =>
              simp only [List.map_cons, look]
              by_cases hx : x = t
              · subst hx; rw [if_pos rfl]; exact .inr ⟨by simp, rfl⟩
              · rw [if_neg hx]
                rcases ihx with h1 | ⟨h1, h2⟩
                · exact .inl h1
                · exact .inr ⟨by simp [h1], h2⟩
          show RelV I' w' μ (if t < s.n then look t ((tmpsOf ops[i]).map fun t => (t, s.get t)) else .undef) _
          by_cases htn : t < s.n
          · rw [if_pos htn]
            rcases hlook (tmpsOf ops[i]) with h1 | ⟨h1, h2⟩
            · rw [h1]; exact .undef _ _
            · rw [h2]
              have h3 := reads t (by unfold readsOf; exact List.mem_append.2 (.inl h1))
              have h4 := hs.get t
              rw [← h4] at h3
              have := hT t
              rw [h3] at this
              exact this
          · rw [if_neg htn]; exact .undef _ _
        refine hdo I' μ a' w' hrestr (by rw [hH.len, hsh]; exact Nat.le_refl _) _ _ (fun J ν st'' v w2 e R2 S2 p2 => ?_)
        subst e
        have hH2 : RelH J ν st0.h w2 := by
          have := R2.heap
          rw [put_h] at this
          simp only [restrict] at this
          rwa [hsh] at this
        have hν : ν = μ := mu_same hH hH2 (by rw [hsh] at p2; exact p2)
        subst hν
        cases hdd : ops[i].dst with
        | none =>
          -- the value goes nowhere
          have hz := cont J v w2
          have : wpOps P ops (Post n I ν w Q) (π.drop (p + 1)) (a'.put ops[i].dst v) w2 := by
            refine ih (p + 1) (by omega) J _ w2 (fun t => ?_) ?_ (by rw [act_put_defers]; exact hdf) hH2 (hS.trans S2)
            · rw [behind t, hdst, hdd]
              have hold := (hT t).mono S2.mono (S2.keepI hH)
              simpa [Act.put, hdd] using hold
            · simp [Act.put, hdd, hsz]
          rwa [hdd] at this
        | some k =>
          have hvk := R2.tmps k
          rw [put_get, hdd] at hvk
          rw [← hdd]
          by_cases hlt : k < s.n
          · rw [if_pos ⟨rfl, by simpa [restrict] using hlt⟩] at hvk
            have hlt' : k < a'.tmps.size := by rw [hsz, ← hsn]; exact hlt
            rw [show (a'.put (some k) v).tmps.getD k Go.undef = v by simp [Act.put, Array.getD, hlt']] at hvk
            exact cont J v w2 hvk hH2 S2
          · refine ih (p + 1) (by omega) J _ w2 (fun t => ?_) (by simp [Act.put, hdd, hsz]) (by rw [act_put_defers]; exact hdf) hH2 (hS.trans S2)
            rw [behind t, hdst, hdd]
            have hold := (hT t).mono S2.mono (S2.keepI hH)
            rw [if_neg (fun h => hlt (by rw [hsn]; rw [Option.some.inj h.1]; exact h.2))]
            simp only [Act.put]
            have : (a'.tmps.setIfInBounds k v).getD t Go.undef = a'.tmps.getD t Go.undef := by
              have : a'.tmps.setIfInBounds k v = a'.tmps := by
                apply Array.ext
                · simp
                · intro q h1 h2
                  rw [Array.getElem_setIfInBounds]
                  rw [if_neg (fun e => hlt (by rw [hsn, ← hsz, e]; exact h2))]
              rw [this]
            rw [this]; exact hold
      have hoi : ops[i]? = some ops[i] := Array.getElem?_eq_getElem hilt
      simp only [wpOps, hoi]
      cases hg : ops[i].guard with
      | none =>
        rw [hg] at hop
        simp only at hop
        rw [if_pos (by simp [Region.wanted, hg])]
        exact .inl (runop hop)
      | some jw =>
        obtain ⟨j, want⟩ := jw
        rw [hg] at hop
        simp only at hop
        obtain ⟨d, hjd, hor⟩ := hop
        have hread : d ∈ readsOf ops ops[i] := by
          unfold readsOf
          rw [hg]
          simp only
          rw [hjd]
          simp
        rcases hor with ⟨b, hsd, hor⟩ | ⟨hsd, hav⟩
        · have hv := hT d
          rw [reads d hread, ← hs.get d, hsd] at hv
          have hdn := get_lt hsd (by simp)
          have hy : yielded ops a'.tmps j = some b := by
            unfold yielded
            rw [hjd]
            have hlt' : d < a'.tmps.size := by rw [hsz, ← hsn]; exact hdn
            have := hv.lit_eq
            rw [getD_of hlt'] at this
            simp only [Option.bind_some, Array.getElem?_eq_getElem hlt', this]
          rcases hor with ⟨hb, hdo⟩ | ⟨hb, hav⟩
          · rw [if_pos (by simp [Region.wanted, hg, hy, hb])]
            exact .inl (runop hdo)
          · rw [if_neg (by simp [Region.wanted, hg, hy, hb])]
            exact cont I' Go.undef w' (by rw [hav]; exact rel_tup0) hH (Step.refl _ _ _)
        · have hv := hT d
          rw [reads d hread, ← hs.get d, hsd] at hv
          have hdn := get_lt hsd (by simp)
          have hy : yielded ops a'.tmps j = none := by
            unfold yielded
            rw [hjd]
            have hlt' : d < a'.tmps.size := by rw [hsz, ← hsn]; exact hdn
            have := tup0_inv hv
            rw [getD_of hlt'] at this
            simp only [Option.bind_some, Array.getElem?_eq_getElem hlt', this]
          rw [if_neg (by simp [Region.wanted, hg, hy])]
          exact cont I' Go.undef w' (by rw [hav]; exact rel_tup0) hH (Step.refl _ _ _)
  have := main ops.size 0 (by omega) I a w0 (fun t => ?_) R.size R.defers (R.heap.heap_eq hw0) ((Step.refl I μ w).heap_eq hw0 ⟨rfl, rfl⟩)
  · rw [List.drop_zero] at this; exact this
  · have h0 : GS ops st0 tr (π.take 0) ops.size t = st0.get t := by
      rw [GS_stay st0 tr (π.take 0) t 0 ops.size (by omega) (fun k _ _ h => by simp at h)]
      rfl
    rw [h0]
    exact (R.heap_eq hw0).tmps t

end Go.Q
