/- Regions whose order is open. -/
import Derived.Test.YthdklcpkoeehnaaDoorQP
namespace Go.Q
open Go

def tmpsOf (o : Oper) : List Nat := o.op.operands.toList.filterMap fun | .tmp t => some t | _ => none

/-- What a region's operation sees: the temporaries that it names. -/
def restrict (o : Oper) (st : St) : St := ⟨st.n, (tmpsOf o).map (fun t => (t, st.get t)), st.h⟩

/-- Temporaries that an operation reads: its operands', and its guard's. -/
def readsOf (ops : Array Oper) (o : Oper) : List Nat :=
  tmpsOf o ++ (match o.guard with | some (j, _) => ((ops[j]?).bind (·.dst)).toList | none => [])

def isPlainEdge (e : Edge) : Bool := match e.ground with | .textOnly _ | .gcOnly _ => false | _ => true

/-- An operation's edges that bind in every order. -/
def pl (o : Oper) : List Edge := o.after.toList.filter isPlainEdge

/-- Which operations stand before which. -/
def befores : List Oper → List (List Nat) → List (List Nat)
  | [], acc => acc
  | o :: r, acc => befores r (acc ++ [(pl o).flatMap fun e => e.on :: acc.getD e.on []])

def clash (ops : Array Oper) (o p : Oper) : Bool :=
  (match p.dst with | some t => o.dst == some t || (readsOf ops o).contains t | none => false) || (match o.dst with | some t => (readsOf ops p).contains t | none => false)

/-- May the operations come in any order that their edges allow, with the same outcome for all temporaries? -/
def drawOk (ops : Array Oper) : Bool :=
  let b := befores ops.toList []
  ops.toList.zipIdx.all fun (o, i) =>
    ((pl o).all fun e => decide (e.on < i)) &&
    ops.toList.zipIdx.all fun (p, j) => !(decide (j < i)) || !(clash ops o p) || (b.getD i []).contains j

theorem befores_spec (ops : Array Oper) : ∀ (l : List Oper) (k : Nat) (acc : List (List Nat)), acc.length = k → (∀ j, l[j]? = ops.toList[k + j]?) →
    (∀ i, i < k → ∀ o, ops.toList[i]? = some o → ∀ x, x ∈ acc.getD i [] ↔ ∃ e ∈ (pl o), x = e.on ∨ (e.on < i ∧ x ∈ acc.getD e.on [])) → (∀ (i : Nat) (o : Oper), ops.toList[i]? = some o → ∀ e ∈ (pl o), e.on < i) →
    ∀ i, i < k + l.length → ∀ o, ops.toList[i]? = some o → ∀ x, x ∈ (befores l acc).getD i [] ↔ ∃ e ∈ (pl o), x = e.on ∨ (e.on < i ∧ x ∈ (befores l acc).getD e.on []) := by
  intro l
  induction l with
  | nil => intro k acc hk _ h _ i hi; exact h i (by simpa using hi)
  | cons p r ih =>
    intro k acc hk hl h hE i hi
    simp only [befores]
    have hp : ops.toList[k]? = some p := by simpa using (hl 0).symm
    refine ih (k + 1) _ (by simp [hk]) (fun j => by have := hl (j + 1); simpa [Nat.add_assoc, Nat.add_comm 1 j] using this) (fun i' hi' o ho x => ?_) hE i (by simp at hi; omega)
    have hget : ∀ q, q < k → (acc ++ [(pl p).flatMap fun e => e.on :: acc.getD e.on []]).getD q [] = acc.getD q [] := fun q hq => by
      simp only [List.getD]
      rw [List.getElem?_append_left (by omega)]
    rcases Nat.lt_or_ge i' k with h1 | h1
    · rw [hget i' h1, h i' h1 o ho x]
      constructor
      · rintro ⟨e, he, hx⟩
        refine ⟨e, he, hx.imp id fun ⟨a, b⟩ => ⟨a, ?_⟩⟩
        rwa [hget e.on (by omega)]
      · rintro ⟨e, he, hx⟩
        refine ⟨e, he, hx.imp id fun ⟨a, b⟩ => ⟨a, ?_⟩⟩
        rwa [hget e.on (by omega)] at b
    · have : i' = k := by omega
      subst this
      rw [hp] at ho; cases ho
      have e0 : (acc ++ [(pl p).flatMap fun e => e.on :: acc.getD e.on []]).getD i' [] = (pl p).flatMap fun e => e.on :: acc.getD e.on [] := by
        simp only [List.getD]
        rw [← hk, get_append_self]; rfl
      rw [e0]
      simp only [List.mem_flatMap, List.mem_cons]
      constructor
      · rintro ⟨e, he, hx⟩
        have hlt := hE i' p hp e he
        exact ⟨e, he, hx.imp id fun b => ⟨hlt, by rw [hget e.on hlt]; exact b⟩⟩
      · rintro ⟨e, he, hx⟩
        have hlt := hE i' p hp e he
        exact ⟨e, he, hx.imp id fun ⟨_, b⟩ => by rwa [hget e.on hlt] at b⟩

/-- What drawOk says. -/
structure DrawOk (ops : Array Oper) (B : Nat → List Nat) : Prop where
  plain : ∀ i o, ops.toList[i]? = some o → ∀ e ∈ (pl o), e.on < i
  bef : ∀ i o, ops.toList[i]? = some o → ∀ x, x ∈ B i → ∃ e ∈ (pl o), x = e.on ∨ (e.on < i ∧ x ∈ B e.on)
  clash : ∀ i j o p, j < i → ops.toList[i]? = some o → ops.toList[j]? = some p → clash ops o p = true → j ∈ B i

theorem drawOk_ok {ops : Array Oper} (h : drawOk ops = true) : DrawOk ops (fun i => (befores ops.toList []).getD i []) := by
  simp only [drawOk, List.all_eq_true] at h
  have key : ∀ (i : Nat) (o : Oper), ops.toList[i]? = some o → (o, i) ∈ ops.toList.zipIdx := fun i o ho => by
    rw [List.mem_zipIdx_iff_getElem?]; exact ho
  have hE : ∀ (i : Nat) (o : Oper), ops.toList[i]? = some o → ∀ e ∈ (pl o), e.on < i := fun i o ho e he => by
    have := h _ (key i o ho)
    simp only [Bool.and_eq_true, List.all_eq_true, decide_eq_true_eq] at this
    exact this.1 e he
  refine ⟨hE, fun i o ho x hx => ?_, fun i j o p hji ho hp hc => ?_⟩
  · have hi : i < ops.toList.length := by
      rcases Nat.lt_or_ge i ops.toList.length with h1 | h1
      · exact h1
      · rw [List.getElem?_eq_none h1] at ho; cases ho
    exact (befores_spec ops ops.toList 0 [] rfl (fun j => by simp) (fun i hi => by omega) (fun i o ho e he => hE i o ho e he) i (by simpa using hi) o ho x).1 hx
  · have h1 := h _ (key i o ho)
    simp only [Bool.and_eq_true, List.all_eq_true] at h1
    have h2 := h1.2 _ (key j p hp)
    simp only [Bool.or_eq_true, Bool.not_eq_true', decide_eq_false_iff_not, hc, Bool.true_eq_false, or_false] at h2
    rcases h2 with h2 | h2
    · exact absurd hji h2
    · exact List.contains_iff_mem.1 h2

/-- An order that the edges allow. -/
structure Order (ops : Array Oper) (π : List Nat) : Prop where
  len : π.length = ops.size
  nodup : π.Nodup
  lt : ∀ i ∈ π, i < ops.size
  edges : ∀ p i, π[p]? = some i → ∀ o, ops.toList[i]? = some o → ∀ e ∈ (pl o), e.on ∈ π.take p

theorem nodup_le : ∀ {l acc : List Nat}, l.Nodup → (∀ x ∈ l, x ∈ acc) → l.length ≤ acc.length
  | [], _, _, _ => by simp
  | x :: l, acc, hn, hs => by
    have hx : x ∈ acc := hs x (by simp)
    rw [List.nodup_cons] at hn
    have ih := nodup_le (l := l) (acc := acc.erase x) hn.2 (fun y hy => by
      have hne : y ≠ x := fun e => hn.1 (e ▸ hy)
      exact (List.mem_erase_of_ne hne).2 (hs y (by simp [hy])))
    rw [List.length_erase_of_mem hx] at ih
    have := List.length_pos_of_mem hx
    simp only [List.length_cons]
    omega

theorem getD_bool (xs : Array Bool) (i : Nat) (d : Bool) (h : i < xs.size) : xs.getD i d = xs[i] := by simp [Array.getD, h]

theorem linearise_go {ops : Array Oper} {B : Nat → List Nat} (D : DrawOk ops B) : ∀ (fuel t : Nat) (listed : Array Bool) (acc : List Nat), listed.size = ops.size → (∀ i, i < ops.size → (listed.getD i true = true ↔ i ∈ acc)) →
    acc.reverse.Nodup → (∀ i ∈ acc, i < ops.size) → (∀ p i, acc.reverse[p]? = some i → ∀ o, ops.toList[i]? = some o → ∀ e ∈ (pl o), e.on ∈ acc.reverse.take p) → acc.length + fuel = ops.size →
    Order ops (Region.linearise.go .any ops fuel t listed acc) := by
  intro fuel
  induction fuel with
  | zero =>
    intro t listed acc _ _ hn hl he hlen
    simp only [Region.linearise.go]
    exact ⟨by simpa using hlen, hn, fun i hi => hl i (by simpa using hi), he⟩
  | succ fuel ih =>
    intro t listed acc hs hmem hn hl he hlen
    simp only [Region.linearise.go]
    have hbinds : ∀ (i : Nat) (o : Oper), ops.toList[i]? = some o → ∀ e ∈ (pl o), Region.binds .any e = true := fun i o ho e hee => by
      have := (List.mem_filter.1 hee).2
      unfold isPlainEdge at this
      unfold Region.binds
      split at this <;> simp_all
    let rs := (List.range ops.size).filter fun i => !listed.getD i true && ((ops[i]?).map (·.after.all fun e => !Region.binds .any e || listed.getD e.on false)).getD false
    have hrs : ∀ i ∈ rs, i < ops.size ∧ i ∉ acc ∧ ∀ (o : Oper), ops.toList[i]? = some o → ∀ e ∈ (pl o), e.on ∈ acc := by
      intro i hi
      simp only [rs, List.mem_filter, List.mem_range, Bool.and_eq_true, Bool.not_eq_true'] at hi
      obtain ⟨h1, h2, h3⟩ := hi
      refine ⟨h1, fun hm => ?_, fun o ho e hee => ?_⟩
      · rw [(hmem i h1).2 hm] at h2; cases h2
      · rw [← Array.getElem?_toList, ho] at h3
        simp only [Option.map_some, Option.getD_some, Array.all_eq_true_iff_forall_mem] at h3
        have := h3 e (by have := (List.mem_filter.1 hee).1; simpa using this)
        rw [hbinds i o ho e hee] at this
        simp only [Bool.not_true, Bool.false_or] at this
        have hlt : e.on < ops.size := by have := D.plain i o ho e hee; omega
        refine (hmem e.on hlt).1 ?_
        have hlt' : e.on < listed.size := by omega
        rw [getD_bool _ _ _ hlt'] at this ⊢
        exact this
    have hne : rs ≠ [] := by
      intro hempty
      have hex : ∃ i, i < ops.size ∧ i ∉ acc := by
        by_cases hall : ∀ i, i < ops.size → i ∈ acc
        · exfalso
          have : (List.range ops.size).length ≤ acc.length := by
            have hsub : ∀ x ∈ List.range ops.size, x ∈ acc := fun x hx => hall x (by simpa using hx)
            exact nodup_le List.nodup_range hsub
          simp at this; omega
        · obtain ⟨i, h1⟩ := Classical.not_forall.1 hall
          obtain ⟨h2, h3⟩ := Classical.not_imp.1 h1
          exact ⟨i, h2, h3⟩
      have hmin : ∃ i, i < ops.size ∧ i ∉ acc ∧ ∀ j, j < i → j ∈ acc := by
        obtain ⟨i, h1, h2⟩ := hex
        have key : ∀ m i, i ≤ m → i < ops.size → i ∉ acc → ∃ i, i < ops.size ∧ i ∉ acc ∧ ∀ j, j < i → j ∈ acc := by
          intro m
          induction m with
          | zero => intro i h0 h1 h2; exact ⟨i, h1, h2, fun j hj => by omega⟩
          | succ m ihm =>
            intro i h0 h1 h2
            by_cases h3 : ∃ j, j < i ∧ j ∉ acc
            · obtain ⟨j, h4, h5⟩ := h3; exact ihm j (by omega) (by omega) h5
            · exact ⟨i, h1, h2, fun j hj => by
                by_cases h6 : j ∈ acc
                · exact h6
                · exact absurd ⟨j, hj, h6⟩ h3⟩
        exact key i i (Nat.le_refl _) h1 h2
      obtain ⟨i, h1, h2, h3⟩ := hmin
      have : i ∈ rs := by
        simp only [rs, List.mem_filter, List.mem_range, Bool.and_eq_true, Bool.not_eq_true']
        refine ⟨h1, ?_, ?_⟩
        · cases hb : listed.getD i true with
          | false => rfl
          | true => exact absurd ((hmem i h1).1 hb) h2
        · rw [Array.getElem?_eq_getElem h1]
          simp only [Option.map_some, Option.getD_some, Array.all_eq_true_iff_forall_mem]
          intro e hee
          have ho : ops.toList[i]? = some ops[i] := by rw [Array.getElem?_toList, Array.getElem?_eq_getElem h1]
          by_cases hpe : isPlainEdge e = true
          case neg =>
            have : Region.binds .any e = false := by
              unfold isPlainEdge at hpe
              unfold Region.binds
              split at hpe <;> simp_all
            rw [this]; rfl
          have hlt := D.plain i _ ho e (List.mem_filter.2 ⟨by simpa using hee, hpe⟩)
          have hm := (hmem e.on (by omega)).2 (h3 e.on hlt)
          have hlt' : e.on < listed.size := by omega
          rw [getD_bool _ _ _ hlt'] at hm ⊢
          simp [hm]
      rw [hempty] at this
      simp at this
    have hlen' : 0 < rs.length := List.length_pos_iff.2 hne
    have hidx : t % rs.length < rs.length := Nat.mod_lt _ hlen'
    show Order ops (match rs[t % rs.length]? with | some i => Region.linearise.go .any ops fuel (t / rs.length) (listed.setIfInBounds i true) (i :: acc) | none => acc.reverse)
    rw [List.getElem?_eq_getElem hidx]
    simp only
    obtain ⟨h1, h2, h3⟩ := hrs _ (List.getElem_mem hidx)
    generalize rs[t % rs.length] = i at h1 h2 h3
    refine ih (t / rs.length) _ (i :: acc) (by simp [hs]) (fun j hj => ?_) ?_ (fun j hj => ?_) (fun p j hp o ho e hee => ?_) (by simp; omega)
    · have hj' : j < listed.size := by omega
      have := hmem j hj
      rw [getD_bool _ _ _ hj'] at this
      rw [getD_bool _ _ _ (by simpa using hj'), List.mem_cons, Array.getElem_setIfInBounds]
      by_cases hij : i = j
      · simp [hij]
      · rw [if_neg hij, this]
        exact ⟨.inr, fun h => h.resolve_left (fun h => hij h.symm)⟩
      exact hj'
    · rw [List.reverse_cons, List.nodup_append]
      refine ⟨hn, by simp, fun a ha b hb e => ?_⟩
      simp only [List.mem_singleton] at hb
      subst hb; subst e
      exact h2 (by simpa using ha)
    · rcases List.mem_cons.1 hj with rfl | hj
      · exact h1
      · exact hl j hj
    · rw [List.reverse_cons] at hp ⊢
      rcases Nat.lt_or_ge p acc.reverse.length with h4 | h4
      · rw [List.getElem?_append_left h4] at hp
        have := he p j hp o ho e hee
        rw [List.take_append_of_le_length (by omega)]
        exact this
      · rw [List.getElem?_append_right h4] at hp
        have hp0 : p - acc.reverse.length = 0 := by
          rcases Nat.eq_zero_or_pos (p - acc.reverse.length) with h5 | h5
          · exact h5
          · rw [List.getElem?_eq_none (by simp at h5 ⊢; omega)] at hp; cases hp
        rw [hp0] at hp
        simp only [List.getElem?_cons_zero, Option.some.injEq] at hp
        subst hp
        have := h3 o ho e hee
        rw [List.take_append_of_le_length (by omega), List.take_of_length_le (by omega)]
        simpa using this

theorem schedule_order {ops : Array Oper} {B : Nat → List Nat} (D : DrawOk ops B) {mixed : Bool} (hm : mixed = true) (t : Nat) : Order ops (Region.schedule mixed ops t) := by
  unfold Region.schedule
  rw [hm]
  simp only [Bool.true_or, if_true]
  exact linearise_go D _ _ _ _ (by simp) (fun i hi => by simp [Array.getD, hi]) (by simp) (by simp) (fun p i hp => by simp at hp) (by simp)

theorem Order.before {ops : Array Oper} {B : Nat → List Nat} (D : DrawOk ops B) {π : List Nat} (O : Order ops π) : ∀ (i p : Nat), π[p]? = some i → ∀ k ∈ B i, k ∈ π.take p := by
  intro i
  induction i using Nat.strongRecOn with
  | _ i ih =>
    intro p hp k hk
    have hi : i < ops.size := O.lt i (List.mem_of_getElem? hp)
    have ho : ops.toList[i]? = some ops[i] := by rw [Array.getElem?_toList, Array.getElem?_eq_getElem hi]
    obtain ⟨e, he, h⟩ := D.bef i _ ho k hk
    have hmem := O.edges p i hp _ ho e he
    rcases h with rfl | ⟨hlt, hk2⟩
    · exact hmem
    · obtain ⟨q, hq, hq2⟩ := List.getElem_of_mem hmem
      simp only [List.length_take] at hq
      rw [List.getElem_take] at hq2
      have := ih e.on hlt q (by rw [List.getElem?_eq_getElem (by omega), hq2]) k hk2
      exact List.mem_of_mem_take (by
        have : k ∈ (π.take p).take q := by rw [List.take_take, Nat.min_eq_left (by omega)]; exact this
        exact this)

end Go.Q
