/- Calls. -/
import Derived.Test.YthdklcpkoeehnaaDoorQL
namespace Go.Q
open Go

/-- A call of a function, with a body of its own or without one. -/
def CallsF (P : Program) (g : FuncId) (vals : Array Value) (w : World) (R : Ending → World → Prop) : Prop :=
  ((callFunc g vals).run P w = .ok (.enter g vals) w ∧ Calls P g vals w R) ∨ ∃ v w', (callFunc g vals).run P w = .ok (.value v) w' ∧ R (.returned v) w'

theorem CallsF.mono {P : Program} {g : FuncId} {vals : Array Value} {w : World} {R R' : Ending → World → Prop} (h : CallsF P g vals w R) (hr : ∀ e w', R e w' → R' e w') : CallsF P g vals w R' := by
  rcases h with ⟨h1, h2⟩ | ⟨v, w', h1, h2⟩
  · exact .inl ⟨h1, h2.mono hr⟩
  · exact .inr ⟨v, w', h1, hr _ _ h2⟩

def ArgsRel (I : Nat → Prop) (w : World) (μ : MM) (args : List AV) (vals : Array Value) : Prop :=
  vals.size = args.length ∧ ∀ i (hi : i < args.length), RelV I w μ args[i] (vals.getD i Go.undef)

/-- A contract: called with such values, over such objects, the function returns as R says. -/
def ACalls (P : Program) (g : FuncId) (args : List AV) (hs : List AObj) (R : AV → List AObj → Prop) : Prop :=
  ∀ I μ w (vals : Array Value), RelH I μ hs w → ArgsRel I w μ args vals →
    CallsF P g vals w fun e w' => ∃ v r h' I' μ', e = .returned v ∧ R r h' ∧ RelH I' μ' h' w' ∧ RelV I' w' μ' r v ∧ Step I μ w I' μ' w' ∧ Pre hs.length μ μ'

/-- A call out of a walk. -/
def CallOK (P : Program) (n : Nat) (g : FuncId) (args : List AV) (st : St) (K : St → AV → Prop) : Prop :=
  ∀ I μ a w (vals : Array Value), Rel I μ st a w → n ≤ μ.length → ArgsRel I w μ args vals →
    CallsF P g vals w fun e w' => ∃ v r I' μ' st', e = .returned v ∧ K st' r ∧ Rel I' μ' st' a w' ∧ RelV I' w' μ' r v ∧ Step I μ w I' μ' w' ∧ Pre n μ μ'

theorem CallOK.mono {P : Program} {n : Nat} {g : FuncId} {args : List AV} {st : St} {K K' : St → AV → Prop} (h : CallOK P n g args st K) (hk : ∀ s r, K s r → K' s r) : CallOK P n g args st K' :=
  fun I μ a w vals R hn hv => (h I μ a w vals R hn hv).mono fun _ _ ⟨v, r, I', μ', st', e, k, rest⟩ => ⟨v, r, I', μ', st', e, hk _ _ k, rest⟩

theorem Pre.sub {μ μ' : MM} (h : Pre μ.length μ μ') : μ.Sub μ' := fun o x e => by
  have ho : o < μ.length := by
    rcases Nat.lt_or_ge o μ.length with h1 | h1
    · exact h1
    · rw [List.getElem?_eq_none h1] at e; cases e
  rcases h.2 o ho with e2 | e2
  · exact .inl (e2.trans e)
  · exact .inr e2

/-- The whole memory is handed over. -/
theorem CallOK.all {P : Program} {n : Nat} {g : FuncId} {args : List AV} {st : St} {K : St → AV → Prop} {R : AV → List AObj → Prop} (h : ACalls P g args st.h R) (hK : ∀ r h', R r h' → K { st with h := h' } r) : CallOK P n g args st K := by
  intro I μ a w vals Rl hn hv
  refine (h I μ w vals Rl.heap hv).mono ?_
  rintro e w' ⟨v, r, h', I', μ', rfl, hR, hH, hr, S, hp⟩
  rw [← Rl.heap.len] at hp
  exact ⟨v, r, I', μ', _, rfl, hK r h' hR, ⟨fun d => ((Rl.tmps d).sub hp.sub).mono S.mono (S.keepI Rl.heap), Rl.size, Rl.defers, hH⟩, hr, S, hp.mono hn⟩

/-- Objects' numbers moved up. -/
def sh0 (k : Nat) : AV → AV
  | .ref o off len => .ref (o + k) off len
  | .ptr o j => .ptr (o + k) j
  | .eptr o i j => .eptr (o + k) i j
  | .fn f a b => if a.isEmpty && b.all pureQ.pureQ0 then .fn f a b else .undef
  | .agg _ => .undef
  | .tup _ => .undef
  | v => v

def sh1 (k : Nat) : AV → AV
  | .agg cs => .agg (cs.map (sh0 k))
  | v => sh0 k v

def sh2 (k : Nat) : AV → AV
  | .tup vs => .tup (vs.map (sh1 k))
  | v => sh1 k v

def shO (k : Nat) : AObj → AObj
  | .box cs => .box (cs.map (sh0 k))
  | ob => ob

theorem append_get {μ ν : MM} {o : Nat} : (μ ++ ν)[o + μ.length]? = ν[o]? := by
  rw [List.getElem?_append_right (by omega)]; congr 1; omega

theorem append_loc {μ ν : MM} {o : Nat} {l : Loc} (h : ν.loc o = some l) : MM.loc (μ ++ ν) (o + μ.length) = some l := by
  rw [MM.loc_some] at h ⊢
  rw [append_get]; exact h

theorem RelV.sh0 {I : Nat → Prop} {w : World} {μ ν : MM} {c : AV} {v : Value} (h : RelV I w ν c v) : RelV I w (μ ++ ν) (sh0 μ.length c) v := by
  cases h with
  | undef => exact .undef _ _
  | lit => exact .lit _ _
  | nils => exact .nils _
  | agg => exact .undef _ _
  | tup => exact .undef _ _
  | vs _ s es a cap val hcap ha hn hv => exact .vs _ s es a cap val hcap ha hn hv
  | ref _ o off len cap l hl hlen hcap => exact .ref _ _ off len cap l (append_loc hl) hlen hcap
  | ref0 _ o hl => exact .ref0 _ _ (by rw [append_get]; exact hl)
  | refE _ o off l a hl => exact .refE _ _ off l a (append_loc hl)
  | refX _ o off len v hl => exact .refX _ _ off len v (by rw [append_get]; exact hl)
  | ptrX _ o j v hl => exact .ptrX _ _ j v (by rw [append_get]; exact hl)
  | eptrX _ o i j v hl => exact .eptrX _ _ i j v (by rw [append_get]; exact hl)
  | ptr _ o j l hl => exact .ptr _ _ j l (append_loc hl)
  | eptr _ o i j l hl => exact .eptr _ _ i j l (append_loc hl)
  | iptr _ c b off val hI hc hv => exact .iptr _ c b off val hI hc hv
  | fn _ f first captured fs cs hf hc h1 h2 =>
    simp only [Q.sh0]
    split
    · rename_i he
      simp only [Bool.and_eq_true, List.isEmpty_iff, List.all_eq_true] at he
      obtain ⟨rfl, he⟩ := he
      exact .fn _ f _ _ fs cs hf hc (fun i hi => by simp at hi) (fun i hi => pureQ0_ok (he _ (List.getElem_mem hi)) (h2 i hi) _)
    · exact .undef _ _

theorem RelV.sh1 {I : Nat → Prop} {w : World} {μ ν : MM} {c : AV} {v : Value} (h : RelV I w ν c v) : RelV I w (μ ++ ν) (sh1 μ.length c) v := by
  cases c with
  | agg cs =>
    obtain ⟨xs, rfl, hn, hx⟩ := h.agg_inv
    exact .agg _ _ xs (by simpa using hn) (fun i hi => by
      simp only [List.length_map] at hi
      simp only [List.getElem_map]
      exact (hx i hi).sh0)
  | _ => exact h.sh0

theorem RelV.sh2 {I : Nat → Prop} {w : World} {μ ν : MM} {c : AV} {v : Value} (h : RelV I w ν c v) : RelV I w (μ ++ ν) (sh2 μ.length c) v := by
  cases c with
  | tup cs =>
    obtain ⟨xs, rfl, hn, hx⟩ := h.tup_inv
    exact .tup _ _ xs (by simpa using hn) (fun i hi => by
      simp only [List.length_map] at hi
      simp only [List.getElem_map]
      exact (hx i hi).sh1)
  | _ => exact h.sh1

theorem RelO.shO {I : Nat → Prop} {w : World} {μ ν : MM} {ob : AObj} {x : Slot} (h : RelO I w ν ob x) : RelO I w (μ ++ ν) (shO μ.length ob) x := by
  cases h with
  | dead => exact .dead
  | arr0 s => exact .arr0 s
  | arr s es l val hs hb hsz hn hc hv => exact .arr s es l val hs hb hsz hn hc hv
  | box cs l val hb hsz hc hv =>
    exact .box _ l val hb (by simpa using hsz) (fun j hj => hc j (by simpa using hj)) (fun j hj => by
      simp only [List.length_map] at hj
      simp only [List.getElem_map]
      exact (hv j hj).sh0)

/-- Two memories side by side. -/
theorem RelH.join {I I' : Nat → Prop} {μ ν : MM} {h h' : List AObj} {w w' : World} (H : RelH I μ h w) (H' : RelH I' ν h' w') (hI : ∀ b, I b → I' b) (hsame : ∀ b, b < w.heap.size → w'.heap[b]? = w.heap[b]?)
    (hown : ∀ b, ν.owns b → w.heap.size ≤ b) (himm : ∀ b, I' b → I b ∨ w.heap.size ≤ b) : RelH I' (μ ++ ν) (h ++ h'.map (shO h.length)) w' := by
  have hl : μ.length = h.length := H.len
  have hloc : ∀ k l, MM.loc (μ ++ ν) k = some l → (MM.loc μ k = some l) ∨ (μ.length ≤ k ∧ MM.loc ν (k - μ.length) = some l) := by
    intro k l e
    rw [MM.loc_some] at e
    rcases Nat.lt_or_ge k μ.length with h1 | h1
    · rw [List.getElem?_append_left h1] at e; exact .inl (MM.loc_some.2 e)
    · rw [List.getElem?_append_right h1] at e; exact .inr ⟨h1, MM.loc_some.2 e⟩
  refine ⟨by simp [H.len, H'.len], fun k ob x hk hx => ?_, fun b hb => ?_, fun k k' l1 l2 e1 e2 e => ?_, H'.imm⟩
  · rcases Nat.lt_or_ge k h.length with h1 | h1
    · rw [List.getElem?_append_left h1] at hk
      rw [List.getElem?_append_left (by omega)] at hx
      refine (H.objs k ob x hk hx).mono hI (fun b hb => hsame b (H.imm b hb)) (fun _ _ r => r.sub (MM.sub_append _ _)) (fun l e => hsame _ ?_)
      subst e
      exact H.size_owned ⟨k, l, MM.loc_some.2 hx, rfl⟩
    · rw [List.getElem?_append_right h1, List.getElem?_map] at hk
      rw [List.getElem?_append_right (by omega), hl] at hx
      cases ho : h'[k - h.length]? with
      | none => rw [ho] at hk; cases hk
      | some ob' =>
        rw [ho] at hk
        cases hk
        rw [← hl]
        rw [← hl] at ho hx
        exact (H'.objs _ ob' x ho hx).shO
  · obtain ⟨k, l, e, rfl⟩ := hb
    rcases hloc k l e with h1 | ⟨_, h1⟩
    · intro hI'
      have hlt := H.size_owned ⟨k, l, h1, rfl⟩
      rcases himm _ hI' with h2 | h2
      · exact H.notI _ ⟨k, l, h1, rfl⟩ h2
      · omega
    · exact H'.notI _ ⟨_, l, h1, rfl⟩
  · rcases hloc k l1 e1 with h1 | ⟨h0, h1⟩ <;> rcases hloc k' l2 e2 with h2 | ⟨h0', h2⟩
    · exact H.apart _ _ _ _ h1 h2 e
    · have a1 := H.size_owned ⟨k, l1, h1, rfl⟩
      have a2 := hown _ ⟨_, l2, h2, rfl⟩
      omega
    · have a1 := H.size_owned ⟨k', l2, h2, rfl⟩
      have a2 := hown _ ⟨_, l1, h1, rfl⟩
      omega
    · have := H'.apart _ _ _ _ h1 h2 e
      omega

theorem owns_nil (b : Nat) : ¬ MM.owns [] b := by rintro ⟨o, l, h, _⟩; simp [MM.loc] at h

/-- A call that is handed nothing but immutable data. -/
theorem CallOK.pure {P : Program} {n : Nat} {g : FuncId} {args : List AV} {st : St} {K : St → AV → Prop} {R : AV → List AObj → Prop} (h : ACalls P g args [] R) (hp : args.all pureQ = true)
    (hK : ∀ r h', R r h' → K { st with h := st.h ++ h'.map (shO st.h.length) } (sh2 st.h.length r)) : CallOK P n g args st K := by
  intro I μ a w vals Rl hn hv
  simp only [List.all_eq_true] at hp
  refine (h I [] w vals (relH_nil Rl.heap.imm) ⟨hv.1, fun i hi => pureQ_ok (hp _ (List.getElem_mem hi)) (hv.2 i hi) []⟩).mono ?_
  rintro e w' ⟨v, r, h', I', ν, rfl, hR, hH, hr, S, _⟩
  have hsame : ∀ b, b < w.heap.size → w'.heap[b]? = w.heap[b]? := fun b hb => S.same b hb (owns_nil b)
  have hown : ∀ b, ν.owns b → w.heap.size ≤ b := fun b hb => (S.own b hb).resolve_left (owns_nil b)
  have himm : ∀ b, I' b → I b ∨ w.heap.size ≤ b := fun b hb => by
    rcases S.imm b hb with h1 | h1 | h1
    · exact .inl h1
    · exact absurd h1 (owns_nil b)
    · exact .inr h1
  have hj := Rl.heap.join hH S.mono hsame hown himm
  refine ⟨v, _, I', μ ++ ν, _, rfl, hK r h' hR, ⟨fun d => ((Rl.tmps d).sub (MM.sub_append _ _)).mono S.mono (fun b hb => hsame b (Rl.heap.imm b hb)), Rl.size, Rl.defers, hj⟩, ?_, ⟨S.mono, S.grow, fun b hb _ => hsame b hb, fun b hb => ?_, fun b hb => ?_, S.ext⟩, Pre.append _ hn⟩
  · rw [← Rl.heap.len]; exact hr.sh2
  · obtain ⟨k, l, e, rfl⟩ := hb
    rw [MM.loc_some] at e
    rcases Nat.lt_or_ge k μ.length with h1 | h1
    · rw [List.getElem?_append_left h1] at e; exact .inl ⟨k, l, MM.loc_some.2 e, rfl⟩
    · rw [List.getElem?_append_right h1] at e; exact .inr (hown _ ⟨_, l, MM.loc_some.2 e, rfl⟩)
  · rcases himm b hb with h1 | h1
    · exact .inl h1
    · exact .inr (.inr h1)

/-- What a call may be handed for reading alone: immutable data, or a view of an array of the walk. -/
def lend (h : List AObj) : AV → AV → Prop
  | .ref k off len, b => ∃ s es, h[k]? = some (.arr s es) ∧ off + len ≤ es.length ∧ b = .vs s ((es.drop off).take len)
  | a, b => pureQ a = true ∧ b = a

def flat0 : AV → Bool
  | .lit _ => true
  | _ => false
def flat1 : AV → Bool
  | .agg cs => cs.all flat0
  | v => flat0 v
def flatLit : AV → Bool
  | .tup vs => vs.all flat1
  | v => flat1 v

theorem flat0_ok {I I' : Nat → Prop} {w w' : World} {μ ν : MM} {r : AV} {v : Value} (h : flat0 r = true) (hr : RelV I w ν r v) : RelV I' w' μ r v := by
  cases hr with
  | lit => exact .lit _ _
  | _ => cases h
theorem flat1_ok {I I' : Nat → Prop} {w w' : World} {μ ν : MM} {r : AV} {v : Value} (h : flat1 r = true) (hr : RelV I w ν r v) : RelV I' w' μ r v := by
  cases r with
  | agg cs =>
    obtain ⟨xs, rfl, hn, hx⟩ := hr.agg_inv
    simp only [flat1, List.all_eq_true] at h
    exact .agg _ _ xs hn (fun i hi => flat0_ok (h _ (List.getElem_mem hi)) (hx i hi))
  | _ => exact flat0_ok (by simpa only [flat1] using h) hr

theorem flatLit_ok {I I' : Nat → Prop} {w w' : World} {μ ν : MM} {r : AV} {v : Value} (h : flatLit r = true) (hr : RelV I w ν r v) : RelV I' w' μ r v := by
  cases r with
  | tup cs =>
    obtain ⟨xs, rfl, hn, hx⟩ := hr.tup_inv
    simp only [flatLit, List.all_eq_true] at h
    exact .tup _ _ xs hn (fun i hi => flat1_ok (h _ (List.getElem_mem hi)) (hx i hi))
  | _ => exact flat1_ok (by simpa only [flatLit] using h) hr

/-- A call that only reads arrays of the walk, and gives back plain values. -/
theorem CallOK.lend {P : Program} {n : Nat} {g : FuncId} {args bs : List AV} {st : St} {K : St → AV → Prop} {R : AV → List AObj → Prop} (h : ACalls P g bs [] R) (hlen : args.length = bs.length)
    (hb : ∀ i (h1 : i < args.length) (h2 : i < bs.length), lend st.h args[i] bs[i]) (hK : ∀ r h', R r h' → flatLit r = true ∧ K st r) : CallOK P n g args st K := by
  intro I μ a w vals Rl hn hv
  let J : Nat → Prop := fun b => I b ∨ μ.owns b
  have hJ : ∀ b, J b → b < w.heap.size := fun b hb => hb.elim (Rl.heap.imm b) Rl.heap.size_owned
  refine (h J [] w vals (relH_nil hJ) ⟨by rw [hv.1, hlen], fun i hi => ?_⟩).mono ?_
  · have h1 := hb i (by omega) hi
    have h2 := hv.2 i (by omega)
    generalize args[i] = x at h1 h2
    generalize bs[i] = b at h1
    have pure : ∀ x, pureQ x = true → RelV I w μ x (vals.getD i Go.undef) → RelV J w [] x (vals.getD i Go.undef) := fun x hx hr => (pureQ_ok hx hr []).mono (fun _ h => .inl h) (fun _ _ => rfl)
    cases x with
    | ref k off len =>
      obtain ⟨s, es, hk, hle, rfl⟩ := h1
      have hl2 : ((es.drop off).take len).length = len := by simp; omega
      rcases Rel.ref Rl.heap hk h2 with ⟨e, rfl, rfl, rfl, _⟩ | ⟨ad, l, e, rfl, _⟩ | ⟨l, cap, val, hl, e, hcap, hsz, hes, hbk, hsz', hnn, hc, hr⟩
      · rw [e]
        simpa using RelV.vs (I := J) (w := w) [] s [] none 0 (fun _ _ => Go.undef) (by simp) (fun h => by simp at h) (fun i hi => by simp at hi) (fun i hi => by simp at hi)
      · rw [e]
        simpa using RelV.vs (I := J) (w := w) [] s [] ad 0 (fun _ _ => Go.undef) (by simp) (fun h => by simp at h) (fun i hi => by simp at hi) (fun i hi => by simp at hi)
      · rw [e]
        have := RelV.vs (I := J) (w := w) [] s ((es.drop off).take len) (some ⟨l.block, l.base + off * s, none⟩) cap (fun i j => val (off + i) j) (by rw [hl2]; exact hcap)
          (fun _ => ⟨l.block, l.base + off * s, rfl, .inr ⟨k, l, hl, rfl⟩, fun p q hp hq => by
            rw [hl2] at hp
            rw [← hc (off + p) q (by omega) hq, Nat.add_mul, ← Nat.add_assoc]⟩)
          (fun p hp => by rw [hl2] at hp; simpa using hnn (off + p) (by omega))
          (fun p hp q hq => by
            rw [hl2] at hp
            have e1 : ((es.drop off).take len)[p]'(by rw [hl2]; exact hp) = es[off + p] := by simp
            have hq' : q < (es[off + p]).cells.length := by rw [← e1]; exact hq
            have := (hr (off + p) (by omega) q hq').mono (I' := J) (w' := w) (fun _ h => .inl h) (fun _ _ => rfl)
            simpa [e1] using this)
        rwa [hl2] at this
    | _ => obtain ⟨h3, rfl⟩ := h1; exact pure _ h3 h2
  · rintro e w' ⟨v, r, h', I', ν, rfl, hR, hH, hr, S, _⟩
    obtain ⟨hf, hK'⟩ := hK r h' hR
    have hsame : ∀ b, b < w.heap.size → w'.heap[b]? = w.heap[b]? := fun b hb => S.same b hb (owns_nil b)
    refine ⟨v, r, I, μ, st, rfl, hK', ?_, flatLit_ok hf hr, ⟨fun _ h => h, S.grow, fun b hb _ => hsame b hb, fun _ h => .inl h, fun _ h => .inl h, S.ext⟩, Pre.refl _ _ hn⟩
    refine ⟨fun d => (Rl.tmps d).mono (fun _ h => h) (fun b hb => hsame b (Rl.heap.imm b hb)), Rl.size, Rl.defers, ⟨Rl.heap.len, fun k ob x h1 h2 => ?_, Rl.heap.notI, Rl.heap.apart, fun b hb => Nat.lt_of_lt_of_le (Rl.heap.imm b hb) S.grow⟩⟩
    refine (Rl.heap.objs k ob x h1 h2).mono (fun _ h => h) (fun b hb => hsame b (Rl.heap.imm b hb)) (fun _ _ h => h) (fun l e => hsame _ ?_)
    subst e
    exact Rl.heap.size_owned ⟨k, l, MM.loc_some.2 h2, rfl⟩

theorem SOp.call {P : Program} {n : Nat} {o : Oper} {N : St → Prop} {st : St} {f : Operand} {args : Array Operand} {ts : Array TypeId} (ho : o.op = .call { callee := .value f, args := args, argTypes := ts }) {g : FuncId} {first captured : List AV}
    (hf : aeval st f = .fn (.func g) first captured) (h : CallOK P n g (first ++ args.toList.map (aeval st) ++ captured) st (fun st' r => N (st'.put o.dst r))) : SOp P n o N st := by
  intro I μ a w R hn next Q hk
  have e1 := R.eval f
  rw [hf] at e1
  generalize hfv : a.eval f = fv at e1
  cases e1 with
  | fn _ _ _ _ fs cs hfs hcs h1 h2 =>
    have hargs : ArgsRel I w μ (first ++ args.toList.map (aeval st) ++ captured) (fs ++ args.map a.eval ++ cs) := by
      refine ⟨by simp [hfs, hcs], fun i hi => ?_⟩
      simp only [List.length_append, List.length_map, Array.length_toList] at hi
      rcases Nat.lt_or_ge i first.length with h3 | h3
      · rw [List.getElem_append_left (by simp; omega), List.getElem_append_left h3]
        rw [getD_of (by simp; omega)]
        rw [Array.getElem_append_left (by simp; omega), Array.getElem_append_left (by omega)]
        have := h1 i h3
        rwa [getD_of (by omega)] at this
      · rcases Nat.lt_or_ge i (first.length + args.size) with h4 | h4
        · rw [List.getElem_append_left (by simp; omega), List.getElem_append_right h3]
          rw [getD_of (by simp; omega)]
          rw [Array.getElem_append_left (by simp; omega), Array.getElem_append_right (by omega)]
          simp only [List.getElem_map, Array.getElem_map, Array.getElem_toList, hfs]
          exact R.eval _
        · rw [List.getElem_append_right (by simp; omega)]
          rw [getD_of (by simp; omega)]
          rw [Array.getElem_append_right (by simp; omega)]
          have := h2 (i - (first ++ args.toList.map (aeval st)).length) (by simp; omega)
          rw [getD_of (by rw [hcs]; simp; omega)] at this
          simpa [hfs] using this
    have hexec : (execOp a.eval o).run P w = (callFunc g (fs ++ args.map a.eval ++ cs)).run P w := by
      simp only [execOp, ho, resolve, hfv, Deferred.ofValue, pure_bind, invoke]
    have hc := h I μ a w _ R hn hargs
    unfold Oper.wp
    rw [hexec]
    rcases hc with ⟨he, hcl⟩ | ⟨v, w', he, hR⟩
    · rw [he]
      refine hcl.mono ?_
      rintro e w' ⟨v, r, I', μ', st', rfl, hN, R', hr, S, hp⟩
      exact hk _ _ _ _ _ hN (R'.put hr o.dst) S hp
    · rw [he]
      obtain ⟨v', r, I', μ', st', e, hN, R', hr, S, hp⟩ := hR
      cases e
      exact hk _ _ _ _ _ hN (R'.put hr o.dst) S hp

end Go.Q
