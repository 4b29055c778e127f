/- Memory: new objects, objects that change, objects that go. -/
import Derived.Test.YthdklcpkoeehnaaDoorQD
namespace Go.Q
open Go

theorem get_append_self {α : Type} (l : List α) (x : α) : (l ++ [x])[l.length]? = some x := by simp

/-- Everything read goes on to a world in which only what is not immutable, and no object's, may differ. -/
theorem RelO.keep {I I' : Nat → Prop} {w w' : World} {μ μ' : MM} {h : List AObj} (_H : RelH I μ h w) (hI : ∀ b, I b → I' b) (hw : ∀ b, I b → w'.heap[b]? = w.heap[b]?) (hs : μ.Sub μ')
    {ob : AObj} {x : Slot} (hl : ∀ l, x = .at l → w'.heap[l.block]? = w.heap[l.block]?) (h : RelO I w μ ob x) : RelO I' w' μ' ob x :=
  h.mono hI hw (fun _ _ r => r.sub hs) hl

theorem RelH.alloc {I : Nat → Prop} {μ : MM} {h : List AObj} {w : World} (H : RelH I μ h w) {o : Obj} {ob : AObj} {l : Loc} (hl : l.block = w.heap.size)
    (ho : RelO I (w.alloc o) (μ ++ [.at l]) ob (.at l)) : RelH I (μ ++ [.at l]) (h ++ [ob]) (w.alloc o) := by
  have hold : ∀ b, b < w.heap.size → (w.alloc o).heap[b]? = w.heap[b]? := fun b hb => by
    simp only [World.alloc]; rw [Array.getElem?_push_lt hb, Array.getElem?_eq_getElem hb]
  have hloc : ∀ k l', MM.loc (μ ++ [.at l]) k = some l' → (MM.loc μ k = some l' ∧ k < μ.length) ∨ (k = μ.length ∧ l' = l) := by
    intro k l' e
    rw [MM.loc_some] at e
    rcases Nat.lt_trichotomy k μ.length with h1 | h1 | h1
    · rw [List.getElem?_append_left h1] at e; exact .inl ⟨MM.loc_some.2 e, h1⟩
    · subst h1; rw [get_append_self] at e; cases e; exact .inr ⟨rfl, rfl⟩
    · rw [List.getElem?_eq_none (by simp; omega)] at e; cases e
  refine ⟨by simp [H.len], fun k ob' x hk hx => ?_, fun b hb => ?_, fun k k' l1 l2 e1 e2 e => ?_, fun b hb => ?_⟩
  · rcases Nat.lt_trichotomy k h.length with h1 | h1 | h1
    · rw [List.getElem?_append_left h1] at hk
      rw [List.getElem?_append_left (by rw [H.len]; exact h1)] at hx
      refine (H.objs k ob' x hk hx).keep H (fun _ h => h) (fun b hb => hold b (H.imm b hb)) (MM.sub_append _ _) (fun l' e => ?_)
      subst e
      exact hold _ (H.size_owned ⟨k, l', MM.loc_some.2 hx, rfl⟩)
    · subst h1
      rw [get_append_self] at hk
      rw [← H.len, get_append_self] at hx
      cases hk; cases hx
      exact ho
    · rw [List.getElem?_eq_none (by simp; omega)] at hk; cases hk
  · obtain ⟨k, l', e, rfl⟩ := hb
    rcases hloc k l' e with ⟨h1, _⟩ | ⟨_, rfl⟩
    · exact H.notI _ ⟨k, l', h1, rfl⟩
    · intro hI; have := H.imm _ hI; omega
  · rcases hloc k l1 e1 with ⟨h1, hk⟩ | ⟨rfl, rfl⟩ <;> rcases hloc k' l2 e2 with ⟨h2, hk'⟩ | ⟨rfl, rfl⟩
    · exact H.apart _ _ _ _ h1 h2 e
    · have := H.size_owned ⟨k, l1, h1, rfl⟩; omega
    · have := H.size_owned ⟨k', l2, h2, rfl⟩; omega
    · rfl
  · have := H.imm b hb; simp; omega

theorem Step.alloc {I : Nat → Prop} {μ : MM} {w : World} {o : Obj} {l : Loc} (hl : l.block = w.heap.size) : Step I μ w I (μ ++ [.at l]) (w.alloc o) := by
  refine ⟨fun _ h => h, by simp, fun b hb _ => ?_, fun b hb => ?_, fun _ h => .inl h, rfl, rfl⟩
  · simp only [World.alloc]; rw [Array.getElem?_push_lt hb, Array.getElem?_eq_getElem hb]
  · obtain ⟨k, l', e, rfl⟩ := hb
    rw [MM.loc_some] at e
    rcases Nat.lt_trichotomy k μ.length with h1 | h1 | h1
    · rw [List.getElem?_append_left h1] at e; exact .inl ⟨k, l', MM.loc_some.2 e, rfl⟩
    · subst h1; rw [get_append_self] at e; cases e; right; omega
    · rw [List.getElem?_eq_none (by simp; omega)] at e; cases e

theorem Pre.append {n : Nat} {μ : MM} (x : MM) (h : n ≤ μ.length) : Pre n μ (μ ++ x) :=
  ⟨by rw [List.length_append]; omega, fun o ho => .inl (List.getElem?_append_left (by omega))⟩

theorem Pre.gone {n : Nat} {μ : MM} (k : Nat) (h : n ≤ μ.length) : Pre n μ (μ.set k .gone) := by
  refine ⟨by simpa using h, fun o ho => ?_⟩
  by_cases e : k = o
  · subst e; exact .inr (List.getElem?_set_self (Nat.lt_of_lt_of_le ho h))
  · exact .inl (List.getElem?_set_ne e)

/-- A new object. -/
theorem Rel.alloc {I : Nat → Prop} {μ : MM} {st : St} {a : Act} {w : World} (R : Rel I μ st a w) {o : Obj} {ob : AObj} {l : Loc} (hl : l.block = w.heap.size)
    (ho : RelO I (w.alloc o) (μ ++ [.at l]) ob (.at l)) : Rel I (μ ++ [.at l]) { st with h := st.h ++ [ob] } a (w.alloc o) := by
  refine ⟨fun d => ?_, R.size, R.defers, R.heap.alloc hl ho⟩
  refine ((R.tmps d).sub (MM.sub_append _ _)).mono (fun _ h => h) (fun b hb => ?_)
  have hb := R.heap.imm b hb
  simp only [World.alloc]; rw [Array.getElem?_push_lt hb, Array.getElem?_eq_getElem hb]

/-- An object that changes where it lies. -/
theorem Rel.update {I : Nat → Prop} {μ : MM} {st : St} {a : Act} {w w' : World} (R : Rel I μ st a w) {k : Nat} {l : Loc} (hk : μ.loc k = some l) {ob : AObj}
    (hsz : w'.heap.size = w.heap.size) (hw : ∀ b, b ≠ l.block → w'.heap[b]? = w.heap[b]?) (ho : RelO I w' μ ob (.at l)) : Rel I μ { st with h := st.h.set k ob } a w' := by
  have hI : ∀ b, I b → w'.heap[b]? = w.heap[b]? := fun b hb => hw b (fun e => R.heap.notI b ⟨k, l, hk, e.symm⟩ hb)
  refine ⟨fun d => (R.tmps d).mono (fun _ h => h) hI, R.size, R.defers, ⟨by simp [R.heap.len], fun j ob' x hj hx => ?_, R.heap.notI, R.heap.apart, fun b hb => by rw [hsz]; exact R.heap.imm b hb⟩⟩
  by_cases e : k = j
  · subst e
    rw [MM.loc_some] at hk
    rw [hk] at hx; cases hx
    have hlt : k < st.h.length := by
      rcases Nat.lt_or_ge k st.h.length with h1 | h1
      · exact h1
      · rw [List.getElem?_eq_none (by simpa using h1)] at hj; cases hj
    rw [List.getElem?_set_self hlt] at hj
    cases hj
    exact ho
  · rw [List.getElem?_set_ne e] at hj
    refine (R.heap.objs j ob' x hj hx).keep R.heap (fun _ h => h) hI (MM.sub_refl _) (fun l' e' => ?_)
    subst e'
    exact hw _ (fun e' => e (R.heap.apart _ _ _ _ hk (MM.loc_some.2 hx) e'.symm))

theorem Step.update {I : Nat → Prop} {μ : MM} {w w' : World} {k : Nat} {l : Loc} (hk : μ.loc k = some l)
    (hsz : w'.heap.size = w.heap.size) (hw : ∀ b, b ≠ l.block → w'.heap[b]? = w.heap[b]?) (hx : w'.os = w.os ∧ w'.output = w.output) : Step I μ w I μ w' :=
  ⟨fun _ h => h, by omega, fun b _ hn => hw b (fun e => hn ⟨k, l, hk, e.symm⟩), fun _ h => .inl h, fun _ h => .inl h, hx⟩

/-- An object goes: what named it names nothing. -/
theorem RelH.kill {I : Nat → Prop} {μ : MM} {h : List AObj} {w : World} (H : RelH I μ h w) (k : Nat) : RelH I (μ.set k .gone) (h.set k .dead) w := by
  have hloc : ∀ j l, MM.loc (μ.set k .gone) j = some l → MM.loc μ j = some l := by
    intro j l e
    rw [MM.loc_some] at e ⊢
    by_cases e' : k = j
    · subst e'
      rcases Nat.lt_or_ge k μ.length with h1 | h1
      · rw [List.getElem?_set_self h1] at e; cases e
      · rw [List.getElem?_eq_none (by simpa using h1)] at e; cases e
    · rwa [List.getElem?_set_ne e'] at e
  refine ⟨by simp [H.len], fun j ob' x hj hx => ?_, fun b hb => ?_, fun j j' l l' e1 e2 e => H.apart _ _ _ _ (hloc _ _ e1) (hloc _ _ e2) e, H.imm⟩
  · by_cases e : k = j
    · subst e
      have hlt : k < h.length := by
        rcases Nat.lt_or_ge k h.length with h1 | h1
        · exact h1
        · rw [List.getElem?_eq_none (by simpa using h1)] at hj; cases hj
      rw [List.getElem?_set_self hlt] at hj
      rw [List.getElem?_set_self (by rw [H.len]; exact hlt)] at hx
      cases hj; cases hx; exact .dead
    · rw [List.getElem?_set_ne e] at hj hx
      exact (H.objs j ob' x hj hx).keep H (fun _ h => h) (fun _ _ => rfl) (MM.sub_set _ _) (fun _ _ => rfl)
  · obtain ⟨j, l, e, rfl⟩ := hb
    exact H.notI _ ⟨j, l, hloc _ _ e, rfl⟩

theorem owns_set {μ : MM} {k : Nat} {b : Nat} (h : MM.owns (μ.set k .gone) b) : μ.owns b := by
  obtain ⟨j, l, e, rfl⟩ := h
  refine ⟨j, l, ?_, rfl⟩
  rw [MM.loc_some] at e ⊢
  by_cases e' : k = j
  · subst e'
    rcases Nat.lt_or_ge k μ.length with h1 | h1
    · rw [List.getElem?_set_self h1] at e; cases e
    · rw [List.getElem?_eq_none (by simpa using h1)] at e; cases e
  · rwa [List.getElem?_set_ne e'] at e

theorem Rel.kill {I : Nat → Prop} {μ : MM} {st : St} {a : Act} {w : World} (R : Rel I μ st a w) (k : Nat) : Rel I (μ.set k .gone) { st with h := st.h.set k .dead } a w :=
  ⟨fun d => (R.tmps d).sub (MM.sub_set _ _), R.size, R.defers, R.heap.kill k⟩

theorem Step.kill {I : Nat → Prop} {μ : MM} {w : World} (k : Nat) : Step I μ w I (μ.set k .gone) w :=
  ⟨fun _ h => h, Nat.le_refl _, fun _ _ _ => rfl, fun _ h => .inl (owns_set h), fun _ h => .inl h, rfl, rfl⟩

/-- An array is frozen: its memory is immutable from here on. -/
theorem Rel.freeze {I : Nat → Prop} {μ : MM} {st : St} {a : Act} {w : World} (R : Rel I μ st a w) {k : Nat} {l : Loc} (hk : μ.loc k = some l) :
    Rel (fun b => I b ∨ b = l.block) (μ.set k .gone) { st with h := st.h.set k .dead } a w ∧ Step I μ w (fun b => I b ∨ b = l.block) (μ.set k .gone) w := by
  have hown : μ.owns l.block := ⟨k, l, hk, rfl⟩
  have hkill := R.heap.kill k
  refine ⟨⟨fun d => ((R.tmps d).sub (MM.sub_set _ _)).mono (fun _ h => .inl h) (fun _ _ => rfl), R.size, R.defers, ⟨hkill.len, fun j ob x hj hx => ?_, fun b hb => ?_, hkill.apart, fun b hb => ?_⟩⟩, ⟨fun _ h => .inl h, Nat.le_refl _, fun _ _ _ => rfl, fun _ h => .inl (owns_set h), fun b hb => ?_, rfl, rfl⟩⟩
  · exact (hkill.objs j ob x hj hx).mono (fun _ h => .inl h) (fun _ _ => rfl) (fun _ _ h => h) (fun _ _ => rfl)
  · rintro (hI | rfl)
    · exact hkill.notI b hb hI
    · obtain ⟨j, l', e, e'⟩ := hb
      have e2 : MM.loc μ j = some l' := by
        rw [MM.loc_some] at e ⊢
        by_cases e3 : k = j
        · subst e3
          rcases Nat.lt_or_ge k μ.length with h1 | h1
          · rw [List.getElem?_set_self h1] at e; cases e
          · rw [List.getElem?_eq_none (by simpa using h1)] at e; cases e
        · rwa [List.getElem?_set_ne e3] at e
      have := R.heap.apart _ _ _ _ hk e2 e'.symm
      subst this
      have hlt : k < μ.length := by
        rcases Nat.lt_or_ge k μ.length with h1 | h1
        · exact h1
        · rw [MM.loc_some, List.getElem?_eq_none h1] at hk; cases hk
      rw [MM.loc_some, List.getElem?_set_self hlt] at e
      cases e
  · rcases hb with hb | rfl
    · exact R.heap.imm b hb
    · exact R.heap.size_owned hown
  · rcases hb with hb | rfl
    · exact .inl hb
    · exact .inr (.inl hown)

end Go.Q
