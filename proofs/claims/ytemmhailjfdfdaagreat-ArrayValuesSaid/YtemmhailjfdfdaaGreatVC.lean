import Derived.Test.YtemmhailjfdfdaaGreatVB
import Derived.Test.YtemmhailjfdfdaaGreatAFE
namespace Go.Q
open Go
set_option maxRecDepth 100000
set_option maxHeartbeats 4000000
theorem brought_two {n : Int} : Ref7.brought 2 ⟨2, n⟩ = some (⟨2, n⟩, 0) := by
  unfold Ref7.brought
  simp only [letkE, b1]
  rfl
section
variable {op : ByteArray} {x y : Int} (hx : x = 0 ∨ x = 1) (hy : y = 0 ∨ y = 1)
include hx hy
theorem aLog_eq (hL : L op = [61, 61]) : Arr.one op ⟨2, x⟩ ⟨2, y⟩ = some (lgV (decide (x = y)), 0) := by
  unfold Arr.one Arr.one.j1 Arr.one.j0
  simp only [letkE, eqW, hL, q0, q1, q2, q3, q4, q5, q6, q7, q8, q9, q10, q11, q12, show decide (([61, 61] : List UInt8) = [43]) = false from rfl, show decide (([61, 61] : List UInt8) = [45]) = false from rfl, show decide (([61, 61] : List UInt8) = [42]) = false from rfl, show decide (([61, 61] : List UInt8) = [47]) = false from rfl, show decide (([61, 61] : List UInt8) = [61, 61]) = true from rfl, show decide (([61, 61] : List UInt8) = [47, 61]) = false from rfl, show decide (([61, 61] : List UInt8) = [60]) = false from rfl, show decide (([61, 61] : List UInt8) = [60, 61]) = false from rfl, show decide (([61, 61] : List UInt8) = [62]) = false from rfl, show decide (([61, 61] : List UInt8) = [62, 61]) = false from rfl, show decide (([61, 61] : List UInt8) = [46, 97, 110, 100, 46]) = false from rfl, show decide (([61, 61] : List UInt8) = [46, 111, 114, 46]) = false from rfl, show decide (([61, 61] : List UInt8) = [46, 110, 111, 116, 46]) = false from rfl, decide_true, condT, condF, b1, aLogical_eq, bindS]
  rcases hx with rfl | rfl <;> rcases hy with rfl | rfl <;> rfl
theorem rLog_eq (hL : L op = [61, 61]) : Ref7.one op ⟨2, x⟩ ⟨2, y⟩ = some (lgV (decide (x = y)), 0) := by
  have ix : I64 x := by unfold I64; omega
  have iy : I64 y := by unfold I64; omega
  have e : ∀ n : Int, (if (2 : Int) > 2 then n else 2) = 2 := fun n => if_neg (by decide)
  unfold Ref7.one
  simp only [letkE, eqW, hL, q0, q1, q2, q3, q4, q5, q6, q7, q8, q9, q10, q11, q12, show decide (([61, 61] : List UInt8) = [43]) = false from rfl, show decide (([61, 61] : List UInt8) = [45]) = false from rfl, show decide (([61, 61] : List UInt8) = [42]) = false from rfl, show decide (([61, 61] : List UInt8) = [47]) = false from rfl, show decide (([61, 61] : List UInt8) = [61, 61]) = true from rfl, show decide (([61, 61] : List UInt8) = [47, 61]) = false from rfl, show decide (([61, 61] : List UInt8) = [60]) = false from rfl, show decide (([61, 61] : List UInt8) = [60, 61]) = false from rfl, show decide (([61, 61] : List UInt8) = [62]) = false from rfl, show decide (([61, 61] : List UInt8) = [62, 61]) = false from rfl, show decide (([61, 61] : List UInt8) = [46, 97, 110, 100, 46]) = false from rfl, show decide (([61, 61] : List UInt8) = [46, 111, 114, 46]) = false from rfl, show decide (([61, 61] : List UInt8) = [46, 110, 111, 116, 46]) = false from rfl, decide_true, condT, condF, b1, nb1, rTruth_eq, bindS, e, brought_two]
  rw [rCompared_eq (.inr (.inl rfl)) ix iy (.inr (.inl ⟨rfl, hx⟩)) (.inr (.inl ⟨rfl, hy⟩)), bindS, show cmpV 2 x y = cmpZ x y from if_neg (by decide)]
  rcases hx with rfl | rfl <;> rcases hy with rfl | rfl <;> rfl
theorem aLog_ne (hL : L op = [47, 61]) : Arr.one op ⟨2, x⟩ ⟨2, y⟩ = some (lgV (!decide (x = y)), 0) := by
  unfold Arr.one Arr.one.j1 Arr.one.j0
  simp only [letkE, eqW, hL, q0, q1, q2, q3, q4, q5, q6, q7, q8, q9, q10, q11, q12, show decide (([47, 61] : List UInt8) = [43]) = false from rfl, show decide (([47, 61] : List UInt8) = [45]) = false from rfl, show decide (([47, 61] : List UInt8) = [42]) = false from rfl, show decide (([47, 61] : List UInt8) = [47]) = false from rfl, show decide (([47, 61] : List UInt8) = [61, 61]) = false from rfl, show decide (([47, 61] : List UInt8) = [47, 61]) = true from rfl, show decide (([47, 61] : List UInt8) = [60]) = false from rfl, show decide (([47, 61] : List UInt8) = [60, 61]) = false from rfl, show decide (([47, 61] : List UInt8) = [62]) = false from rfl, show decide (([47, 61] : List UInt8) = [62, 61]) = false from rfl, show decide (([47, 61] : List UInt8) = [46, 97, 110, 100, 46]) = false from rfl, show decide (([47, 61] : List UInt8) = [46, 111, 114, 46]) = false from rfl, show decide (([47, 61] : List UInt8) = [46, 110, 111, 116, 46]) = false from rfl, decide_true, condT, condF, b1, aLogical_eq, bindS]
  rcases hx with rfl | rfl <;> rcases hy with rfl | rfl <;> rfl
theorem rLog_ne (hL : L op = [47, 61]) : Ref7.one op ⟨2, x⟩ ⟨2, y⟩ = some (lgV (!decide (x = y)), 0) := by
  have ix : I64 x := by unfold I64; omega
  have iy : I64 y := by unfold I64; omega
  have e : ∀ n : Int, (if (2 : Int) > 2 then n else 2) = 2 := fun n => if_neg (by decide)
  unfold Ref7.one
  simp only [letkE, eqW, hL, q0, q1, q2, q3, q4, q5, q6, q7, q8, q9, q10, q11, q12, show decide (([47, 61] : List UInt8) = [43]) = false from rfl, show decide (([47, 61] : List UInt8) = [45]) = false from rfl, show decide (([47, 61] : List UInt8) = [42]) = false from rfl, show decide (([47, 61] : List UInt8) = [47]) = false from rfl, show decide (([47, 61] : List UInt8) = [61, 61]) = false from rfl, show decide (([47, 61] : List UInt8) = [47, 61]) = true from rfl, show decide (([47, 61] : List UInt8) = [60]) = false from rfl, show decide (([47, 61] : List UInt8) = [60, 61]) = false from rfl, show decide (([47, 61] : List UInt8) = [62]) = false from rfl, show decide (([47, 61] : List UInt8) = [62, 61]) = false from rfl, show decide (([47, 61] : List UInt8) = [46, 97, 110, 100, 46]) = false from rfl, show decide (([47, 61] : List UInt8) = [46, 111, 114, 46]) = false from rfl, show decide (([47, 61] : List UInt8) = [46, 110, 111, 116, 46]) = false from rfl, decide_true, condT, condF, b1, nb1, rTruth_eq, bindS, e, brought_two]
  rw [rCompared_eq (.inr (.inl rfl)) ix iy (.inr (.inl ⟨rfl, hx⟩)) (.inr (.inl ⟨rfl, hy⟩)), bindS, show cmpV 2 x y = cmpZ x y from if_neg (by decide)]
  rcases hx with rfl | rfl <;> rcases hy with rfl | rfl <;> rfl
theorem aLog_an (hL : L op = [46, 97, 110, 100, 46]) : Arr.one op ⟨2, x⟩ ⟨2, y⟩ = some (lgV (decide (x = 1 ∧ y = 1)), 0) := by
  unfold Arr.one Arr.one.j1 Arr.one.j0
  simp only [letkE, eqW, hL, q0, q1, q2, q3, q4, q5, q6, q7, q8, q9, q10, q11, q12, show decide (([46, 97, 110, 100, 46] : List UInt8) = [43]) = false from rfl, show decide (([46, 97, 110, 100, 46] : List UInt8) = [45]) = false from rfl, show decide (([46, 97, 110, 100, 46] : List UInt8) = [42]) = false from rfl, show decide (([46, 97, 110, 100, 46] : List UInt8) = [47]) = false from rfl, show decide (([46, 97, 110, 100, 46] : List UInt8) = [61, 61]) = false from rfl, show decide (([46, 97, 110, 100, 46] : List UInt8) = [47, 61]) = false from rfl, show decide (([46, 97, 110, 100, 46] : List UInt8) = [60]) = false from rfl, show decide (([46, 97, 110, 100, 46] : List UInt8) = [60, 61]) = false from rfl, show decide (([46, 97, 110, 100, 46] : List UInt8) = [62]) = false from rfl, show decide (([46, 97, 110, 100, 46] : List UInt8) = [62, 61]) = false from rfl, show decide (([46, 97, 110, 100, 46] : List UInt8) = [46, 97, 110, 100, 46]) = true from rfl, show decide (([46, 97, 110, 100, 46] : List UInt8) = [46, 111, 114, 46]) = false from rfl, show decide (([46, 97, 110, 100, 46] : List UInt8) = [46, 110, 111, 116, 46]) = false from rfl, decide_true, condT, condF, b1, aLogical_eq, bindS]
  rcases hx with rfl | rfl <;> rcases hy with rfl | rfl <;> rfl
theorem rLog_an (hL : L op = [46, 97, 110, 100, 46]) : Ref7.one op ⟨2, x⟩ ⟨2, y⟩ = some (lgV (decide (x = 1 ∧ y = 1)), 0) := by
  have ix : I64 x := by unfold I64; omega
  have iy : I64 y := by unfold I64; omega
  have e : ∀ n : Int, (if (2 : Int) > 2 then n else 2) = 2 := fun n => if_neg (by decide)
  unfold Ref7.one
  simp only [letkE, eqW, hL, q0, q1, q2, q3, q4, q5, q6, q7, q8, q9, q10, q11, q12, show decide (([46, 97, 110, 100, 46] : List UInt8) = [43]) = false from rfl, show decide (([46, 97, 110, 100, 46] : List UInt8) = [45]) = false from rfl, show decide (([46, 97, 110, 100, 46] : List UInt8) = [42]) = false from rfl, show decide (([46, 97, 110, 100, 46] : List UInt8) = [47]) = false from rfl, show decide (([46, 97, 110, 100, 46] : List UInt8) = [61, 61]) = false from rfl, show decide (([46, 97, 110, 100, 46] : List UInt8) = [47, 61]) = false from rfl, show decide (([46, 97, 110, 100, 46] : List UInt8) = [60]) = false from rfl, show decide (([46, 97, 110, 100, 46] : List UInt8) = [60, 61]) = false from rfl, show decide (([46, 97, 110, 100, 46] : List UInt8) = [62]) = false from rfl, show decide (([46, 97, 110, 100, 46] : List UInt8) = [62, 61]) = false from rfl, show decide (([46, 97, 110, 100, 46] : List UInt8) = [46, 97, 110, 100, 46]) = true from rfl, show decide (([46, 97, 110, 100, 46] : List UInt8) = [46, 111, 114, 46]) = false from rfl, show decide (([46, 97, 110, 100, 46] : List UInt8) = [46, 110, 111, 116, 46]) = false from rfl, decide_true, condT, condF, b1, nb1, rTruth_eq, bindS, e, brought_two]
  rw [rCompared_eq (.inr (.inl rfl)) ix iy (.inr (.inl ⟨rfl, hx⟩)) (.inr (.inl ⟨rfl, hy⟩)), bindS]
  rcases hx with rfl | rfl <;> rcases hy with rfl | rfl <;> rfl
theorem aLog_or (hL : L op = [46, 111, 114, 46]) : Arr.one op ⟨2, x⟩ ⟨2, y⟩ = some (lgV (decide (x = 1 ∨ y = 1)), 0) := by
  unfold Arr.one Arr.one.j1 Arr.one.j0
  simp only [letkE, eqW, hL, q0, q1, q2, q3, q4, q5, q6, q7, q8, q9, q10, q11, q12, show decide (([46, 111, 114, 46] : List UInt8) = [43]) = false from rfl, show decide (([46, 111, 114, 46] : List UInt8) = [45]) = false from rfl, show decide (([46, 111, 114, 46] : List UInt8) = [42]) = false from rfl, show decide (([46, 111, 114, 46] : List UInt8) = [47]) = false from rfl, show decide (([46, 111, 114, 46] : List UInt8) = [61, 61]) = false from rfl, show decide (([46, 111, 114, 46] : List UInt8) = [47, 61]) = false from rfl, show decide (([46, 111, 114, 46] : List UInt8) = [60]) = false from rfl, show decide (([46, 111, 114, 46] : List UInt8) = [60, 61]) = false from rfl, show decide (([46, 111, 114, 46] : List UInt8) = [62]) = false from rfl, show decide (([46, 111, 114, 46] : List UInt8) = [62, 61]) = false from rfl, show decide (([46, 111, 114, 46] : List UInt8) = [46, 97, 110, 100, 46]) = false from rfl, show decide (([46, 111, 114, 46] : List UInt8) = [46, 111, 114, 46]) = true from rfl, show decide (([46, 111, 114, 46] : List UInt8) = [46, 110, 111, 116, 46]) = false from rfl, decide_true, condT, condF, b1, aLogical_eq, bindS]
  rcases hx with rfl | rfl <;> rcases hy with rfl | rfl <;> rfl
theorem rLog_or (hL : L op = [46, 111, 114, 46]) : Ref7.one op ⟨2, x⟩ ⟨2, y⟩ = some (lgV (decide (x = 1 ∨ y = 1)), 0) := by
  have ix : I64 x := by unfold I64; omega
  have iy : I64 y := by unfold I64; omega
  have e : ∀ n : Int, (if (2 : Int) > 2 then n else 2) = 2 := fun n => if_neg (by decide)
  unfold Ref7.one
  simp only [letkE, eqW, hL, q0, q1, q2, q3, q4, q5, q6, q7, q8, q9, q10, q11, q12, show decide (([46, 111, 114, 46] : List UInt8) = [43]) = false from rfl, show decide (([46, 111, 114, 46] : List UInt8) = [45]) = false from rfl, show decide (([46, 111, 114, 46] : List UInt8) = [42]) = false from rfl, show decide (([46, 111, 114, 46] : List UInt8) = [47]) = false from rfl, show decide (([46, 111, 114, 46] : List UInt8) = [61, 61]) = false from rfl, show decide (([46, 111, 114, 46] : List UInt8) = [47, 61]) = false from rfl, show decide (([46, 111, 114, 46] : List UInt8) = [60]) = false from rfl, show decide (([46, 111, 114, 46] : List UInt8) = [60, 61]) = false from rfl, show decide (([46, 111, 114, 46] : List UInt8) = [62]) = false from rfl, show decide (([46, 111, 114, 46] : List UInt8) = [62, 61]) = false from rfl, show decide (([46, 111, 114, 46] : List UInt8) = [46, 97, 110, 100, 46]) = false from rfl, show decide (([46, 111, 114, 46] : List UInt8) = [46, 111, 114, 46]) = true from rfl, show decide (([46, 111, 114, 46] : List UInt8) = [46, 110, 111, 116, 46]) = false from rfl, decide_true, condT, condF, b1, nb1, rTruth_eq, bindS, e, brought_two]
  rw [rCompared_eq (.inr (.inl rfl)) ix iy (.inr (.inl ⟨rfl, hx⟩)) (.inr (.inl ⟨rfl, hy⟩)), bindS]
  rcases hx with rfl | rfl <;> rcases hy with rfl | rfl <;> rfl
end
theorem kc_need {c : Nat} {a b : Int} (hb : kB b ≠ 3) (h : kindC c a b ≠ 0) : ((c = 1 ∨ c = 2 ∨ c = 3 ∨ c = 4) ∧ kB a = 1 ∧ kB b = 1) ∨ ((c = 3 ∨ c = 5) ∧ kB a = 2 ∧ kB b = 2) := by
  unfold kindC at h
  rw [show (kB b == 3) = false from by rw [beq_eq_false_iff_ne]; exact hb, condF] at h
  generalize kB a = x at *
  generalize kB b = y at *
  cases c1 : ((c == 1 || c == 2) && (x == 1 && y == 1))
  · rw [c1, condF] at h
    cases c2 : ((c == 3 || c == 4) && (x == 1 && y == 1))
    · rw [c2, condF] at h
      cases c3 : ((c == 3 || c == 5) && (x == 2 && y == 2))
      · rw [c3, condF] at h; exact absurd rfl h
      · simp only [Bool.and_eq_true, Bool.or_eq_true, beq_iff_eq] at c3
        exact .inr c3
    · simp only [Bool.and_eq_true, Bool.or_eq_true, beq_iff_eq] at c2
      exact .inl ⟨by omega, c2.2⟩
  · simp only [Bool.and_eq_true, Bool.or_eq_true, beq_iff_eq] at c1
    exact .inl ⟨by omega, c1.2⟩
theorem kc_need1 {c : Nat} {a : Int} (h : kindC c a 0 ≠ 0) : (c = 1 ∧ kB a = 1) ∨ (c = 6 ∧ kB a = 2) := by
  unfold kindC at h
  rw [show (kB 0 == 3) = true from rfl, condT] at h
  generalize kB a = x at *
  cases c1 : (c == 1 && x == 1)
  · rw [c1, condF] at h
    cases c2 : (c == 6 && x == 2)
    · rw [c2, condF] at h; exact absurd rfl h
    · simp only [Bool.and_eq_true, beq_iff_eq] at c2
      exact .inr c2
  · simp only [Bool.and_eq_true, beq_iff_eq] at c1
    exact .inl c1
def BothS {α : Type} (f g : Option α) : Prop := ∃ r, f = some r ∧ g = some r
theorem one_same {op : ByteArray} {a b : api.Value} (ia : I64 a.N) (ib : I64 b.N) (va : ValB a.Kind a.N) (vb : ValB b.Kind b.N) (hk : kindC (opC (L op)) a.Kind b.Kind ≠ 0) : BothS (Arr.one op a b) (Ref7.one op a b) := by
  have nb : kB b.Kind ≠ 3 := by
    intro h
    have : b.Kind = 0 := of_decide_eq_true ((zero_kB _).trans (by rw [h]; rfl))
    unfold ValB at vb; omega
  have num : ∀ v : api.Value, kB v.Kind = 1 → NumK v.Kind := fun v h => of_decide_eq_true (p := v.Kind = 1 ∨ v.Kind = 3 ∨ v.Kind = 4) ((N1_kB v.Kind).trans (by rw [h]; rfl))
  have two : ∀ v : api.Value, kB v.Kind = 2 → v.Kind = 2 := fun v h => of_decide_eq_true ((two_kB v.Kind).trans (by rw [h]; rfl))
  have log : ∀ v : api.Value, kB v.Kind = 2 → ValB v.Kind v.N → v = ⟨2, v.N⟩ ∧ (v.N = 0 ∨ v.N = 1) := by
    intro v h hv
    have := two v h
    refine ⟨by cases v; simp only at this; subst this; rfl, ?_⟩
    unfold ValB at hv; omega
  have pair := fun h1 h2 => pair_of (num a h1) (num b h2) ia ib va vb
  have n2 : kB a.Kind = 1 → a.Kind ≠ 2 := fun h q => by have := num a h; unfold NumK at this; omega
  have need := kc_need nb hk
  clear hk
  rcases op_cases (L op) with hL | hL | hL | hL | hL | hL | hL | hL | hL | hL | hL | hL | hL | ⟨h0, h1, h2, h3, h4, h5, h6, h7, h8, h9, h10, h11, h12⟩
  · rw [hL, show opC ([43] : List UInt8) = 1 from rfl] at need
    have h : kB a.Kind = 1 ∧ kB b.Kind = 1 := by omega
    have := pair h.1 h.2
    exact ⟨_, aOne_pl hL this.p, rOne_pl hL this⟩
  · rw [hL, show opC ([45] : List UInt8) = 1 from rfl] at need
    have h : kB a.Kind = 1 ∧ kB b.Kind = 1 := by omega
    have := pair h.1 h.2
    exact ⟨_, aOne_mi hL this.p, rOne_mi hL this⟩
  · rw [hL, show opC ([42] : List UInt8) = 2 from rfl] at need
    have h : kB a.Kind = 1 ∧ kB b.Kind = 1 := by omega
    have := pair h.1 h.2
    exact ⟨_, aOne_st hL this.p, rOne_st hL this⟩
  · rw [hL, show opC ([47] : List UInt8) = 2 from rfl] at need
    have h : kB a.Kind = 1 ∧ kB b.Kind = 1 := by omega
    have := pair h.1 h.2
    exact ⟨_, aOne_sl hL this.p, rOne_sl hL this⟩
  · rw [hL, show opC ([61, 61] : List UInt8) = 3 from rfl] at need
    have h : (kB a.Kind = 1 ∧ kB b.Kind = 1) ∨ (kB a.Kind = 2 ∧ kB b.Kind = 2) := by omega
    rcases h with h | h
    · have := pair h.1 h.2
      exact ⟨_, aOne_eq hL this.p (n2 h.1), rOne_eq hL this⟩
    · obtain ⟨e1, x1⟩ := log a h.1 va
      obtain ⟨e2, x2⟩ := log b h.2 vb
      rw [e1, e2]
      exact ⟨_, aLog_eq x1 x2 hL, rLog_eq x1 x2 hL⟩
  · rw [hL, show opC ([47, 61] : List UInt8) = 3 from rfl] at need
    have h : (kB a.Kind = 1 ∧ kB b.Kind = 1) ∨ (kB a.Kind = 2 ∧ kB b.Kind = 2) := by omega
    rcases h with h | h
    · have := pair h.1 h.2
      exact ⟨_, aOne_ne hL this.p (n2 h.1), rOne_ne hL this⟩
    · obtain ⟨e1, x1⟩ := log a h.1 va
      obtain ⟨e2, x2⟩ := log b h.2 vb
      rw [e1, e2]
      exact ⟨_, aLog_ne x1 x2 hL, rLog_ne x1 x2 hL⟩
  · rw [hL, show opC ([60] : List UInt8) = 4 from rfl] at need
    have h : kB a.Kind = 1 ∧ kB b.Kind = 1 := by omega
    have := pair h.1 h.2
    exact ⟨_, aOne_lt hL this.p (n2 h.1), rOne_lt hL this⟩
  · rw [hL, show opC ([60, 61] : List UInt8) = 4 from rfl] at need
    have h : kB a.Kind = 1 ∧ kB b.Kind = 1 := by omega
    have := pair h.1 h.2
    exact ⟨_, aOne_le hL this.p (n2 h.1), rOne_le hL this⟩
  · rw [hL, show opC ([62] : List UInt8) = 4 from rfl] at need
    have h : kB a.Kind = 1 ∧ kB b.Kind = 1 := by omega
    have := pair h.1 h.2
    exact ⟨_, aOne_gt hL this.p (n2 h.1), rOne_gt hL this⟩
  · rw [hL, show opC ([62, 61] : List UInt8) = 4 from rfl] at need
    have h : kB a.Kind = 1 ∧ kB b.Kind = 1 := by omega
    have := pair h.1 h.2
    exact ⟨_, aOne_ge hL this.p (n2 h.1), rOne_ge hL this⟩
  · rw [hL, show opC ([46, 97, 110, 100, 46] : List UInt8) = 5 from rfl] at need
    have h : kB a.Kind = 2 ∧ kB b.Kind = 2 := by omega
    obtain ⟨e1, x1⟩ := log a h.1 va
    obtain ⟨e2, x2⟩ := log b h.2 vb
    rw [e1, e2]
    exact ⟨_, aLog_an x1 x2 hL, rLog_an x1 x2 hL⟩
  · rw [hL, show opC ([46, 111, 114, 46] : List UInt8) = 5 from rfl] at need
    have h : kB a.Kind = 2 ∧ kB b.Kind = 2 := by omega
    obtain ⟨e1, x1⟩ := log a h.1 va
    obtain ⟨e2, x2⟩ := log b h.2 vb
    rw [e1, e2]
    exact ⟨_, aLog_or x1 x2 hL, rLog_or x1 x2 hL⟩
  · rw [hL, show opC ([46, 110, 111, 116, 46] : List UInt8) = 6 from rfl] at need
    exfalso; omega
  · have hc : opC (L op) = 0 := by unfold opC; rw [if_neg h0, if_neg h1, if_neg h2, if_neg h3, if_neg h4, if_neg h5, if_neg h6, if_neg h7, if_neg h8, if_neg h9, if_neg h10, if_neg h11, if_neg h12]
    rw [hc] at need
    exfalso; omega
theorem aNeg_eq {k : Int} (h : k = 3 ∨ k = 4) {n : Int} (hb : bitsOk (kp k).1 (kp k).2 n) : Flt.Neg (kw k) n = some (negS (kp k).1 (kp k).2 n, 0) := by
  have := signed_eq (kindS_of h) hb (g := Flt.Neg_1) (f := fun s => 1 - s) (fun s hs => by
    rcases hs with rfl | rfl
    · exact ⟨rfl, .inr rfl⟩
    · exact ⟨rfl, .inl rfl⟩)
  unfold Flt.Neg
  rw [this, bindS]
  rfl
noncomputable def onV (l : List UInt8) (a : api.Value) : api.Value :=
  if l = [46, 110, 111, 116, 46] then lgV (decide (a.N = 0))
  else if a.Kind = 3 ∨ a.Kind = 4 then ⟨a.Kind, if l = [43] then negS (kp a.Kind).1 (kp a.Kind).2 (negS (kp a.Kind).1 (kp a.Kind).2 a.N) else negS (kp a.Kind).1 (kp a.Kind).2 a.N⟩
  else if l = [43] then a else ⟨1, IntKind.i64.wrap (0 - a.N)⟩
theorem only_same {op : ByteArray} {a : api.Value} (ia : I64 a.N) (va : ValB a.Kind a.N) (hk : kindC (opC (L op)) a.Kind 0 ≠ 0) : Arr.only_ op a = some (onV (L op) a) ∧ Ref7.only_ op a = some (onV (L op) a) := by
  have num : kB a.Kind = 1 → NumK a.Kind := fun h => of_decide_eq_true (p := a.Kind = 1 ∨ a.Kind = 3 ∨ a.Kind = 4) ((N1_kB a.Kind).trans (by rw [h]; rfl))
  have two : kB a.Kind = 2 → a.Kind = 2 := fun h => of_decide_eq_true ((two_kB a.Kind).trans (by rw [h]; rfl))
  have need := kc_need1 hk
  clear hk
  have hl : ((L op = [43] ∨ L op = [45]) ∧ NumK a.Kind) ∨ (L op = [46, 110, 111, 116, 46] ∧ a.Kind = 2) := by
    rcases op_cases (L op) with q0 | q1 | q2 | q3 | q4 | q5 | q6 | q7 | q8 | q9 | q10 | q11 | q12 | ⟨h0, h1, h2, h3, h4, h5, h6, h7, h8, h9, h10, h11, h12⟩
    · rw [q0, show opC ([43] : List UInt8) = 1 from rfl] at need; exact .inl ⟨.inl q0, num (by omega)⟩
    · rw [q1, show opC ([45] : List UInt8) = 1 from rfl] at need; exact .inl ⟨.inr q1, num (by omega)⟩
    · rw [q2, show opC ([42] : List UInt8) = 2 from rfl] at need; exfalso; omega
    · rw [q3, show opC ([47] : List UInt8) = 2 from rfl] at need; exfalso; omega
    · rw [q4, show opC ([61, 61] : List UInt8) = 3 from rfl] at need; exfalso; omega
    · rw [q5, show opC ([47, 61] : List UInt8) = 3 from rfl] at need; exfalso; omega
    · rw [q6, show opC ([60] : List UInt8) = 4 from rfl] at need; exfalso; omega
    · rw [q7, show opC ([60, 61] : List UInt8) = 4 from rfl] at need; exfalso; omega
    · rw [q8, show opC ([62] : List UInt8) = 4 from rfl] at need; exfalso; omega
    · rw [q9, show opC ([62, 61] : List UInt8) = 4 from rfl] at need; exfalso; omega
    · rw [q10, show opC ([46, 97, 110, 100, 46] : List UInt8) = 5 from rfl] at need; exfalso; omega
    · rw [q11, show opC ([46, 111, 114, 46] : List UInt8) = 5 from rfl] at need; exfalso; omega
    · rw [q12, show opC ([46, 110, 111, 116, 46] : List UInt8) = 6 from rfl] at need; exact .inr ⟨q12, two (by omega)⟩
    · have hc : opC (L op) = 0 := by unfold opC; rw [if_neg h0, if_neg h1, if_neg h2, if_neg h3, if_neg h4, if_neg h5, if_neg h6, if_neg h7, if_neg h8, if_neg h9, if_neg h10, if_neg h11, if_neg h12]
      rw [hc] at need
      exfalso; omega
  unfold Arr.only_ Ref7.only_ Ref7.only_.j2 Ref7.only_.j0 Ref7.only_.j1 onV
  simp only [letkE, b1, eqW, aBytes_eq, rBytes_eq, bindS, aLogical_eq, rTruth_eq, show L (⟨#[43]⟩ : ByteArray) = [43] from rfl, show L (⟨#[46, 110, 111, 116, 46]⟩ : ByteArray) = [46, 110, 111, 116, 46] from rfl]
  rcases hl with ⟨hl, hn⟩ | ⟨hl, h2⟩
  · have hno : ¬ L op = [46, 110, 111, 116, 46] := by rcases hl with q | q <;> rw [q] <;> decide
    rw [decide_eq_false hno, condF, condF, if_neg hno]
    by_cases h1 : a.Kind = 1
    · rw [decide_eq_true h1, if_neg (show ¬ (a.Kind = 3 ∨ a.Kind = 4) by omega), if_neg (show ¬ a.Kind = 3 by omega), if_neg (show ¬ a.Kind = 4 by omega), show decide ((0 : Int) > 0) = false from rfl]
      rcases hl with q | q
      · rw [q, show decide (([43] : List UInt8) = [43]) = true from rfl, if_pos rfl]
        exact ⟨rfl, rfl⟩
      · rw [q, show decide (([45] : List UInt8) = [43]) = false from rfl, if_neg (by decide)]
        rw [h1]
        exact ⟨rfl, rfl⟩
    · have h34 : a.Kind = 3 ∨ a.Kind = 4 := by unfold NumK at hn; omega
      have hb := val_float va h34
      obtain ⟨n1, n2, _, _⟩ := neg_ok (kindS_of h34) hb
      rw [decide_eq_false h1, if_pos h34, decide_eq_true (if3 _ h34), bytes_of h34, aNeg_eq h34 hb, rNeg_eq (kindS_of h34) ia hb]
      simp only [bindS, condF, condT]
      rw [aNeg_eq h34 n2, rNeg_eq (kindS_of h34) n1 n2]
      simp only [bindS]
      rcases hl with q | q
      · rw [q, show decide (([43] : List UInt8) = [43]) = true from rfl, if_pos rfl]
        exact ⟨rfl, rfl⟩
      · rw [q, show decide (([45] : List UInt8) = [43]) = false from rfl, if_neg (by decide)]
        exact ⟨rfl, rfl⟩
  · rw [decide_eq_true hl, if_pos hl, condT, condT]
    exact ⟨rfl, rfl⟩
theorem One_same (op : ByteArray) (a b : api.Value) (ia : I64 a.N) (ib : I64 b.N) : BothS (Arr.One op a b) (Ref7.One op a b) := by
  unfold Arr.One Ref7.One
  rw [aIsValue_eq, rIsValue_eq ia, aIsValue_eq, rIsValue_eq ib]
  simp only [letkE, bindS]
  unfold Arr.One.j1 Ref7.One.j1 Arr.One.j0 Ref7.One.j0
  simp only [letkE, aKind_eq, rKind_eq, bindS, b1]
  cases h1 : dV a.Kind a.N
  · exact ⟨_, rfl, rfl⟩
  · cases h2 : dV b.Kind b.N
    · exact ⟨_, rfl, rfl⟩
    · simp only [Bool.not_true, condF]
      by_cases hk : kindC (opC (L op)) a.Kind b.Kind = 0
      · rw [decide_eq_true hk]; exact ⟨_, rfl, rfl⟩
      · rw [decide_eq_false hk, condF, condF]
        obtain ⟨r, e1, e2⟩ := one_same ia ib (dV_iff.1 h1) (dV_iff.1 h2) hk
        rw [show Arr.one op ⟨a.Kind, a.N⟩ ⟨b.Kind, b.N⟩ = _ from e1, show Ref7.one op ⟨a.Kind, a.N⟩ ⟨b.Kind, b.N⟩ = _ from e2, bindS]
        exact ⟨_, rfl, rfl⟩
theorem Only_same (op : ByteArray) (a : api.Value) (ia : I64 a.N) : BothS (Arr.Only op a) (Ref7.Only op a) := by
  unfold Arr.Only Ref7.Only
  rw [aIsValue_eq, rIsValue_eq ia]
  simp only [letkE, bindS, aKind_eq, rKind_eq, b1]
  cases h1 : dV a.Kind a.N
  · exact ⟨_, rfl, rfl⟩
  · simp only [Bool.not_true, condF]
    by_cases hk : kindC (opC (L op)) a.Kind 0 = 0
    · rw [decide_eq_true hk]; exact ⟨_, rfl, rfl⟩
    · rw [decide_eq_false hk, condF, condF]
      obtain ⟨e1, e2⟩ := only_same ia (dV_iff.1 h1) hk
      rw [show Arr.only_ op ⟨a.Kind, a.N⟩ = _ from e1, show Ref7.only_ op ⟨a.Kind, a.N⟩ = _ from e2, bindS]
      exact ⟨_, rfl, rfl⟩
theorem beq_self {n : Int} : (n == n) = true := beq_self_eq_true n
theorem ArrayValues_eq (op : ByteArray) (a b : api.Value) (ia : I64 a.N) (ib : I64 b.N) : Law7.ArrayValues op a b = some true := by
  obtain ⟨r, e1, e2⟩ := One_same op a b ia ib
  obtain ⟨s, e3, e4⟩ := Only_same op a ia
  unfold Law7.ArrayValues
  rw [show Arr.One op ⟨a.Kind, a.N⟩ ⟨b.Kind, b.N⟩ = _ from e1, show Ref7.One op ⟨a.Kind, a.N⟩ ⟨b.Kind, b.N⟩ = _ from e2, show Arr.Only op ⟨a.Kind, a.N⟩ = _ from e3, show Ref7.Only op ⟨a.Kind, a.N⟩ = _ from e4]
  simp only [bindS, letkE, beq_self, Bool.and_self, Bool.and_true, condT, aKind_eq, rKind_eq, Law7.Awake_eq]
end Go.Q
