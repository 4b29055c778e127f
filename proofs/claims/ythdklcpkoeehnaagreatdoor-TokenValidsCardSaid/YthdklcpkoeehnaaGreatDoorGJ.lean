/- strings.Join, out of the kit's contract, for a slice of strings read by value. -/
import Derived.Test.YthdklcpkoeehnaaGreatDoorGE
namespace Go.Q
open Go Go.Proofs Go.RowKit
set_option maxRecDepth 10000

theorem Gives.of_join [KN : Know] {P : Program} {g : FuncId} {fn : Func} {c : Code} (hf : P.funcs[g]? = some fn) (hb : fn.body = some c) (hname : (fn.name == "runtime.NumGoroutine") = false) {xs : List ByteArray} {sep : Value} {v : Value}
    (h0 : ∀ w a cap, xs = [] → Calls P g #[.slice a 0 cap, sep] w fun e w' => e = .returned v ∧ Below w.heap.size w w')
    (h1 : ∀ w bk o cap, bk < w.heap.size → xs.length ≤ cap → (∀ (j : Nat) x, xs[j]? = some x → w.cell? ⟨bk, o + j, none⟩ = some (.string x)) → Calls P g #[.slice (some ⟨bk, o, none⟩) xs.length cap, sep] w fun e w' => e = .returned v ∧ Below w.heap.size w w') :
    Gives P g [.vs 1 (xs.map eS), .lit sep] (.lit v) := by
  intro I μ w vals H hA
  obtain ⟨hn1, hA⟩ := hA
  have a0 := hA 0 (by simp)
  have a1 := hA 1 (by simp)
  simp only [List.getElem_cons_zero, List.getElem_cons_succ] at a0 a1
  obtain ⟨a, cap, val, e0, hcap, ha, _, hv⟩ := a0.vs_inv
  have e1 := a1.lit_eq
  have hμ : μ = [] := List.eq_nil_of_length_eq_zero (by rw [H.len]; rfl)
  subst hμ
  have hvals : vals = #[.slice a xs.length cap, sep] := by
    have h2 : vals.size = 2 := by simpa using hn1
    apply Array.ext
    · simpa using h2
    · intro i hi1 hi2
      have hi : i < 2 := by omega
      match i, hi with
      | 0, _ => rw [getD_of hi1, List.length_map] at e0; simpa using e0
      | 1, _ => rw [getD_of hi1] at e1; simpa using e1
  subst hvals
  rw [List.length_map] at hcap ha
  have key : Calls P g #[.slice a xs.length cap, sep] w fun e w' => e = .returned v ∧ Below w.heap.size w w' := by
    rcases Nat.eq_zero_or_pos xs.length with hz | hz
    · rw [hz]; exact h0 w a cap (List.length_eq_zero_iff.1 hz)
    · obtain ⟨b, off, rfl, hI, hc⟩ := ha hz
      refine h1 w b off cap (H.imm b hI) hcap (fun j x hx => ?_)
      have hj : j < xs.length := by
        rcases Nat.lt_or_ge j xs.length with h | h
        · exact h
        · rw [List.getElem?_eq_none h] at hx; cases hx
      have h2 := hc j 0 hj (by omega)
      have h3 := hv j (by simpa using hj) 0 (by simp [AV.cells])
      simp only [List.getElem_map, eS, AV.cells, List.getElem_cons_zero] at h3
      have h4 := h3.lit_eq
      rw [List.getElem?_eq_getElem hj] at hx
      cases hx
      rw [Nat.mul_one, Nat.add_zero] at h2
      rw [h2, h4]
  refine .inl ⟨run_enter hf hb hname _ _, key.mono ?_⟩
  rintro e w' ⟨rfl, hb⟩
  have hno : ∀ b, ¬ MM.owns ([] : MM) b := fun b hb => by obtain ⟨o, l, e, _⟩ := hb; simp [MM.loc] at e
  refine ⟨v, .lit v, [], I, [], rfl, ⟨rfl, rfl⟩, relH_nil (fun b hI => Nat.lt_of_lt_of_le (H.imm b hI) hb.size) (H.know.step (fun _ h => h) (fun b hI => hb.block b (H.imm b hI))), .lit _ _, ⟨fun _ h => h, hb.size, fun b h1 _ => hb.block b h1, fun _ h => .inl h, fun _ h => .inl h, hb.os, hb.output⟩, Pre.refl _ _ (by simp)⟩

noncomputable def Strs.Join (xs : List ByteArray) (sep : ByteArray) : Option ByteArray :=
  chk (xs.length ≤ 140737488355328 ∧ (Lib.join (xs.map (·.data.toList)) sep.data.toList).length ≤ 140737488355328) (some (B (Lib.join (xs.map (·.data.toList)) sep.data.toList)))
theorem Strs.Join_ok {xs : List ByteArray} {sep r : ByteArray} (h : Strs.Join xs sep = some r) : Gives Tryz.prog 33 [.vs 1 (xs.map eS), .lit (.string sep)] (.lit (.string r)) := by
  obtain ⟨⟨h1, h2⟩, h⟩ := chk_elim h
  cases h
  refine Gives.of_join Tryz.func33 rfl (by kernel_rfl) (fun w a cap h0 => ?_) (fun w bk o cap hbk hcap hc => ?_)
  · subst h0
    exact (Tryz.strings_Join_none a cap sep w).mono fun e w' ⟨he, hw⟩ => ⟨he, by rw [hw]; exact Below.refl _ _⟩
  · exact Tryz.strings_Join bk o cap xs sep w hc hbk h1 hcap h2
end Go.Q
