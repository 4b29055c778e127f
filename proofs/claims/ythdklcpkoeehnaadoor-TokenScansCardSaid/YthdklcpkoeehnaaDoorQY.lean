/- Contracts of the library's functions, out of the kit's. -/
import Derived.Test.YthdklcpkoeehnaaDoorQX
import Derived.Below
import Derived.Laws.Externs
namespace Go.Q
open Go Go.RowKit

theorem run_enter {P : Program} {g : FuncId} {fn : Func} {c : Code} (hf : P.funcs[g]? = some fn) (hb : fn.body = some c) (hname : (fn.name == "runtime.NumGoroutine") = false) (vals : Array Value) (w : World) :
    (callFunc g vals).run P w = .ok (.enter g vals) w := by
  unfold callFunc
  simp only [Sem.run_bind, run_program, Result.andThen_ok, hf, hname, Bool.false_eq_true, if_false, hb, Option.isNone_some, Sem.run_pure]

theorem Gives.of_calls {P : Program} {g : FuncId} {fn : Func} {c : Code} (hf : P.funcs[g]? = some fn) (hb : fn.body = some c) (hname : (fn.name == "runtime.NumGoroutine") = false) {vs : List Value} {av : AV} {v : Value}
    (hv : ∀ I w μ, RelV I w μ av v) (h : ∀ w, Calls P g vs.toArray w fun e w' => e = .returned v ∧ Below w.heap.size w w') : Gives P g (vs.map .lit) av := by
  intro I μ w vals H hA
  obtain ⟨hn1, hA⟩ := hA
  have e : vals = vs.toArray := by
    simp only [List.length_map] at hn1 hA
    apply Array.ext
    · simpa using hn1
    · intro i h1 h2
      have := hA i (by omega)
      simp only [List.getElem_map] at this
      have := this.lit_eq
      rw [getD_of h1] at this
      simpa using this
  subst e
  have hμ : μ = [] := List.eq_nil_of_length_eq_zero (by rw [H.len]; rfl)
  subst hμ
  refine .inl ⟨run_enter hf hb hname _ _, (h w).mono ?_⟩
  rintro e w' ⟨rfl, hb⟩
  have hno : ∀ b, ¬ MM.owns ([] : MM) b := fun b hb => by obtain ⟨o, l, e, _⟩ := hb; simp [MM.loc] at e
  refine ⟨v, av, [], I, [], rfl, ⟨rfl, rfl⟩, relH_nil (fun b hI => Nat.lt_of_lt_of_le (H.imm b hI) hb.size), hv _ _ _, ⟨fun _ h => h, hb.size, fun b h1 _ => hb.block b h1, fun _ h => .inl h, fun _ h => .inl h, hb.os, hb.output⟩, Pre.refl _ _ (by simp)⟩

theorem Gives.extern {P : Program} {g : FuncId} {fn : Func} {ext : Array Value → Sem Value} (hf : P.funcs[g]? = some fn) (hname : (fn.name == "runtime.NumGoroutine") = false) (hb : fn.body.isNone = true) (hn : Extern.findNext fn = none) (he : Extern.find fn = some ext)
    {vs : List Value} {v : Value} (h : ∀ w, (ext vs.toArray).run P w = .ok v w) : Gives P g (vs.map .lit) (.lit v) := by
  intro I μ w vals H hA
  obtain ⟨hn1, hA⟩ := hA
  have e : vals = vs.toArray := by
    simp only [List.length_map] at hn1 hA
    apply Array.ext
    · simpa using hn1
    · intro i h1 h2
      have := hA i (by omega)
      simp only [List.getElem_map] at this
      have := this.lit_eq
      rw [getD_of h1] at this
      simpa using this
  subst e
  refine .inr ⟨v, w, by rw [run_callFunc_extern hf hname hb hn he, h w]; rfl, v, .lit v, [], I, μ, rfl, ⟨rfl, rfl⟩, H, .lit _ _, Step.refl _ _ _, Pre.refl _ _ (by have := H.len; omega)⟩

def asciiL (l : List UInt8) : Bool := l.all fun b => decide (b.toNat < 128)
theorem asciiL_at {l : List UInt8} (h : asciiL l = true) : ∀ (j : Nat) (b : UInt8), l[j]? = some b → b.toNat < 128 := by
  intro j b hj
  simp only [asciiL, List.all_eq_true, decide_eq_true_eq] at h
  exact h b (List.mem_of_getElem? hj)
end Go.Q
