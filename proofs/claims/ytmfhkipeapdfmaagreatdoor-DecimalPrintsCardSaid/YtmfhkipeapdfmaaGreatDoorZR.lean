import Derived.Test.YtmfhkipeapdfmaaGreatDoorZQ
import Derived.Test.YtmfhkipeapdfmaaGreatDoorFD
namespace Go.Q
open Go Go.RowKit Go.ChangeShapes Go.WideShapes
section
variable {P:Program} {H:Type} {enc:TypeId × Value → H} {w:World} {sp:Nat → Bool} {held:Bool}
theorem Opn.i64 {t:TypeId} (ht:P.underlying t = some (.int .i64)) (f:Nat):Opn P enc w sp held t (fun a=>∃ n:Int,a = eI .i64 n ∧ -9223372036854775808 ≤ n ∧ n < 9223372036854775808) f :=
  (Opn.int ht f).imp fun a ⟨n,e,h1,h2⟩=>⟨n,e,h1,by
    have:(IntKind.max .i64:Int) = 9223372036854775807:=rfl
    omega⟩
theorem list_map {α β:Type} {f:α → β} {p:α → Prop}:∀ {l:List β},(∀ r ∈ l,∃ x,r = f x ∧ p x) → ∃ m:List α,l = m.map f ∧ ∀ x ∈ m,p x
  | [],_=>⟨[],rfl,fun x h=>by simp at h⟩
  | r :: l,h=>by
    obtain ⟨x,e,hx⟩:=h r (List.mem_cons_self ..)
    obtain ⟨m,hm,hp⟩:=list_map (fun q hq=>h q (List.mem_cons_of_mem _ hq))
    exact ⟨x :: m,by rw [List.map_cons,← e,← hm],fun y hy=>by
      rcases List.mem_cons.1 hy with rfl | hy
      · exact hx
      · exact hp y hy⟩
theorem Opn.slice_of {α:Type} {t e:TypeId} {m:Nat} {g:α → AV} {p:α → Prop} {f:Nat} (ht:P.underlying t = some (.slice e)) (hc:P.cellsOf e = m) (h0:0 < m) (hA:Opn P enc w sp held e (fun a=>∃ x,a = g x ∧ p x) f) :
    Opn P enc w sp held t (fun a=>∃ l:List α,a = .vs m (l.map g) ∧ l.length < 2 ^ 63 ∧ ∀ x ∈ l,p x) (f + 1):=by
  subst hc
  refine (Opn.slice ht h0 hA).imp fun a ⟨l,e,hl,h⟩=>?_
  obtain ⟨xs,rfl,hx⟩:=list_map h
  exact ⟨xs,e,by rw [List.length_map] at hl; exact hl,hx⟩
theorem Opn.ints {t e:TypeId} (ht:P.underlying t = some (.slice e)) (he:P.underlying e = some (.int .i64)) (hc:P.cellsOf e = 1) :
    ∀ f,Opn P enc w sp held t (fun a=>∃ l:List Int,a = .vs 1 (l.map (eI .i64)) ∧ l.length < 2 ^ 63 ∧ ∀ n ∈ l,-9223372036854775808 ≤ n ∧ n < 9223372036854775808) f
  | 0=>Opn.zero
  | f + 1=>Opn.slice_of ht hc (by decide) (Opn.i64 he f)
end
end Go.Q
