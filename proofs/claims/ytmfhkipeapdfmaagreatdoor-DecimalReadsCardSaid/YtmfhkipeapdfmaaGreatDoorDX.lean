import Derived.Test.YtmfhkipeapdfmaaGreatDoorDR
namespace Go.Q
open Go
set_option maxRecDepth 10000
end Go.Q
namespace Go.Q
open Go
set_option maxRecDepth 10000
theorem of_no {kind:Int} (h:¬ (kind = 2 ∨ kind = 4 ∨ kind = 8)):Flt.of kind = some (⟨0,0⟩,false):=by
  unfold Flt.of
  exact letF (beq_eq_false_iff_ne.2 fun q=>h (.inl q)) (letF (beq_eq_false_iff_ne.2 fun q=>h (.inr (.inl q))) (letF (beq_eq_false_iff_ne.2 fun q=>h (.inr (.inr q))) rfl))
theorem kind_any (kind:Int):(∃ p w,kindS kind p w) ∨ ¬ (kind = 2 ∨ kind = 4 ∨ kind = 8):=by
  by_cases h2:kind = 2
  · exact .inl ⟨11,5,.inl ⟨h2,rfl,rfl⟩⟩
  · by_cases h4:kind = 4
    · exact .inl ⟨24,8,.inr (.inl ⟨h4,rfl,rfl⟩)⟩
    · by_cases h8:kind = 8
      · exact .inl ⟨53,11,.inr (.inr ⟨h8,rfl,rfl⟩)⟩
      · exact .inr (fun h=>by rcases h with h | h | h <;> contradiction)
theorem isKind_any (kind mode:Int):(∃ p w,kindS kind p w ∧ 0 ≤ mode ∧ mode < 4 ∧ Dec.isKind kind mode = some true) ∨ Dec.isKind kind mode = some false:=by
  rcases kind_any kind with ⟨p,w,h⟩ | h
  · by_cases hm:0 ≤ mode ∧ mode < 4
    · exact .inl ⟨p,w,h,hm.1,hm.2,isKind_eq h hm⟩
    · right
      have hv:=(Valid_eq h 0).trans (congrArg some (@decide_eq_true _ (Classical.propDecidable _) bitsOk0))
      unfold Dec.isKind
      refine bindE hv (condT rfl ?_)
      by_cases h0:mode ≥ 0
      · exact letT (decide_eq_true h0) (letV (decide_eq_false (by omega)) rfl)
      · exact letF (decide_eq_false h0) rfl
  · right
    unfold Dec.isKind Flt.Valid
    rw [of_no h]
    rfl
end Go.Q
