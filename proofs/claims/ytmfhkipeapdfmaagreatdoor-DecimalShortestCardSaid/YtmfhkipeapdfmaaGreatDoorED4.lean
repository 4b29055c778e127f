import Derived.Test.YtmfhkipeapdfmaaGreatDoorED3
namespace Go.Q
open Go
set_option maxRecDepth 10000
theorem not_ok {kind:Int} {p w:Nat} (h:kindS kind p w) {a:Int} (hi:I64 a) (hb:¬ bitsOk p w a):Flt.Valid kind a = some false ∧ Ref2.isBits kind a = some false:=by
  refine ⟨(Valid_eq h a).trans (congrArg some (@decide_eq_false _ (Classical.propDecidable _) hb)),?_⟩
  obtain ⟨b,e1,e2⟩:=isBits_eq h hi
  cases b with
  | true=>exact absurd (e2.1 rfl) hb
  | false=>exact e1
theorem is_ok {kind:Int} {p w:Nat} (h:kindS kind p w) {a:Int} (hi:I64 a) (hb:bitsOk p w a):Flt.Valid kind a = some true ∧ Ref2.isBits kind a = some true:=by
  refine ⟨(Valid_eq h a).trans (congrArg some (@decide_eq_true _ (Classical.propDecidable _) hb)),?_⟩
  obtain ⟨b,e1,e2⟩:=isBits_eq h hi
  cases b with
  | true=>exact e1
  | false=>have:=e2.2 hb; cases this
end Go.Q
