import Derived.Test.YtoecgpemlfoogaaGreatDoorNB
namespace Go.Q
open Go
theorem cutpre_eq (s:BS) (h:s.length < 2 ^ 62):Strs.CutPrefix (B s) ⟨#[38]⟩ = some (if (s.getD 0 0 == 38) = true then (B (s.drop 1),true) else (B s,false)):=by
  have hsz:(B s).size = s.length:=rfl
  have hs1:(⟨#[38]⟩:ByteArray).size = 1:=rfl
  unfold Strs.CutPrefix Slite.CutPrefix Slite.HasPrefix
  simp only [letk]
  rw [hs1]
  cases s with
  | nil=>rfl
  | cons c r =>
    rw [List.length_cons] at hsz
    rw [decide_eq_true (by omega:((B (c :: r)).size:Int) ≥ ((1:Nat):Int)),cond_true,chk_pos (by omega)]
    simp only [Option.bind_some]
    rw [show (((1:Nat):Int)).toNat = 1 from rfl,ext_B,L_B,eqL,L_B,chk_pos (by omega),ext_D,L_B]
    show _ = some (if (c == 38) = true then _ else _)
    have:((c :: r).take 1 == L (⟨#[38]⟩:ByteArray)) = (c == 38):=by
      show ((c == 38) && true) = _
      rw [Bool.and_true]
    rw [this]
    cases (c == 38) <;> rfl
end Go.Q
namespace Go.Q
open Go
end Go.Q
