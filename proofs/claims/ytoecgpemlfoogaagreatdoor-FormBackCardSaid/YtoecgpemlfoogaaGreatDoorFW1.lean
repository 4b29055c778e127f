import Derived.Test.YtoecgpemlfoogaaGreatDoorGB1
import Derived.Test.YtoecgpemlfoogaaGreatDoorFP
import Derived.Test.YtoecgpemlfoogaaGreatDoorZU
namespace Go.Q
open Go
set_option maxRecDepth 100000
set_option maxHeartbeats 4000000
def okLine (x:api.Line):Bool:=!(decide (x.Label < 0)) && (!(decide (x.Label > 99999)) && (!(decide ((x.Text.size:Int) > 8000)) && stOK (L x.Text)))
def validS (l:List api.Line):Bool:=l.all okLine && decide (l.length ≤ 200)
theorem isSt (t:ByteArray) (h:t.size < 2 ^ 40):Src.isStatement t = some (stOK (L t)):=by
  have:=isStatement_eq (L t) (by rw [L_len]; exact h)
  rwa [B_L] at this
theorem valid_l0 (l:List api.Line) (hl:l.length < 2 ^ 40):∀ m i:Nat,i + m = l.length → Src.Valid.l0 l l.length (i:Int) = some ((l.drop i).all okLine && decide (l.length ≤ 200)):=by
  intro m
  induction m with
  | zero =>
    intro i hi
    unfold Src.Valid.l0
    refine loopO_end ?_
    show Src.Valid.s0 l l.length (i:Int) = _
    unfold Src.Valid.s0
    refine letF (decide_eq_false (by omega)) ?_
    rw [List.drop_of_length_le (by omega),List.all_nil,Bool.true_and]
    rw [show decide (l.length ≤ 200) = decide ((l.length:Int) ≤ 200) by rw [decide_eq_decide]; omega]
    rfl
  | succ m ih =>
    intro i hi
    have hil:i < l.length:=by omega
    rw [List.drop_eq_getElem_cons hil,List.all_cons]
    obtain ⟨x,hx⟩:∃ x,x = l[i]:=⟨_,rfl⟩
    rw [← hx]
    have stop:∀ {b:Bool},Src.Valid.s0 l l.length (i:Int) = some (.inr b) → Src.Valid.l0 l l.length (i:Int) = some b:=fun h=>loopO_end h
    have next:Src.Valid.s0 l l.length (i:Int) = some (.inl ((i + 1:Nat):Int)) → Src.Valid.l0 l l.length (i:Int) = some ((l.drop (i + 1)).all okLine && decide (l.length ≤ 200)):=fun h=>loopO_next h (ih (i + 1) (by omega))
    have start:∀ {r},(letk (decide (x.Label < (0:Int))) fun t13 =>
        bif t13 then some (.inr false) else
        letk (decide (x.Label > (99999:Int))) fun t17 =>
        bif t17 then some (.inr false) else
        letk ((x.Text.size:Int)) fun t22 =>
        letk (decide (t22 > (8000:Int))) fun t23 =>
        bif t23 then some (.inr false) else
        Option.bind (Src.isStatement x.Text) fun t28 =>
        letk (!t28) fun t29 =>
        bif t29 then some (.inr false) else
        letk (IntKind.i64.wrap ((i:Int) + (1:Int))) fun t31=>some (.inl t31)) = r → Src.Valid.s0 l l.length (i:Int) = r:=by
      intro r h
      unfold Src.Valid.s0
      exact letT (decide_eq_true (by omega)) (chkE (by omega) (bindE (by rw [Int.toNat_natCast,List.getElem?_eq_getElem hil,hx]) h))
    unfold okLine
    by_cases h1:x.Label < 0
    · rw [decide_eq_true h1]
      exact stop (start (letT (decide_eq_true h1) rfl))
    · rw [decide_eq_false h1]
      by_cases h2:x.Label > 99999
      · rw [decide_eq_true h2]
        exact stop (start (letF (decide_eq_false h1) (letT (decide_eq_true h2) rfl)))
      · rw [decide_eq_false h2]
        by_cases h3:(x.Text.size:Int) > 8000
        · rw [decide_eq_true h3]
          exact stop (start (letF (decide_eq_false h1) (letF (decide_eq_false h2) (letV rfl (letT (decide_eq_true h3) rfl)))))
        · rw [decide_eq_false h3]
          have hst:=isSt x.Text (by omega)
          cases h4:stOK (L x.Text)
          · rw [h4] at hst
            exact stop (start (letF (decide_eq_false h1) (letF (decide_eq_false h2) (letV rfl (letF (decide_eq_false h3) (bindE hst (letT rfl rfl)))))))
          · rw [h4] at hst
            exact next (start (letF (decide_eq_false h1) (letF (decide_eq_false h2) (letV rfl (letF (decide_eq_false h3) (bindE hst (letF rfl (letV (w64n (by omega) (by omega)) rfl))))))))
theorem valid_eq (l:List api.Line) (hl:l.length < 2 ^ 40):Src.Valid l = some (validS l):=by
  unfold Src.Valid
  exact letV rfl (valid_l0 l hl l.length 0 (by omega))
def lbl (n:Nat):BS:=if n = 0 then [] else Lib.decDigits n
theorem lbl_step {n:Nat} (h:0 < n):lbl n = lbl (n / 10) ++ [UInt8.ofNat (48 + n % 10)]:=by
  unfold lbl
  rw [if_neg (by omega),Lib.decDigits]
  by_cases h10:n < 10
  · rw [dif_pos h10,if_pos (by omega),Nat.mod_eq_of_lt h10]; rfl
  · rw [dif_neg h10,if_neg (by omega)]
theorem lbl_len:∀ (k n:Nat),n < 10 ^ k → (lbl n).length ≤ k
  | 0,n,h=>by
    obtain rfl:n = 0:=by omega
    exact Nat.le_refl _
  | k + 1,n,h=>by
    rcases Nat.eq_zero_or_pos n with e | e
    · subst e; exact Nat.zero_le _
    · rw [lbl_step e,List.length_append]
      have:(lbl (n / 10)).length ≤ k:=lbl_len k _ (by rw [Nat.pow_succ] at h; omega)
      simp only [List.length_cons,List.length_nil]; omega
theorem itoa_eq {n:Int} (h0:0 < n) (h:n ≤ 99999):Strconv.Itoa n = some (B (lbl n.toNat)):=by
  unfold Strconv.Itoa
  refine chkE (by omega) ?_
  unfold lbl Lib.itoa
  rw [if_neg (by omega),if_neg (by omega)]
end Go.Q
