import Derived.Test.YtoecgpemlfoogaaGreatDoorGB1
import Derived.Test.YtoecgpemlfoogaaGreatDoorFP
import Derived.Test.YtoecgpemlfoogaaGreatDoorZU
namespace Go.Q
open Go
set_option maxRecDepth 100000
set_option maxHeartbeats 4000000
def okLine (x:api.Line):Bool:=!(decide (x.Label < 0)) && (!(decide (x.Label > 99999)) && (!(decide ((x.Text.size:Int) > 8000)) && stOK (L x.Text)))
def validS (l:List api.Line):Bool:=l.all okLine && decide (l.length ≤ 200)
theorem isSt (t:ByteArray) (h:t.size < 2 ^ 40):Src.isStatement t = some (stOK (L t)):=by
  have:=isStatement_eq (L t) (by rw [L_len]; exact h)
  rwa [B_L] at this
theorem isTx (t:ByteArray) (h:t.size < 2 ^ 40):Ref3.IsText t = some (stOK (L t)):=by
  have:=isTextR_eq (L t) (by rw [L_len]; exact h)
  rwa [B_L] at this
theorem valid_l0 (l:List api.Line) (hl:l.length < 2 ^ 40):∀ m i:Nat,i + m = l.length → Src.Valid.l0 l l.length (i:Int) = some ((l.drop i).all okLine && decide (l.length ≤ 200)):=by
  intro m
  induction m with
  | zero =>
    intro i hi
    unfold Src.Valid.l0
    refine loopO_end ?_
    show Src.Valid.s0 l l.length (i:Int) = _
    unfold Src.Valid.s0
    refine letF (decide_eq_false (by omega)) ?_
    rw [List.drop_of_length_le (by omega),List.all_nil,Bool.true_and]
    rw [show decide (l.length ≤ 200) = decide ((l.length:Int) ≤ 200) by rw [decide_eq_decide]; omega]
    rfl
  | succ m ih =>
    intro i hi
    have hil:i < l.length:=by omega
    rw [List.drop_eq_getElem_cons hil,List.all_cons]
    obtain ⟨x,hx⟩:∃ x,x = l[i]:=⟨_,rfl⟩
    rw [← hx]
    have stop:∀ {b:Bool},Src.Valid.s0 l l.length (i:Int) = some (.inr b) → Src.Valid.l0 l l.length (i:Int) = some b:=fun h=>loopO_end h
    have next:Src.Valid.s0 l l.length (i:Int) = some (.inl ((i + 1:Nat):Int)) → Src.Valid.l0 l l.length (i:Int) = some ((l.drop (i + 1)).all okLine && decide (l.length ≤ 200)):=fun h=>loopO_next h (ih (i + 1) (by omega))
    have start:∀ {r},(letk (decide (x.Label < (0:Int))) fun t13 =>
        bif t13 then some (.inr false) else
        letk (decide (x.Label > (99999:Int))) fun t17 =>
        bif t17 then some (.inr false) else
        letk ((x.Text.size:Int)) fun t22 =>
        letk (decide (t22 > (8000:Int))) fun t23 =>
        bif t23 then some (.inr false) else
        Option.bind (Src.isStatement x.Text) fun t28 =>
        letk (!t28) fun t29 =>
        bif t29 then some (.inr false) else
        letk (IntKind.i64.wrap ((i:Int) + (1:Int))) fun t31=>some (.inl t31)) = r → Src.Valid.s0 l l.length (i:Int) = r:=by
      intro r h
      unfold Src.Valid.s0
      exact letT (decide_eq_true (by omega)) (chkE (by omega) (bindE (by rw [Int.toNat_natCast,List.getElem?_eq_getElem hil,hx]) h))
    unfold okLine
    by_cases h1:x.Label < 0
    · rw [decide_eq_true h1]
      exact stop (start (letT (decide_eq_true h1) rfl))
    · rw [decide_eq_false h1]
      by_cases h2:x.Label > 99999
      · rw [decide_eq_true h2]
        exact stop (start (letF (decide_eq_false h1) (letT (decide_eq_true h2) rfl)))
      · rw [decide_eq_false h2]
        by_cases h3:(x.Text.size:Int) > 8000
        · rw [decide_eq_true h3]
          exact stop (start (letF (decide_eq_false h1) (letF (decide_eq_false h2) (letV rfl (letT (decide_eq_true h3) rfl)))))
        · rw [decide_eq_false h3]
          have hst:=isSt x.Text (by omega)
          cases h4:stOK (L x.Text)
          · rw [h4] at hst
            exact stop (start (letF (decide_eq_false h1) (letF (decide_eq_false h2) (letV rfl (letF (decide_eq_false h3) (bindE hst (letT rfl rfl)))))))
          · rw [h4] at hst
            exact next (start (letF (decide_eq_false h1) (letF (decide_eq_false h2) (letV rfl (letF (decide_eq_false h3) (bindE hst (letF rfl (letV (w64n (by omega) (by omega)) rfl))))))))
theorem valid_eq (l:List api.Line) (hl:l.length < 2 ^ 40):Src.Valid l = some (validS l):=by
  unfold Src.Valid
  exact letV rfl (valid_l0 l hl l.length 0 (by omega))
theorem rvalid_l0 (l:List api.Line) (hl:l.length < 2 ^ 40):∀ m i:Nat,i + m = l.length → Ref3.Valid.l0 l (i:Int) = some ((l.drop i).all okLine && decide (l.length ≤ 200)):=by
  intro m
  induction m with
  | zero =>
    intro i hi
    unfold Ref3.Valid.l0
    refine loopO_end ?_
    show Ref3.Valid.s0 l (i:Int) = _
    unfold Ref3.Valid.s0
    refine letV rfl (letF (decide_eq_false (by omega)) ?_)
    rw [List.drop_of_length_le (by omega),List.all_nil,Bool.true_and]
    rw [show decide (l.length ≤ 200) = decide ((l.length:Int) ≤ 200) by rw [decide_eq_decide]; omega]
    rfl
  | succ m ih =>
    intro i hi
    have hil:i < l.length:=by omega
    rw [List.drop_eq_getElem_cons hil,List.all_cons]
    obtain ⟨x,hx⟩:∃ x,x = l[i]:=⟨_,rfl⟩
    rw [← hx]
    have hg:l[((i:Nat):Int).toNat]? = some x:=by rw [Int.toNat_natCast,List.getElem?_eq_getElem hil,hx]
    have stop:∀ {b:Bool},Ref3.Valid.s0 l (i:Int) = some (.inr b) → Ref3.Valid.l0 l (i:Int) = some b:=fun h=>loopO_end h
    have next:Ref3.Valid.s0 l (i:Int) = some (.inl ((i + 1:Nat):Int)) → Ref3.Valid.l0 l (i:Int) = some ((l.drop (i + 1)).all okLine && decide (l.length ≤ 200)):=fun h=>loopO_next h (ih (i + 1) (by omega))
    have start:∀ {r},(letk (decide (x.Label < (0:Int))) fun t13 =>
        bif t13 then some (.inr false) else
        letk (decide (x.Label > (99999:Int))) fun t17 =>
        bif t17 then some (.inr false) else
        letk ((x.Text.size:Int)) fun t22 =>
        letk (decide (t22 > (8000:Int))) fun t23 =>
        bif t23 then some (.inr false) else
        Option.bind (Ref3.IsText x.Text) fun t28 =>
        letk (!t28) fun t29 =>
        bif t29 then some (.inr false) else
        letk (IntKind.i64.wrap ((i:Int) + (1:Int))) fun t31=>some (.inl t31)) = r → Ref3.Valid.s0 l (i:Int) = r:=by
      intro r h
      unfold Ref3.Valid.s0
      simp only [hg,Option.bind_some,show chk (0 ≤ (i:Int)) = fun X:Option (Int ⊕ Bool)=>X from funext fun X=>if_pos (by omega)]
      exact letV rfl (letT (decide_eq_true (by omega)) h)
    unfold okLine
    by_cases h1:x.Label < 0
    · rw [decide_eq_true h1]
      exact stop (start (letT (decide_eq_true h1) rfl))
    · rw [decide_eq_false h1]
      by_cases h2:x.Label > 99999
      · rw [decide_eq_true h2]
        exact stop (start (letF (decide_eq_false h1) (letT (decide_eq_true h2) rfl)))
      · rw [decide_eq_false h2]
        by_cases h3:(x.Text.size:Int) > 8000
        · rw [decide_eq_true h3]
          exact stop (start (letF (decide_eq_false h1) (letF (decide_eq_false h2) (letV rfl (letT (decide_eq_true h3) rfl)))))
        · rw [decide_eq_false h3]
          have hst:=isTx x.Text (by omega)
          cases h4:stOK (L x.Text)
          · rw [h4] at hst
            exact stop (start (letF (decide_eq_false h1) (letF (decide_eq_false h2) (letV rfl (letF (decide_eq_false h3) (bindE hst (letT rfl rfl)))))))
          · rw [h4] at hst
            exact next (start (letF (decide_eq_false h1) (letF (decide_eq_false h2) (letV rfl (letF (decide_eq_false h3) (bindE hst (letF rfl (letV (w64n (by omega) (by omega)) rfl))))))))
theorem rvalid_eq (l:List api.Line) (hl:l.length < 2 ^ 40):Ref3.Valid l = some (validS l):=by
  unfold Ref3.Valid
  exact rvalid_l0 l hl l.length 0 (by omega)
theorem w32n {x:Int} (h0:0 ≤ x) (h:x < 2147483648):IntKind.i32.wrap x = x:=by
  have hm:x % 4294967296 = x:=Int.emod_eq_of_lt h0 (by omega)
  show (if (true && decide (x % 4294967296 ≥ 2147483648)) = true then x % 4294967296 - 4294967296 else x % 4294967296) = x
  rw [hm,if_neg (by rw [Bool.true_and,decide_eq_true_eq]; omega)]
def lbl (n:Nat):BS:=if n = 0 then [] else Lib.decDigits n
theorem enc_digit:∀ d:Nat,d < 10 → Utf8.encode (48 + (d:Int)) = B [UInt8.ofNat (48 + d)]
  | 0,_=>rfl
  | 1,_=>rfl
  | 2,_=>rfl
  | 3,_=>rfl
  | 4,_=>rfl
  | 5,_=>rfl
  | 6,_=>rfl
  | 7,_=>rfl
  | 8,_=>rfl
  | 9,_=>rfl
  | n + 10,h=>by omega
theorem lbl_step {n:Nat} (h:0 < n):lbl n = lbl (n / 10) ++ [UInt8.ofNat (48 + n % 10)]:=by
  unfold lbl
  rw [if_neg (by omega),Lib.decDigits]
  by_cases h10:n < 10
  · rw [dif_pos h10,if_pos (by omega),Nat.mod_eq_of_lt h10]; rfl
  · rw [dif_neg h10,if_neg (by omega)]
theorem lbl_len:∀ (k n:Nat),n < 10 ^ k → (lbl n).length ≤ k
  | 0,n,h=>by
    obtain rfl:n = 0:=by omega
    exact Nat.le_refl _
  | k + 1,n,h=>by
    rcases Nat.eq_zero_or_pos n with e | e
    · subst e; exact Nat.zero_le _
    · rw [lbl_step e,List.length_append]
      have:(lbl (n / 10)).length ≤ k:=lbl_len k _ (by rw [Nat.pow_succ] at h; omega)
      simp only [List.length_cons,List.length_nil]; omega
theorem rec_s (k:Nat) (n:Int):(Rec41.at_ (k + 1)).f41 n = Ref3.Label.F (Rec41.at_ k) n:=rfl
theorem label_at:∀ (k n:Nat),n ≤ k → n < 10 ^ 6 → (Rec41.at_ (k + 1)).f41 (n:Int) = some (B (lbl n)):=by
  intro k
  induction k with
  | zero =>
    intro n hn _
    obtain rfl:n = 0:=by omega
    rw [rec_s]
    unfold Ref3.Label.F
    exact letT rfl rfl
  | succ k ih =>
    intro n hn h6
    rw [rec_s]
    unfold Ref3.Label.F
    rcases Nat.eq_zero_or_pos n with e | e
    · subst e; exact letT rfl rfl
    · have h7:=ih (n / 10) (by omega) (by omega)
      have hl:=lbl_len 6 (n / 10) (by omega)
      refine letF (by rw [beq_eq_false_iff_ne]; omega) (chkE (by decide) (letV (y:=((n / 10:Nat):Int)) ?_ (bindE h7 (chkE (by decide) (letV (y:=((n % 10:Nat):Int)) ?_ (letV (y:=48 + ((n % 10:Nat):Int)) (w64n (by omega) (by omega)) (letV (y:=48 + ((n % 10:Nat):Int)) ?_ (letV (enc_digit _ (Nat.mod_lt _ (by decide))) ?_))))))))
      · rw [Int.tdiv_eq_ediv_of_nonneg (by omega),w64n (by omega) (by omega)]; push_cast; rfl
      · rw [Int.tmod_eq_emod_of_nonneg (by omega)]; push_cast; rfl
      · exact w32n (by omega) (by omega)
      · refine chkE ?_ (letV rfl ?_)
        · rw [size_B,size_B]; simp only [List.length_cons,List.length_nil]; omega
        · rw [lbl_step e,← B_appR]
theorem label_eq {n:Int} (h0:0 ≤ n) (h:n ≤ 99999):Ref3.Label n = some (B (lbl n.toNat)):=by
  unfold Ref3.Label
  have:=label_at 99999999 n.toNat (by omega) (by omega)
  rwa [Int.toNat_of_nonneg h0] at this
theorem itoa_eq {n:Int} (h0:0 < n) (h:n ≤ 99999):Strconv.Itoa n = some (B (lbl n.toNat)):=by
  unfold Strconv.Itoa
  refine chkE (by omega) ?_
  unfold lbl Lib.itoa
  rw [if_neg (by omega),if_neg (by omega)]
end Go.Q
