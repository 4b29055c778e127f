/- The old form, both times. -/
import Derived.Test.YtoecgpemlfoogaaGreatDoorF3
import Derived.Test.YtoecgpemlfoogaaGreatDoorGO6
namespace Go.Q
open Go

def failN (w a : Int) : Int := if w = 0 ∨ a < w then a else w
theorem fail_eq (o : List api.Line) (w : Int) (b : Bool) (l a : Int) (t : ByteArray) (q x : Int) : Src.reader.fail o w b l a t q x = some (o, failN w x, b, l, a, t, q) := by
  unfold Src.reader.fail Src.reader.fail.j0 failN
  simp only [letk]
  by_cases h : w = 0
  · rw [if_pos (.inl h), show (w == (0 : Int)) = true from beq_iff_eq.2 h]; rfl
  · rw [show (w == (0 : Int)) = false from beq_eq_false_iff_ne.2 h]
    by_cases h2 : x < w
    · rw [if_pos (.inr h2), decide_eq_true h2]; rfl
    · rw [if_neg (by omega), decide_eq_false h2]; rfl
theorem wrong_eq (o : List api.Line) (l : Int) (t : ByteArray) (a : Int) (b : Bool) (w x : Int) : Ref3.reader.wrong o l t a b w x = some (o, l, t, a, b, failN w x) := by
  unfold Ref3.reader.wrong Ref3.reader.wrong.j0 failN
  simp only [letk]
  by_cases h : w = 0
  · rw [if_pos (.inl h), show (w == (0 : Int)) = true from beq_iff_eq.2 h]; rfl
  · rw [show (w == (0 : Int)) = false from beq_eq_false_iff_ne.2 h]
    by_cases h2 : x < w
    · rw [if_pos (.inr h2), decide_eq_true h2]; rfl
    · rw [if_neg (by omega), decide_eq_false h2]; rfl
theorem failN_pos {w a : Int} (h0 : 0 ≤ w) (ha : 0 < a) : 0 < failN w a := by unfold failN; split <;> omega
theorem failN_le {w a : Int} : failN w a ≤ a := by unfold failN; split <;> omega
theorem failN_keep {w a : Int} (h0 : 0 < w) (h : w ≤ a) : failN w a = w := by unfold failN; rw [if_neg (by omega)]
theorem failN_le2 {w a : Int} (h0 : 0 < w) : failN w a ≤ w := by unfold failN; split <;> omega

theorem end_eq (o : List api.Line) (w l a : Int) (x : BS) (q : UInt8) (hx : x.length < 2 ^ 40) (ho : o.length < 2 ^ 40) : Src.reader.end_ o w true l a (B x) q.toNat = some (if tr x = [] ∧ l = 0 then (o, w, false, l, a, B x, (q.toNat : Int)) else (o ++ [(⟨l, B (tr x), a⟩ : api.Line)], (if (q == 0 && stOK (tr x)) = true then w else failN w a), false, l, a, B x, (q.toNat : Int))) := by
  have htl := tr_len x
  have j1 : ∀ w', Src.reader.end_.j1 (B (tr x)) o w' false l a (B x) q.toNat = some (o ++ [(⟨l, B (tr x), a⟩ : api.Line)], w', false, l, a, B x, (q.toNat : Int)) := by
    intro w'
    unfold Src.reader.end_.j1
    rw [chk_pos (by simp only [List.length_singleton]; omega)]
    rfl
  have j0 : Src.reader.end_.j0 o w l a (B x) q.toNat (B (tr x)) = some (o ++ [(⟨l, B (tr x), a⟩ : api.Line)], (if (q == 0 && stOK (tr x)) = true then w else failN w a), false, l, a, B x, (q.toNat : Int)) := by
    unfold Src.reader.end_.j0 Src.reader.end_.j2
    simp only [letk]
    rw [isStatement_eq _ (by omega), fail_eq, bne, show ((q.toNat : Int) == 0) = (q == 0) from beq_u8 q 0 (by omega)]
    simp only [Option.bind_some, j1]
    cases (q == 0) <;> cases stOK (tr x) <;> rfl
  unfold Src.reader.end_
  simp only [letk]
  rw [strim_eq x (by omega)]
  simp only [Option.bind_some]
  rw [eqL, L_B, L_e0, j0]
  by_cases hc : tr x = [] ∧ l = 0
  · rw [if_pos hc, hc.1, hc.2]; rfl
  · rw [if_neg hc]
    by_cases h : tr x = []
    · rw [show (l == (0 : Int)) = false from beq_eq_false_iff_ne.2 (fun e => hc ⟨h, e⟩)]
      cases (tr x == []) <;> rfl
    · rw [show (tr x == []) = false from beq_eq_false_iff_ne.2 h]; rfl
theorem ends_eq (o : List api.Line) (l a w : Int) (x : BS) (hx : x.length < 2 ^ 40) (ho : o.length < 2 ^ 40) : Ref3.reader.ends o l (B x) a true w = some (if tr x = [] ∧ l = 0 then (o, l, B (tr x), a, false, w) else if stOK (tr x) = true then (o ++ [(⟨l, B (tr x), a⟩ : api.Line)], l, B (tr x), a, false, w) else (o, l, B (tr x), a, false, failN w a)) := by
  have htl := tr_len x
  have j0 : Ref3.reader.ends.j0 o l a w (B (tr x)) false = some (if stOK (tr x) = true then (o ++ [(⟨l, B (tr x), a⟩ : api.Line)], l, B (tr x), a, false, w) else (o, l, B (tr x), a, false, failN w a)) := by
    unfold Ref3.reader.ends.j0
    simp only [letk]
    rw [isTextR_eq _ (by omega), wrong_eq, chk_pos (by simp only [List.length_singleton]; omega)]
    simp only [Option.bind_some]
    cases stOK (tr x) <;> rfl
  unfold Ref3.reader.ends
  simp only [letk]
  rw [rtrim_eq x (by omega)]
  simp only [Option.bind_some]
  rw [eqL, L_B, L_e0]
  by_cases hc : tr x = [] ∧ l = 0
  · rw [if_pos hc, hc.1, hc.2]; rfl
  · rw [if_neg hc, ← j0]
    by_cases h : tr x = []
    · rw [show (l == (0 : Int)) = false from beq_eq_false_iff_ne.2 (fun e => hc ⟨h, e⟩)]
      cases (tr x == []) <;> rfl
    · rw [show (tr x == []) = false from beq_eq_false_iff_ne.2 h]; rfl

/-! the parts of a line -/

theorem findC_zero (c : UInt8) : ∀ (l : BS) (i : Nat) (q : UInt8), 0 ≤ findC c l i q → ∃ k, findC c l i q = ((i + k : Nat) : Int) ∧ k ≤ l.length ∧ (l.take k).foldl nx q = 0
  | [], _, _, h => absurd h (by show ¬ (0 : Int) ≤ -1; decide)
  | x :: r, i, q, h => by
    unfold findC at h ⊢
    by_cases hc : (x == c && q == 0) = true
    · rw [if_pos hc]
      simp only [Bool.and_eq_true, beq_iff_eq] at hc
      exact ⟨0, rfl, Nat.zero_le _, hc.2⟩
    · rw [if_neg hc] at h ⊢
      obtain ⟨k, h1, h2, h3⟩ := findC_zero c r (i + 1) (nx q x) h
      exact ⟨k + 1, by rw [h1]; congr 1; omega, by rw [List.length_cons]; omega, by rw [List.take_succ_cons, List.foldl_cons]; exact h3⟩
def part (d : BS) (q : UInt8) : BS := if 0 ≤ findC 33 d 0 q then d.take (findC 33 d 0 q).toNat else d ++ List.replicate (66 - d.length) 32
theorem part_len (d : BS) (q : UInt8) : (part d q).length ≤ d.length + 66 := by
  unfold part
  split
  · rw [List.length_take]; omega
  · rw [List.length_append, List.length_replicate]; omega
theorem part_fold (d : BS) (q : UInt8) (hq : QS q) : (part d q).foldl nx q = if 0 ≤ findC 33 d 0 q then 0 else d.foldl nx q := by
  unfold part
  split
  · rename_i h
    obtain ⟨k, h1, h2, h3⟩ := findC_zero 33 d 0 q h
    rw [h1, Nat.zero_add, Int.toNat_natCast]; exact h3
  · rw [List.foldl_append]; exact fold_rep (QS_fold _ _ hq) _
theorem repeat_sp : ∀ n : Nat, Lib.repeatL [32] n = List.replicate n (32 : UInt8) := by
  intro n
  induction n with
  | zero => rfl
  | succ n ih => first | (rw [Lib.repeatL, ih]; rfl) | (unfold Lib.repeatL at *; simp_all [List.replicate_succ])
theorem old_j0_eq (d x : BS) (o : List api.Line) (w : Int) (b : Bool) (l a : Int) (hd : d.length < 2 ^ 30) (hx : x.length < 2 ^ 40) : Src.reader.old.j0 (B d) o w b l a (B x) ((x.foldl nx 0).toNat : Int) = some (o, w, b, l, a, B (x ++ part d (x.foldl nx 0)), (((x ++ part d (x.foldl nx 0)).foldl nx 0).toNat : Int)) := by
  have hsz : (B d).size = d.length := rfl
  have hsx : (B x).size = x.length := rfl
  have hq : QS (x.foldl nx 0) := QS_fold _ _ (.inl rfl)
  rw [List.foldl_append, part_fold d _ hq]
  generalize x.foldl nx 0 = q at *
  unfold Src.reader.old.j0
  rw [show Src.find (B d) ⟨#[33]⟩ (q.toNat : Int) = _ from find_eq d [33] q (by omega)]
  simp only [Option.bind_some, letk]
  obtain ⟨f1, f2, f3⟩ := find_one d 0 q
  unfold part
  by_cases h : 0 ≤ findC 33 d 0 q
  · obtain ⟨k, h1, h2, h3⟩ := findC_zero 33 d 0 q h
    rw [if_pos h, if_pos h, f3 h, f1, h1, Nat.zero_add, decide_eq_true (by omega : ((k : Nat) : Int) ≥ 0), cond_true, chk_pos (by omega), Int.toNat_natCast, ext_B, L_B]
    rw [chk_pos (by have : (B (d.take k)).size = (d.take k).length := rfl; rw [this, List.length_take]; omega), B_appR]
  · rw [f2 (by omega), f1, if_neg h, if_neg h, decide_eq_false (by omega : ¬ findC 33 d 0 q ≥ 0), cond_false, hsz, w64 ⟨by omega, by omega⟩]
    have hr : (if (66 : Int) - (d.length : Int) > 0 then (66 : Int) - (d.length : Int) else 0) = ((66 - d.length : Nat) : Int) := by split <;> omega
    have hs1 : (⟨#[32]⟩ : ByteArray).size = 1 := rfl
    have hb : ∀ n : Nat, (B (List.replicate n (32 : UInt8))).size = n := fun n => by show (List.replicate n (32 : UInt8)).length = n; simp
    rw [hr]
    unfold Strs.Repeat
    rw [Int.toNat_natCast, chk_pos (by rw [hs1]; omega), show L (⟨#[32]⟩ : ByteArray) = [32] from rfl, repeat_sp]
    simp only [Option.bind_some]
    have hb2 : (B (d ++ List.replicate (66 - d.length) 32)).size = d.length + (66 - d.length) := by show (d ++ List.replicate (66 - d.length) (32 : UInt8)).length = _; simp
    rw [chk_pos (by rw [hb]; omega), B_appR, chk_pos (by rw [hb2]; omega), B_appR]
theorem l2_eq (T : ByteArray) (LL : List ByteArray) (i : Int) (o : List api.Line) (l : Int) (x : BS) (a : Int) (b : Bool) (w : Int) (hx : x.length < 2 ^ 40) (hi : 0 ≤ i ∧ i < 2 ^ 40) : ∀ (k : Nat) (d : BS), d.length < 2 ^ 30 → 66 - d.length = k → Ref3.Old.l2 T LL i o l (B x) a b w (B d) = some (.inl (o, l, B (x ++ (d ++ List.replicate (66 - d.length) 32)), a, b, w, i + 1)) := by
  have hsx : (B x).size = x.length := rfl
  intro k
  induction k with
  | zero =>
    intro d hd hk
    have hsz : (B d).size = d.length := rfl
    rw [Ref3.Old.l2_eq, Ref3.Old.s2]
    simp only [letk]
    rw [hsz, decide_eq_false (by omega : ¬ (d.length : Int) < 66), cond_false, Ref3.Old.j2]
    simp only [letk]
    rw [chk_pos (by omega), B_appR, w64n (by omega) (by omega), hk, List.replicate_zero, List.append_nil]
    rfl
  | succ k ih =>
    intro d hd hk
    have hsz : (B d).size = d.length := rfl
    have hs1 : (⟨#[32]⟩ : ByteArray).size = 1 := rfl
    rw [Ref3.Old.l2_eq, Ref3.Old.s2]
    simp only [letk]
    rw [hsz, decide_eq_true (by omega : (d.length : Int) < 66), cond_true, chk_pos (by omega), show B d ++ (⟨#[32]⟩ : ByteArray) = B (d ++ [32]) from B_appR d [32]]
    simp only [Option.bind_some, Sum.elim_inl]
    have hl : (d ++ [(32 : UInt8)]).length = d.length + 1 := by simp
    rw [ih (d ++ [32]) (by omega) (by omega), hl, List.append_assoc]
    congr 6
    rw [show 66 - d.length = (66 - (d.length + 1)) + 1 by omega, List.replicate_succ]
    rfl
theorem refj1_eq (T : ByteArray) (LL : List ByteArray) (i : Int) (p x : BS) (o : List api.Line) (l a : Int) (b : Bool) (w : Int) (hp : p.length < 2 ^ 30) (hp6 : 6 ≤ p.length) (hx : x.length < 2 ^ 40) (hi : 0 ≤ i ∧ i < 2 ^ 40) : Ref3.Old.j1 T LL i (B p) o l (B x) a b w = some (.inl (o, l, B (x ++ part (p.drop 6) (x.foldl nx 0)), a, b, w, i + 1)) := by
  have hsz : (B p).size = p.length := rfl
  have hsx : (B x).size = x.length := rfl
  have hdl : (p.drop 6).length = p.length - 6 := List.length_drop
  have hm : (nI (marksL x 0)).length = x.length + 1 := by
    unfold nI
    rw [List.length_map]
    have : ∀ (l : BS) (q : UInt8), (marksL l q).length = l.length + 1 := by
      intro l
      induction l with
      | nil => intro q; rfl
      | cons c r ih => intro q; show (marksL r (nx q c)).length + 1 = _; rw [ih]; rfl
    exact this x 0
  unfold Ref3.Old.j1
  simp only [letk]
  rw [chk_pos (by omega), show ((6 : Int).toNat) = 6 from rfl, ext_D, L_B, show Ref3.marks (B x) 0 = _ from marks_eq x 0 hx]
  simp only [Option.bind_some]
  rw [hm, show (((x.length + 1 : Nat) : Int) - 1) = ((x.length : Nat) : Int) by omega, w64n (by omega) (by omega), chk_pos (by omega), Int.toNat_natCast]
  rw [show (nI (marksL x 0))[x.length]? = some (((x.foldl nx 0).toNat : Nat) : Int) by unfold nI; rw [List.getElem?_map, marksL_at x 0 x.length (Nat.le_refl _), List.take_length]; rfl]
  simp only [Option.bind_some]
  rw [show Ref3.outside (B (p.drop 6)) ((x.foldl nx 0).toNat : Int) 33 = _ from outside_eq (p.drop 6) (x.foldl nx 0) 33 (by omega)]
  simp only [Option.bind_some]
  unfold part
  have hszd : (B (p.drop 6)).size = p.length - 6 := hdl
  by_cases h : 0 ≤ findC 33 (p.drop 6) 0 (x.foldl nx 0)
  · obtain ⟨k, h1, h2, h3⟩ := findC_zero 33 _ 0 _ h
    rw [h1, Nat.zero_add, if_pos (by omega), decide_eq_true (by omega : ((k : Nat) : Int) ≥ 0), cond_true, chk_pos (by omega), Int.toNat_natCast, ext_B, L_B, Ref3.Old.j2]
    simp only [letk]
    rw [chk_pos (by have : (B ((p.drop 6).take k)).size = ((p.drop 6).take k).length := rfl; rw [this, List.length_take]; omega), B_appR, w64n (by omega) (by omega)]
  · rw [if_neg h, decide_eq_false (by omega), cond_false]
    exact l2_eq T LL i o l x a b w hx hi _ _ (by omega) rfl
end Go.Q
namespace Go.Q
open Go

abbrev SSt := List api.Line × Int × Bool × Int × Int × ByteArray × Int
abbrev RSt := List api.Line × Int × ByteArray × Int × Bool × Int
/-- The readers' states go along: ours (o w b l a t q), the reference's (o' l' t' a' b' w'). -/
structure Sim (m n : Nat) (o : List api.Line) (w : Int) (b : Bool) (l a : Int) (t : ByteArray) (q : Int) (o' : List api.Line) (l' : Int) (t' : ByteArray) (a' : Int) (b' : Bool) (w' : Int) : Prop where
  hb : b = b'
  hw : w = w'
  h0 : 0 ≤ w
  ho : o.length ≤ m
  ho' : o'.length ≤ m
  same : w = 0 → o = o'
  beg : b = true → ∃ x : BS, x.length ≤ n * 10000 ∧ t = B x ∧ t' = B x ∧ q = ((x.foldl nx 0).toNat : Int) ∧ a = a' ∧ 0 < a ∧ a ≤ n ∧ (l = l' ∨ (0 < w ∧ w ≤ a))

theorem Sim.mono {m n m2 n2 : Nat} {o w b l a t q o' l' t' a' b' w'} (h : Sim m n o w b l a t q o' l' t' a' b' w') (hm : m ≤ m2) (hn : n ≤ n2) : Sim m2 n2 o w b l a t q o' l' t' a' b' w' :=
  ⟨h.hb, h.hw, h.h0, by have := h.ho; omega, by have := h.ho'; omega, h.same, fun hb => by
    obtain ⟨x, h1, h2, h3, h4, h5, h6, h7, h8⟩ := h.beg hb
    exact ⟨x, Nat.le_trans h1 (Nat.mul_le_mul_right _ hn), h2, h3, h4, h5, h6, by omega, h8⟩⟩
theorem Sim.fail {m n : Nat} {o w b l a t q o' l' t' a' b' w'} (h : Sim m n o w b l a t q o' l' t' a' b' w') (x : Int) (hx : 0 < x) (hn : (n : Int) ≤ x) : Sim m n o (failN w x) b l a t q o' l' t' a' b' (failN w' x) := by
  have hp := failN_pos h.h0 hx
  refine ⟨h.hb, by rw [h.hw], by omega, h.ho, h.ho', fun e => by omega, fun hb => ?_⟩
  obtain ⟨y, h1, h2, h3, h4, h5, h6, h7, h8⟩ := h.beg hb
  refine ⟨y, h1, h2, h3, h4, h5, h6, h7, ?_⟩
  rcases h8 with h8 | ⟨h8, h9⟩
  · exact .inl h8
  · exact .inr ⟨hp, by rw [failN_keep h8 (by omega)]; exact h9⟩
/-- A statement ends: from then on none is begun. -/
theorem Sim.end {m n : Nat} {o w b l a t q o' l' t' a' b' w'} (h : Sim m n o w b l a t q o' l' t' a' b' w') (hm : m < 2 ^ 20) (hn : n < 2 ^ 20) : ∃ o1 w1 l1 a1 t1 q1 o1' l1' t1' a1' w1', Src.reader.end_ o w b l a t q = some (o1, w1, false, l1, a1, t1, q1) ∧ Ref3.reader.ends o' l' t' a' b' w' = some (o1', l1', t1', a1', false, w1') ∧ Sim (m + 1) n o1 w1 false l1 a1 t1 q1 o1' l1' t1' a1' false w1' := by
  obtain ⟨hb, hw, h0, ho, ho', same, beg⟩ := h
  subst hb; subst hw
  cases b with
  | false => exact ⟨o, w, l, a, t, q, o', l', t', a', w, rfl, rfl, ⟨rfl, rfl, h0, by omega, by omega, same, fun h => by cases h⟩⟩
  | true =>
    obtain ⟨x, h1, rfl, rfl, rfl, rfl, h6, h7, h8⟩ := beg rfl
    rw [end_eq o w l a x _ (by omega) (by omega), ends_eq o' l' a w x (by omega) (by omega)]
    have hq : ((x.foldl nx 0) == 0 && stOK (tr x)) = stOK (tr x) := by
      cases hs : stOK (tr x) with
      | false => rw [Bool.and_false]
      | true =>
        unfold stOK at hs
        simp only [Bool.and_eq_true] at hs
        rw [fold_tr] at hs
        rw [hs.2.2.2.1]; rfl
    rw [hq]
    have hlen : ∀ (oo : List api.Line) (z : api.Line), (oo ++ [z]).length = oo.length + 1 := fun oo z => by simp
    by_cases hll : l = l'
    · subst hll
      by_cases hc : tr x = [] ∧ l = 0
      · rw [if_pos hc, if_pos hc]
        exact ⟨_, _, _, _, _, _, _, _, _, _, _, rfl, rfl, ⟨rfl, rfl, h0, by omega, by omega, same, fun h => by cases h⟩⟩
      · rw [if_neg hc, if_neg hc]
        by_cases hs : stOK (tr x) = true
        · rw [if_pos hs, if_pos hs]
          exact ⟨_, _, _, _, _, _, _, _, _, _, _, rfl, rfl, ⟨rfl, rfl, h0, by rw [hlen]; omega, by rw [hlen]; omega, fun e => by rw [same e], fun h => by cases h⟩⟩
        · rw [if_neg hs, if_neg hs]
          have := failN_pos h0 h6
          exact ⟨_, _, _, _, _, _, _, _, _, _, _, rfl, rfl, ⟨rfl, rfl, by omega, by rw [hlen]; omega, by omega, fun e => by omega, fun h => by cases h⟩⟩
    · obtain ⟨h9, h10⟩ := h8.resolve_left hll
      have hk := failN_keep h9 h10
      have hS : ∃ o1, o1.length ≤ m + 1 ∧ (some (if tr x = [] ∧ l = 0 then (o, w, false, l, a, B x, ((x.foldl nx 0).toNat : Int)) else (o ++ [(⟨l, B (tr x), a⟩ : api.Line)], (if stOK (tr x) = true then w else failN w a), false, l, a, B x, ((x.foldl nx 0).toNat : Int))) : Option SSt) = some (o1, w, false, l, a, B x, ((x.foldl nx 0).toNat : Int)) := by
        by_cases hc : tr x = [] ∧ l = 0
        · rw [if_pos hc]; exact ⟨o, by omega, rfl⟩
        · rw [if_neg hc, hk]
          exact ⟨o ++ [⟨l, B (tr x), a⟩], by rw [hlen]; omega, by split <;> rfl⟩
      have hR : ∃ o1, o1.length ≤ m + 1 ∧ (some (if tr x = [] ∧ l' = 0 then (o', l', B (tr x), a, false, w) else if stOK (tr x) = true then (o' ++ [(⟨l', B (tr x), a⟩ : api.Line)], l', B (tr x), a, false, w) else (o', l', B (tr x), a, false, failN w a)) : Option RSt) = some (o1, l', B (tr x), a, false, w) := by
        rw [hk]
        by_cases hc : tr x = [] ∧ l' = 0
        · rw [if_pos hc]; exact ⟨o', by omega, rfl⟩
        · rw [if_neg hc]
          by_cases hs : stOK (tr x) = true
          · rw [if_pos hs]; exact ⟨o' ++ [⟨l', B (tr x), a⟩], by rw [hlen]; omega, rfl⟩
          · rw [if_neg hs]; exact ⟨o', by omega, rfl⟩
      obtain ⟨o1, ho1, e1⟩ := hS
      obtain ⟨o2, ho2, e2⟩ := hR
      exact ⟨o1, w, l, a, _, _, o2, l', _, a, w, e1, e2, ⟨rfl, rfl, h0, ho1, ho2, fun e => by omega, fun h => by cases h⟩⟩

/-! a line -/

theorem tr_rep (l : BS) (k : Nat) : tr (l ++ List.replicate k 32) = tr l := by
  rw [← tr_comm, ← tr_comm]
  unfold Lib.trimB
  have h : Lib.trimRightB (l ++ List.replicate k 32) 32 = Lib.trimRightB l 32 := by
    unfold Lib.trimRightB
    rw [List.reverse_append, List.reverse_replicate]
    congr 1
    induction k with
    | zero => rfl
    | succ k ih => rw [List.replicate_succ, List.cons_append, List.dropWhile_cons, if_pos (by decide)]; exact ih
  first | rw [h] | (unfold Lib.trimLeftB; rw [h])
def pad6 (l : BS) : BS := l ++ List.replicate (6 - l.length) 32
def cont (l : BS) : Bool := !((pad6 l).getD 5 0 == 32) && !((pad6 l).getD 5 0 == 48)
theorem pad6_len (l : BS) : (pad6 l).length = max 6 l.length := by
  unfold pad6
  rw [List.length_append, List.length_replicate]; omega
theorem pad6_take (l : BS) : tr ((pad6 l).take 5) = tr (l.take 5) := by
  unfold pad6
  rw [List.take_append, List.take_replicate, tr_rep]
theorem pad6_drop (l : BS) : (pad6 l).drop 6 = l.drop 6 := by
  unfold pad6
  rw [List.drop_append, List.drop_replicate]
  by_cases h : 6 ≤ l.length
  · rw [show 6 - l.length - (6 - l.length) = 0 by omega]; simp
  · rw [show 6 - l.length - (6 - l.length) = 0 by omega]; simp
theorem cont_short (l : BS) (h : l.length < 6) : cont l = false := by
  unfold cont pad6
  rw [List.getD_eq_getElem?_getD, List.getElem?_append_right (by omega), List.getElem?_replicate, if_pos (by omega)]
  rfl
theorem pad6_long (l : BS) (h : 6 ≤ l.length) : pad6 l = l := by
  unfold pad6
  rw [show 6 - l.length = 0 by omega]; simp

theorem l1_pad (T : ByteArray) (LL : List ByteArray) (i : Int) (o : List api.Line) (l : Int) (t : ByteArray) (a : Int) (b : Bool) (w : Int) : ∀ (k : Nat) (s : BS), 6 - s.length = k → Ref3.Old.l1 T LL i o l t a b w (B s) = Ref3.Old.l1 T LL i o l t a b w (B (pad6 s)) := by
  intro k
  induction k with
  | zero => intro s hk; rw [pad6_long s (by omega)]
  | succ k ih =>
    intro s hk
    have hsz : (B s).size = s.length := rfl
    have hs1 : (⟨#[32]⟩ : ByteArray).size = 1 := rfl
    rw [Ref3.Old.l1_eq, Ref3.Old.s1]
    simp only [letk]
    rw [decide_eq_true (by omega : ((B s).size : Int) < 6), cond_true, chk_pos (by omega), show B s ++ (⟨#[32]⟩ : ByteArray) = B (s ++ [32]) from B_appR s [32]]
    simp only [Option.bind_some, Sum.elim_inl]
    have hl : (s ++ [(32 : UInt8)]).length = s.length + 1 := by simp
    rw [ih (s ++ [32]) (by omega)]
    congr 2
    unfold pad6
    rw [hl, List.append_assoc, show 6 - s.length = (6 - (s.length + 1)) + 1 by omega, List.replicate_succ]
    rfl
theorem l1_body (T : ByteArray) (LL : List ByteArray) (i : Int) (o : List api.Line) (l : Int) (t : ByteArray) (a : Int) (b : Bool) (w : Int) (s : BS) (hs : 6 ≤ s.length) (hl : s.length < 2 ^ 30) : Ref3.Old.l1 T LL i o l t a b w (B s) = Ref3.Old.j3 T LL i o l t a w (B s) (B (tr (s.take 5))) b (cont s) := by
  have hsz : (B s).size = s.length := rfl
  have htl : (s.take 5).length < 2 ^ 62 := by rw [List.length_take]; omega
  rw [Ref3.Old.l1_eq, Ref3.Old.s1]
  simp only [letk]
  rw [decide_eq_false (by omega : ¬ ((B s).size : Int) < 6), cond_false, chk_pos (by omega), show ((5 : Int).toNat) = 5 from rfl, ext_B, L_B, rtrim_eq _ htl]
  simp only [Option.bind_some]
  rw [chk_pos (by omega), chk_pos (by omega), show bt (B s) (5 : Int) = ((s.getD 5 0).toNat : Int) from rfl, bne, bne, show ∀ x : UInt8, ((x.toNat : Int) == 32) = (x == 32) from fun x => beq_u8 x 32 (by omega), show ∀ x : UInt8, ((x.toNat : Int) == 48) = (x == 48) from fun x => beq_u8 x 48 (by omega)]
  unfold cont
  rw [pad6_long s hs]
  have hm : ∀ X : Option ((List api.Line × Int × ByteArray × Int × Bool × Int × Int) ⊕ (List api.Line × Int × Int)), ((X.map (Sum.inr (α := List api.Line × Int × ByteArray × Int × Bool × Int × ByteArray))).bind (Sum.elim (fun v => Ref3.Old.l1 T LL i v.1 v.2.1 v.2.2.1 v.2.2.2.1 v.2.2.2.2.1 v.2.2.2.2.2.1 v.2.2.2.2.2.2) some)) = X := by
    intro X; cases X <;> rfl
  cases (s.getD 5 0 == 32) with
  | true => simp only [Bool.not_true, cond_false, Bool.false_and]; exact hm _
  | false => simp only [Bool.not_false, cond_true, Bool.true_and]; exact hm _
theorem src_body (o : List api.Line) (w : Int) (b : Bool) (l a : Int) (t : ByteArray) (q at1 : Int) (s : BS) (hl : s.length < 2 ^ 30) : Src.reader.old o w b l a t q at1 (B s) = Src.reader.old.j1 at1 (B (tr (s.take 5))) (B (s.drop 6)) o w b l a t q (cont s) := by
  have hsz : (B s).size = s.length := rfl
  have htl : (s.take 5).length < 2 ^ 62 := by rw [List.length_take]; omega
  unfold Src.reader.old
  simp only [letk]
  have h5 : (if (5 : Int) < ((B s).size : Int) then (5 : Int) else ((B s).size : Int)) = ((min 5 s.length : Nat) : Int) := by rw [hsz]; split <;> omega
  have h6 : (if (6 : Int) < ((B s).size : Int) then (6 : Int) else ((B s).size : Int)) = ((min 6 s.length : Nat) : Int) := by rw [hsz]; split <;> omega
  have t5 : s.take (min 5 s.length) = s.take 5 := by
    by_cases h : 5 ≤ s.length
    · rw [Nat.min_eq_left h]
    · rw [Nat.min_eq_right (by omega), List.take_length, List.take_of_length_le (by omega)]
  have d6 : s.drop (min 6 s.length) = s.drop 6 := by
    by_cases h : 6 ≤ s.length
    · rw [Nat.min_eq_left h]
    · rw [Nat.min_eq_right (by omega), List.drop_length, List.drop_of_length_le (by omega)]
  rw [h5, h6, chk_pos (by omega), Int.toNat_natCast, ext_B, L_B, t5, strim_eq _ htl]
  simp only [Option.bind_some]
  rw [chk_pos (by omega), Int.toNat_natCast, ext_D, L_B, d6]
  by_cases h : 6 ≤ s.length
  · rw [decide_eq_true (by omega : ((B s).size : Int) ≥ 6), cond_true, chk_pos (by omega), chk_pos (by omega), show bt (B s) (5 : Int) = ((s.getD 5 0).toNat : Int) from rfl, bne, bne, show ∀ x : UInt8, ((x.toNat : Int) == 32) = (x == 32) from fun x => beq_u8 x 32 (by omega), show ∀ x : UInt8, ((x.toNat : Int) == 48) = (x == 48) from fun x => beq_u8 x 48 (by omega)]
    unfold cont
    rw [pad6_long s h]
    cases (s.getD 5 0 == 32) <;> rfl
  · rw [decide_eq_false (by omega : ¬ ((B s).size : Int) ≥ 6), cond_false, cont_short s (by omega)]
end Go.Q
namespace Go.Q
open Go

theorem mul_step {n a b : Nat} (h1 : a ≤ n * 10000) (h2 : b ≤ 10000) : a + b ≤ (n + 1) * 10000 := by rw [Nat.add_mul]; omega
/-- A new statement's first line. -/
theorem new_sim {n : Nat} (hn : n < 2 ^ 20) (T : ByteArray) (LL : List ByteArray) (s : BS) (hs : s.length ≤ 9000) {o w b l a t q o' l' t' a' b' w'} (h : Sim (n + 1) n o w b l a t q o' l' t' a' b' w') (nl nl' : Int) (hok : nl = nl' ∨ (0 < w ∧ w ≤ ((n + 1 : Nat) : Int))) :
    ∃ t1 q1, Src.reader.old.j2 ((n + 1 : Nat) : Int) (B (s.drop 6)) nl o w b l a t q = some (o, w, true, nl, ((n + 1 : Nat) : Int), t1, q1) ∧ Ref3.Old.j1 T LL n (B (pad6 s)) o' nl' (⟨#[]⟩) ((n + 1 : Nat) : Int) true w' = some (.inl (o', nl', t1, ((n + 1 : Nat) : Int), true, w', ((n + 1 : Nat) : Int))) ∧ Sim (n + 1) (n + 1) o w true nl ((n + 1 : Nat) : Int) t1 q1 o' nl' t1 ((n + 1 : Nat) : Int) true w' := by
  have hd : (s.drop 6).length ≤ 9000 := by rw [List.length_drop]; omega
  have hp := pad6_len s
  have e1 := old_j0_eq (s.drop 6) [] o w true nl ((n + 1 : Nat) : Int) (by omega) (by decide)
  have e2 := refj1_eq T LL n (pad6 s) [] o' nl' ((n + 1 : Nat) : Int) true w' (by omega) (by omega) (by decide) (by omega)
  rw [pad6_drop] at e2
  refine ⟨_, _, e1, e2, ⟨rfl, h.hw, h.h0, h.ho, h.ho', h.same, fun _ => ⟨_, ?_, rfl, rfl, rfl, rfl, by omega, Int.le_refl _, hok⟩⟩⟩
  have := part_len (s.drop 6) (([] : BS).foldl nx 0)
  rw [List.nil_append]
  have : (n + 1) * 10000 ≥ 10000 := by rw [Nat.add_mul]; omega
  omega
theorem fst_ne {p : BS} : (!((B p).toList == (⟨#[]⟩ : ByteArray).toList)) = !(p == []) := by rw [eqL, L_B, L_e0]
theorem line_sim {n : Nat} (hn : n < 2 ^ 20 - 1) (T : ByteArray) (LL : List ByteArray) (s : BS) (hs : s.length ≤ 9000) {o w b l a t q o' l' t' a' b' w'} (h : Sim n n o w b l a t q o' l' t' a' b' w') :
    ∃ o1 w1 b1 l1 a1 t1 q1 o1' l1' t1' a1' b1' w1', Src.reader.old o w b l a t q ((n + 1 : Nat) : Int) (B s) = some (o1, w1, b1, l1, a1, t1, q1) ∧ Ref3.Old.l1 T LL n o' l' t' a' b' w' (B s) = some (.inl (o1', l1', t1', a1', b1', w1', ((n + 1 : Nat) : Int))) ∧ Sim (n + 1) (n + 1) o1 w1 b1 l1 a1 t1 q1 o1' l1' t1' a1' b1' w1' := by
  have hp6 := pad6_len s
  have hps : cont (pad6 s) = cont s := by unfold cont; rw [pad6_long (pad6 s) (by omega)]
  rw [src_body _ _ _ _ _ _ _ _ s (by omega), l1_pad T LL n o' l' t' a' b' w' _ s rfl, l1_body T LL n o' l' t' a' b' w' (pad6 s) (by omega) (by omega), pad6_take, hps]
  have hpl : (tr (s.take 5)).length ≤ 5 := by have := tr_len (s.take 5); rw [List.length_take] at this; omega
  generalize tr (s.take 5) = p at hpl ⊢
  have hd : (s.drop 6).length ≤ 9000 := by rw [List.length_drop]; omega
  have hw1 : IntKind.i64.wrap ((n : Int) + 1) = ((n + 1 : Nat) : Int) := by rw [w64n (by omega) (by omega)]; rfl
  have hfail := (h.fail ((n + 1 : Nat) : Int) (by omega) (by omega)).mono (Nat.le_succ n) (Nat.le_succ n)
  unfold Src.reader.old.j1 Ref3.Old.j3 Ref3.Old.j5
  simp only [letk]
  rw [fst_ne]
  cases cont s with
  | true =>
    simp only [cond_true]
    cases hp : (p == []) with
    | false =>
      simp only [Bool.not_false, cond_true]
      rw [fail_eq, hw1, wrong_eq]
      simp only [Option.bind_some]
      refine ⟨_, _, _, _, _, _, _, _, _, _, _, _, _, rfl, ?_, hfail⟩
      cases b' <;> rfl
    | true =>
      simp only [Bool.not_true, cond_false]
      have hb := h.hb
      subst hb
      cases b with
      | false =>
        simp only [Bool.not_false, cond_true]
        rw [fail_eq, hw1, wrong_eq]
        exact ⟨_, _, _, _, _, _, _, _, _, _, _, _, _, rfl, rfl, hfail⟩
      | true =>
        simp only [Bool.not_true, cond_false]
        obtain ⟨x, h1, rfl, rfl, rfl, rfl, h6, h7, h8⟩ := h.beg rfl
        rw [old_j0_eq (s.drop 6) x o w true l a (by omega) (by omega), refj1_eq T LL n (pad6 s) x o' l' a true w' (by omega) (by omega) (by omega) (by omega), pad6_drop]
        refine ⟨_, _, _, _, _, _, _, _, _, _, _, _, _, rfl, rfl, ⟨rfl, h.hw, h.h0, by have := h.ho; omega, by have := h.ho'; omega, h.same, fun _ => ⟨_, ?_, rfl, rfl, rfl, rfl, h6, by omega, h8⟩⟩⟩
        have := part_len (s.drop 6) (x.foldl nx 0)
        rw [List.length_append]
        exact mul_step h1 (by omega)
  | false =>
    simp only [cond_false]
    obtain ⟨o1, w1, l1, a1, t1, q1, o1', l1', t1', a1', w1', e1, e2, h2⟩ := h.end (by omega) (by omega)
    rw [e1, e2]
    simp only [Option.bind_some]
    rw [hw1, number_eq p hpl]
    obtain ⟨nl, el, hl1, hl2⟩ := labelOf_eq p hpl
    rw [el]
    simp only [Option.bind_some]
    have hwr := wrong_eq o1' 0 ⟨#[]⟩ ((n + 1 : Nat) : Int) true w1' ((n + 1 : Nat) : Int)
    have hfa := h2.fail ((n + 1 : Nat) : Int) (by omega) (by omega)
    have hfp := failN_pos h2.h0 (by omega : (0 : Int) < ((n + 1 : Nat) : Int))
    cases hp : (p == []) with
    | true =>
      have hp0 : p = [] := beq_iff_eq.1 hp
      simp only [Bool.not_true, cond_false]
      obtain ⟨t2, q2, f1, f2, f3⟩ := new_sim (by omega) T LL s hs h2 nl 0 (.inl (hl2 hp0))
      rw [f1, f2]
      exact ⟨_, _, _, _, _, _, _, _, _, _, _, _, _, rfl, rfl, f3⟩
    | false =>
      rw [hp] at hl1
      simp only [Bool.not_false, cond_true, Bool.true_and]
      cases ha : p.all dig with
      | false =>
        simp only [Bool.false_and, Bool.not_false, cond_true, Bool.false_eq_true, if_false]
        obtain ⟨t2, q2, f1, f2, f3⟩ := new_sim (by omega) T LL s hs hfa nl 0 (.inr ⟨hfp, failN_le⟩)
        rw [fail_eq, hwr]
        simp only [Option.bind_some]
        unfold Ref3.Old.j4
        rw [f1, f2]
        exact ⟨_, _, _, _, _, _, _, _, _, _, _, _, _, rfl, rfl, f3⟩
      | true =>
        rw [ha] at hl1
        have hnl := hl1 rfl
        simp only [Bool.true_and, if_true]
        cases decide (0 < dval 0 p) with
        | true =>
          simp only [Bool.not_true, cond_false]
          obtain ⟨t2, q2, f1, f2, f3⟩ := new_sim (by omega) T LL s hs h2 nl (dval 0 p) (.inl hnl)
          unfold Ref3.Old.j4
          rw [f1, f2]
          exact ⟨_, _, _, _, _, _, _, _, _, _, _, _, _, rfl, rfl, f3⟩
        | false =>
          simp only [Bool.not_false, cond_true]
          obtain ⟨t2, q2, f1, f2, f3⟩ := new_sim (by omega) T LL s hs hfa nl (dval 0 p) (.inr ⟨hfp, failN_le⟩)
          rw [fail_eq, hwr]
          simp only [Option.bind_some]
          unfold Ref3.Old.j4
          rw [f1, f2]
          exact ⟨_, _, _, _, _, _, _, _, _, _, _, _, _, rfl, rfl, f3⟩

/-! the loop -/

theorem answer_told (o : List api.Line) (w : Int) (b : Bool) (l a : Int) (t : ByteArray) (q : Int) (T : ByteArray) (o' : List api.Line) (l' : Int) (t' : ByteArray) (a' : Int) (b' : Bool) (h0 : 0 ≤ w) (hs : w = 0 → o = o') (m : Nat) (ho : o.length ≤ m) : ∃ v : List api.Line × Int × Int, v.1.length ≤ m ∧ Src.reader.answer o w b l a t q T = some v ∧ Ref3.reader.told o' l' t' a' b' w T = some v := by
  unfold Src.reader.answer Ref3.reader.told Src.reader.answer.j0 Ref3.reader.told.j0
  simp only [letk]
  by_cases hw : w = 0
  · subst hw
    have := hs rfl
    subst this
    rw [decide_eq_false (by omega : ¬ (0 : Int) > 0)]
    simp only [cond_false]
    cases decide ((T.size : Int) > 8000) with
    | true => exact ⟨_, Nat.zero_le _, rfl, rfl⟩
    | false =>
      simp only [cond_false]
      cases decide ((o.length : Int) > 200) with
      | true => exact ⟨_, Nat.zero_le _, rfl, rfl⟩
      | false => exact ⟨_, ho, rfl, rfl⟩
  · rw [decide_eq_true (by omega : w > 0)]
    exact ⟨_, Nat.zero_le _, rfl, rfl⟩
theorem old_loop (T : ByteArray) (ls : List BS) (hc : ls.length < 2 ^ 20 - 1) (hl : ∀ x ∈ ls, x.length ≤ 9000) : ∀ (k n : Nat), n + k = ls.length → ∀ {o w b l a t q o' l' t' a' b' w'}, Sim n n o w b l a t q o' l' t' a' b' w' →
    ∃ v : List api.Line × Int × Int, v.1.length < 2 ^ 20 + 1 ∧ Src.Old.l0 T (ls.map B) ((ls.map B).length : Int) o w b l a t q n = some v ∧ Ref3.Old.l0 T (ls.map B) o' l' t' a' b' w' n = some v := by
  have hml : (ls.map B).length = ls.length := List.length_map _
  intro k
  induction k with
  | zero =>
    intro n hn o w b l a t q o' l' t' a' b' w' h
    rw [Src.Old.l0_eq, Ref3.Old.l0_eq, Src.Old.s0, Ref3.Old.s0]
    simp only [letk]
    rw [hml, decide_eq_false (by omega : ¬ (n : Int) < (ls.length : Int)), cond_false, cond_false]
    obtain ⟨o1, w1, l1, a1, t1, q1, o1', l1', t1', a1', w1', e1, e2, h2⟩ := h.end (by omega) (by omega)
    rw [e1, e2]
    simp only [Option.bind_some]
    have hw := h2.hw
    subst hw
    obtain ⟨v, hv, f1, f2⟩ := answer_told o1 w1 false l1 a1 t1 q1 T o1' l1' t1' a1' false h2.h0 h2.same (n + 1) h2.ho
    rw [f1, f2]
    exact ⟨v, by omega, rfl, rfl⟩
  | succ k ih =>
    intro n hn o w b l a t q o' l' t' a' b' w' h
    have hlt : n < ls.length := by omega
    have hls := hl _ (List.getElem_mem hlt)
    have hget : (ls.map B)[n]? = some (B ls[n]) := by rw [List.getElem?_map, List.getElem?_eq_getElem hlt]; rfl
    have hw1 : IntKind.i64.wrap ((n : Int) + 1) = ((n + 1 : Nat) : Int) := by rw [w64n (by omega) (by omega)]; rfl
    rw [Src.Old.l0_eq, Ref3.Old.l0_eq, Src.Old.s0, Ref3.Old.s0]
    simp only [letk]
    rw [hml, decide_eq_true (by omega : (n : Int) < (ls.length : Int)), cond_true, cond_true, chk_pos (by omega), chk_pos (by omega), Int.toNat_natCast, hget]
    simp only [Option.bind_some]
    rw [isText_eq _ (by omega), isLine_eq _ 72 (by omega), hw1]
    simp only [Option.bind_some]
    have hsz : (B ls[n]).size = ls[n].length := rfl
    obtain ⟨bc, c1, c2⟩ := comment_eq ls[n] true (by omega)
    -- behind the check of the line
    have tail : ∀ {o w b l a t q o' l' t' a' b' w'}, Sim n n o w b l a t q o' l' t' a' b' w' ∨ (Sim (n + 1) (n + 1) o w b l a t q o' l' t' a' b' w' ∧ Sim n n o w b l a t q o' l' t' a' b' w') →
        ∃ v : List api.Line × Int × Int, v.1.length < 2 ^ 20 + 1 ∧ (Src.Old.j0 T (ls.map B) (ls.length : Int) n (B ls[n]) o w b l a t q).bind (Sum.elim (fun v => Src.Old.l0 T (ls.map B) (ls.length : Int) v.1 v.2.1 v.2.2.1 v.2.2.2.1 v.2.2.2.2.1 v.2.2.2.2.2.1 v.2.2.2.2.2.2.1 v.2.2.2.2.2.2.2) some) = some v ∧ (Ref3.Old.j0 T (ls.map B) n (B ls[n]) o' l' t' a' b' w').bind (Sum.elim (fun v => Ref3.Old.l0 T (ls.map B) v.1 v.2.1 v.2.2.1 v.2.2.2.1 v.2.2.2.2.1 v.2.2.2.2.2.1 v.2.2.2.2.2.2) some) = some v := by
      intro o w b l a t q o' l' t' a' b' w' h
      have h : Sim n n o w b l a t q o' l' t' a' b' w' := h.elim id (·.2)
      unfold Src.Old.j0 Ref3.Old.j0
      simp only [letk]
      rw [c1, c2, hw1]
      simp only [Option.bind_some]
      cases bc with
      | true =>
        have := ih (n + 1) (by omega) (h.mono (Nat.le_succ n) (Nat.le_succ n))
        rw [hml] at this
        exact this
      | false =>
        obtain ⟨o1, w1, b1, l1, a1, t1, q1, o1', l1', t1', a1', b1', w1', e1, e2, h2⟩ := line_sim (by omega) T (ls.map B) ls[n] hls h
        simp only [Bool.not_false, cond_true, cond_false]
        rw [e1, e2]
        have := ih (n + 1) (by omega) h2
        rw [hml] at this
        exact this
    have hj1 : ∀ x : Bool, Src.Old.j1 T (ls.map B) (ls.length : Int) n (B ls[n]) o w b l a t q x = (bif x then Src.Old.j0 T (ls.map B) (ls.length : Int) n (B ls[n]) o (failN w ((n + 1 : Nat) : Int)) b l a t q else Src.Old.j0 T (ls.map B) (ls.length : Int) n (B ls[n]) o w b l a t q) := by
      intro x
      unfold Src.Old.j1
      simp only [letk]
      rw [hw1, fail_eq]
      cases x <;> rfl
    have hneg : decide (((B ls[n]).size : Int) > 72) = !(decide ((ls[n].length : Int) ≤ 72)) := by rw [← decide_not, decide_eq_decide]; omega
    rw [hj1, hj1, hneg, wrong_eq]
    simp only [Option.bind_some]
    have hf : Sim n n o (failN w ((n + 1 : Nat) : Int)) b l a t q o' l' t' a' b' (failN w' ((n + 1 : Nat) : Int)) := h.fail _ (by omega) (by omega)
    cases ls[n].all okB with
    | false => exact tail (.inl hf)
    | true =>
      cases decide ((ls[n].length : Int) ≤ 72) with
      | false => exact tail (.inl hf)
      | true => exact tail (.inl h)
theorem olds_eq (x : BS) (hx : x.length ≤ 9000) : ∃ v : List api.Line × Int × Int, v.1.length < 2 ^ 20 + 1 ∧ Src.Old (B x) = some v ∧ Ref3.Old (B x) = some v := by
  obtain ⟨h1, h2⟩ := linesL_len x []
  simp only [List.length_nil, Nat.add_zero] at h1 h2
  unfold Src.Old Ref3.Old
  rw [lines_eq x (by omega), split_eq x (by omega)]
  simp only [Option.bind_some, letk]
  exact old_loop (B x) (linesL x []) (by omega) (fun y hy => by have := h2 y hy; omega) _ 0 (by rw [Nat.zero_add]) ⟨rfl, rfl, Int.le_refl _, Nat.le_refl _, Nat.le_refl _, fun _ => rfl, fun h => by cases h⟩

theorem same_self (z : List api.Line) (hz : z.length < 2 ^ 40) : ∀ (j n : Nat), n + j = z.length → Ref3.SameLines.l0 z z true n = some true := by
  intro j
  induction j with
  | zero =>
    intro n hn
    rw [Ref3.SameLines.l0_eq, Ref3.SameLines.s0]
    simp only [letk]
    rw [decide_eq_false (by omega : ¬ (n : Int) < (z.length : Int))]
    rfl
  | succ j ih =>
    intro n hn
    have hlt : n < z.length := by omega
    rw [Ref3.SameLines.l0_eq, Ref3.SameLines.s0]
    simp only [letk]
    rw [decide_eq_true (by omega : (n : Int) < (z.length : Int)), cond_true, Int.toNat_natCast]
    simp only [chk_pos (by omega : (0 : Int) ≤ (n : Int)), List.getElem?_eq_getElem hlt, Option.bind_some]
    rw [w64n (by omega) (by omega)]
    simp only [bne_self_eq_false, beq_self_eq_true, Bool.not_true, cond_false, cond_true, Option.bind_some, Sum.elim_inl]
    exact ih (n + 1) (by omega)
theorem FormOlds_of (hA : Law3.Awake = some true) (x : ByteArray) : Law3.FormOlds x = some true := by
  unfold Law3.FormOlds
  simp only [letk]
  rw [hA]
  by_cases h : (x.size : Int) > 9000
  · rw [decide_eq_true h]; rfl
  · rw [decide_eq_false h, cond_false]
    have hx : (L x).length ≤ 9000 := by rw [L_len]; omega
    obtain ⟨⟨v, c, d⟩, h1, h2, h3⟩ := olds_eq (L x) hx
    rw [B_L] at h2 h3
    rw [h2, h3]
    simp only [Option.bind_some]
    have hs : Ref3.SameLines v v true = some true := by
      unfold Ref3.SameLines
      simp only [letk]
      rw [show ((v.length : Int) != (v.length : Int)) = false from bne_self_eq_false _, cond_false]
      exact same_self v (by have : v.length < 2 ^ 20 + 1 := h1; omega) _ 0 (by rw [Nat.zero_add])
    rw [hs]
    simp only [beq_self_eq_true, cond_true, Option.bind_some]
end Go.Q
