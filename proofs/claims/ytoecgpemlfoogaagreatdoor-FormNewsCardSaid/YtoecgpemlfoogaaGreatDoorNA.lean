/- A statement's text, both times: what is wrong, and what line it gives. -/
import Derived.Test.YtoecgpemlfoogaaGreatDoorFP
namespace Go.Q
open Go

/-- A further thing wrong at a line (0: none). -/
def mw (w e : Int) : Int := if e = 0 then w else failN w e
theorem mw_zero (w : Int) : mw w 0 = w := if_pos rfl
theorem mw_pos {w a : Int} (h : 0 < a) : mw w a = failN w a := if_neg (by omega)
theorem mw_ge {w e : Int} (h : 0 ≤ w) (he : 0 ≤ e) : 0 ≤ mw w e := by unfold mw failN; split <;> (try split) <;> omega
theorem mw_none {w e : Int} (h : 0 ≤ w) (he : 0 ≤ e) (hz : mw w e = 0) : w = 0 ∧ e = 0 := by
  unfold mw failN at hz
  split at hz
  · omega
  · split at hz <;> omega
theorem mw_assoc {w e f : Int} (h : 0 ≤ w) (he : 0 ≤ e) (hf : 0 ≤ f) : mw (mw w e) f = mw w (mw e f) := by
  unfold mw failN
  repeat' split
  all_goals omega
theorem mw_comm {w e : Int} (h : 0 ≤ w) (he : 0 ≤ e) : mw w e = mw e w := by
  unfold mw failN
  repeat' split
  all_goals omega

theorem trimR_idem (l : BS) : Lib.trimRightB (Lib.trimRightB l 32) 32 = Lib.trimRightB l 32 := by
  unfold Lib.trimRightB
  rw [List.reverse_reverse]
  congr 1
  rcases drop_cases l.reverse with h | ⟨c, r, h, hc⟩
  · rw [h]; rfl
  · rw [h, List.dropWhile_cons, hc]; rfl
theorem tr_tr (x : BS) : tr (tr x) = tr x := by
  unfold tr
  rcases drop_cases x with h | ⟨c, r, h, hc⟩
  · rw [h]; rfl
  · rw [h]
    obtain ⟨r', hr⟩ := trimR_cons hc r
    rw [hr, List.dropWhile_cons, hc]
    simp only [Bool.false_eq_true, if_false]
    rw [← hr]; exact trimR_idem _
theorem pre_all (t : BS) : (t.take (preD t)).all dig = true ∧ (t.take (preD t)).length = preD t := by
  have h := List.takeWhile_prefix dig (l := t)
  have e : t.take (preD t) = t.takeWhile dig := by unfold preD; exact List.prefix_iff_eq_take.1 h |>.symm
  rw [e]
  refine ⟨?_, rfl⟩
  rw [List.all_eq_true]
  intro x hx
  have := List.all_takeWhile (p := dig) (l := t)
  rw [List.all_eq_true] at this
  exact this x hx
theorem nx_dig {c : UInt8} (h : dig c = true) : nx 0 c = 0 := by
  obtain ⟨d1, d2⟩ := dig_b h
  unfold nx
  have h1 : (c == 39) = false := by rw [beq_eq_false_iff_ne]; intro e; subst e; revert d1; decide
  have h2 : (c == 34) = false := by rw [beq_eq_false_iff_ne]; intro e; subst e; revert d1; decide
  rw [h1, h2]; rfl
theorem fold_dig : ∀ l : BS, l.all dig = true → l.foldl nx 0 = 0
  | [], _ => rfl
  | c :: r, h => by
    simp only [List.all_cons, Bool.and_eq_true] at h
    rw [List.foldl_cons, nx_dig h.1]
    exact fold_dig r h.2
theorem labelled_lt {t : BS} (h : labelled t = true) : 0 < preD t ∧ preD t < t.length := by
  unfold labelled at h
  simp only [Bool.and_eq_true, decide_eq_true_eq] at h
  exact ⟨h.1, h.2.1⟩
theorem st_fold (z : BS) : ((z.foldl nx 0 == 0) && stOK z) = stOK z := by
  cases hs : stOK z with
  | false => rw [Bool.and_false]
  | true =>
    unfold stOK at hs
    simp only [Bool.and_eq_true] at hs
    rw [hs.2.2.2.1]; rfl
theorem fold_pre (t : BS) : (t.drop (preD t)).foldl nx 0 = t.foldl nx 0 := by
  conv => rhs; rw [← List.take_append_drop (preD t) t, List.foldl_append, fold_dig _ (pre_all t).1]

theorem labelOf_any (l : BS) (hl : l.length < 2 ^ 40) (h0 : l ≠ []) (ha : l.all dig = true) : ∃ n : Int, Src.labelOf (B l) = some (n, decide (l.length ≤ 5) && decide (0 < dval 0 l)) ∧ (l.length ≤ 5 → n = dval 0 l) := by
  by_cases h5 : l.length ≤ 5
  · obtain ⟨n, h1, h2, _⟩ := labelOf_eq l h5
    have he : (l == []) = false := beq_eq_false_iff_ne.2 h0
    rw [he, ha] at h1
    rw [he, ha] at h2
    exact ⟨n, by rw [h1, decide_eq_true h5]; rfl, fun _ => h2 rfl⟩
  · have hsz : (B l).size = l.length := rfl
    have hs1 : (⟨#[32]⟩ : ByteArray).size = 1 := rfl
    obtain ⟨n, b, hn⟩ : ∃ n b, Strconv.Atoi (B l) = some ((n : Int), b) := by
      unfold Strconv.Atoi
      rw [chk_pos (by omega)]
      exact ⟨_, _, rfl⟩
    refine ⟨n, ?_, fun h => absurd h h5⟩
    unfold Src.labelOf
    rw [hn]
    simp only [Option.bind_some, letk]
    rw [chk_pos (by omega), chk_pos (by omega), show B l ++ (⟨#[32]⟩ : ByteArray) = B (l ++ [32]) from B_appR l [32], numbered_eq _ (by simp only [List.length_append, List.length_singleton]; omega)]
    simp only [Option.bind_some]
    rw [hsz, decide_eq_false (by omega : ¬ (l.length : Int) ≤ 5), decide_eq_false h5]
    cases b <;> cases ((preD (l ++ [32]) : Int) == (l.length : Int)) <;> rfl
theorem number_any (l : BS) (ha : l.all dig = true) : ∃ n : Int, Ref3.number (B l) = some (n, decide (l.length ≤ 5) && decide (0 < dval 0 l)) ∧ (l.length ≤ 5 → n = dval 0 l) := by
  by_cases h5 : l.length ≤ 5
  · refine ⟨dval 0 l, ?_, fun _ => rfl⟩
    rw [number_eq l h5, ha, if_pos rfl, decide_eq_true h5]; rfl
  · refine ⟨0, ?_, fun h => absurd h h5⟩
    have hsz : (B l).size = l.length := rfl
    unfold Ref3.number
    simp only [letk]
    rw [decide_eq_true (by omega : ((B l).size : Int) > 5), cond_true, decide_eq_false h5]; rfl

/-- What is wrong with a statement's text that begins at a line: that line, or 0. -/
def pieceE (x : BS) (a : Int) : Int :=
  if tr x = [] then 0
  else if labelled (tr x) = true then (if ((decide (preD (tr x) ≤ 5) && decide (0 < dval 0 ((tr x).take (preD (tr x))))) && stOK (tr ((tr x).drop (preD (tr x))))) = true then 0 else a)
  else if stOK (tr x) = true then 0 else a
def pieceL (x : BS) (a : Int) : List api.Line :=
  if tr x = [] then []
  else if labelled (tr x) = true then [⟨(dval 0 ((tr x).take (preD (tr x))) : Nat), B (tr ((tr x).drop (preD (tr x)))), a⟩]
  else [⟨0, B (tr x), a⟩]
theorem pieceE_ge (x : BS) {a : Int} (h : tr x ≠ [] → 0 < a) : 0 ≤ pieceE x a := by
  unfold pieceE
  split
  · omega
  · rename_i h0
    have := h h0
    split <;> split <;> omega
theorem failN_twice {w a : Int} (h0 : 0 ≤ w) (ha : 0 < a) : failN (failN w a) a = failN w a := failN_keep (failN_pos h0 ha) failN_le
theorem over_eq (o : List api.Line) (w l a : Int) (x : BS) (hx : x.length < 2 ^ 40) (ho : o.length < 2 ^ 40) (h0 : 0 ≤ w) (ha : tr x ≠ [] → 0 < a) : ∃ o1, Src.reader.over_ o w true l a (B x) ((x.foldl nx 0).toNat : Int) = some (o1, mw w (pieceE x a), false, 0, 0, ⟨#[]⟩, 0) ∧ (mw w (pieceE x a) = 0 → o1 = o ++ pieceL x a) ∧ o1.length ≤ o.length + 1 := by
  have htl := tr_len x
  have hfold : x.foldl nx 0 = (tr x).foldl nx 0 := (fold_tr x).symm
  rw [hfold]
  unfold Src.reader.over_
  rw [strim_eq x (by omega)]
  simp only [Option.bind_some]
  rw [numbered_eq _ (by omega)]
  simp only [Option.bind_some, letk]
  have hlen : ∀ (oo : List api.Line) (z : api.Line), (oo ++ [z]).length ≤ oo.length + 1 := fun oo z => by simp
  unfold pieceE pieceL
  by_cases ht : tr x = []
  · rw [if_pos ht, if_pos ht, ht]
    refine ⟨o, ?_, fun _ => by simp, by omega⟩
    unfold Src.reader.over_.j0 Src.reader.over_.j1
    simp only [letk, show labelled ([] : BS) = false from rfl, cond_false, cond_true]
    rw [mw_zero, eqL, L_B, L_e0]
    rfl
  · rw [if_neg ht, if_neg ht]
    have ha' := ha ht
    have hsz : (B (tr x)).size = (tr x).length := rfl
    cases hlb : labelled (tr x) with
    | true =>
      obtain ⟨l1, l2⟩ := labelled_lt hlb
      obtain ⟨p1, p2⟩ := pre_all (tr x)
      simp only [cond_true, if_true]
      have hne : (tr x).take (preD (tr x)) ≠ [] := by intro e; rw [e] at p2; simp at p2; omega
      obtain ⟨n, e1, e2⟩ := labelOf_any ((tr x).take (preD (tr x))) (by omega) hne p1
      rw [p2] at e1 e2
      rw [chk_pos (by omega), Int.toNat_natCast, ext_B, L_B, e1]
      simp only [Option.bind_some]
      rw [fail_eq]
      simp only [Option.bind_some]
      rw [chk_pos (by omega), chk_pos (by omega), ext_D, L_B]
      have hyl : ((tr x).drop (preD (tr x))).length < 2 ^ 40 := by rw [List.length_drop]; omega
      have hyne : ((tr x).drop (preD (tr x)) == []) = false := by
        rw [beq_eq_false_iff_ne]; intro e
        have := congrArg List.length e
        rw [List.length_drop] at this; simp at this; omega
      have hj : ∀ w' n', Src.reader.over_.j0 o w' true l a (B x) (((tr x).foldl nx 0).toNat : Int) (B ((tr x).drop (preD (tr x)))) n' = some ((if tr ((tr x).drop (preD (tr x))) = [] ∧ n' = 0 then o else o ++ [(⟨n', B (tr ((tr x).drop (preD (tr x)))), a⟩ : api.Line)]), (if tr ((tr x).drop (preD (tr x))) = [] ∧ n' = 0 then w' else if stOK (tr ((tr x).drop (preD (tr x)))) = true then w' else failN w' a), false, 0, 0, ⟨#[]⟩, 0) := by
        intro w' n'
        unfold Src.reader.over_.j0 Src.reader.over_.j1
        simp only [letk]
        rw [eqL, L_B, L_e0, hyne, Bool.not_false, cond_true, end_eq o w' n' a _ _ hyl ho]
        have hq : (((tr x).foldl nx 0) == 0 && stOK (tr ((tr x).drop (preD (tr x))))) = stOK (tr ((tr x).drop (preD (tr x)))) := by
          rw [← fold_pre (tr x), ← fold_tr ((tr x).drop (preD (tr x)))]; exact st_fold _
        rw [hq]
        by_cases hc : tr ((tr x).drop (preD (tr x))) = [] ∧ n' = 0
        · rw [if_pos hc, if_pos hc, if_pos hc]; rfl
        · rw [if_neg hc, if_neg hc, if_neg hc]; rfl
      rw [hj, hj]
      cases hok : (decide (preD (tr x) ≤ 5) && decide (0 < dval 0 ((tr x).take (preD (tr x))))) with
      | true =>
        simp only [Bool.and_eq_true, decide_eq_true_eq] at hok
        have hn : n = (dval 0 ((tr x).take (preD (tr x))) : Nat) := e2 hok.1
        have hnn : ¬ (tr ((tr x).drop (preD (tr x))) = [] ∧ n = 0) := fun h => by omega
        simp only [if_neg hnn, Bool.not_true, cond_false, Bool.true_and]
        cases hs : stOK (tr ((tr x).drop (preD (tr x)))) with
        | true =>
          simp only [if_true]
          rw [mw_zero]
          exact ⟨_, rfl, fun _ => by rw [hn], hlen _ _⟩
        | false =>
          simp only [Bool.false_eq_true, if_false]
          rw [mw_pos ha']
          have := failN_pos h0 ha'
          exact ⟨_, rfl, fun h => by omega, hlen _ _⟩
      | false =>
        simp only [Bool.not_false, cond_true, Bool.false_and, Bool.false_eq_true, if_false]
        rw [mw_pos ha', failN_twice h0 ha']
        have := failN_pos h0 ha'
        refine ⟨(if tr ((tr x).drop (preD (tr x))) = [] ∧ n = 0 then o else o ++ [⟨n, B (tr ((tr x).drop (preD (tr x)))), a⟩]), ?_, fun h => by omega, by split; omega; exact hlen _ _⟩
        congr 3
        split
        · rfl
        · split <;> rfl
    | false =>
      simp only [cond_false, Bool.false_eq_true, if_false]
      unfold Src.reader.over_.j0 Src.reader.over_.j1
      simp only [letk]
      have hne : (tr x == []) = false := beq_eq_false_iff_ne.2 ht
      rw [eqL, L_B, L_e0, hne, Bool.not_false, cond_true, end_eq o w 0 a _ _ (by omega) ho, tr_tr, st_fold, if_neg (fun h => ht h.1)]
      simp only [Option.bind_some]
      cases hs : stOK (tr x) with
      | true =>
        simp only [if_true]
        rw [mw_zero]
        exact ⟨_, rfl, fun _ => rfl, hlen _ _⟩
      | false =>
        simp only [Bool.false_eq_true, if_false]
        rw [mw_pos ha']
        have := failN_pos h0 ha'
        exact ⟨_, rfl, fun h => by omega, hlen _ _⟩
end Go.Q
namespace Go.Q
open Go

abbrev PL := UInt8 × Int
def bys (c : List PL) : BS := c.map (·.1)
def atP (c : List PL) : Int := match c.dropWhile (fun p => p.1 == 32) with
  | [] => 0
  | p :: _ => p.2
def pE (c : List PL) : Int := pieceE (bys c) (atP c)
def pL (c : List PL) : List api.Line := pieceL (bys c) (atP c)
def WF (w : Int) (fin : List (List PL)) : Int := fin.foldl (fun w c => mw w (pE c)) w
def LF (fin : List (List PL)) : List api.Line := fin.flatMap pL
def stepG (s : List (List PL) × List PL × UInt8) (p : PL) : List (List PL) × List PL × UInt8 := if p.1 = 59 ∧ s.2.2 = 0 then (s.1 ++ [s.2.1], [], 0) else (s.1, s.2.1 ++ [p], nx s.2.2 p.1)
def good (c : List PL) : Prop := ∀ p ∈ c, 0 < p.2

theorem bys_len (c : List PL) : (bys c).length = c.length := List.length_map _
theorem bys_drop (c : List PL) : bys (c.dropWhile (fun p => p.1 == 32)) = (bys c).dropWhile (· == 32) := by
  induction c with
  | nil => rfl
  | cons p r ih =>
    show bys (List.dropWhile _ (p :: r)) = List.dropWhile _ (p.1 :: bys r)
    rw [List.dropWhile_cons, List.dropWhile_cons]
    split
    · exact ih
    · rfl
theorem atP_pos {c : List PL} (h : good c) (ht : tr (bys c) ≠ []) : 0 < atP c := by
  unfold atP
  split
  · rename_i e
    have := bys_drop c
    rw [e] at this
    exact absurd (by unfold tr; rw [← this]; rfl) ht
  · rename_i p r e
    have : p ∈ c.dropWhile (fun p => p.1 == 32) := by rw [e]; exact List.mem_cons_self
    exact h p ((List.dropWhile_sublist _).mem this)
theorem pE_ge {c : List PL} (h : good c) : 0 ≤ pE c := pieceE_ge _ (fun ht => atP_pos h ht)
theorem WF_ge {w : Int} {fin : List (List PL)} (h : 0 ≤ w) (hf : ∀ c ∈ fin, good c) : 0 ≤ WF w fin := by
  induction fin generalizing w with
  | nil => exact h
  | cons c r ih => exact ih (mw_ge h (pE_ge (hf c List.mem_cons_self))) (fun c hc => hf c (List.mem_cons_of_mem _ hc))
theorem WF_mw {w e : Int} {fin : List (List PL)} (h : 0 ≤ w) (he : 0 ≤ e) (hf : ∀ c ∈ fin, good c) : WF (mw w e) fin = mw (WF w fin) e := by
  induction fin generalizing w with
  | nil => rfl
  | cons c r ih =>
    have hc := pE_ge (hf c List.mem_cons_self)
    show WF (mw (mw w e) (pE c)) r = mw (WF (mw w (pE c)) r) e
    rw [mw_assoc h he hc, mw_comm he hc, ← mw_assoc h hc he]
    exact ih (mw_ge h hc) (fun c hc => hf c (List.mem_cons_of_mem _ hc))
theorem WF_zero {w : Int} {fin : List (List PL)} (h : 0 ≤ w) (hf : ∀ c ∈ fin, good c) (hz : WF w fin = 0) : w = 0 := by
  induction fin generalizing w with
  | nil => exact hz
  | cons c r ih =>
    have hc := pE_ge (hf c List.mem_cons_self)
    have := ih (mw_ge h hc) (fun c hc => hf c (List.mem_cons_of_mem _ hc)) hz
    exact (mw_none h hc this).1
theorem WF_app (w : Int) (f g : List (List PL)) : WF w (f ++ g) = WF (WF w f) g := List.foldl_append ..
theorem LF_app (f g : List (List PL)) : LF (f ++ g) = LF f ++ LF g := List.flatMap_append
theorem LF_one (c : List PL) : LF [c] = pL c := by simp [LF]

theorem tr_sp (r : BS) : tr (32 :: r) = tr r := by
  unfold tr
  rw [List.dropWhile_cons]; rfl
theorem pE_sp (p : PL) (c : List PL) (h : p.1 = 32) : pE (p :: c) = pE c ∧ pL (p :: c) = pL c := by
  have h1 : tr (bys (p :: c)) = tr (bys c) := by show tr (p.1 :: bys c) = _; rw [h, tr_sp]
  have h2 : atP (p :: c) = atP c := by unfold atP; rw [List.dropWhile_cons]; simp [h]
  unfold pE pL pieceE pieceL
  rw [h1, h2]; exact ⟨rfl, rfl⟩
theorem rright_eq (l : BS) (h : l.length < 2 ^ 62) : Ref3.right (B l) = some (B (Lib.trimRightB l 32)) := right_eq l h
theorem ext_AB (g : BS) (a i : Nat) : (B g).extract a i = B ((g.take i).drop a) := by
  rw [← B_L ((B g).extract a i), L_ext, L_B]

/-- The label in front of a text, and the text behind it, told and ended. -/
theorem piece_j2 (G : List PL) (T17 : List Int) (i : Int) (t68 : Int) (hi : 0 ≤ i ∧ i < 2 ^ 40) (y : BS) (hy : y ≠ []) (hyt : tr y = y) (hyl : y.length < 2 ^ 40) (o : List api.Line) (a w : Int) (ho : o.length < 2 ^ 40) (ha : 0 < a) (h0 : 0 ≤ w) :
    ∃ o1 l1 t1 a1 b1, Ref3.written.statements.j2 (B (bys G)) (G.map (·.2)) T17 i t68 (B y) (preD y) o 0 (B y) a true w (labelled y) = some (.inl (o1, l1, t1, a1, b1, mw w (pieceE y a), t68, i + 1)) ∧ (mw w (pieceE y a) = 0 → o1 = o ++ pieceL y a) ∧ o1.length ≤ o.length + 1 := by
  have hlen : ∀ (oo : List api.Line) (z : api.Line), (oo ++ [z]).length ≤ oo.length + 1 := fun oo z => by simp
  have hsz : (B y).size = y.length := rfl
  have hpl := preD_le y
  unfold Ref3.written.statements.j2 pieceE pieceL
  rw [hyt, if_neg hy, if_neg hy, w64n (by omega) (by omega)]
  cases hlb : labelled y with
  | true =>
    obtain ⟨l1, l2⟩ := labelled_lt hlb
    obtain ⟨p1, p2⟩ := pre_all y
    obtain ⟨n, e1, e2⟩ := number_any (y.take (preD y)) p1
    rw [p2] at e1 e2
    simp only [cond_true, if_true, letk]
    rw [chk_pos (by omega), Int.toNat_natCast, ext_B, L_B, e1]
    simp only [Option.bind_some]
    rw [wrong_eq]
    simp only [Option.bind_some]
    have hdl : (y.drop (preD y)).length < 2 ^ 40 := by rw [List.length_drop]; omega
    have hj : ∀ w', Ref3.written.statements.j3 (B (bys G)) (G.map (·.2)) T17 i t68 (B y) (preD y) n o 0 (B y) a true w' = some (.inl ((if tr (y.drop (preD y)) = [] ∧ n = 0 then o else if stOK (tr (y.drop (preD y))) = true then o ++ [(⟨n, B (tr (y.drop (preD y))), a⟩ : api.Line)] else o), n, B (tr (y.drop (preD y))), a, false, (if tr (y.drop (preD y)) = [] ∧ n = 0 then w' else if stOK (tr (y.drop (preD y))) = true then w' else failN w' a), t68, i + 1)) := by
      intro w'
      unfold Ref3.written.statements.j3
      simp only [letk]
      rw [chk_pos (by omega), Int.toNat_natCast, ext_D, L_B, ends_eq o n a w' _ hdl ho, w64n (by omega) (by omega)]
      simp only [Option.bind_some]
      by_cases hc : tr (y.drop (preD y)) = [] ∧ n = 0
      · simp only [if_pos hc]
      · simp only [if_neg hc]
        split <;> rfl
    rw [hj, hj]
    cases hok : (decide (preD y ≤ 5) && decide (0 < dval 0 (y.take (preD y)))) with
    | true =>
      simp only [Bool.and_eq_true, decide_eq_true_eq] at hok
      have hn : n = (dval 0 (y.take (preD y)) : Nat) := e2 hok.1
      have hnn : ¬ (tr (y.drop (preD y)) = [] ∧ n = 0) := fun h => by omega
      simp only [if_neg hnn, Bool.not_true, cond_false, Bool.true_and]
      cases hs : stOK (tr (y.drop (preD y))) with
      | true =>
        simp only [if_true]
        rw [mw_zero]
        exact ⟨_, _, _, _, _, rfl, fun _ => by rw [hn], hlen _ _⟩
      | false =>
        simp only [Bool.false_eq_true, if_false]
        rw [mw_pos ha]
        have := failN_pos h0 ha
        exact ⟨_, _, _, _, _, rfl, fun h => by omega, by omega⟩
    | false =>
      simp only [Bool.not_false, cond_true, Bool.false_and, Bool.false_eq_true, if_false]
      rw [mw_pos ha, failN_twice h0 ha]
      have := failN_pos h0 ha
      have e : (if tr (y.drop (preD y)) = [] ∧ n = 0 then failN w a else if stOK (tr (y.drop (preD y))) = true then failN w a else failN w a) = failN w a := by
        split
        · rfl
        · split <;> rfl
      rw [e]
      refine ⟨_, _, _, _, _, rfl, fun h => by omega, ?_⟩
      split
      · omega
      · split
        · exact hlen _ _
        · omega
  | false =>
    simp only [cond_false, Bool.false_eq_true, if_false]
    rw [ends_eq o 0 a w y hyl ho, hyt, if_neg (fun h => hy h.1)]
    simp only [Option.bind_some, letk]
    cases hs : stOK y with
    | true =>
      simp only [if_true]
      rw [mw_zero]
      exact ⟨_, _, _, _, _, rfl, fun _ => rfl, hlen _ _⟩
    | false =>
      simp only [Bool.false_eq_true, if_false]
      rw [mw_pos ha]
      have := failN_pos h0 ha
      exact ⟨_, _, _, _, _, rfl, fun h => by omega, by omega⟩
/-- A piece of what was gathered, from a place that is not blank on. -/
theorem piece_j1 (G : List PL) (hG : good G) (hl : G.length < 2 ^ 40) (T17 : List Int) (a i : Nat) (hai : a ≤ i) (hi : i ≤ G.length) (hh : ∀ p r, (G.take i).drop a = p :: r → (p.1 == 32) = false) (o : List api.Line) (l : Int) (t : ByteArray) (at' w : Int) (b : Bool) (ho : o.length < 2 ^ 40) (h0 : 0 ≤ w) :
    ∃ o1 l1 t1 a1 b1, Ref3.written.statements.j1 (B (bys G)) (G.map (·.2)) T17 i o l t at' w b a = some (.inl (o1, l1, t1, a1, b1, mw w (pE ((G.take i).drop a)), ((i + 1 : Nat) : Int), ((i + 1 : Nat) : Int))) ∧ (mw w (pE ((G.take i).drop a)) = 0 → o1 = o ++ pL ((G.take i).drop a)) ∧ o1.length ≤ o.length + 1 := by
  have hsz : (B (bys G)).size = G.length := bys_len G
  have hx : (bys ((G.take i).drop a)).length = i - a := by rw [bys_len, List.length_drop, List.length_take]; omega
  have hbx : ((bys G).take i).drop a = bys ((G.take i).drop a) := by unfold bys; rw [List.map_drop, List.map_take]
  unfold Ref3.written.statements.j1
  simp only [letk]
  rw [w64n (by omega) (by omega), chk_pos (by omega), Int.toNat_natCast, Int.toNat_natCast, ext_AB, hbx, rright_eq _ (by omega), show ((i : Int) + 1) = ((i + 1 : Nat) : Int) by omega]
  simp only [Option.bind_some]
  rw [eqL, L_B, L_e0]
  have htr : Lib.trimRightB (bys ((G.take i).drop a)) 32 = tr (bys ((G.take i).drop a)) := by
    unfold tr
    cases hc : (G.take i).drop a with
    | nil => rfl
    | cons p r =>
      have := hh p r hc
      show Lib.trimRightB (p.1 :: bys r) 32 = Lib.trimRightB (List.dropWhile _ (p.1 :: bys r)) 32
      rw [List.dropWhile_cons, this]; rfl
  rw [htr]
  by_cases hy : tr (bys ((G.take i).drop a)) = []
  · have e1 : pE ((G.take i).drop a) = 0 := by unfold pE pieceE; rw [if_pos hy]
    have e2 : pL ((G.take i).drop a) = [] := by unfold pL pieceL; rw [if_pos hy]
    rw [hy, e1, e2, mw_zero]
    exact ⟨o, l, t, at', b, rfl, fun _ => by simp, by omega⟩
  · have hne : (tr (bys ((G.take i).drop a)) == []) = false := beq_eq_false_iff_ne.2 hy
    rw [hne, cond_false, chk_pos (by omega)]
    obtain ⟨p, r, hpr⟩ : ∃ p r, (G.take i).drop a = p :: r := by
      cases hc : (G.take i).drop a with
      | nil => rw [hc] at hy; exact absurd rfl hy
      | cons p r => exact ⟨p, r, rfl⟩
    have hlt : a < i := by
      have := congrArg List.length hpr
      rw [List.length_drop, List.length_take, List.length_cons] at this; omega
    have hGa : G[a]? = some p := by
      have := congrArg (·[0]?) hpr
      simp only [List.getElem?_drop, List.getElem?_cons_zero, Nat.add_zero] at this
      rwa [List.getElem?_take, if_pos hlt] at this
    have hat : atP ((G.take i).drop a) = p.2 := by unfold atP; rw [hpr, List.dropWhile_cons, hh p r hpr]; rfl
    have hp : 0 < p.2 := hG p (List.mem_of_getElem? hGa)
    rw [List.getElem?_map, hGa]
    simp only [Option.map_some, Option.bind_some]
    have hyl : (tr (bys ((G.take i).drop a))).length < 2 ^ 40 := by have := tr_len (bys ((G.take i).drop a)); omega
    have hys : (B (tr (bys ((G.take i).drop a)))).size = (tr (bys ((G.take i).drop a))).length := rfl
    rw [digits_eq _ (by omega)]
    simp only [Option.bind_some]
    obtain ⟨o1, l1, t1, a1, b1, k1, k2, k3⟩ := piece_j2 G T17 i ((i + 1 : Nat) : Int) (by omega) _ hy (tr_tr _) hyl o p.2 w ho hp h0
    have e1 : pE ((G.take i).drop a) = pieceE (tr (bys ((G.take i).drop a))) p.2 := by unfold pE; rw [hat]; unfold pieceE; rw [tr_tr]
    have e2 : pL ((G.take i).drop a) = pieceL (tr (bys ((G.take i).drop a))) p.2 := by unfold pL; rw [hat]; unfold pieceL; rw [tr_tr]
    rw [e1, e2]
    refine ⟨o1, l1, t1, a1, b1, ?_, k2, k3⟩
    rw [show ((i : Int) + 1) = ((i + 1 : Nat) : Int) by omega] at k1
    rw [← k1, show decide ((preD (tr (bys ((G.take i).drop a))) : Int) > 0) = decide (0 < preD (tr (bys ((G.take i).drop a)))) by rw [decide_eq_decide]; omega, show decide ((preD (tr (bys ((G.take i).drop a))) : Int) < ((B (tr (bys ((G.take i).drop a)))).size : Int)) = decide (preD (tr (bys ((G.take i).drop a))) < (tr (bys ((G.take i).drop a))).length) by rw [decide_eq_decide]; omega]
    unfold labelled
    generalize hz : tr (bys ((G.take i).drop a)) = z at *
    by_cases z1 : 0 < preD z
    · rw [decide_eq_true z1, cond_true]
      by_cases z2 : preD z < z.length
      · rw [decide_eq_true z2, cond_true, chk_pos (by omega), show bt (B z) (preD z : Int) = ((z.getD (preD z) 0).toNat : Int) from rfl, show ∀ x : UInt8, ((x.toNat : Int) == 32) = (x == 32) from fun x => beq_u8 x 32 (by omega)]
        rfl
      · rw [decide_eq_false z2]; rfl
    · rw [decide_eq_false z1]; rfl
theorem piece_l1 (G : List PL) (hG : good G) (hl : G.length < 2 ^ 40) (T17 : List Int) (i : Nat) (hi : i ≤ G.length) (o : List api.Line) (l : Int) (t : ByteArray) (at' w : Int) (ho : o.length < 2 ^ 40) (h0 : 0 ≤ w) : ∀ (k a : Nat) (b : Bool), a + k = i →
    ∃ o1 l1 t1 a1 b1, Ref3.written.statements.l1 (B (bys G)) (G.map (·.2)) T17 i o l t at' w b a = some (.inl (o1, l1, t1, a1, b1, mw w (pE ((G.take i).drop a)), ((i + 1 : Nat) : Int), ((i + 1 : Nat) : Int))) ∧ (mw w (pE ((G.take i).drop a)) = 0 → o1 = o ++ pL ((G.take i).drop a)) ∧ o1.length ≤ o.length + 1 := by
  have hsz : (B (bys G)).size = G.length := bys_len G
  have hm : ∀ (b : Bool) (a : Nat), ((Ref3.written.statements.j1 (B (bys G)) (G.map (·.2)) T17 i o l t at' w b a).map (Sum.inr (α := Bool × Int))).bind (Sum.elim (fun v => Ref3.written.statements.l1 (B (bys G)) (G.map (·.2)) T17 i o l t at' w v.1 v.2) some) = Ref3.written.statements.j1 (B (bys G)) (G.map (·.2)) T17 i o l t at' w b a := by
    intro b a
    cases Ref3.written.statements.j1 (B (bys G)) (G.map (·.2)) T17 i o l t at' w b a <;> rfl
  intro k
  induction k with
  | zero =>
    intro a b ha
    rw [Ref3.written.statements.l1_eq, Ref3.written.statements.s1]
    simp only [letk]
    rw [decide_eq_false (by omega : ¬ (a : Int) < (i : Int)), cond_false, hm]
    exact piece_j1 G hG hl T17 a i (by omega) hi (fun p r h => by
      have := congrArg List.length h
      rw [List.length_drop, List.length_take, List.length_cons] at this; omega) o l t at' w b ho h0
  | succ k ih =>
    intro a b ha
    have hlt : a < G.length := by omega
    have hbl : (bys G).length = G.length := bys_len G
    have hba : (bys G)[a]'(by omega) = G[a].1 := by unfold bys; rw [List.getElem_map]
    have hpr : (G.take i).drop a = G[a] :: (G.take i).drop (a + 1) := by
      rw [List.drop_eq_getElem_cons (by rw [List.length_take]; omega), List.getElem_take]
    rw [Ref3.written.statements.l1_eq, Ref3.written.statements.s1]
    simp only [letk]
    rw [decide_eq_true (by omega : (a : Int) < (i : Int)), cond_true, chk_pos (by omega), bt_at (by omega : a < (bys G).length), hba, show ((G[a].1.toNat : Int) == 32) = (G[a].1 == 32) from beq_u8 _ 32 (by omega), w64n (by omega) (by omega), show ((a : Int) + 1) = ((a + 1 : Nat) : Int) by omega]
    cases hc : (G[a].1 == 32) with
    | true =>
      simp only [cond_true, Option.bind_some, Sum.elim_inl]
      obtain ⟨e1, e2⟩ := pE_sp G[a] ((G.take i).drop (a + 1)) (beq_iff_eq.1 hc)
      rw [hpr, e1, e2]
      exact ih (a + 1) b (by omega)
    | false =>
      rw [cond_false, hm]
      exact piece_j1 G hG hl T17 a i (by omega) hi (fun p r h => by rw [hpr] at h; cases h; exact hc) o l t at' w b ho h0
end Go.Q
namespace Go.Q
open Go

theorem step_pre : ∀ (l : List PL) (f : List (List PL)) (c : List PL) (q : UInt8), l.foldl stepG (f, c, q) = (f ++ (l.foldl stepG ([], c, q)).1, (l.foldl stepG ([], c, q)).2)
  | [], f, c, q => by simp
  | p :: r, f, c, q => by
    rw [List.foldl_cons, List.foldl_cons]
    by_cases h : p.1 = 59 ∧ q = 0
    · have e1 : stepG (f, c, q) p = (f ++ [c], [], 0) := if_pos h
      have e2 : stepG ([], c, q) p = ([c], [], 0) := if_pos h
      rw [e1, e2, step_pre r (f ++ [c]), step_pre r [c]]
      simp
    · have e1 : stepG (f, c, q) p = (f, c ++ [p], nx q p.1) := if_neg h
      have e2 : stepG ([], c, q) p = ([], c ++ [p], nx q p.1) := if_neg h
      rw [e1, e2]
      exact step_pre r f _ _
def allG (s : List (List PL) × List PL × UInt8) : List (List PL) := s.1 ++ [s.2.1]
theorem statements_l0 (G : List PL) (hG : good G) (hl : G.length < 2 ^ 39) : ∀ (j i fr : Nat) (o : List api.Line) (l : Int) (t : ByteArray) (at' : Int) (b : Bool) (w : Int), i + j = G.length → fr ≤ i → o.length + j < 2 ^ 40 - 1 → 0 ≤ w →
    ∃ o1 l1 t1 a1 b1, Ref3.written.statements.l0 (B (bys G)) (G.map (·.2)) (nI (marksL (bys G) 0)) o l t at' b w fr i = some (o1, l1, t1, a1, b1, WF w (allG ((G.drop i).foldl stepG ([], (G.take i).drop fr, (bys (G.take i)).foldl nx 0)))) ∧
      (WF w (allG ((G.drop i).foldl stepG ([], (G.take i).drop fr, (bys (G.take i)).foldl nx 0))) = 0 → o1 = o ++ LF (allG ((G.drop i).foldl stepG ([], (G.take i).drop fr, (bys (G.take i)).foldl nx 0)))) ∧ o1.length ≤ o.length + j + 1 := by
  have hbl : (bys G).length = G.length := bys_len G
  have hsz : (B (bys G)).size = G.length := hbl
  intro j
  induction j with
  | zero =>
    intro i fr o l t at' b w hi hf ho h0
    rw [Ref3.written.statements.l0_eq, Ref3.written.statements.s0, Ref3.written.statements.j0]
    simp only [letk]
    rw [decide_eq_true (by omega : (i : Int) ≤ ((B (bys G)).size : Int)), cond_true, decide_eq_false (by omega : ¬ (i : Int) < ((B (bys G)).size : Int)), cond_false]
    obtain ⟨o1, l1, t1, a1, b1, k1, k2, k3⟩ := piece_l1 G hG (by omega) (nI (marksL (bys G) 0)) i (by omega) o l t at' w (by omega) h0 (i - fr) fr b (by omega)
    rw [k1, List.drop_of_length_le (by omega : G.length ≤ i)]
    simp only [Option.bind_some, Sum.elim_inl]
    refine ⟨o1, l1, t1, a1, b1, ?_, fun h => ?_, by omega⟩
    · rw [Ref3.written.statements.l0_eq, Ref3.written.statements.s0]
      simp only [letk]
      rw [decide_eq_false (by omega : ¬ ((i + 1 : Nat) : Int) ≤ ((B (bys G)).size : Int))]
      rfl
    · have : LF (allG (List.foldl stepG ([], (G.take i).drop fr, (bys (G.take i)).foldl nx 0) [])) = pL ((G.take i).drop fr) := by simp [allG, LF]
      rw [this]; exact k2 h
  | succ j ih =>
    intro i fr o l t at' b w hi hf ho h0
    have hlt : i < G.length := by omega
    have hd : G.drop i = G[i] :: G.drop (i + 1) := List.drop_eq_getElem_cons hlt
    have ht : G.take (i + 1) = G.take i ++ [G[i]] := List.take_succ_eq_append_getElem hlt
    have hq : (bys (G.take (i + 1))).foldl nx 0 = nx ((bys (G.take i)).foldl nx 0) G[i].1 := by
      rw [ht]; unfold bys; rw [List.map_append, List.foldl_append]; rfl
    have hcur : (G.take (i + 1)).drop fr = (G.take i).drop fr ++ [G[i]] := by
      rw [ht, List.drop_append_of_le_length (by rw [List.length_take]; omega)]
    have hnil : (G.take (i + 1)).drop (i + 1) = [] := List.drop_of_length_le (by rw [List.length_take]; omega)
    have hba : (bys G)[i]'(by omega) = G[i].1 := by unfold bys; rw [List.getElem_map]
    have hmk : (nI (marksL (bys G) 0))[i]? = some ((((bys (G.take i)).foldl nx 0).toNat : Nat) : Int) := by
      unfold nI
      rw [List.getElem?_map, marksL_at (bys G) 0 i (by omega)]
      unfold bys
      rw [List.map_take]; rfl
    rw [Ref3.written.statements.l0_eq, Ref3.written.statements.s0]
    simp only [letk]
    rw [decide_eq_true (by omega : (i : Int) ≤ ((B (bys G)).size : Int)), cond_true, decide_eq_true (by omega : (i : Int) < ((B (bys G)).size : Int)), cond_true, chk_pos (by omega), bt_at (by omega : i < (bys G).length), hba, show ((G[i].1.toNat : Int) == 59) = (G[i].1 == 59) from beq_u8 _ 59 (by omega), chk_pos (by omega), Int.toNat_natCast, hmk]
    simp only [Option.bind_some]
    rw [show ∀ x : UInt8, ((x.toNat : Int) == 0) = (x == 0) from fun x => beq_u8 x 0 (by omega), w64n (by omega) (by omega), show ((i : Int) + 1) = ((i + 1 : Nat) : Int) by omega, hd, List.foldl_cons]
    have stay : ¬ (G[i].1 = 59 ∧ (bys (G.take i)).foldl nx 0 = 0) → ∃ o1 l1 t1 a1 b1, Ref3.written.statements.l0 (B (bys G)) (G.map (·.2)) (nI (marksL (bys G) 0)) o l t at' b w fr ((i + 1 : Nat) : Int) = some (o1, l1, t1, a1, b1, WF w (allG ((G.drop (i + 1)).foldl stepG (stepG ([], (G.take i).drop fr, (bys (G.take i)).foldl nx 0) G[i])))) ∧
      (WF w (allG ((G.drop (i + 1)).foldl stepG (stepG ([], (G.take i).drop fr, (bys (G.take i)).foldl nx 0) G[i]))) = 0 → o1 = o ++ LF (allG ((G.drop (i + 1)).foldl stepG (stepG ([], (G.take i).drop fr, (bys (G.take i)).foldl nx 0) G[i])))) ∧ o1.length ≤ o.length + (j + 1) + 1 := by
      intro h
      have e : stepG ([], (G.take i).drop fr, (bys (G.take i)).foldl nx 0) G[i] = ([], (G.take i).drop fr ++ [G[i]], nx ((bys (G.take i)).foldl nx 0) G[i].1) := if_neg h
      obtain ⟨o1, l1, t1, a1, b1, k1, k2, k3⟩ := ih (i + 1) fr o l t at' b w (by omega) (by omega) (by omega) h0
      rw [hcur, hq] at k1 k2
      rw [e]
      exact ⟨o1, l1, t1, a1, b1, k1, k2, by omega⟩
    cases hc : (G[i].1 == 59) with
    | false => exact stay (fun h => by rw [h.1] at hc; cases hc)
    | true =>
      cases hz : ((bys (G.take i)).foldl nx 0 == 0) with
      | false =>
        simp only [cond_true, Bool.not_false, Option.bind_some, Sum.elim_inl]
        exact stay (fun h => by rw [h.2] at hz; cases hz)
      | true =>
        have h59 := beq_iff_eq.1 hc
        have hq0 := beq_iff_eq.1 hz
        simp only [cond_true, Bool.not_true, cond_false]
        unfold Ref3.written.statements.j0
        obtain ⟨o1, l1, t1, a1, b1, k1, k2, k3⟩ := piece_l1 G hG (by omega) (nI (marksL (bys G) 0)) i (by omega) o l t at' w (by omega) h0 (i - fr) fr b (by omega)
        rw [k1]
        simp only [Option.bind_some, Sum.elim_inl]
        have hgc : good ((G.take i).drop fr) := fun p hp => hG p (List.mem_of_mem_take (List.mem_of_mem_drop hp))
        obtain ⟨o2, l2, t2, a2, b2, m1, m2, m3⟩ := ih (i + 1) (i + 1) o1 l1 t1 a1 b1 (mw w (pE ((G.take i).drop fr))) (by omega) (Nat.le_refl _) (by omega) (mw_ge h0 (pE_ge hgc))
        have e : stepG ([], (G.take i).drop fr, (bys (G.take i)).foldl nx 0) G[i] = ([(G.take i).drop fr], [], 0) := if_pos ⟨h59, hq0⟩
        rw [hnil, hq, hq0, h59, show nx 0 59 = 0 from rfl] at m1 m2
        rw [e, step_pre]
        have hall : allG ([(G.take i).drop fr] ++ ((G.drop (i + 1)).foldl stepG ([], [], 0)).1, ((G.drop (i + 1)).foldl stepG ([], [], 0)).2) = [(G.take i).drop fr] ++ allG ((G.drop (i + 1)).foldl stepG ([], [], 0)) := by simp [allG]
        rw [hall, WF_app]
        refine ⟨o2, l2, t2, a2, b2, m1, fun h => ?_, by omega⟩
        have hg2 : ∀ c ∈ allG ((G.drop (i + 1)).foldl stepG ([], [], 0)), good c := by
          have key : ∀ (l : List PL) (s : List (List PL) × List PL × UInt8), good l → (∀ c ∈ allG s, good c) → ∀ c ∈ allG (l.foldl stepG s), good c := by
            intro l
            induction l with
            | nil => intro s _ h; exact h
            | cons p r ih =>
              intro s hp h
              rw [List.foldl_cons]
              refine ih _ (fun x hx => hp x (List.mem_cons_of_mem _ hx)) (fun c hcm => ?_)
              have hpp := hp p List.mem_cons_self
              unfold stepG at hcm
              split at hcm
              · simp only [allG, List.mem_append, List.mem_singleton] at hcm
                rcases hcm with (hcm | hcm) | hcm
                · exact h c (by simp [allG, hcm])
                · exact h c (by simp [allG, hcm])
                · subst hcm; intro x hx; cases hx
              · simp only [allG, List.mem_append, List.mem_singleton] at hcm
                rcases hcm with hcm | hcm
                · exact h c (by simp [allG, hcm])
                · subst hcm
                  intro x hx
                  rcases List.mem_append.1 hx with hx | hx
                  · exact h s.2.1 (by simp [allG]) x hx
                  · rw [List.mem_singleton] at hx; subst hx; exact hpp
          exact key _ _ (fun x hx => hG x (List.mem_of_mem_drop hx)) (fun c hcm => by simp [allG] at hcm; subst hcm; intro x hx; cases hx)
        have hw1 : mw w (pE ((G.take i).drop fr)) = 0 := WF_zero (mw_ge h0 (pE_ge hgc)) hg2 h
        rw [LF_app, LF_one, m2 h, k2 hw1, List.append_assoc]
theorem good_fold : ∀ (l : List PL) (s : List (List PL) × List PL × UInt8), good l → (∀ c ∈ allG s, good c) → ∀ c ∈ allG (l.foldl stepG s), good c := by
  intro l
  induction l with
  | nil => intro s _ h; exact h
  | cons p r ih =>
    intro s hp h
    rw [List.foldl_cons]
    refine ih _ (fun x hx => hp x (List.mem_cons_of_mem _ hx)) (fun c hcm => ?_)
    have hpp := hp p List.mem_cons_self
    unfold stepG at hcm
    split at hcm
    · simp only [allG, List.mem_append, List.mem_singleton] at hcm
      rcases hcm with (hcm | hcm) | hcm
      · exact h c (by simp [allG, hcm])
      · exact h c (by simp [allG, hcm])
      · subst hcm; intro x hx; cases hx
    · simp only [allG, List.mem_append, List.mem_singleton] at hcm
      rcases hcm with hcm | hcm
      · exact h c (by simp [allG, hcm])
      · subst hcm
        intro x hx
        rcases List.mem_append.1 hx with hx | hx
        · exact h s.2.1 (by simp [allG]) x hx
        · rw [List.mem_singleton] at hx; subst hx; exact hpp
theorem statements_eq (G : List PL) (hG : good G) (hl : G.length < 2 ^ 39) (o : List api.Line) (l : Int) (t : ByteArray) (at' : Int) (b : Bool) (w : Int) (ho : o.length < 2 ^ 39) (h0 : 0 ≤ w) :
    ∃ o1 l1 t1 a1 b1, Ref3.written.statements (B (bys G)) (G.map (·.2)) o l t at' b w = some (o1, l1, t1, a1, b1, WF w (allG (G.foldl stepG ([], [], 0)))) ∧ (WF w (allG (G.foldl stepG ([], [], 0))) = 0 → o1 = o ++ LF (allG (G.foldl stepG ([], [], 0)))) ∧ o1.length ≤ o.length + G.length + 1 := by
  unfold Ref3.written.statements
  rw [show Ref3.marks (B (bys G)) 0 = _ from marks_eq (bys G) 0 (by rw [bys_len]; omega)]
  simp only [Option.bind_some]
  exact statements_l0 G hG hl G.length 0 0 o l t at' b w (by omega) (Nat.le_refl _) (by omega) h0
theorem tag_fst (line : Int) : ∀ s : BS, (s.map fun c => ((c, line) : PL)).map (·.1) = s
  | [] => rfl
  | c :: r => by show c :: _ = _; rw [tag_fst line r]
theorem tag_snd (line : Int) : ∀ s : BS, (s.map fun c => ((c, line) : PL)).map (·.2) = List.replicate s.length line
  | [] => rfl
  | c :: r => by show line :: _ = _; rw [tag_snd line r]; rfl
theorem add_eq (G : List PL) (s : BS) (line : Int) (hs : s.length < 2 ^ 39) (hl : G.length < 2 ^ 39) : Ref3.written.add (B (bys G)) (G.map (·.2)) (B s) line = some (B (bys (G ++ s.map (fun c => (c, line)))), (G ++ s.map (fun c => (c, line))).map (·.2)) := by
  have hsz : (B s).size = s.length := rfl
  have hsg : (B (bys G)).size = G.length := bys_len G
  have loop : ∀ j n : Nat, n + j = s.length → Ref3.written.add.l0 (B s) line (B (bys G)) (G.map (·.2) ++ List.replicate n line) n = some (B (bys G ++ s), G.map (·.2) ++ List.replicate s.length line) := by
    intro j
    induction j with
    | zero =>
      intro n hn
      rw [Ref3.written.add.l0_eq, Ref3.written.add.s0]
      simp only [letk]
      rw [decide_eq_false (by omega : ¬ (n : Int) < ((B s).size : Int)), cond_false, chk_pos (by omega), B_appR, show n = s.length by omega]
      rfl
    | succ j ih =>
      intro n hn
      rw [Ref3.written.add.l0_eq, Ref3.written.add.s0]
      simp only [letk]
      rw [decide_eq_true (by omega : (n : Int) < ((B s).size : Int)), cond_true, chk_pos (by simp only [List.length_append, List.length_map, List.length_replicate, List.length_singleton]; omega), w64n (by omega) (by omega), show ((n : Int) + 1) = ((n + 1 : Nat) : Int) by omega]
      simp only [Option.bind_some, Sum.elim_inl]
      rw [List.append_assoc, ← List.replicate_succ']
      exact ih (n + 1) (by omega)
  unfold Ref3.written.add
  have := loop s.length 0 (by omega)
  rw [List.replicate_zero, List.append_nil] at this
  rw [show ((0 : Int)) = ((0 : Nat) : Int) from rfl, this]
  rw [List.map_append, tag_snd]
  unfold bys
  rw [List.map_append, tag_fst]
theorem open_eq (G : List PL) (hl : G.length < 2 ^ 39) : Ref3.written.open_ (B (bys G)) (G.map (·.2)) = some (B (bys G), G.map (·.2), (((bys G).foldl nx 0).toNat : Int)) := by
  have hbl : (bys G).length = G.length := bys_len G
  have hm : (nI (marksL (bys G) 0)).length = (bys G).length + 1 := by
    unfold nI
    rw [List.length_map]
    have : ∀ (l : BS) (q : UInt8), (marksL l q).length = l.length + 1 := by
      intro l
      induction l with
      | nil => intro q; rfl
      | cons c r ih => intro q; show (marksL r (nx q c)).length + 1 = _; rw [ih]; rfl
    exact this _ 0
  unfold Ref3.written.open_
  rw [show Ref3.marks (B (bys G)) 0 = _ from marks_eq (bys G) 0 (by omega)]
  simp only [Option.bind_some, letk]
  rw [hm, show ((((bys G).length + 1 : Nat) : Int) - 1) = (((bys G).length : Nat) : Int) by omega, w64n (by omega) (by omega), chk_pos (by omega), Int.toNat_natCast]
  rw [show (nI (marksL (bys G) 0))[(bys G).length]? = some ((((bys G).foldl nx 0).toNat : Nat) : Int) by unfold nI; rw [List.getElem?_map, marksL_at (bys G) 0 _ (Nat.le_refl _), List.take_length]; rfl]
  rfl
end Go.Q
