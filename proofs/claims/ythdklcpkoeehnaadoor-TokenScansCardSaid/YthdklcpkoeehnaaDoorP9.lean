import Derived.Test.YthdklcpkoeehnaaDoorP8
namespace Go.Q
open Go Go.Proofs
set_option maxRecDepth 10000

theorem scanG_len : ∀ (f : Nat) (r : BS) (i : Nat) ts, scanG f r i = .ok ts → ts.length ≤ r.length
  | 0, r, i, ts, h => by cases h; exact Nat.zero_le _
  | f + 1, r, i, ts, h => by
    unfold scanG at h
    split at h
    · cases h; exact Nat.zero_le _
    · rename_i h0
      have hpos := List.length_pos_iff.2 h0
      split at h
      · have := scanG_len f _ _ ts h
        rw [List.length_drop] at this; omega
      · split at h
        · cases h
        · rename_i hc
          have hn : (firstSpec r).2 ≠ 0 := fun e => hc (.inl e)
          cases hg : scanG f (r.drop (firstSpec r).2) (i + (firstSpec r).2) with
          | error e' => rw [hg] at h; cases h
          | ok ts' =>
            rw [hg] at h
            have := scanG_len f _ _ ts' hg
            rw [List.length_drop] at this
            simp only [Except.map] at h
            cases h
            simp only [List.length_cons]; omega
theorem scan_len (l : BS) : (scanSpec l).1.length ≤ l.length := by
  unfold scanSpec
  split
  · exact Nat.zero_le _
  · cases hg : scanG (l.length + 1) l 0 with
    | ok ts => exact scanG_len _ _ _ _ hg
    | error i => exact Nat.zero_le _

theorem int_beq {a b : Int} (h : a = b) : (a == b) = true := beq_iff_eq.2 h
theorem int_bne {a b : Int} (h : ¬ a = b) : (a == b) = false := beq_eq_false_iff_ne.2 h

theorem TokenJoins_eq (a b : ByteArray) : Law4.TokenJoins a b = some true := by
  unfold Law4.TokenJoins
  simp only [letk, Law4.Awake_eq, Option.bind_some]
  by_cases ha : (a.size : Int) > 200
  · rw [decide_eq_true ha]; rfl
  by_cases hb : (b.size : Int) > 200
  · rw [decide_eq_false ha, decide_eq_true hb]; rfl
  rw [decide_eq_false ha, decide_eq_false hb]
  simp only [cond]
  have h1 : (⟨#[32]⟩ : ByteArray).size = 1 := rfl
  have s1 : (a ++ (⟨#[32]⟩ : ByteArray)).size = a.size + 1 := by rw [ByteArray.size_append, h1]
  have s2 : (a ++ (⟨#[32]⟩ : ByteArray) ++ b).size = a.size + 1 + b.size := by rw [ByteArray.size_append, s1]
  unfold Law4.TokenJoins.j0
  rw [Tok.Scan_eq a (by omega), Option.bind_some]
  dsimp only
  rw [Tok.Scan_eq b (by omega), Option.bind_some]
  dsimp only
  rw [chk_pos (by rw [h1]; omega)]
  dsimp only [letk]
  rw [chk_pos (by rw [s1]; omega), Tok.Scan_eq _ (by rw [s2]; omega), Option.bind_some]
  dsimp only
  have eL : L (a ++ (⟨#[32]⟩ : ByteArray) ++ b) = L a ++ 32 :: L b := by
    rw [L_app, L_app, List.append_assoc]; rfl
  rw [eL]
  have la := scan_len (L a)
  have lb := scan_len (L b)
  rw [L_len] at la lb
  rcases scan_code (L a) with ca | ⟨ca, ca1, ca2⟩
  · rw [scan_join _ _ ca, int_beq (by omega : (((scanSpec (L a)).2.2 : Nat) : Int) = 0)]
    try simp only []
    rcases scan_code (L b) with cb | ⟨cb, cb1, cb2⟩
    · rw [if_pos cb, int_beq (by omega : (((scanSpec (L b)).2.2 : Nat) : Int) = 0)]
      unfold Law4.TokenJoins.j2
      dsimp only [cond, letk]
      rw [int_beq (by omega : ((0 : Nat) : Int) = 0)]
      try simp only []
      rw [chk_pos (by rw [List.length_map, List.length_nil]; omega), List.nil_append, chk_pos (by rw [List.length_map, List.length_map]; omega), ← List.map_append, Tok.Same_eq _ _ (by simp only [List.length_append]; omega)]
      simp only [Option.bind_some, decide_true, Law4.Awake_eq]
    · rw [if_neg (by omega), int_bne (by omega : ¬ (((scanSpec (L b)).2.2 : Nat) : Int) = 0)]
      unfold Law4.TokenJoins.j2
      dsimp only [cond, letk]
      rw [int_beq (by omega : (((scanSpec (L a)).2.2 : Nat) : Int) = 0), int_beq rfl]
      rw [L_len] at cb2
      rw [w64n (x := (a.size : Int) + 1) (by omega) (by omega), w64n (by omega) (by omega), int_beq (by rw [L_len]; omega)]
      simp only [Law4.Awake_eq, Option.bind_some]
  · rw [int_bne (by omega : ¬ (((scanSpec (L a)).2.2 : Nat) : Int) = 0)]
    unfold Law4.TokenJoins.j2 Law4.TokenJoins.j1
    dsimp only [cond, letk]
    rw [L_len] at ca2
    rw [int_bne (by omega : ¬ (((scanSpec (L a)).2.2 : Nat) : Int) = 0), decide_eq_true (by omega), decide_eq_true (by omega)]
    simp only [Law4.Awake_eq, Option.bind_some]

theorem B_appR (x y : BS) : B x ++ B y = B (x ++ y) := by
  have h := L_app (B x) (B y)
  rw [L_B, L_B] at h
  rw [← h, B_L]

/-! letters of the other case, blanks in plenty -/

def swB (c : UInt8) : UInt8 := if 97 ≤ c.toNat ∧ c.toNat ≤ 122 then c - 32 else if 65 ≤ c.toNat ∧ c.toNat ≤ 90 then c + 32 else c
def ex1 (c : UInt8) : BS := if c = 32 then [32, 32, 32] else [swB c]
def exL (r : BS) : BS := r.flatMap ex1
theorem sw_all (c : UInt8) : low (swB c) = low c ∧ (swB c = 32 ↔ c = 32) ∧ ((swB c = 39 ∨ swB c = 34) ↔ (c = 39 ∨ c = 34)) ∧ pText ((swB c).toNat : Int) = pText (c.toNat : Int) := by
  have h1 := bytes_all (fun c => low (swB c) == low c) (by decide +kernel) c
  have h2 := bytes_all (fun c => (swB c == 32) == (c == 32)) (by decide +kernel) c
  have h3 := bytes_all (fun c => (swB c == 39 || swB c == 34) == (c == 39 || c == 34)) (by decide +kernel) c
  have h4 := bytes_all (fun c => pText ((swB c).toNat : Int) == pText (c.toNat : Int)) (by decide +kernel) c
  simp only [beq_iff_eq] at h1 h2 h3 h4
  refine ⟨h1, ?_, ?_, h4⟩
  · rw [← beq_iff_eq, h2, beq_iff_eq]
  · have : (swB c == 39 || swB c == 34) = true ↔ (c == 39 || c == 34) = true := by rw [h3]
    simpa using this
theorem exL_cons (c : UInt8) (r : BS) : exL (c :: r) = ex1 c ++ exL r := by simp [exL]
theorem exL_nil : exL [] = [] := rfl
theorem exL_sp (r : BS) : exL (32 :: r) = 32 :: 32 :: 32 :: exL r := by rw [exL_cons]; rfl
theorem exL_ns {c : UInt8} (h : c ≠ 32) (r : BS) : exL (c :: r) = swB c :: exL r := by rw [exL_cons, ex1, if_neg h]; rfl
theorem norm_ex : ∀ r : BS, norm (exL r) = norm r
  | [] => rfl
  | c :: r => by
    by_cases h : c = 32
    · subst h; rw [exL_sp]; rfl
    · have ih := norm_ex r
      unfold norm at ih ⊢
      rw [exL_ns h, nb_cons, nb_cons, if_neg h, if_neg (fun e => h ((sw_all c).2.1.1 e))]
      simp only [small, List.map_cons] at ih ⊢
      rw [ih, (sw_all c).1]
theorem drop_ex : ∀ (r : BS) (n : Nat), n ≤ (nb r).length → (exL r).drop n = exL (r.drop n)
  | r, 0, _ => rfl
  | [], n + 1, h => by cases h
  | c :: r, n + 1, h => by
    rw [nb_cons] at h
    by_cases hc : c = 32
    · rw [if_pos hc] at h; cases h
    · rw [if_neg hc] at h
      rw [exL_ns hc, List.drop_succ_cons, List.drop_succ_cons]
      exact drop_ex r n (by simpa using h)
theorem exL_le : ∀ r : BS, r.length ≤ (exL r).length ∧ (exL r).length ≤ 3 * r.length
  | [] => by simp [exL_nil]
  | c :: r => by
    have ih := exL_le r
    by_cases hc : c = 32
    · subst hc; rw [exL_sp]; simp only [List.length_cons]; omega
    · rw [exL_ns hc]; simp only [List.length_cons]; omega
theorem preL_allB {p : Int → Bool} : ∀ l : BS, preL p l < l.length ↔ l.all (fun c => p (c.toNat : Int)) = false
  | [] => by simp
  | c :: l => by
    have ih := preL_allB (p := p) l
    simp only [preL, List.takeWhile_cons, List.all_cons] at ih ⊢
    cases h : p (c.toNat : Int) with
    | true => simp only [if_true, List.length_cons, Bool.true_and, ← ih]; omega
    | false => simp
theorem all_ex : ∀ r : BS, (exL r).all (fun c => pText (c.toNat : Int)) = r.all (fun c => pText (c.toNat : Int))
  | [] => rfl
  | c :: r => by
    by_cases hc : c = 32
    · subst hc
      rw [exL_sp, List.all_cons, List.all_cons, List.all_cons, List.all_cons, all_ex r]
      rfl
    · rw [exL_ns hc, List.all_cons, List.all_cons, (sw_all c).2.2.2, all_ex r]
def okE {α : Type} : Except Nat α → Option α | .ok a => some a | .error _ => none
theorem okE_map {α β : Type} (f : α → β) (e : Except Nat α) : okE (e.map f) = (okE e).map f := by cases e <;> rfl
theorem scanG_sp (f : Nat) (r : BS) (j : Nat) : scanG (f + 1) (32 :: r) j = scanG f r (j + 1) := by
  rw [scanG, if_neg (by simp), if_pos (show (32 :: r).getD 0 0 = 32 from rfl)]; rfl
theorem okE_at (f g : Nat) (r : BS) (i j : Nat) (hf : r.length < f) (hg : r.length < g) : okE (scanG f r i) = okE (scanG g r j) := by
  rw [scanG_fuel f r i hf g hg]
  have h1 := scanG_shift g r 0 i
  have h2 := scanG_shift g r 0 j
  rw [Nat.zero_add] at h1 h2
  rw [h1, h2]
  cases scanG g r 0 <;> rfl
theorem scanG_ex : ∀ (f : Nat) (r : BS), r.length < f → (∀ c ∈ r, ¬ (c = 39 ∨ c = 34)) → ∀ i j g, (exL r).length < g → okE (scanG g (exL r) j) = okE (scanG f r i)
  | 0, r, h, _, _, _, _, _ => by omega
  | f + 1, [], h, hq, i, j, g, hg => by
    rw [exL_nil] at *
    cases g with
    | zero => rfl
    | succ g => rfl
  | f + 1, c :: r, h, hq, i, j, g, hg => by
    have hlen := exL_le r
    by_cases hc : c = 32
    · subst hc
      rw [exL_sp] at hg ⊢
      simp only [List.length_cons] at hg h
      obtain ⟨g, rfl⟩ : ∃ g', g = g' + 3 := ⟨g - 3, by omega⟩
      rw [scanG_sp, scanG_sp, scanG_sp, scanG_sp]
      exact scanG_ex f r (by omega) (fun c hc => hq c (List.mem_cons_of_mem _ hc)) _ _ g (by omega)
    · have hc' : swB c ≠ 32 := fun e => hc ((sw_all c).2.1.1 e)
      have hqc := hq c (List.mem_cons_self ..)
      have hqc' : ¬ (swB c = 39 ∨ swB c = 34) := fun e => hqc ((sw_all c).2.2.1.1 e)
      have e1 : firstSpec (exL (c :: r)) = firstSpec (c :: r) := by
        rw [← first_norm (exL (c :: r)) (by rw [exL_ns hc]; simp) (by rw [exL_ns hc]; exact hc') (by rw [exL_ns hc]; exact hqc'), norm_ex, first_norm (c :: r) (by simp) hc hqc]
      have hn : (firstSpec (c :: r)).2 ≤ (nb (c :: r)).length := by
        rw [← first_norm (c :: r) (by simp) hc hqc, ← norm_len]
        exact first_le _ (norm_ne (by simp) hc)
      cases g with
      | zero => omega
      | succ g =>
        have e2 : (exL (c :: r)).getD 0 0 ≠ 32 := by rw [exL_ns hc]; exact hc'
        rw [scanG, scanG, if_neg (show ¬ exL (c :: r) = [] by rw [exL_ns hc]; simp), if_neg (show ¬ (c :: r) = [] by simp), if_neg e2, if_neg (show ¬ (c :: r).getD 0 0 = 32 from hc), e1]
        split
        · rfl
        · rename_i h3
          have h4 : (firstSpec (c :: r)).2 ≠ 0 := fun e => h3 (.inl e)
          rw [okE_map, okE_map, drop_ex _ _ hn]
          have h5 := exL_le ((c :: r).drop (firstSpec (c :: r)).2)
          have h6 : (exL ((c :: r).drop (firstSpec (c :: r)).2)).length = (exL (c :: r)).length - (firstSpec (c :: r)).2 := by
            rw [← drop_ex _ _ hn, List.length_drop]
          have h7 : 0 < (exL (c :: r)).length := by rw [exL_ns hc]; simp
          rw [scanG_ex f ((c :: r).drop (firstSpec (c :: r)).2) (by rw [List.length_drop]; simp only [List.length_cons] at h ⊢; omega) (fun c hc => hq c (List.mem_of_mem_drop hc)) (i + (firstSpec (c :: r)).2) (j + (firstSpec (c :: r)).2) g (by omega)]

theorem scan_okE (l : BS) : ((scanSpec l).1, (scanSpec l).2.2) = if l.all (fun c => pText (c.toNat : Int)) = false then ([], 3) else match okE (scanG (l.length + 1) l 0) with | some ts => (ts, 0) | none => ([], 3) := by
  unfold scanSpec
  by_cases h : preL pText l < l.length
  · rw [if_pos h, if_pos ((preL_allB l).1 h)]
  · rw [if_neg h, if_neg (fun e => h ((preL_allB l).2 e))]
    cases scanG (l.length + 1) l 0 <;> rfl
theorem scan_ex (l : BS) (hq : ∀ c ∈ l, ¬ (c = 39 ∨ c = 34)) : ((scanSpec (32 :: exL l)).1, (scanSpec (32 :: exL l)).2.2) = ((scanSpec l).1, (scanSpec l).2.2) := by
  rw [scan_okE, scan_okE]
  have e1 : (32 :: exL l).all (fun c => pText (c.toNat : Int)) = l.all (fun c => pText (c.toNat : Int)) := by
    rw [List.all_cons, all_ex]; rfl
  have e2 : okE (scanG ((32 :: exL l).length + 1) (32 :: exL l) 0) = okE (scanG (l.length + 1) l 0) := by
    rw [scanG_sp]
    exact scanG_ex _ l (by omega) hq 0 1 _ (by simp)
  rw [e1, e2]

theorem u8w (x : Int) (h0 : 0 ≤ x) (h1 : x < 256) : IntKind.u8.wrap x = x := by
  have h : ∀ n : Fin 256, IntKind.u8.wrap ((n : Nat) : Int) = ((n : Nat) : Int) := by decide +kernel
  have := h ⟨x.toNat, by omega⟩
  simpa [Int.toNat_of_nonneg h0] using this

theorem letk_r {α ρ : Type} (x : α) (f : α → Option ρ) : letk x f = f x := rfl

theorem case_j1 (l ac : BS) (n : Nat) (c : UInt8) (hn : n < 2 ^ 31) (hac : ac.length < 2 ^ 42) : Law4.TokenCase.j1 (B l) n (B ac) (c.toNat : Int) = some (.inl (B (ac ++ [c]), ((n + 1 : Nat) : Int))) := by
    have e1 := ofInts_nat [c]
    rw [List.map_cons, List.map_nil] at e1
    have e2 : (((B ac).size + (ofInts [(c.toNat : Int)]).size : Nat) : Int) ≤ 9223372036854775807 := by
      rw [e1, size_B, size_B, List.length_cons, List.length_nil]; omega
    unfold Law4.TokenCase.j1
    rw [letk_r]
    rw [chk_pos e2, letk_r, letk_r, e1, w64n (by omega) (by omega), B_appR, show ((n : Int) + 1) = ((n + 1 : Nat) : Int) by omega]
theorem case_j3 (l acc : BS) (n : Nat) (c : UInt8) (_hn : n < 2 ^ 31) (ha : acc.length < 2 ^ 41) (h1 : ¬ (97 ≤ c.toNat ∧ c.toNat ≤ 122)) (h2 : ¬ (65 ≤ c.toNat ∧ c.toNat ≤ 90)) (j1 : ∀ (ac : BS) (c : UInt8), ac.length < 2 ^ 42 → Law4.TokenCase.j1 (B l) n (B ac) (c.toNat : Int) = some (.inl (B (ac ++ [c]), ((n + 1 : Nat) : Int))))  :
   Law4.TokenCase.j3 (B l) (B acc) n (c.toNat : Int) false = some (.inl (B (acc ++ ex1 c), ((n + 1 : Nat) : Int))) := by
          have hsa : (B acc).size = acc.length := rfl
          unfold Law4.TokenCase.j3
          rw [cond_false, letk_r, (u8n c).2.2.2.1]
          by_cases h3 : c = 32
          · subst h3
            rw [show ((32 : UInt8) == 32) = true from rfl, show ex1 32 = [32, 32, 32] from rfl, cond_true]
            rw [chk_pos (by rw [hsa, show (⟨#[32, 32]⟩ : ByteArray).size = 2 from rfl]; omega), letk_r, show (⟨#[32, 32]⟩ : ByteArray) = B [32, 32] from rfl, B_appR]
            have := j1 (acc ++ [32, 32]) 32 (by simp only [List.length_append, List.length_cons, List.length_nil]; omega)
            rw [this]
            simp
          · rw [beq_eq_false_iff_ne.2 h3, cond_false]
            simp only [ex1, if_neg h3, swB, if_neg h1, if_neg h2]
            exact j1 acc c (by omega)

theorem case_j2 (l acc : BS) (n : Nat) (c : UInt8) (hn : n < 2 ^ 31) (ha : acc.length < 2 ^ 40) (h1 : ¬ (97 ≤ c.toNat ∧ c.toNat ≤ 122)) :
    Law4.TokenCase.j2 (B l) (B acc) n (c.toNat : Int) false = some (.inl (B (acc ++ ex1 c), ((n + 1 : Nat) : Int))) := by
  have hc := c.toNat_lt
  unfold Law4.TokenCase.j2
  rw [cond_false, letk_r]
  by_cases h2 : 65 ≤ c.toNat ∧ c.toNat ≤ 90
  · have hne : c ≠ 32 := fun e => by rw [e] at h2; exact absurd h2 (by decide)
    have dn : (c + 32).toNat = c.toNat + 32 := by
      rw [UInt8.toNat_add, show (32 : UInt8).toNat = 32 from rfl]; omega
    rw [decide_eq_true (by omega), cond_true, letk_r, decide_eq_true (by omega)]
    simp only [ex1, if_neg hne, swB, if_neg h1, if_pos h2]
    unfold Law4.TokenCase.j3
    rw [cond_true, letk_r, u8w _ (by omega) (by omega), show (c.toNat : Int) + 32 = ((c + 32).toNat : Int) by rw [dn]; omega]
    exact case_j1 l acc n _ hn (by omega)
  · have j3 := case_j3 l acc n c hn (by omega) h1 h2 (fun ac c h => case_j1 l ac n c hn h)
    by_cases h4 : 65 ≤ c.toNat
    · rw [decide_eq_true (by omega : (c.toNat : Int) ≥ 65), cond_true, letk_r, decide_eq_false (by omega)]
      exact j3
    · rw [decide_eq_false (by omega : ¬ (c.toNat : Int) ≥ 65), cond_false]
      exact j3

theorem case_s0 (l acc : BS) (n : Nat) (hn : n < l.length) (hl : l.length < 2 ^ 31) (ha : acc.length < 2 ^ 40) : Law4.TokenCase.s0 (B l) (B acc) n = some (.inl (B (acc ++ ex1 (l.getD n 0)), ((n + 1 : Nat) : Int))) := by
  have hsz : (B l).size = l.length := rfl
  unfold Law4.TokenCase.s0
  rw [letk_r, letk_r, decide_eq_true (by omega : (n : Int) < ((B l).size : Int)), cond_true, chk_pos (by omega), letk_r, letk_r, show bt (B l) n = ((l.getD n 0).toNat : Int) from rfl]
  generalize l.getD n 0 = c
  have hc := c.toNat_lt
  by_cases h1 : 97 ≤ c.toNat ∧ c.toNat ≤ 122
  · have hne : c ≠ 32 := fun e => by rw [e] at h1; exact absurd h1 (by decide)
    have up : (c - 32).toNat = c.toNat - 32 := UInt8.toNat_sub_of_le c 32 (by show (32 : UInt8).toNat ≤ c.toNat; rw [show (32 : UInt8).toNat = 32 from rfl]; omega)
    rw [decide_eq_true (by omega), cond_true, letk_r, decide_eq_true (by omega)]
    simp only [ex1, if_neg hne, swB, if_pos h1]
    unfold Law4.TokenCase.j2
    rw [cond_true, letk_r, u8w _ (by omega) (by omega), show (c.toNat : Int) - 32 = ((c - 32).toNat : Int) by rw [up]; omega]
    exact case_j1 l acc n _ (by omega) (by omega)
  · have j2 := case_j2 l acc n c (by omega) ha h1
    by_cases h4 : 97 ≤ c.toNat
    · rw [decide_eq_true (by omega : (c.toNat : Int) ≥ 97), cond_true, letk_r, decide_eq_false (by omega)]
      exact j2
    · rw [decide_eq_false (by omega : ¬ (c.toNat : Int) ≥ 97), cond_false]
      exact j2

theorem case_l0 (l : BS) (hl : l.length ≤ 300) (hq : ∀ c ∈ l, ¬ (c = 39 ∨ c = 34)) : ∀ k n : Nat, n + k = l.length → Law4.TokenCase.l0 (B l) (B (32 :: exL (l.take n))) n = some true := by
  have hsz : (B l).size = l.length := rfl
  intro k
  induction k with
  | zero =>
    intro n hn
    rw [Law4.TokenCase.l0_eq, Law4.TokenCase.s0]
    simp only [letk]
    rw [decide_eq_false (by omega : ¬ (n : Int) < ((B l).size : Int))]
    simp only [cond]
    have hle := (exL_le l).2
    rw [List.take_of_length_le (by omega), Tok.Scan_eq _ (by omega), Tok.Scan_eq _ (by rw [size_B, List.length_cons]; omega), L_B, L_B]
    simp only [Option.bind_some]
    have h := scan_ex l hq
    rw [(Prod.mk.inj h).1, (Prod.mk.inj h).2, int_beq rfl]
    try simp only []
    have := scan_len l
    rw [Tok.Same_eq _ _ (by omega)]
    simp only [Option.bind_some, decide_true, Law4.Awake_eq]
    rfl
  | succ k ih =>
    intro n hn
    rw [Law4.TokenCase.l0_eq]
    have hle := (exL_le (l.take n)).2
    rw [List.length_take] at hle
    rw [case_s0 l _ n (by omega) (by omega) (by rw [List.length_cons]; omega)]
    simp only [Option.bind_some, Sum.elim_inl]
    have := ih (n + 1) (by omega)
    have e : exL (l.take (n + 1)) = exL (l.take n) ++ ex1 (l.getD n 0) := by
      rw [List.take_succ_eq_append_getElem (by omega : n < l.length), show l.getD n 0 = l[n] by rw [List.getD_eq_getElem?_getD, List.getElem?_eq_getElem (by omega)]; rfl]
      unfold exL
      rw [List.flatMap_append]
      simp
    rw [List.cons_append, ← e]
    exact this

theorem TokenCase_eq (t : ByteArray) : Law4.TokenCase t = some true := by
  unfold Law4.TokenCase
  simp only [letk, Law4.Awake_eq, Option.bind_some]
  by_cases ht : (t.size : Int) > 300
  · rw [decide_eq_true ht]; rfl
  rw [decide_eq_false ht]
  simp only [cond]
  rw [hasQuote_eq _ (by omega)]
  simp only [Option.bind_some]
  cases hq : (L t).any fun c => c == 39 || c == 34 with
  | true => rfl
  | false =>
    try simp only []
    unfold Law4.TokenCase.j0
    have := case_l0 (L t) (by rw [L_len]; omega) (fun c hc h => by
      have := List.any_eq_false.1 hq c hc
      simp only [Bool.or_eq_true, beq_iff_eq] at this
      exact this h) (L t).length 0 (by omega)
    rw [B_L] at this
    exact this
end Go.Q
