import Derived.Test.YthdklcpkoeehnaaGreatDoorW1
namespace Go.Q
open Go Go.Proofs
set_option maxRecDepth 10000

/-! Write, both times -/

theorem write_snoc (p : BS × BS) : ∀ xs : List (BS × BS), writeL (xs ++ [p]) = (if xs = [] then [] else writeL xs ++ [32]) ++ tokW p
  | [] => by rw [if_pos rfl, List.nil_append, write_one]; rfl
  | [q] => by rw [if_neg (by simp), write_one]; show writeL [q, p] = _; rw [write_cons, write_one]; simp
  | q :: q2 :: r => by
    have ih := write_snoc p (q2 :: r)
    rw [if_neg (by simp)] at ih ⊢
    show writeL (q :: q2 :: (r ++ [p])) = _
    rw [write_cons, write_cons]
    rw [show q2 :: (r ++ [p]) = (q2 :: r) ++ [p] from rfl, ih]
    simp
theorem tokW_len {p : BS × BS} (h : p.2.length ≤ 200) : (tokW p).length ≤ 402 := by
  unfold tokW
  have := dbl_len p.2
  split
  · simp only [List.length_cons, List.length_append, List.length_nil]; omega
  · omega
theorem write_len : ∀ ts : List (BS × BS), (∀ p ∈ ts, p.2.length ≤ 200) → (writeL ts).length ≤ ts.length * 403
  | [], _ => Nat.zero_le _
  | [p], h => by
    rw [write_one]
    have := tokW_len (h p (List.mem_cons_self ..))
    simp only [List.length_cons, List.length_nil]; omega
  | p :: p2 :: r, h => by
    have h1 := tokW_len (h p (List.mem_cons_self ..))
    have h2 := write_len (p2 :: r) (fun q hq => h q (List.mem_cons_of_mem _ hq))
    rw [write_cons]
    simp only [List.length_append, List.length_cons] at h2 ⊢
    omega
theorem repl_eq (t : BS) (h : t.length ≤ 200) : Strs.ReplaceAll (B t) ⟨#[39]⟩ ⟨#[39, 39]⟩ = some (B (dbl t)) := by
  unfold Strs.ReplaceAll
  have hc : Lib.countB (B t) ⟨#[39]⟩ ≤ t.length := Lib.countB_le (B [39]) (by decide) t.length (B t) (Nat.le_refl _)
  have hsz : (B t).size = t.length := rfl
  have h2 : (⟨#[39, 39]⟩ : ByteArray).size = 2 := rfl
  have h1 : (⟨#[39]⟩ : ByteArray).size = 1 := rfl
  rw [chk_pos ⟨by omega, by omega, by rw [h2]; omega⟩]
  show some (B (Lib.replaceAll t [39] [39, 39])) = _
  rw [replaceAll_dbl]
theorem join_eq (ts : List (BS × BS)) (h : ts.length ≤ 100) (ht : ∀ p ∈ ts, p.2.length ≤ 200) : Strs.Join (ts.map fun p => B (tokW p)) ⟨#[32]⟩ = some (B (writeL ts)) := by
  unfold Strs.Join
  have e : (ts.map fun p => B (tokW p)).map (·.data.toList) = ts.map tokW := by rw [List.map_map]; rfl
  have hw := write_len ts ht
  rw [e, show (⟨#[32]⟩ : ByteArray).data.toList = [32] from rfl, List.length_map]
  rw [chk_pos ⟨by omega, by show (writeL ts).length ≤ _; omega⟩]
  rfl

theorem twrite_l0 (ts : List (BS × BS)) (hl : ts.length ≤ 100) (ht : ∀ p ∈ ts, p.2.length ≤ 200) : ∀ j n : Nat, n + j = ts.length →
    Tok.Write.l0 (ts.map toTok) ts.length ((ts.take n).map fun p => B (tokW p)) n = some (if (ts.drop n).all (fun p => valid p.1 p.2) = true then (B (writeL ts), 0) else (B [], 2)) := by
  intro j
  induction j with
  | zero =>
    intro n hn
    rw [Tok.Write.l0_eq, Tok.Write.s0]
    simp only [letk]
    rw [decide_eq_false (by omega : ¬ (n : Int) < (ts.length : Int)), cond_false, List.take_of_length_le (by omega), List.drop_of_length_le (by omega), join_eq ts hl ht]
    rfl
  | succ j ih =>
    intro n hn
    have hlt : n < ts.length := by omega
    have hp := ht _ (List.getElem_mem hlt)
    rw [Tok.Write.l0_eq, Tok.Write.s0]
    simp only [letk]
    rw [decide_eq_true (by omega : (n : Int) < (ts.length : Int)), cond_true, chk_pos (by omega), Int.toNat_natCast, List.getElem?_map, List.getElem?_eq_getElem hlt]
    simp only [Option.map_some, Option.bind_some]
    rw [Tok.Valid_eq _ (by show (B (ts[n]).2).size < _; rw [size_B]; omega)]
    simp only [Option.bind_some]
    rw [show L (toTok ts[n]).Kind = (ts[n]).1 from rfl, show L (toTok ts[n]).Text = (ts[n]).2 from rfl, List.drop_eq_getElem_cons hlt, List.all_cons]
    have ih' := ih (n + 1) (by omega)
    rw [List.take_succ_eq_append_getElem hlt, List.map_append, List.map_cons, List.map_nil] at ih'
    have hlen : ((ts.take n).map fun p => B (tokW p)).length ≤ 100 := by rw [List.length_map, List.length_take]; omega
    cases hv : valid (ts[n]).1 (ts[n]).2 with
    | false => rfl
    | true =>
      simp only [Bool.not_true, cond_false, Bool.true_and]
      rw [eqL, show L (toTok ts[n]).Kind = (ts[n]).1 from rfl, show L (⟨#[116, 101, 120, 116]⟩ : ByteArray) = kText from rfl]
      by_cases hk : (ts[n]).1 = kText
      · rw [beq_iff_eq.2 hk, cond_true, show (toTok ts[n]).Text = B (ts[n]).2 from rfl, repl_eq _ hp]
        simp only [Option.bind_some]
        have hd := dbl_len (ts[n]).2
        have hs1 : (B (dbl (ts[n]).2)).size = (dbl (ts[n]).2).length := rfl
        have hs2 : (⟨#[39]⟩ : ByteArray).size = 1 := rfl
        rw [chk_pos (by rw [hs1, hs2]; omega)]
        have e1 : (⟨#[39]⟩ : ByteArray) ++ B (dbl (ts[n]).2) = B (39 :: dbl (ts[n]).2) := B_appR [39] _
        have e2 : B (39 :: dbl (ts[n]).2) ++ (⟨#[39]⟩ : ByteArray) = B (tokW ts[n]) := by
          unfold tokW
          rw [if_pos hk]
          exact B_appR (39 :: dbl (ts[n]).2) [39]
        have hs3 : (B (39 :: dbl (ts[n]).2)).size = (dbl (ts[n]).2).length + 1 := rfl
        rw [e1, chk_pos (by rw [hs3, hs2]; omega), e2, chk_pos (by rw [List.length_singleton]; omega), w64n (by omega) (by omega), show ((n : Int) + 1) = ((n + 1 : Nat) : Int) by omega]
        exact ih'
      · rw [beq_eq_false_iff_ne.2 hk, cond_false, chk_pos (by rw [List.length_singleton]; omega), w64n (by omega) (by omega), show ((n : Int) + 1) = ((n + 1 : Nat) : Int) by omega]
        have e2 : (toTok ts[n]).Text = B (tokW ts[n]) := by
          unfold tokW
          rw [if_neg hk]; rfl
        rw [e2]
        exact ih'
theorem Tok.Write_eq (ts : List (BS × BS)) (hl : ts.length ≤ 100) (ht : ∀ p ∈ ts, p.2.length ≤ 200) :
    Tok.Write (ts.map toTok) = some (if ts.all (fun p => valid p.1 p.2) = true then (B (writeL ts), 0) else (B [], 2)) := by
  unfold Tok.Write
  simp only [letk, List.length_map]
  exact twrite_l0 ts hl ht ts.length 0 (by omega)

theorem dbl_snoc (t : BS) (n : Nat) (h : n < t.length) : dbl (t.take (n + 1)) = dbl (t.take n) ++ (if t.getD n 0 = 39 then [39, 39] else [t.getD n 0]) := by
  rw [List.take_succ_eq_append_getElem h, dbl_app, dbl_cons, show t.getD n 0 = t[n] by rw [List.getD_eq_getElem?_getD, List.getElem?_eq_getElem h]; rfl, show dbl [] = [] from rfl, List.append_nil]
theorem ext_one (t : BS) (n : Nat) (h : n < t.length) : (B t).extract n (n + 1) = B [t.getD n 0] := by
  rw [← B_L ((B t).extract n (n + 1)), L_ext, L_B, List.take_succ_eq_append_getElem h, List.drop_append, List.drop_of_length_le (by rw [List.length_take]; omega), List.length_take, Nat.min_eq_left (by omega), Nat.sub_self, show t.getD n 0 = t[n] by rw [List.getD_eq_getElem?_getD, List.getElem?_eq_getElem h]; rfl]
  rfl

theorem rwrite_l1 (ts : List (BS × BS)) (n : Nat) (hn : n < ts.length) (hl : ts.length ≤ 100) (ht : (ts[n]).2.length ≤ 200) (o : BS) (ho : o.length ≤ 50000) : ∀ j k : Nat, k + j = (ts[n]).2.length →
    Ref4.Write.l1 (ts.map toTok) n (B (o ++ dbl ((ts[n]).2.take k))) k = some (.inl (B (o ++ dbl (ts[n]).2 ++ [39]), ((n + 1 : Nat) : Int))) := by
  have hg : (ts.map toTok)[(n : Int).toNat]? = some (toTok ts[n]) := by rw [Int.toNat_natCast, List.getElem?_map, List.getElem?_eq_getElem hn]; rfl
  have hT : (toTok ts[n]).Text = B (ts[n]).2 := rfl
  have hs2 : (⟨#[39]⟩ : ByteArray).size = 1 := rfl
  generalize hu : (ts[n]).2 = t at *
  have hsz : (B t).size = t.length := rfl
  intro j
  induction j with
  | zero =>
    intro k hk
    have hd := dbl_len t
    rw [Ref4.Write.l1_eq, Ref4.Write.s1]
    simp only [letk]
    rw [chk_pos (by omega), hg]
    simp only [Option.bind_some]
    rw [hT, decide_eq_false (by omega : ¬ (k : Int) < ((B t).size : Int)), cond_false, List.take_of_length_le (by omega)]
    have hs1 : (B (o ++ dbl t)).size = (o ++ dbl t).length := rfl
    rw [List.length_append] at hs1
    rw [chk_pos (by rw [hs1, hs2]; omega), show (⟨#[39]⟩ : ByteArray) = B [39] from rfl, B_appR, w64n (by omega) (by omega), show ((n : Int) + 1) = ((n + 1 : Nat) : Int) by omega]
    rfl
  | succ j ih =>
    intro k hk
    have hlt : k < t.length := by omega
    have hd := dbl_len (t.take k)
    have hd2 := dbl_len t
    rw [List.length_take, Nat.min_eq_left (by omega)] at hd
    have ih' := ih (k + 1) (by omega)
    rw [dbl_snoc t k hlt] at ih'
    rw [Ref4.Write.l1_eq, Ref4.Write.s1]
    simp only [letk]
    rw [chk_pos (by omega), hg]
    simp only [Option.bind_some]
    rw [hT, decide_eq_true (by omega : (k : Int) < ((B t).size : Int)), cond_true, chk_pos (by omega), chk_pos (by omega), show bt (B t) k = ((t.getD k 0).toNat : Int) from rfl, show (((t.getD k 0).toNat : Int) == 39) = (t.getD k 0 == 39) from beq_u8 _ 39 (by omega)]
    have hs1 : (B (o ++ dbl (t.take k))).size = o.length + (dbl (t.take k)).length := by rw [← List.length_append]; rfl
    have key : ∀ x : BS, x.length ≤ 60000 → Ref4.Write.j1 (ts.map toTok) n k (B x) = some (.inl (B (x ++ [t.getD k 0]), ((k + 1 : Nat) : Int))) := by
      intro x hx
      have hs3 : (B x).size = x.length := rfl
      have hs4 : (B [t.getD k 0]).size = 1 := rfl
      unfold Ref4.Write.j1
      simp only [letk]
      rw [chk_pos (by omega), hg]
      simp only [Option.bind_some]
      rw [hT, w64n (by omega) (by omega), chk_pos (by omega), show ((k : Int) + 1).toNat = k + 1 by omega, Int.toNat_natCast, ext_one t k hlt, chk_pos (by rw [hs3, hs4]; omega), B_appR, show ((k : Int) + 1) = ((k + 1 : Nat) : Int) by omega]
    by_cases h39 : t.getD k 0 = 39
    · rw [beq_iff_eq.2 h39, cond_true, chk_pos (by rw [hs1, hs2]; omega), show (⟨#[39]⟩ : ByteArray) = B [39] from rfl, B_appR, key _ (by simp only [List.length_append, List.length_cons, List.length_nil]; omega)]
      rw [if_pos h39] at ih'
      rw [h39]
      simp only [Option.bind_some, Sum.elim_inl]
      rw [← ih']
      simp only [List.append_assoc, List.cons_append, List.nil_append]
    · rw [beq_eq_false_iff_ne.2 h39, cond_false, key _ (by simp only [List.length_append]; omega)]
      rw [if_neg h39] at ih'
      simp only [Option.bind_some, Sum.elim_inl]
      rw [← ih']
      simp only [List.append_assoc]

theorem rwrite_j0 (ts : List (BS × BS)) (n : Nat) (hn : n < ts.length) (hl : ts.length ≤ 100) (ht : (ts[n]).2.length ≤ 200) (o : BS) (ho : o.length ≤ 49999) :
    Ref4.Write.j0 (ts.map toTok) n (B o) = some (.inl (B (o ++ tokW ts[n]), ((n + 1 : Nat) : Int))) := by
  have hg : (ts.map toTok)[(n : Int).toNat]? = some (toTok ts[n]) := by rw [Int.toNat_natCast, List.getElem?_map, List.getElem?_eq_getElem hn]; rfl
  have hT : (toTok ts[n]).Text = B (ts[n]).2 := rfl
  have hK : (toTok ts[n]).Kind = B (ts[n]).1 := rfl
  have hs1 : (B o).size = o.length := rfl
  have hs2 : (⟨#[39]⟩ : ByteArray).size = 1 := rfl
  have hs3 : (B (ts[n]).2).size = (ts[n]).2.length := rfl
  unfold Ref4.Write.j0
  simp only [letk]
  rw [chk_pos (by omega), hg]
  simp only [Option.bind_some]
  rw [hK, eqL, L_B, show L (⟨#[116, 101, 120, 116]⟩ : ByteArray) = kText from rfl]
  by_cases hk : (ts[n]).1 = kText
  · rw [beq_iff_eq.2 hk, Bool.not_true, cond_false, chk_pos (by rw [hs1, hs2]; omega), show (⟨#[39]⟩ : ByteArray) = B [39] from rfl, B_appR]
    have := rwrite_l1 ts n hn hl ht (o ++ [39]) (by simp only [List.length_append, List.length_cons, List.length_nil]; omega) (ts[n]).2.length 0 (by omega)
    rw [List.take_zero, show dbl [] = [] from rfl, List.append_nil] at this
    rw [show (0 : Int) = ((0 : Nat) : Int) from rfl, this]
    unfold tokW
    rw [if_pos hk]
    simp only [List.append_assoc, List.cons_append, List.nil_append]
  · rw [beq_eq_false_iff_ne.2 hk, Bool.not_false, cond_true, chk_pos (by omega), chk_pos (by rw [hT, hs1, hs3]; omega), hT, B_appR, w64n (by omega) (by omega), show ((n : Int) + 1) = ((n + 1 : Nat) : Int) by omega]
    unfold tokW
    rw [if_neg hk]

theorem rwrite_l0 (ts : List (BS × BS)) (hl : ts.length ≤ 100) (ht : ∀ p ∈ ts, p.2.length ≤ 200) : ∀ j n : Nat, n + j = ts.length →
    Ref4.Write.l0 (ts.map toTok) (B (writeL (ts.take n))) n = some (if (ts.drop n).all (fun p => valid p.1 p.2) = true then (B (writeL ts), 0) else (B [], 2)) := by
  intro j
  induction j with
  | zero =>
    intro n hn
    rw [Ref4.Write.l0_eq, Ref4.Write.s0]
    simp only [letk, List.length_map]
    rw [decide_eq_false (by omega : ¬ (n : Int) < (ts.length : Int)), cond_false, List.take_of_length_le (by omega), List.drop_of_length_le (by omega)]
    rfl
  | succ j ih =>
    intro n hn
    have hlt : n < ts.length := by omega
    have hp := ht _ (List.getElem_mem hlt)
    rw [Ref4.Write.l0_eq, Ref4.Write.s0]
    simp only [letk, List.length_map]
    rw [decide_eq_true (by omega : (n : Int) < (ts.length : Int)), cond_true, chk_pos (by omega), Int.toNat_natCast, List.getElem?_map, List.getElem?_eq_getElem hlt]
    simp only [Option.map_some, Option.bind_some]
    rw [Ref4.Valid_eq _ (by show (B (ts[n]).2).size < _; rw [size_B]; omega)]
    simp only [Option.bind_some]
    rw [show L (toTok ts[n]).Kind = (ts[n]).1 from rfl, show L (toTok ts[n]).Text = (ts[n]).2 from rfl, List.drop_eq_getElem_cons hlt, List.all_cons]
    have ih' := ih (n + 1) (by omega)
    rw [List.take_succ_eq_append_getElem hlt, write_snoc] at ih'
    cases hv : valid (ts[n]).1 (ts[n]).2 with
    | false => rfl
    | true =>
      have hw := write_len (ts.take n) (fun p h => ht p (List.mem_of_mem_take h))
      rw [List.length_take, Nat.min_eq_left (by omega)] at hw
      simp only [Bool.not_true, cond_false, Bool.true_and]
      by_cases h0 : n = 0
      · subst h0
        rw [show (if List.take 0 ts = [] then ([] : BS) else writeL (List.take 0 ts) ++ [32]) = [] from if_pos rfl] at ih'
        rw [decide_eq_false (by omega), cond_false, rwrite_j0 ts 0 hlt hl hp _ (by omega)]
        simp only [Option.bind_some, Sum.elim_inl]
        exact ih'
      · rw [if_neg (by intro e; have := congrArg List.length e; rw [List.length_take, List.length_nil] at this; omega)] at ih'
        have hs1 : (B (writeL (ts.take n))).size = (writeL (ts.take n)).length := rfl
        have hs2 : (⟨#[32]⟩ : ByteArray).size = 1 := rfl
        rw [decide_eq_true (by omega : (n : Int) > 0), cond_true, chk_pos (by rw [hs1, hs2]; omega), show (⟨#[32]⟩ : ByteArray) = B [32] from rfl, B_appR, rwrite_j0 ts n hlt hl hp _ (by simp only [List.length_append, List.length_cons, List.length_nil]; omega)]
        simp only [Option.bind_some, Sum.elim_inl]
        exact ih'
theorem Ref4.Write_eq (ts : List (BS × BS)) (hl : ts.length ≤ 100) (ht : ∀ p ∈ ts, p.2.length ≤ 200) :
    Ref4.Write (ts.map toTok) = some (if ts.all (fun p => valid p.1 p.2) = true then (B (writeL ts), 0) else (B [], 2)) := by
  unfold Ref4.Write
  exact rwrite_l0 ts hl ht ts.length 0 (by omega)

theorem twrites_l0 (ts : List (BS × BS)) (hl : ts.length ≤ 100) : ∀ j n : Nat, n + j = ts.length → (∀ p ∈ ts.take n, p.2.length ≤ 200) → Law4.TokenWrites.l0 (ts.map toTok) n = some true := by
  intro j
  induction j with
  | zero =>
    intro n hn ht
    rw [List.take_of_length_le (by omega)] at ht
    rw [Law4.TokenWrites.l0_eq, Law4.TokenWrites.s0]
    simp only [letk, List.length_map]
    rw [decide_eq_false (by omega : ¬ (n : Int) < (ts.length : Int)), cond_false, Tok.Write_eq ts hl ht, Ref4.Write_eq ts hl ht]
    by_cases hv : ts.all (fun p => valid p.1 p.2) = true
    · have hv' : ∀ p ∈ ts, valid p.1 p.2 = true := List.all_eq_true.1 hv
      have hw := write_len ts ht
      rw [if_pos hv]
      simp only [Option.bind_some]
      rw [beq_self_eq_true, Bool.not_true, cond_false, show ((0 : Int) != 0) = false from rfl, cond_false]
      unfold Law4.TokenWrites.j0
      simp only [letk]
      have hsz : (B (writeL ts)).size = (writeL ts).length := rfl
      rw [show ((0 : Int) != 0) = false from rfl, cond_false, Tok.Scan_eq _ (by omega), L_B, scan_write ts hv']
      simp only [Option.bind_some]
      rw [show (((0 : Nat) : Int) == 0) = true from rfl, cond_true, cond_true, Tok.Same_eq _ _ (by omega)]
      simp only [Option.bind_some, decide_true, cond_true]
      rw [Ref4.Same_self _ (by omega)]
      simp only [Option.bind_some, cond_true]
      rw [Law4.Awake_eq]; rfl
    · rw [if_neg hv]
      simp only [Option.bind_some]
      rw [beq_self_eq_true, Bool.not_true, cond_false, show ((2 : Int) != 2) = false from rfl, cond_false]
      unfold Law4.TokenWrites.j0
      simp only [letk]
      rw [show ((2 : Int) != 0) = true from rfl, cond_true, Law4.Awake_eq]; rfl
  | succ j ih =>
    intro n hn ht
    have hlt : n < ts.length := by omega
    rw [Law4.TokenWrites.l0_eq, Law4.TokenWrites.s0]
    simp only [letk, List.length_map]
    rw [decide_eq_true (by omega : (n : Int) < (ts.length : Int)), cond_true, chk_pos (by omega), Int.toNat_natCast, List.getElem?_map, List.getElem?_eq_getElem hlt]
    simp only [Option.map_some, Option.bind_some]
    have hs : (toTok ts[n]).Text.size = (ts[n]).2.length := rfl
    rw [hs]
    by_cases h2 : (((ts[n]).2.length : Nat) : Int) > 200
    · rw [decide_eq_true h2, cond_true, Law4.Awake_eq]; rfl
    · rw [decide_eq_false h2, cond_false, w64n (by omega) (by omega), show ((n : Int) + 1) = ((n + 1 : Nat) : Int) by omega]
      simp only [Option.bind_some, Sum.elim_inl]
      refine ih (n + 1) (by omega) ?_
      intro p hp
      rw [List.take_succ_eq_append_getElem hlt, List.mem_append, List.mem_singleton] at hp
      rcases hp with hp | rfl
      · exact ht p hp
      · omega
theorem toks_map : ∀ l : List api.Token, l = (l.map fun t => (L t.Kind, L t.Text)).map toTok
  | [] => rfl
  | t :: r => by
    rw [List.map_cons, List.map_cons, ← toks_map r]
    show _ = (⟨B (L t.Kind), B (L t.Text)⟩ : api.Token) :: r
    rw [B_L, B_L]
theorem TokenWrites_eq (l : List api.Token) : Law4.TokenWrites l = some true := by
  rw [toks_map l]
  generalize (l.map fun t => (L t.Kind, L t.Text)) = ts
  unfold Law4.TokenWrites
  simp only [letk, Law4.Awake_eq, Option.bind_some, List.length_map]
  by_cases h : (ts.length : Int) > 100
  · rw [decide_eq_true h]; rfl
  rw [decide_eq_false h, cond_false]
  exact twrites_l0 ts (by omega) ts.length 0 (by omega) (by intro p hp; cases hp)
end Go.Q
