import Derived.Test.YthdklcpkoeehnaaDoorQT16
namespace Go.Q
open Go Go.Proofs
set_option maxRecDepth 10000
set_option maxHeartbeats 2000000

theorem quo_text (q : UInt8) : ∀ (k : Nat) (r : BS), r.length ≤ k → ∀ p, quo q r = some p → p.1.length ≤ p.2
  | k, [], _, p, h => by simp [quo] at h
  | k + 1, c :: r, hk, p, h => by
    rw [quo_cons] at h
    simp only [List.length_cons] at hk
    split at h
    · match r, h with
      | [], h => simp only [Option.some.injEq] at h; subst h; simp
      | c' :: r', h =>
        simp only [List.length_cons] at hk
        replace h : (if c' = q then (quo q r').map fun p => (q :: p.1, p.2 + 2) else some ([], 1)) = some p := h
        split at h
        · cases hq : quo q r' with
          | none => rw [hq] at h; cases h
          | some p' =>
            rw [hq] at h
            have := quo_text q k r' (by omega) p' hq
            simp only [Option.map_some, Option.some.injEq] at h
            subst h; simp only [List.length_cons]; omega
        · simp only [Option.some.injEq] at h; subst h; simp
    · cases hq : quo q r with
      | none => rw [hq] at h; cases h
      | some p' =>
        rw [hq] at h
        have := quo_text q k r (by omega) p' hq
        simp only [Option.map_some, Option.some.injEq] at h
        subst h; simp only [List.length_cons]; omega
  | 0, c :: r, hk, p, h => by simp at hk
theorem quoted_text (l : BS) : (quoted l).1.length ≤ (quoted l).2 := by
  unfold quoted
  cases hq : quo (l.getD 0 0) (l.drop 1) with
  | none => simp [quoRes]
  | some p =>
    have := quo_text _ _ _ (Nat.le_refl _) p hq
    simp only [quoRes]; omega
theorem first_text (l : BS) (h : l ≠ []) : (firstSpec l).1.2.length ≤ l.length := by
  unfold firstSpec
  have h1 := preL_le pPart l
  have h2 := quoted_le l h
  have h2' := quoted_text l
  have h3 := wordOf_le l
  have h4 := numN_leL l
  split
  · simp only [small, List.length_map, List.length_take]; omega
  · split
    · simp only; omega
    · split
      · exact h3
      · split
        · simp only [numT, small, List.length_map, List.length_take]; omega
        · split
          · rename_i o ho
            have := List.find?_some ho
            exact (List.isPrefixOf_iff_prefix.1 this).length_le
          · simp

theorem one_tk (a b : ByteArray) : OneCells [.agg [.lit (.string a), .lit (.string b)]] := by
  intro e he c hc
  simp only [List.mem_singleton] at he
  subst he
  simp only [AV.cells, List.mem_cons, List.not_mem_nil, or_false] at hc
  rcases hc with rfl | rfl <;> rfl
theorem app2_ok {n : Nat} (h : n < 2 ^ 41) : (n + (0 + 1)) * 32 ≤ 140737488355328 ∧ n + (0 + 1) ≤ 9223372036854775807 := by omega
theorem outT_take (out : List (BS × BS)) : (out.map tkL).take out.length = out.map tkL := List.take_of_length_le (by simp)
theorem sst_eq {a : Nat} {b : List (BS × BS)} {es : List AV} {x y : Int} {s : ByteArray} (h1 : a = b.length) (h2 : es = b.map tkL) (h3 : x = y) :
    (⟨50, [(0, .lit (.string s)), (6, .ref 0 0 a), (7, .lit (.int .i64 x))], [.arr 2 es]⟩ : St) = ⟨50, [(0, .lit (.string s)), (6, .ref 0 0 b.length), (7, .lit (.int .i64 y))], [.arr 2 (b.map tkL)]⟩ := by rw [h1, h2, h3]
theorem sc_ext {l : BS} {ts : List (BS × BS)} {a b : Nat} {es : List AV} {x y : Int} (h : scanSpec l = (ts, a, b)) (h1 : es = ts.map tkL) (h2 : x = a) (h3 : y = b) : AV.tup [.vs 2 es, .lit (.int .i64 x), .lit (.int .i64 y)] = scanAV (scanSpec l) := by
  rw [h, h1, h2, h3]; rfl
theorem wv3 {h : List AObj} {keep frz : List Nat} {m : Nat} {a b c a' b' c' : AV} (h1 : WV h keep frz m a a') (h2 : WV h keep frz m b b') (h3 : WV h keep frz m c c') : WV h keep frz m (.tup [a, b, c]) (.tup [a', b', c']) :=
  .tup _ _ rfl (fun i hi hi' => by
    match i, hi, hi' with
    | 0, _, _ => exact h1
    | 1, _, _ => exact h2
    | 2, _, _ => exact h3)
theorem u32 {s : ByteArray} {i : Nat} : bt s (i : Int) = 32 ↔ ((L s).drop i).getD 0 0 = 32 := by
  rw [bt_L, getD_drop, Int.toNat_natCast, Nat.add_zero]; exact u8_eq (n := 32) (by omega)

theorem scan_early {s : ByteArray} (h : preL pText (L s) < s.size) : scanSpec (L s) = ([], preL pText (L s), 3) := by
  unfold scanSpec; rw [if_pos (by rw [L_len]; exact h)]
theorem SInv.token' {l : BS} {out : List (BS × BS)} {i : Nat} {p : (BS × BS) × Nat} (hp : p = firstSpec (l.drop i)) (h : SInv l out i) (hi : i < l.length) (hb : ¬ (l.drop i).getD 0 0 = 32) (h0 : ¬ p.2 = 0) (hv : valid p.1.1 p.1.2 = true) :
    SInv l (out ++ [p.1]) (i + p.2) := by subst hp; exact h.token hi hb h0 hv
theorem SInv.bad' {l : BS} {out : List (BS × BS)} {i : Nat} {p : (BS × BS) × Nat} (hp : p = firstSpec (l.drop i)) (h : SInv l out i) (hp2 : ¬ preL pText l < l.length) (hi : i < l.length) (hb : ¬ (l.drop i).getD 0 0 = 32) (h0 : p.2 = 0 ∨ valid p.1.1 p.1.2 = false) : scanSpec l = ([], i, 3) := by
  subst hp; exact h.bad hp2 hi hb h0
attribute [local irreducible] firstSpec quoted wordOf numN numR valid preL pre scanSpec scanG

theorem scan_ok (s : ByteArray) (hs : s.size < 2 ^ 40) (hr : ∀ i, i < s.size → numR ((L s).drop i) = true → RealOK (small (((L s).drop i).take (numN ((L s).drop i))))) : Gives Tryd.prog 8 [.lit (.string s)] (scanAV (scanSpec (L s))) := by
  refine ACalls.of_swp Tryd.func8 rfl (by decide) rfl (st0 := ⟨50, [(0, .lit (.string s))], []⟩) rfl (awp_ok ?_)
  have hl := L_len s
  have hpt := pre_preL pText s
  repeat' ((conv => whnf); first
    | refine Arith.mk ⟨_, w64 (by omega), ?_⟩
    | refine Side.mk (by omega) ?_
    | refine Arith.mk ⟨_, rfl, ?_⟩
    | ((refine ifB_intro (fun hb => ?_) (fun hb => ?_)) <;> (try simp only [List.length_map, decide_eq_true_eq, decide_eq_false_iff_not, beq_iff_eq, bne_iff_ne, beq_eq_false_iff_ne, bne_eq_false_iff_eq, ne_eq, Bool.not_eq_true', Bool.not_eq_false', Bool.not_eq_true, Bool.not_eq_false] at hb))
    | (refine CallN.gives (run_ok 14 pText isText_ok s (by omega)) rfl ?_)
    | (exact Returns.frozen (r := .tup [.vs 2 [], .lit _, .lit _]) [] rfl rfl (wv3 (.nilsVs 2) (.same _ rfl) (.same _ rfl)) ⟨sc_ext (scan_early (by omega)) rfl (by rw [hpt]) rfl, rfl⟩)
    | (refine LoopN.of (fun k st => ∃ (i : Nat) (out : List (BS × BS)), i + k = s.size ∧ SInv (L s) out i ∧ st = ⟨50, [(0, .lit (.string s)), (6, .ref 0 0 out.length), (7, .lit (.int .i64 i))], [.arr 2 (out.map tkL)]⟩) ⟨_, _, _, _, Weak.objs (keep := []) (frz := []) (m := 1) (ts := [(0, _), (6, _), (7, _)]) (hs := [_]) rfl (by decide) rfl rfl ⟨rfl, by intro ob ho; simp at ho; exact ⟨2, ho⟩⟩ ⟨.same (.lit (.string _)) rfl, .nilsRef 0 (by decide) (by decide), .same (.lit (.int _ _)) rfl, trivial⟩, s.size, 0, [], by omega, SInv.start _, rfl⟩ ?_)
    | (exfalso; omega))
  rintro k st ⟨i, out, hi, hq, rfl⟩
  have hq1 := hq.1
  have hnp : ¬ preL pText (L s) < (L s).length := by omega
  refine awp_ok ?_
  repeat' ((conv => whnf); first
    | refine Arith.mk ⟨_, w64 (by omega), ?_⟩
    | refine Side.mk (by first | omega | exact ⟨by simp, one_tk _ _⟩ | (simp only [List.drop_zero, outT_take, List.length_map, List.length_cons, List.length_nil]; exact app2_ok (by omega)) | (simp; done)) ?_
    | refine Arith.mk ⟨_, rfl, ?_⟩
    | ((refine ifB_intro (fun hb => ?_) (fun hb => ?_)) <;> (try simp only [List.length_map, decide_eq_true_eq, decide_eq_false_iff_not, beq_iff_eq, bne_iff_ne, beq_eq_false_iff_ne, bne_eq_false_iff_eq, ne_eq, Bool.not_eq_true', Bool.not_eq_false', Bool.not_eq_true, Bool.not_eq_false] at hb) <;> (try simp only [u32] at hb))
    | ((refine CallN.gen fAV _ (first_ok (s.extract (i : Int).toNat s.size) (by rw [ByteArray.size_extract]; omega) (by rw [ByteArray.size_extract]; omega) (by rw [Int.toNat_natCast, L_take, L_drop]; exact hr i (by omega))) rfl ?_; intro p hp; have hp' : p = firstSpec ((L s).drop i) := (by rw [hp, Int.toNat_natCast, L_drop]); have hpn : p.2 ≤ s.size - i := (by have := first_le _ (drop_ne (l := L s) (i := i) (by omega)); rw [← hp', List.length_drop, hl] at this; exact this); have hpx : p.1.2.length ≤ s.size - i := (by have := first_text _ (drop_ne (l := L s) (i := i) (by omega)); rw [← hp', List.length_drop, hl] at this; exact this); have hpr : p.1.1 = kReal → RealOK p.1.2 := (fun h => by rw [hp'] at h ⊢; have h9 := first_real _ h; rw [h9.2]; exact hr i (by omega) h9.1)))
    | ((refine CallN.gives (valid_ok (B p.1.1) (B p.1.2) (by rw [B_size]; omega) hpr) rfl ?_))
    | (exact ⟨_, _, _, _, Weak.objs (keep := [0]) (frz := []) (m := 0) (ts := [(0, _), (6, _), (7, _)]) (hs := [_]) rfl (by decide) rfl rfl ⟨⟨_, rfl, .arr _ _⟩, ⟨rfl, by simp⟩⟩ ⟨.same (.lit (.string _)) rfl, .ref _ _ _ 0 rfl, .same (.lit (.int _ _)) rfl, trivial⟩, k - 1, by omega, i + 1, out, by omega, hq.blank (by omega) hb, rfl⟩)
    | (exact ⟨_, _, _, _, Weak.objs (keep := [3]) (frz := []) (m := 0) (ts := [(0, _), (6, _), (7, _)]) (hs := [_]) rfl (by decide) rfl rfl ⟨⟨_, rfl, .arr _ _⟩, ⟨rfl, by simp⟩⟩ ⟨.same (.lit (.string _)) rfl, .ref _ _ _ 0 rfl, .same (.lit (.int _ _)) rfl, trivial⟩, k - p.2, by omega, i + p.2, out ++ [p.1], by omega, SInv.token' hp' hq (by omega) (by assumption) (by omega) hb, sst_eq (by simp) (by rw [List.drop_zero, outT_take, List.map_append]; rfl) (by omega)⟩)
    | (exact Returns.frozen (r := .tup [.vs 2 [], .lit _, .lit _]) [] rfl rfl (wv3 (.nilsVs 2) (.same _ rfl) (.same _ rfl)) ⟨sc_ext (SInv.bad' hp' hq hnp (by omega) (by assumption) (by first | exact .inl (by omega) | exact .inr hb)) rfl rfl rfl, rfl⟩)
    | (exact Returns.frozen (r := .tup [.vs 2 (out.map tkL), .lit _, .lit _]) [0] rfl rfl (wv3 (WV.frz rfl (by simp)) (.same _ rfl) (.same _ rfl)) ⟨sc_ext (hq.all hnp (by omega)) rfl rfl rfl, rfl⟩)
    | (exfalso; omega))
end Go.Q
