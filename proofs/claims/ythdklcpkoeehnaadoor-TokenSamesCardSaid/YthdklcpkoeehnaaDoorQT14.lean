import Derived.Test.YthdklcpkoeehnaaDoorQT13
namespace Go.Q
open Go Go.Proofs
set_option maxRecDepth 10000
set_option maxHeartbeats 2000000

def quo (q : UInt8) : BS → Option (BS × Nat)
  | [] => none
  | c :: r => if c = q then
      (match r with
        | [] => some ([], 1)
        | c' :: r' => if c' = q then (quo q r').map fun p => (q :: p.1, p.2 + 2) else some ([], 1))
    else (quo q r).map fun p => (c :: p.1, p.2 + 1)
theorem quo_cons (q c : UInt8) (r : BS) : quo q (c :: r) = if c = q then
      (match r with
        | [] => some ([], 1)
        | c' :: r' => if c' = q then (quo q r').map fun p => (q :: p.1, p.2 + 2) else some ([], 1))
    else (quo q r).map fun p => (c :: p.1, p.2 + 1) := by
  rw [quo.eq_def]; rfl
def quoRes : Option (BS × Nat) → BS × Nat
  | some (t, n) => (t, n + 1)
  | none => ([], 0)
def quoted (l : BS) : BS × Nat := quoRes (quo (l.getD 0 0) (l.drop 1))

/-- What the loop knows behind i bytes. -/
def QInv (l out : BS) (i : Nat) : Prop := 1 ≤ i ∧ out.length < i ∧ quo (l.getD 0 0) (l.drop 1) = (quo (l.getD 0 0) (l.drop i)).map fun p => (out ++ p.1, p.2 + (i - 1))

theorem QInv.start (l : BS) : QInv l [] 1 := ⟨by omega, by simp, by cases quo (l.getD 0 0) (l.drop 1) <;> simp⟩

theorem drop_cons {l : BS} {i : Nat} (h : i < l.length) : l.drop i = l.getD i 0 :: l.drop (i + 1) := by
  rw [List.drop_eq_getElem_cons h]
  simp [List.getD, h]
theorem QInv.other {l out : BS} {i : Nat} (h : QInv l out i) (hi : i < l.length) (hc : ¬ l.getD i 0 = l.getD 0 0) : QInv l (out ++ [l.getD i 0]) (i + 1) := by
  obtain ⟨h0, h1, h2⟩ := h
  refine ⟨by omega, by simp; omega, ?_⟩
  rw [h2, drop_cons hi]
  rw [quo_cons, if_neg hc]
  cases quo (l.getD 0 0) (l.drop (i + 1)) with
  | none => rfl
  | some p =>
    simp only [Option.map_some, List.append_assoc, List.singleton_append, Option.some.injEq, Prod.mk.injEq, true_and]
    omega
theorem QInv.twice {l out : BS} {i : Nat} (h : QInv l out i) (hi : i + 1 < l.length) (hc : l.getD i 0 = l.getD 0 0) (hc' : l.getD (i + 1) 0 = l.getD 0 0) : QInv l (out ++ [l.getD 0 0]) (i + 1 + 1) := by
  obtain ⟨h0, h1, h2⟩ := h
  refine ⟨by omega, by simp; omega, ?_⟩
  rw [h2, drop_cons (show i < l.length by omega), drop_cons hi]
  rw [quo_cons, if_pos hc]
  simp only [if_pos hc']
  cases quo (l.getD 0 0) (l.drop (i + 1 + 1)) with
  | none => rfl
  | some p =>
    simp only [Option.map_some, List.append_assoc, List.singleton_append, Option.some.injEq, Prod.mk.injEq, true_and]
    omega
theorem QInv.ends {l out : BS} {i : Nat} (h : QInv l out i) (hi : i < l.length) (hc : l.getD i 0 = l.getD 0 0) (hc' : i + 1 = l.length ∨ ¬ l.getD (i + 1) 0 = l.getD 0 0) : quoted l = (out, i + 1) := by
  obtain ⟨h0, h1, h2⟩ := h
  unfold quoted
  rw [h2, drop_cons hi, quo_cons, if_pos hc]
  have e : (i : Nat) = 1 + (i - 1) := by omega
  rcases hc' with hc' | hc'
  · rw [List.drop_of_length_le (by omega)]
    simp only [Option.map_some, quoRes, List.append_nil, Prod.mk.injEq, true_and]; omega
  · rcases Nat.lt_or_ge (i + 1) l.length with h3 | h3
    · rw [drop_cons h3]
      simp only [if_neg hc', Option.map_some, quoRes, List.append_nil, Prod.mk.injEq, true_and]; omega
    · rw [List.drop_of_length_le (by omega)]
      simp only [Option.map_some, quoRes, List.append_nil, Prod.mk.injEq, true_and]; omega
theorem QInv.none {l out : BS} {i : Nat} (h : QInv l out i) (hi : l.length ≤ i) : quoted l = ([], 0) := by
  obtain ⟨h0, h1, h2⟩ := h
  unfold quoted
  rw [h2, List.drop_of_length_le hi]
  rfl

theorem bt_eq {s : ByteArray} {i j : Int} : bt s i = bt s j ↔ (L s).getD i.toNat 0 = (L s).getD j.toNat 0 := by
  rw [bt_L, bt_L]
  constructor
  · intro h; exact UInt8.toNat_inj.1 (by omega)
  · intro h; rw [h]

theorem out_take (out : BS) : (out.map bAV).take out.length = out.map bAV := List.take_of_length_le (by simp)

theorem one_lit (v : Value) (hv : oneQ [] (.lit v) = true) : OneCells [.lit v] := by
  intro e he c hc
  simp only [List.mem_singleton] at he
  subst he
  simp only [AV.cells, List.mem_singleton] at hc
  subst hc
  exact hv
theorem one_bytes (l : BS) : OneCells (l.map bAV) := by
  intro e he
  simp only [List.mem_map] at he
  obtain ⟨c, _, rfl⟩ := he
  intro x hx; simp [bAV, AV.cells] at hx; subst hx; rfl
theorem app_ok {n : Nat} (h : n < 2 ^ 46) : (n + (0 + 1)) * 1 ≤ 140737488355328 ∧ n + (0 + 1) ≤ 9223372036854775807 := by omega
theorem qst_eq {a : Nat} {b : BS} {es : List AV} {x y z : AV} (h1 : a = b.length) (h2 : es = b.map bAV) :
    (⟨49, [(0, x), (4, y), (5, .ref 0 0 a), (6, z)], [.arr 1 es]⟩ : St) = ⟨49, [(0, x), (4, y), (5, .ref 0 0 b.length), (6, z)], [.arr 1 (b.map bAV)]⟩ := by rw [h1, h2]
theorem quo_ext {l out : BS} {n : Nat} {o : ByteArray} {x : Int} (h : quoted l = (out, n)) (h1 : o = B out) (h2 : x = n) : AV.tup [.lit (.string o), .lit (.int .i64 x)] = .tup [.lit (.string (B (quoted l).1)), .lit (.int .i64 (quoted l).2)] := by
  rw [h, h1, h2]

theorem quoted_ok (s : ByteArray) (hs : s.size < 2 ^ 46) (h0 : 0 < s.size) : Gives Tryd.prog 22 [.lit (.string s)] (.tup [.lit (.string (B (quoted (L s)).1)), .lit (.int .i64 (quoted (L s)).2)]) := by
  refine ACalls.of_swp Tryd.func22 rfl (by decide) rfl (st0 := ⟨49, [(0, .lit (.string s))], []⟩) rfl (awp_ok ?_)
  have hl := L_len s
  repeat' ((conv => whnf); first
    | refine Arith.mk ⟨_, w64 (by omega), ?_⟩
    | refine Side.mk (by first | omega | (simp (disch := omega) only [w64]; omega) | (simp; omega) | (simp_all; done)) ?_
    | refine Arith.mk ⟨_, rfl, ?_⟩
    | ((refine ifB_intro (fun hb => ?_) (fun hb => ?_)) <;> (try simp only [List.length_map, decide_eq_true_eq, decide_eq_false_iff_not, beq_iff_eq, bne_iff_ne, beq_eq_false_iff_ne, bne_eq_false_iff_eq, ne_eq, Bool.not_eq_true', Bool.not_eq_false', Bool.not_eq_true, Bool.not_eq_false] at hb))
    | (refine LoopN.of (fun k st => ∃ (i : Nat) (out : BS), i + k = s.size + 2 ∧ QInv (L s) out i ∧ st = ⟨49, [(0, .lit (.string s)), (4, .lit (.int .u8 (bt s 0))), (5, .ref 0 0 out.length), (6, .lit (.int .i64 i))], [.arr 1 (out.map bAV)]⟩) ⟨_, _, _, _, Weak.objs (keep := []) (frz := []) (m := 1) (ts := [(0, _), (4, _), (5, _), (6, _)]) (hs := [_]) rfl (by decide) rfl rfl ⟨rfl, by intro ob ho; simp at ho; exact ⟨1, ho⟩⟩ ⟨.same (.lit (.string _)) rfl, .same (.lit (.int _ _)) rfl, .nilsRef 0 (by decide) (by decide), .same (.lit (.int _ _)) rfl, trivial⟩, s.size + 1, 1, [], by omega, QInv.start _, rfl⟩ ?_)
    | (exfalso; omega))
  rintro k st ⟨i, out, hi, hq, rfl⟩
  have hq1 := hq.1
  have hq2 := hq.2.1
  refine awp_ok ?_
  repeat' ((conv => whnf); first
    | refine Arith.mk ⟨_, w64 (by omega), ?_⟩
    | refine Side.mk (by first | omega | exact ⟨by simp, one_lit _ rfl⟩ | exact ⟨by simp, one_bytes _⟩ | (simp only [List.drop_zero, out_take, List.length_map, List.length_cons, List.length_nil]; exact app_ok (by omega)) | (simp; done)) ?_
    | refine Arith.mk ⟨_, rfl, ?_⟩
    | ((refine ifB_intro (fun hb => ?_) (fun hb => ?_)) <;> (try simp only [List.length_map, decide_eq_true_eq, decide_eq_false_iff_not, beq_iff_eq, bne_iff_ne, beq_eq_false_iff_ne, bne_eq_false_iff_eq, ne_eq, Bool.not_eq_true', Bool.not_eq_false', Bool.not_eq_true, Bool.not_eq_false] at hb) <;> (try simp only [bt_eq] at hb))
    | (refine BytesN.mk ⟨out.map fun c => (c.toNat : Int), by rw [List.drop_zero, out_take]; simp [bAV, Function.comp_def], ?_⟩)
    | (exact ⟨_, _, _, _, Weak.objs (keep := [2]) (frz := []) (m := 0) (ts := [(0, _), (4, _), (5, _), (6, _)]) (hs := [_]) rfl (by decide) rfl rfl ⟨⟨_, rfl, .arr _ _⟩, ⟨rfl, by simp⟩⟩ ⟨.same (.lit (.string _)) rfl, .same (.lit (.int _ _)) rfl, .ref _ _ _ 0 rfl, .same (.lit (.int _ _)) rfl, trivial⟩, k - 1, by omega, i + 1, out ++ [(L s).getD i 0], by omega, hq.other (by omega) (by assumption), qst_eq (by simp) (by rw [List.drop_zero, out_take]; simp [bAV]; rfl)⟩)
    | (exact ⟨_, _, _, _, Weak.objs (keep := [2]) (frz := []) (m := 0) (ts := [(0, _), (4, _), (5, _), (6, _)]) (hs := [_]) rfl (by decide) rfl rfl ⟨⟨_, rfl, .arr _ _⟩, ⟨rfl, by simp⟩⟩ ⟨.same (.lit (.string _)) rfl, .same (.lit (.int _ _)) rfl, .ref _ _ _ 0 rfl, .same (.lit (.int _ _)) rfl, trivial⟩, k - 2, by omega, i + 1 + 1, out ++ [(L s).getD 0 0], by omega, hq.twice (by omega) (by assumption) (by assumption), qst_eq (by simp) (by rw [List.drop_zero, out_take]; simp [bAV]; rfl)⟩)
    | exact Returns.pure (r := .tup _) rfl rfl rfl rfl ⟨by first | exact quo_ext (hq.none (by omega)) rfl rfl | exact quo_ext (hq.ends (by omega) (by assumption) (by first | exact .inl (by omega) | exact .inr (by assumption))) (ofInts_nat _) rfl, rfl⟩
    | (exfalso; omega))
end Go.Q
