import Derived.Test.YthdklcpkoeehnaaDoorQT12
namespace Go.Q
open Go Go.Proofs
set_option maxRecDepth 10000
set_option maxHeartbeats 2000000

theorem pre_le_of2 {p : Int → Bool} {s : ByteArray} {a b d : Nat} (h : d = pre p (s.extract a b)) : d ≤ s.size - a := by
  have := pre_le p (s.extract a b)
  rw [ByteArray.size_extract] at this
  omega
theorem ext_nil {s : ByteArray} {a b : Nat} : L (s.extract a b) = [] ↔ min b s.size - a = 0 := by rw [L_nil', ByteArray.size_extract]
theorem LB_nil {w : BS} : L (B w) = [] ↔ w = [] := by rw [L_B]

theorem getD_drop {l : BS} {n i : Nat} : (l.drop n).getD i 0 = l.getD (n + i) 0 := by simp [List.getD, List.getElem?_drop]
theorem getD_take {l : BS} {n i : Nat} (h : i < n) : (l.take n).getD i 0 = l.getD i 0 := by simp [List.getD, List.getElem?_take, h]
theorem bt_ext {s : ByteArray} {n : Nat} : bt (s.extract ((n : Int) + 1).toNat ((n : Int) + 2).toNat) 0 = (((L s).getD (n + 1) 0).toNat : Int) := by
  rw [bt_L, L_ext]
  have e1 : ((n : Int) + 1).toNat = n + 1 := rfl
  have e2 : ((n : Int) + 2).toNat = n + 2 := rfl
  rw [e1, e2, show (0 : Int).toNat = 0 from rfl, getD_drop, getD_take (by omega)]
theorem u8_46 {s : ByteArray} {n : Nat} : bt s (n : Int) = 46 ↔ (L s).getD n 0 = 46 := by
  rw [bt_L]; exact u8_eq (n := 46) (by omega)

section
variable {s : ByteArray} {n d e : Nat} {w : BS}
theorem hp_eq (hn : n = pre pDigit s) : hasPoint (L s) = (decide (n < s.size) && ((L s).getD n 0 == 46) && decide (wordOf ((L s).drop n) = []) && pointOk ((L s).drop (n + 1))) := by
  unfold hasPoint
  rw [← pre_preL, ← hn, L_len]
theorem hp_f1 (hn : n = pre pDigit s) (h : ¬ n < s.size) : hasPoint (L s) = false := by rw [hp_eq hn]; simp [h]
theorem hp_f2 (hn : n = pre pDigit s) (h : ¬ bt s (n : Int) = 46) : hasPoint (L s) = false := by
  rw [u8_46] at h
  rw [hp_eq hn, show ((L s).getD n 0 == 46) = false from by simpa using h]; simp
theorem hp_f3 (hn : n = pre pDigit s) (hw : w = wordOf (L (s.extract (n : Int).toNat s.size))) (h : ¬ w = []) : hasPoint (L s) = false := by
  rw [Int.toNat_natCast, L_drop] at hw
  rw [hp_eq hn, ← hw]; simp [h]
theorem pointOk_eq : pointOk ((L s).drop (n + 1)) = (decide (s.size ≤ n + 1) || !pLetter ((L s).getD (n + 1) 0).toNat || isExp ((L s).getD (n + 1) 0)) := by
  unfold pointOk
  rw [getD_drop]
  congr 2
  rw [decide_eq_decide, List.drop_eq_nil_iff, L_len]
theorem hp_f4 (hn : n = pre pDigit s) (h1 : (n : Int) + 1 < s.size) (h : pLetter (bt (s.extract ((n : Int) + 1).toNat ((n : Int) + 2).toNat) 0) = true) (hx : ¬ 0 ≤ Lib.indexByte (L ⟨#[101, 69, 100, 68]⟩) (bt (s.extract ((n : Int) + 1).toNat ((n : Int) + 2).toNat) 0).toNat.toUInt8) : hasPoint (L s) = false := by
  rw [bt_ext] at h hx
  rw [Int.toNat_natCast, expC] at hx
  rw [hp_eq hn, pointOk_eq, h]
  simp at hx
  have hx' : isExp ((L s).getD (n + 1) 0) = false := by simpa using hx
  rw [hx']
  simp
  intros; omega
theorem hp_t (hn : n = pre pDigit s) (h0 : n < s.size) (h1 : bt s (n : Int) = 46) (hw : w = wordOf (L (s.extract (n : Int).toNat s.size))) (h2 : w = [])
    (h3 : s.size ≤ n + 1 ∨ pLetter (bt (s.extract ((n : Int) + 1).toNat ((n : Int) + 2).toNat) 0) = false ∨ 0 ≤ Lib.indexByte (L ⟨#[101, 69, 100, 68]⟩) (bt (s.extract ((n : Int) + 1).toNat ((n : Int) + 2).toNat) 0).toNat.toUInt8) : hasPoint (L s) = true := by
  rw [bt_ext] at h3
  rw [Int.toNat_natCast, expC] at h3
  rw [Int.toNat_natCast, L_drop, h2] at hw
  rw [u8_46] at h1
  rw [hp_eq hn, pointOk_eq, ← hw, h1]
  simp only [decide_eq_true h0]
  rcases h3 with h3 | h3 | h3
  · simp [h3]
  · rw [h3]; simp
  · have h3' : isExp ((L s).getD (n + 1) 0) = true := by simpa using h3
    rw [h3']; simp
theorem num_F {A : Int} {c : Bool} (hn : n = pre pDigit s) (hF : hasPoint (L s) = false) (he : e = expo (L (s.extract (n : Int).toNat s.size))) (hA : A = n + e) (hc : c = decide (0 < e)) :
    AV.tup [.lit (.int .i64 A), .lit (.bool c)] = .tup [.lit (.int .i64 (numN (L s))), .lit (.bool (numR (L s)))] := by
  have hX : pointN (L s) = n := by unfold pointN; rw [hF, if_neg (by simp), ← pre_preL, hn]
  rw [Int.toNat_natCast, L_drop, ← hX] at he
  have h1 : numN (L s) = n + e := by unfold numN; rw [← he, hX]
  have h2 : numR (L s) = decide (0 < e) := by unfold numR; rw [hF, ← he]; simp
  rw [h1, h2, hA, hc]; rfl
theorem num_T {A : Int} {c : Bool} (hn : n = pre pDigit s) (hT : hasPoint (L s) = true) (hd : d = pre pDigit (s.extract ((n : Int) + 1).toNat s.size)) (he : e = expo (L (s.extract ((n : Int) + (1 + d)).toNat s.size))) (hA : A = n + (1 + d) + e) (hc : c = true) :
    AV.tup [.lit (.int .i64 A), .lit (.bool c)] = .tup [.lit (.int .i64 (numN (L s))), .lit (.bool (numR (L s)))] := by
  have hX : pointN (L s) = n + (1 + d) := by
    unfold pointN
    rw [hT, if_pos rfl, ← pre_preL, ← hn, hd, pre_preL, show ((n : Int) + 1).toNat = n + 1 from rfl, L_drop]
  rw [show ((n : Int) + (1 + (d : Int))).toNat = n + (1 + d) from by omega, L_drop, ← hX] at he
  have h1 : numN (L s) = n + (1 + d) + e := by unfold numN; rw [← he, hX]
  have h2 : numR (L s) = true := by unfold numR; rw [hT]; simp
  rw [h1, h2, hA, hc]; congr 4
end

theorem expo_le (l : BS) : expo l ≤ l.length := by
  unfold expo expoN
  have h1 := preL_le pDigit (l.drop 1)
  have h2 := preL_le pDigit (l.drop 2)
  rw [List.length_drop] at h1 h2
  split
  · omega
  · split
    · split <;> omega
    · split <;> omega
theorem expo_le_of {s : ByteArray} {a b e : Nat} (h : e = expo (L (s.extract a b))) : e ≤ s.size - a := by
  have := expo_le (L (s.extract a b))
  rw [L_len, ByteArray.size_extract] at this
  omega

attribute [local irreducible] expo pre wordOf hasPoint pointN numN numR preL

theorem number_ok (s : ByteArray) (hs : s.size < 2 ^ 46) : Gives Tryd.prog 27 [.lit (.string s)] (.tup [.lit (.int .i64 (numN (L s))), .lit (.bool (numR (L s)))]) := by
  refine ACalls.of_swp Tryd.func27 rfl (by decide) rfl (st0 := ⟨67, [(0, .lit (.string s))], []⟩) rfl (awp_ok ?_)
  have hl := L_len s
  repeat' ((conv => whnf); first
    | refine Arith.mk ⟨_, w64 (by omega), ?_⟩
    | refine Side.mk (by first | omega | (simp only [ByteArray.size_extract]; omega)) ?_
    | refine Arith.mk ⟨_, rfl, ?_⟩
    | ((refine ifB_intro (fun hb => ?_) (fun hb => ?_)) <;> (try simp only [List.length_map, decide_eq_true_eq, decide_eq_false_iff_not, beq_iff_eq, bne_iff_ne, beq_eq_false_iff_ne, bne_eq_false_iff_eq, ne_eq, Bool.not_eq_true', Bool.not_eq_false', Bool.not_eq_true, Bool.not_eq_false] at hb) <;> (try simp only [toList_mk, ext_nil, LB_nil] at hb))
    | (refine CallN.gives (isLetter_ok _) rfl ?_)
    | (refine CallN.gives (containsOne_ok _ _ (by simp only [ByteArray.size_extract]; omega)) rfl ?_)
    | ((refine CallN.gen (fun n : Nat => .lit (.int .i64 n)) _ (run_ok 26 pDigit isDigit_ok s (by omega)) rfl ?_; intro n hn; have hnl : n ≤ s.size := hn ▸ pre_le _ _))
    | ((refine CallN.gen (fun n : Nat => .lit (.int .i64 n)) _ (run_ok 26 pDigit isDigit_ok _ (by simp only [ByteArray.size_extract]; omega)) rfl ?_; intro d hd; have hdl := pre_le_of2 hd))
    | ((refine CallN.gen (fun b : BS => .lit (.string (B b))) _ (word_ok _ (by simp only [ByteArray.size_extract]; omega)) rfl ?_; intro w hw))
    | ((refine CallN.gen (fun n : Nat => .lit (.int .i64 n)) _ (exponent_ok _ (by simp only [ByteArray.size_extract]; omega)) rfl ?_; intro e he; have hel := expo_le_of he))
    | ((exfalso; exact hb trivial))
    | exact Returns.pure (r := .tup _) rfl rfl rfl rfl ⟨by first | (exfalso; omega) | exact num_T hn (hp_t hn (by omega) (by assumption) hw (by assumption) (by first | exact .inl (by omega) | exact .inr (.inl (by assumption)) | exact .inr (.inr (by assumption)))) hd he (by omega) rfl | exact num_F hn (by first | exact hp_f1 hn (by omega) | exact hp_f2 hn (by assumption) | exact hp_f3 hn hw (by assumption) | exact hp_f4 hn (by assumption) (by assumption) (by assumption)) he (by omega) (by simp; omega), rfl⟩
    | (exfalso; omega))
end Go.Q
