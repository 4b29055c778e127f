import Derived.Test.YthdklcpkoeehnaaDoorQT9
namespace Go.Q
open Go Go.Proofs
set_option maxRecDepth 10000
set_option maxHeartbeats 4000000

def preL (p : Int → Bool) (l : BS) : Nat := (l.takeWhile fun c => p c.toNat).length
theorem pre_preL (p : Int → Bool) (s : ByteArray) : pre p s = preL p (L s) := rfl
theorem preL_le (p : Int → Bool) (l : BS) : preL p l ≤ l.length := (List.takeWhile_prefix (l := l) _).length_le
def isExp (c : UInt8) : Bool := c == 101 || c == 69 || c == 100 || c == 68
def isSign (c : UInt8) : Bool := c == 43 || c == 45
def expoN (l : BS) : Nat := if decide (1 < l.length) && isSign (l.getD 1 0) then 2 else 1
def expo (l : BS) : Nat :=
  if l = [] ∨ isExp (l.getD 0 0) = false then 0
  else if preL pDigit (l.drop (expoN l)) = 0 then 0 else expoN l + preL pDigit (l.drop (expoN l))

theorem L_nil {s : ByteArray} : s.toList = ({ data := #[] } : ByteArray).toList ↔ L s = [] := by rw [toList_L, toList_L]; rfl
theorem L_nil' {s : ByteArray} : L s = [] ↔ s.size = 0 := by rw [← L_len, List.length_eq_zero_iff]

theorem u8_eq {c : UInt8} {n : Nat} (hn : n < 256) : (c.toNat : Int) = (n : Int) ↔ c = UInt8.ofNat n := by
  constructor
  · intro h
    apply UInt8.toNat_inj.1
    have : c.toNat = n := by omega
    rw [this]; simp [Nat.mod_eq_of_lt hn]
  · rintro rfl
    simp [Nat.mod_eq_of_lt hn]

theorem ext1 {s : ByteArray} (h : 0 < s.size) : (bt (s.extract 0 (1 : Int).toNat) 0).toNat.toUInt8 = (L s).getD 0 0 := by
  rw [bt_L, L_ext]
  have := L_len s
  obtain ⟨c, r, e⟩ : ∃ c r, L s = c :: r := by
    cases hl : L s with
    | nil => rw [hl] at this; simp at this; omega
    | cons c r => exact ⟨c, r, rfl⟩
  rw [e]
  simp

theorem expC (c : UInt8) : 0 ≤ Lib.indexByte (L ⟨#[101, 69, 100, 68]⟩) c ↔ isExp c = true := by
  have e : L ⟨#[101, 69, 100, 68]⟩ = [101, 69, 100, 68] := rfl
  rw [e, isExp]
  simp only [Lib.indexByte, Bool.or_eq_true, beq_iff_eq]
  by_cases h1 : 101 = c
  · simp [← h1]
  by_cases h2 : 69 = c
  · simp [← h2]
  by_cases h3 : 100 = c
  · simp [← h3]
  by_cases h4 : 68 = c
  · simp [← h4]
  simp [h1, h2, h3, h4, Ne.symm h1, Ne.symm h2, Ne.symm h3, Ne.symm h4]

theorem W2 : IntKind.i64.wrap (1 + 1) = 2 := by decide
theorem T1 : (1 : Int).toNat = 1 := rfl
theorem T2 : (2 : Int).toNat = 2 := rfl

theorem expo_a {s : ByteArray} (h : s.size = 0) : expo (L s) = 0 := by
  unfold expo; rw [if_pos (.inl (L_nil'.2 h))]
theorem expo_b {s : ByteArray} (h0 : ¬ s.size = 0) (h : ¬ 0 ≤ Lib.indexByte (L { data := #[101, 69, 100, 68] }) (bt (s.extract 0 (Int.toNat 1)) 0).toNat.toUInt8) : expo (L s) = 0 := by
  unfold expo
  rw [ext1 (by omega), expC] at h
  rw [if_pos (.inr (by simpa using h))]
theorem expo_c {s : ByteArray} {n : Nat} (h0 : ¬ s.size = 0) (h : 0 ≤ Lib.indexByte (L { data := #[101, 69, 100, 68] }) (bt (s.extract 0 (Int.toNat 1)) 0).toNat.toUInt8) (hn : n = expoN (L s)) :
    expo (L s) = if pre pDigit (s.extract n s.size) = 0 then 0 else n + pre pDigit (s.extract n s.size) := by
  unfold expo
  rw [ext1 (by omega), expC] at h
  rw [if_neg (by rw [h, L_nil']; simpa using h0), ← hn, pre_preL, L_ext, List.take_of_length_le (by rw [L_len]; exact Nat.le_refl _)]
theorem expoN2 {s : ByteArray} (h : 1 < s.size) (hb : bt s 1 = 43 ∨ bt s 1 = 45) : 2 = expoN (L s) := by
  unfold expoN
  rw [bt_L, T1] at hb
  have hb' : (L s).getD 1 0 = 43 ∨ (L s).getD 1 0 = 45 := hb.imp (fun h => (u8_eq (n := 43) (by omega)).1 h) (fun h => (u8_eq (n := 45) (by omega)).1 h)
  rw [if_pos]
  simp only [L_len, isSign, Bool.and_eq_true, decide_eq_true_eq, Bool.or_eq_true, beq_iff_eq]
  exact ⟨h, hb'⟩
theorem expoN1 {s : ByteArray} (hb : 1 < s.size → ¬ bt s 1 = 43 ∧ ¬ bt s 1 = 45) : 1 = expoN (L s) := by
  unfold expoN
  rw [if_neg]
  simp only [L_len, isSign, Bool.and_eq_true, decide_eq_true_eq, Bool.or_eq_true, beq_iff_eq]
  rintro ⟨h1, h2⟩
  have := hb h1
  rw [bt_L, T1] at this
  rcases h2 with h2 | h2 <;> rw [h2] at this
  · exact this.1 rfl
  · exact this.2 rfl

theorem pre_le_of {p : Int → Bool} {s : ByteArray} {a b d : Nat} (h : d = pre p (s.extract a b)) : d ≤ s.size := by
  have := pre_le p (s.extract a b)
  rw [ByteArray.size_extract] at this
  omega

theorem exponent_ok (s : ByteArray) (hs : s.size < 2 ^ 46) : Gives Tryd.prog 46 [.lit (.string s)] (.lit (.int .i64 (expo (L s)))) := by
  refine ACalls.of_swp Tryd.func46 rfl (by decide) rfl (st0 := ⟨40, [(0, .lit (.string s))], []⟩) rfl (awp_ok ?_)
  have hl := L_len s
  repeat' ((conv => whnf); first
    | refine Arith.mk ⟨_, w64 (by omega), ?_⟩
    | refine Side.mk (by first | omega | (simp (disch := omega) only [w64]; omega) | (simp; omega) | (simp_all; done)) ?_
    | refine Arith.mk ⟨_, rfl, ?_⟩
    | ((refine ifB_intro (fun hb => ?_) (fun hb => ?_)) <;> (try simp only [List.length_map, decide_eq_true_eq, decide_eq_false_iff_not, beq_iff_eq, bne_iff_ne, beq_eq_false_iff_ne, bne_eq_false_iff_eq, ne_eq, Bool.not_eq_true', Bool.not_eq_false', Bool.not_eq_true, Bool.not_eq_false] at hb) <;> (try simp only [L_nil, L_nil'] at hb))
    | (refine CallN.gives (containsOne_ok _ _ (by simp only [ByteArray.size_extract]; omega)) rfl ?_)
    | ((refine CallN.gen (fun n : Nat => .lit (.int .i64 n)) _ (run_ok 26 pDigit isDigit_ok _ (by simp only [ByteArray.size_extract]; omega)) rfl ?_; intro d hd; have hdl := pre_le_of hd))
    | exact Returns.pure (r := .lit (.int _ _)) rfl rfl rfl rfl ⟨by refine li_ext ?_; first | (rw [expo_a (by omega)]; rfl) | (rw [expo_b (by omega) (by assumption)]; rfl) | (rw [expo_c (n := 2) (by omega) (by assumption) (expoN2 (by omega) (by omega)), ← (show _ = pre pDigit (s.extract 2 s.size) from hd)]; first | (rw [if_pos (by omega)]; rfl) | (rw [if_neg (by omega)]; omega)) | (rw [expo_c (n := 1) (by omega) (by assumption) (expoN1 (by omega)), ← (show _ = pre pDigit (s.extract 1 s.size) from hd)]; first | (rw [if_pos (by omega)]; rfl) | (rw [if_neg (by omega)]; omega)), rfl⟩
    | (exfalso; omega))
end Go.Q
