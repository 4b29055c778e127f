/- Names of functions; slices of texts. -/
import Derived.Test.YtemmhailjfdfdaaGreatAFE
import Derived.Test.YtemmhailjfdfdaaGreatAG2
import Derived.Test.YtemmhailjfdfdaaGreatPC
namespace Go.Q
open Go
set_option maxRecDepth 10000
set_option maxHeartbeats 2000000

def BL (ws : List BS) : List ByteArray := ws.map B
theorem BL_get {ws : List BS} {i : Nat} (h : i < ws.length) : (BL ws)[i]? = some (B ws[i]) := by simp [BL, h]
theorem BL_len (ws : List BS) : (BL ws).length = ws.length := by simp [BL]

theorem idx_l0 (ws : List BS) (v : ByteArray) (hw : ws.length < 2 ^ 62) : ∀ k n : Nat, n + k = ws.length → (∀ j (h1 : j < ws.length), j < n → L v ≠ ws[j]) → Slcs.Index___string_string_.l0 (BL ws) v ws.length n = some (idxS ws (L v)) := by
  intro k
  induction k with
  | zero =>
    intro n hn hj
    rw [Slcs.Index___string_string_.l0_eq, Slcs.Index___string_string_.s0]
    simp only [letk]
    rw [decide_eq_false (by omega : ¬ (n : Int) < (ws.length : Int))]
    simp only [cond, Option.bind_some, Sum.elim_inr]
    rw [idxS_none hj (by omega)]
  | succ k ih =>
    intro n hn hj
    have hlt : n < ws.length := by omega
    rw [Slcs.Index___string_string_.l0_eq, Slcs.Index___string_string_.s0]
    simp only [letk]
    rw [decide_eq_true (by omega : (n : Int) < (ws.length : Int))]
    simp only [cond]
    rw [chk_pos (by omega), Int.toNat_natCast, BL_get hlt]
    simp only [Option.bind_some, eqL, L_B]
    by_cases he : L v = ws[n]
    · simp only [he, beq_self_eq_true, Option.bind_some, Sum.elim_inr]
      rw [← he, idxS_found hj hlt he]
    · rw [show (L v == ws[n]) = false from beq_eq_false_iff_ne.2 he, w64n (by omega) (by omega)]
      simp only [Option.bind_some, Sum.elim_inl]
      exact ih (n + 1) (by omega) (ne_succ hj hlt he)

theorem idx_nonneg (ws : List BS) (v : BS) : decide (idxS ws v ≥ 0) = decide (v ∈ ws) := by
  unfold idxS
  split <;> rename_i h <;> simp [h]

theorem contains_eq (ws : List BS) (v : ByteArray) (hw : ws.length < 2 ^ 62) : Slcs.Contains___string_string_ (BL ws) v = some (decide (L v ∈ ws)) := by
  unfold Slcs.Contains___string_string_ Slcs.Index___string_string_
  simp only [letk, BL_len]
  have := idx_l0 ws v hw ws.length 0 (by omega) (fun j _ h => by omega)
  rw [show ((0 : Nat) : Int) = 0 from rfl] at this
  rw [this]
  simp only [Option.bind_some, idx_nonneg]

def nms : List BS := [[97, 98, 115], [97, 108, 108], [97, 110, 121], [99, 111, 117, 110, 116], [99, 115, 104, 105, 102, 116], [100, 98, 108, 101], [105, 110, 116], [109, 97, 116, 109, 117, 108], [109, 97, 120], [109, 97, 120, 108, 111, 99], [109, 97, 120, 118, 97, 108], [109, 101, 114, 103, 101], [109, 105, 110], [109, 105, 110, 108, 111, 99], [109, 105, 110, 118, 97, 108], [109, 111, 100], [112, 97, 99, 107], [112, 114, 111, 100, 117, 99, 116], [114, 101, 97, 108], [114, 101, 115, 104, 97, 112, 101], [115, 104, 97, 112, 101], [115, 105, 122, 101], [115, 112, 114, 101, 97, 100], [115, 113, 114, 116], [115, 117, 109], [116, 114, 97, 110, 115, 112, 111, 115, 101]]
def nms2 : List BS := [[109, 97, 120], [109, 105, 110], [109, 111, 100], [99, 115, 104, 105, 102, 116], [109, 97, 116, 109, 117, 108], [112, 97, 99, 107], [114, 101, 115, 104, 97, 112, 101], [115, 112, 114, 101, 97, 100]]
def ar (l : BS) : Int × Int := if l ∈ nms2 then (2, 2) else if l = [109, 101, 114, 103, 101] then (3, 3) else if l ∈ nms then (1, 1) else (0, 0)
theorem Arr.Names_eq : Arr.Names = some (BL nms) := rfl
theorem Ref7.Names_eq : Ref7.Names = some (BL nms) := rfl
theorem Arr.Arity_eq (x : ByteArray) : Arr.Arity x = some (ar (L x)) := by
  unfold Arr.Arity
  simp only [Arr.Arity.j0, Arr.Arity.j1, letk, eqL]
  simp only [Arr.Names_eq, Option.bind_some, contains_eq nms x (by decide)]
  generalize L x = l
  by_cases h0 : l = [97, 98, 115]
  · subst h0; decide
  by_cases h1 : l = [97, 108, 108]
  · subst h1; decide
  by_cases h2 : l = [97, 110, 121]
  · subst h2; decide
  by_cases h3 : l = [99, 111, 117, 110, 116]
  · subst h3; decide
  by_cases h4 : l = [99, 115, 104, 105, 102, 116]
  · subst h4; decide
  by_cases h5 : l = [100, 98, 108, 101]
  · subst h5; decide
  by_cases h6 : l = [105, 110, 116]
  · subst h6; decide
  by_cases h7 : l = [109, 97, 116, 109, 117, 108]
  · subst h7; decide
  by_cases h8 : l = [109, 97, 120]
  · subst h8; decide
  by_cases h9 : l = [109, 97, 120, 108, 111, 99]
  · subst h9; decide
  by_cases h10 : l = [109, 97, 120, 118, 97, 108]
  · subst h10; decide
  by_cases h11 : l = [109, 101, 114, 103, 101]
  · subst h11; decide
  by_cases h12 : l = [109, 105, 110]
  · subst h12; decide
  by_cases h13 : l = [109, 105, 110, 108, 111, 99]
  · subst h13; decide
  by_cases h14 : l = [109, 105, 110, 118, 97, 108]
  · subst h14; decide
  by_cases h15 : l = [109, 111, 100]
  · subst h15; decide
  by_cases h16 : l = [112, 97, 99, 107]
  · subst h16; decide
  by_cases h17 : l = [112, 114, 111, 100, 117, 99, 116]
  · subst h17; decide
  by_cases h18 : l = [114, 101, 97, 108]
  · subst h18; decide
  by_cases h19 : l = [114, 101, 115, 104, 97, 112, 101]
  · subst h19; decide
  by_cases h20 : l = [115, 104, 97, 112, 101]
  · subst h20; decide
  by_cases h21 : l = [115, 105, 122, 101]
  · subst h21; decide
  by_cases h22 : l = [115, 112, 114, 101, 97, 100]
  · subst h22; decide
  by_cases h23 : l = [115, 113, 114, 116]
  · subst h23; decide
  by_cases h24 : l = [115, 117, 109]
  · subst h24; decide
  by_cases h25 : l = [116, 114, 97, 110, 115, 112, 111, 115, 101]
  · subst h25; decide
  have hn : l ∉ nms := by simp only [nms, List.mem_cons, List.not_mem_nil, or_false, not_or]; exact ⟨h0, h1, h2, h3, h4, h5, h6, h7, h8, h9, h10, h11, h12, h13, h14, h15, h16, h17, h18, h19, h20, h21, h22, h23, h24, h25⟩
  have hn2 : l ∉ nms2 := by simp only [nms2, List.mem_cons, List.not_mem_nil, or_false, not_or]; exact ⟨h8, h12, h15, h4, h7, h16, h19, h22⟩
  have e : ar l = (0, 0) := by unfold ar; rw [if_neg hn2, if_neg h11, if_neg hn]
  rw [e]
  have b0 : (l == L ⟨#[97, 98, 115]⟩) = false := beq_eq_false_iff_ne.2 h0
  have b1 : (l == L ⟨#[97, 108, 108]⟩) = false := beq_eq_false_iff_ne.2 h1
  have b2 : (l == L ⟨#[97, 110, 121]⟩) = false := beq_eq_false_iff_ne.2 h2
  have b3 : (l == L ⟨#[99, 111, 117, 110, 116]⟩) = false := beq_eq_false_iff_ne.2 h3
  have b4 : (l == L ⟨#[99, 115, 104, 105, 102, 116]⟩) = false := beq_eq_false_iff_ne.2 h4
  have b5 : (l == L ⟨#[100, 98, 108, 101]⟩) = false := beq_eq_false_iff_ne.2 h5
  have b6 : (l == L ⟨#[105, 110, 116]⟩) = false := beq_eq_false_iff_ne.2 h6
  have b7 : (l == L ⟨#[109, 97, 116, 109, 117, 108]⟩) = false := beq_eq_false_iff_ne.2 h7
  have b8 : (l == L ⟨#[109, 97, 120]⟩) = false := beq_eq_false_iff_ne.2 h8
  have b9 : (l == L ⟨#[109, 97, 120, 108, 111, 99]⟩) = false := beq_eq_false_iff_ne.2 h9
  have b10 : (l == L ⟨#[109, 97, 120, 118, 97, 108]⟩) = false := beq_eq_false_iff_ne.2 h10
  have b11 : (l == L ⟨#[109, 101, 114, 103, 101]⟩) = false := beq_eq_false_iff_ne.2 h11
  have b12 : (l == L ⟨#[109, 105, 110]⟩) = false := beq_eq_false_iff_ne.2 h12
  have b13 : (l == L ⟨#[109, 105, 110, 108, 111, 99]⟩) = false := beq_eq_false_iff_ne.2 h13
  have b14 : (l == L ⟨#[109, 105, 110, 118, 97, 108]⟩) = false := beq_eq_false_iff_ne.2 h14
  have b15 : (l == L ⟨#[109, 111, 100]⟩) = false := beq_eq_false_iff_ne.2 h15
  have b16 : (l == L ⟨#[112, 97, 99, 107]⟩) = false := beq_eq_false_iff_ne.2 h16
  have b17 : (l == L ⟨#[112, 114, 111, 100, 117, 99, 116]⟩) = false := beq_eq_false_iff_ne.2 h17
  have b18 : (l == L ⟨#[114, 101, 97, 108]⟩) = false := beq_eq_false_iff_ne.2 h18
  have b19 : (l == L ⟨#[114, 101, 115, 104, 97, 112, 101]⟩) = false := beq_eq_false_iff_ne.2 h19
  have b20 : (l == L ⟨#[115, 104, 97, 112, 101]⟩) = false := beq_eq_false_iff_ne.2 h20
  have b21 : (l == L ⟨#[115, 105, 122, 101]⟩) = false := beq_eq_false_iff_ne.2 h21
  have b22 : (l == L ⟨#[115, 112, 114, 101, 97, 100]⟩) = false := beq_eq_false_iff_ne.2 h22
  have b23 : (l == L ⟨#[115, 113, 114, 116]⟩) = false := beq_eq_false_iff_ne.2 h23
  have b24 : (l == L ⟨#[115, 117, 109]⟩) = false := beq_eq_false_iff_ne.2 h24
  have b25 : (l == L ⟨#[116, 114, 97, 110, 115, 112, 111, 115, 101]⟩) = false := beq_eq_false_iff_ne.2 h25
  simp only [b0, b1, b2, b3, b4, b5, b6, b7, b8, b9, b10, b11, b12, b13, b14, b15, b16, b17, b18, b19, b20, b21, b22, b23, b24, b25, cond, decide_eq_false hn]

theorem Ref7.Arity_eq (x : ByteArray) : Ref7.Arity x = some (ar (L x)) := by
  unfold Ref7.Arity
  simp only [Ref7.Arity.j0, Ref7.Arity.j1, letk, eqL]
  generalize L x = l
  by_cases h0 : l = [97, 98, 115]
  · subst h0; decide
  by_cases h1 : l = [97, 108, 108]
  · subst h1; decide
  by_cases h2 : l = [97, 110, 121]
  · subst h2; decide
  by_cases h3 : l = [99, 111, 117, 110, 116]
  · subst h3; decide
  by_cases h4 : l = [99, 115, 104, 105, 102, 116]
  · subst h4; decide
  by_cases h5 : l = [100, 98, 108, 101]
  · subst h5; decide
  by_cases h6 : l = [105, 110, 116]
  · subst h6; decide
  by_cases h7 : l = [109, 97, 116, 109, 117, 108]
  · subst h7; decide
  by_cases h8 : l = [109, 97, 120]
  · subst h8; decide
  by_cases h9 : l = [109, 97, 120, 108, 111, 99]
  · subst h9; decide
  by_cases h10 : l = [109, 97, 120, 118, 97, 108]
  · subst h10; decide
  by_cases h11 : l = [109, 101, 114, 103, 101]
  · subst h11; decide
  by_cases h12 : l = [109, 105, 110]
  · subst h12; decide
  by_cases h13 : l = [109, 105, 110, 108, 111, 99]
  · subst h13; decide
  by_cases h14 : l = [109, 105, 110, 118, 97, 108]
  · subst h14; decide
  by_cases h15 : l = [109, 111, 100]
  · subst h15; decide
  by_cases h16 : l = [112, 97, 99, 107]
  · subst h16; decide
  by_cases h17 : l = [112, 114, 111, 100, 117, 99, 116]
  · subst h17; decide
  by_cases h18 : l = [114, 101, 97, 108]
  · subst h18; decide
  by_cases h19 : l = [114, 101, 115, 104, 97, 112, 101]
  · subst h19; decide
  by_cases h20 : l = [115, 104, 97, 112, 101]
  · subst h20; decide
  by_cases h21 : l = [115, 105, 122, 101]
  · subst h21; decide
  by_cases h22 : l = [115, 112, 114, 101, 97, 100]
  · subst h22; decide
  by_cases h23 : l = [115, 113, 114, 116]
  · subst h23; decide
  by_cases h24 : l = [115, 117, 109]
  · subst h24; decide
  by_cases h25 : l = [116, 114, 97, 110, 115, 112, 111, 115, 101]
  · subst h25; decide
  have hn : l ∉ nms := by simp only [nms, List.mem_cons, List.not_mem_nil, or_false, not_or]; exact ⟨h0, h1, h2, h3, h4, h5, h6, h7, h8, h9, h10, h11, h12, h13, h14, h15, h16, h17, h18, h19, h20, h21, h22, h23, h24, h25⟩
  have hn2 : l ∉ nms2 := by simp only [nms2, List.mem_cons, List.not_mem_nil, or_false, not_or]; exact ⟨h8, h12, h15, h4, h7, h16, h19, h22⟩
  have e : ar l = (0, 0) := by unfold ar; rw [if_neg hn2, if_neg h11, if_neg hn]
  rw [e]
  have b0 : (l == L ⟨#[97, 98, 115]⟩) = false := beq_eq_false_iff_ne.2 h0
  have b1 : (l == L ⟨#[97, 108, 108]⟩) = false := beq_eq_false_iff_ne.2 h1
  have b2 : (l == L ⟨#[97, 110, 121]⟩) = false := beq_eq_false_iff_ne.2 h2
  have b3 : (l == L ⟨#[99, 111, 117, 110, 116]⟩) = false := beq_eq_false_iff_ne.2 h3
  have b4 : (l == L ⟨#[99, 115, 104, 105, 102, 116]⟩) = false := beq_eq_false_iff_ne.2 h4
  have b5 : (l == L ⟨#[100, 98, 108, 101]⟩) = false := beq_eq_false_iff_ne.2 h5
  have b6 : (l == L ⟨#[105, 110, 116]⟩) = false := beq_eq_false_iff_ne.2 h6
  have b7 : (l == L ⟨#[109, 97, 116, 109, 117, 108]⟩) = false := beq_eq_false_iff_ne.2 h7
  have b8 : (l == L ⟨#[109, 97, 120]⟩) = false := beq_eq_false_iff_ne.2 h8
  have b9 : (l == L ⟨#[109, 97, 120, 108, 111, 99]⟩) = false := beq_eq_false_iff_ne.2 h9
  have b10 : (l == L ⟨#[109, 97, 120, 118, 97, 108]⟩) = false := beq_eq_false_iff_ne.2 h10
  have b11 : (l == L ⟨#[109, 101, 114, 103, 101]⟩) = false := beq_eq_false_iff_ne.2 h11
  have b12 : (l == L ⟨#[109, 105, 110]⟩) = false := beq_eq_false_iff_ne.2 h12
  have b13 : (l == L ⟨#[109, 105, 110, 108, 111, 99]⟩) = false := beq_eq_false_iff_ne.2 h13
  have b14 : (l == L ⟨#[109, 105, 110, 118, 97, 108]⟩) = false := beq_eq_false_iff_ne.2 h14
  have b15 : (l == L ⟨#[109, 111, 100]⟩) = false := beq_eq_false_iff_ne.2 h15
  have b16 : (l == L ⟨#[112, 97, 99, 107]⟩) = false := beq_eq_false_iff_ne.2 h16
  have b17 : (l == L ⟨#[112, 114, 111, 100, 117, 99, 116]⟩) = false := beq_eq_false_iff_ne.2 h17
  have b18 : (l == L ⟨#[114, 101, 97, 108]⟩) = false := beq_eq_false_iff_ne.2 h18
  have b19 : (l == L ⟨#[114, 101, 115, 104, 97, 112, 101]⟩) = false := beq_eq_false_iff_ne.2 h19
  have b20 : (l == L ⟨#[115, 104, 97, 112, 101]⟩) = false := beq_eq_false_iff_ne.2 h20
  have b21 : (l == L ⟨#[115, 105, 122, 101]⟩) = false := beq_eq_false_iff_ne.2 h21
  have b22 : (l == L ⟨#[115, 112, 114, 101, 97, 100]⟩) = false := beq_eq_false_iff_ne.2 h22
  have b23 : (l == L ⟨#[115, 113, 114, 116]⟩) = false := beq_eq_false_iff_ne.2 h23
  have b24 : (l == L ⟨#[115, 117, 109]⟩) = false := beq_eq_false_iff_ne.2 h24
  have b25 : (l == L ⟨#[116, 114, 97, 110, 115, 112, 111, 115, 101]⟩) = false := beq_eq_false_iff_ne.2 h25
  simp only [b0, b1, b2, b3, b4, b5, b6, b7, b8, b9, b10, b11, b12, b13, b14, b15, b16, b17, b18, b19, b20, b21, b22, b23, b24, b25, cond]

end Go.Q
