import Derived.Test.YthdklcpkoeehnaaDoorQT10
namespace Go.Q
open Go Go.Proofs
set_option maxRecDepth 10000
set_option maxHeartbeats 4000000

theorem L_drop {s : ByteArray} {n : Nat} : L (s.extract n s.size) = (L s).drop n := by
  rw [L_ext, List.take_of_length_le (by rw [L_len]; exact Nat.le_refl _)]
def isInt (l : BS) : Bool := decide (1 ≤ l.length) && decide (l.length ≤ 10) && (preL pDigit l == l.length)
def isName (l : BS) : Bool := decide (l ≠ []) && decide (l.length ≤ 12) && pLetter (l.getD 0 0).toNat && (preL pPart l == l.length) && (l == small l)

theorem isInt_ok (s : ByteArray) (hs : s.size < 2 ^ 46) : Gives Tryd.prog 32 [.lit (.string s)] (.lit (.bool (isInt (L s)))) := by
  refine ACalls.of_swp Tryd.func32 rfl (by decide) rfl (st0 := ⟨18, [(0, .lit (.string s))], []⟩) rfl (awp_ok ?_)
  have hl := L_len s
  repeat' ((conv => whnf); first
    | refine Arith.mk ⟨_, w64 (by omega), ?_⟩
    | refine Side.mk (by first | omega | (simp (disch := omega) only [w64]; omega) | (simp; omega) | (simp_all; done)) ?_
    | refine Arith.mk ⟨_, rfl, ?_⟩
    | ((refine ifB_intro (fun hb => ?_) (fun hb => ?_)) <;> (try simp only [List.length_map, decide_eq_true_eq, decide_eq_false_iff_not, beq_iff_eq, bne_iff_ne, beq_eq_false_iff_ne, bne_eq_false_iff_eq, ne_eq, Bool.not_eq_true', Bool.not_eq_false', Bool.not_eq_true, Bool.not_eq_false] at hb))
    | (refine CallN.gives (run_ok 26 pDigit isDigit_ok _ (by omega)) rfl ?_)
    | exact Returns.pure (r := .lit (.bool _)) rfl rfl rfl rfl ⟨by refine lb_ext ?_; simp only [isInt, hl, ← pre_preL, Bool.and_eq_true, decide_eq_true_eq, beq_iff_eq, Bool.false_eq_true]; constructor <;> intro h <;> first | omega | exact h.elim, rfl⟩
    | (exfalso; omega))

theorem isName_ok (s : ByteArray) (hs : s.size < 2 ^ 46) : Gives Tryd.prog 31 [.lit (.string s)] (.lit (.bool (isName (L s)))) := by
  refine ACalls.of_swp Tryd.func31 rfl (by decide) rfl (st0 := ⟨28, [(0, .lit (.string s))], []⟩) rfl (awp_ok ?_)
  have hl := L_len s
  have e0 : bt s 0 = (((L s).getD 0 0).toNat : Int) := rfl
  repeat' ((conv => whnf); first
    | refine Arith.mk ⟨_, w64 (by omega), ?_⟩
    | refine Side.mk (by first | omega | (simp (disch := omega) only [w64]; omega) | (simp; omega) | (simp_all; done)) ?_
    | refine Arith.mk ⟨_, rfl, ?_⟩
    | ((refine ifB_intro (fun hb => ?_) (fun hb => ?_)) <;> (try simp only [List.length_map, decide_eq_true_eq, decide_eq_false_iff_not, beq_iff_eq, bne_iff_ne, beq_eq_false_iff_ne, bne_eq_false_iff_eq, ne_eq, Bool.not_eq_true', Bool.not_eq_false', Bool.not_eq_true, Bool.not_eq_false] at hb) <;> (try simp only [L_nil, L_nil'] at hb))
    | (refine CallN.gives (isLetter_ok _) rfl ?_)
    | (refine CallN.gives (run_ok 20 pPart isPart_ok _ (by omega)) rfl ?_)
    | (refine CallN.gives (small_ok _ (by omega)) rfl ?_)
    | exact Returns.pure (r := .lit (.bool _)) rfl rfl rfl rfl ⟨by refine lb_ext ?_; (try rw [toList_L, toList_L, L_B]); simp only [isName, hl, ← e0, ← pre_preL, Bool.and_eq_true, decide_eq_true_eq, beq_iff_eq, Bool.false_eq_true, ne_eq, L_nil']; (constructor <;> intro h <;> first | omega | exact h.elim | exact h.2 | exact ⟨⟨⟨⟨by omega, by omega⟩, by assumption⟩, by omega⟩, h⟩ | (rw [‹pLetter (bt s 0) = false›] at h; exact absurd h.1.1.2 (by simp))), rfl⟩
    | (exfalso; omega))

theorem validD1_ok (ws : List BS) (hw : ws.length < 2 ^ 62) (a t : ByteArray) : ACalls Tryd.prog 30 [.vs 1 (ws.map strAV), .ptr 0 0] [.box [.lit (.string a), .lit (.string t)]] (fun r h => r = .lit (.bool (decide (L t ∈ ws))) ∧ h = [.box [.lit (.string a), .lit (.string t)]]) := by
  refine ACalls.of_swp Tryd.func30 rfl (by decide) rfl (st0 := ⟨8, [(0, .vs 1 (ws.map strAV)), (1, .ptr 0 0)], [.box [.lit (.string a), .lit (.string t)]]⟩) rfl (awp_ok ?_)
  repeat' ((conv => whnf); first
    | refine Arith.mk ⟨_, w64 (by omega), ?_⟩
    | refine Side.mk (by first | omega | (simp (disch := omega) only [w64]; omega) | (simp; omega) | (simp_all; done)) ?_
    | refine Arith.mk ⟨_, rfl, ?_⟩
    | ((refine ifB_intro (fun hb => ?_) (fun hb => ?_)) <;> (try simp only [List.length_map, decide_eq_true_eq, decide_eq_false_iff_not, beq_iff_eq, bne_iff_ne, beq_eq_false_iff_ne, bne_eq_false_iff_eq, ne_eq, Bool.not_eq_true', Bool.not_eq_false', Bool.not_eq_true, Bool.not_eq_false] at hb))
    | (refine CallN.gives (contains_ok ws t hw) rfl ?_)
    | (exact ⟨.inr rfl, _, rfl, [0], [], 0, _, [_], WH.of (by decide) rfl rfl ⟨⟨_, rfl, WO.refl rfl⟩, rfl, by simp⟩, .same _ rfl, rfl, rfl⟩)
    | (exfalso; omega))
end Go.Q
