import Derived.Test.YthdklcpkoeehnaaDoorQS
import Derived.Test.YthdklcpkoeehnaaDoorProg
namespace Go.Q
open Go Go.Proofs
set_option maxRecDepth 10000

def pText (c : Int) : Bool := decide (32 ≤ c) && decide (c ≤ 126)
def pLetter (c : Int) : Bool := (decide (97 ≤ c) && decide (c ≤ 122)) || (decide (65 ≤ c) && decide (c ≤ 90))
def pDigit (c : Int) : Bool := decide (48 ≤ c) && decide (c ≤ 57)
def pPart (c : Int) : Bool := pLetter c || pDigit c || decide (c = 95)

theorem isText_ok (a : Int) : Gives Tryd.prog 14 [.lit (.int .u8 a)] (.lit (.bool (pText a))) := by
  refine ACalls.of_swp Tryd.func14 rfl (by decide) rfl (st0 := ⟨9, [(0, .lit (.int .u8 a))], []⟩) rfl (awp_ok ?_)
  repeat' ((conv => whnf); first
    | refine Arith.mk ⟨_, w64 (by omega), ?_⟩
    | refine Side.mk (by first | omega | (simp (disch := omega) only [w64]; omega) | (simp; omega) | (simp_all; done)) ?_
    | refine Arith.mk ⟨_, rfl, ?_⟩
    | ((refine ifB_intro (fun hb => ?_) (fun hb => ?_)) <;> (try simp only [List.length_map, decide_eq_true_eq, decide_eq_false_iff_not, beq_iff_eq, bne_iff_ne, beq_eq_false_iff_ne, bne_eq_false_iff_eq, ne_eq, Bool.not_eq_true', Bool.not_eq_false', Bool.not_eq_true, Bool.not_eq_false] at hb))
    | exact Returns.pure (r := .lit (.bool _)) rfl rfl rfl rfl ⟨by exact lb_ext (by simp [pText] <;> omega), rfl⟩
    | (exfalso; omega))

theorem isLetter_ok (a : Int) : Gives Tryd.prog 19 [.lit (.int .u8 a)] (.lit (.bool (pLetter a))) := by
  refine ACalls.of_swp Tryd.func19 rfl (by decide) rfl (st0 := ⟨17, [(0, .lit (.int .u8 a))], []⟩) rfl (awp_ok ?_)
  repeat' ((conv => whnf); first
    | refine Arith.mk ⟨_, w64 (by omega), ?_⟩
    | refine Side.mk (by first | omega | (simp (disch := omega) only [w64]; omega) | (simp; omega) | (simp_all; done)) ?_
    | refine Arith.mk ⟨_, rfl, ?_⟩
    | ((refine ifB_intro (fun hb => ?_) (fun hb => ?_)) <;> (try simp only [List.length_map, decide_eq_true_eq, decide_eq_false_iff_not, beq_iff_eq, bne_iff_ne, beq_eq_false_iff_ne, bne_eq_false_iff_eq, ne_eq, Bool.not_eq_true', Bool.not_eq_false', Bool.not_eq_true, Bool.not_eq_false] at hb))
    | exact Returns.pure (r := .lit (.bool _)) rfl rfl rfl rfl ⟨by exact lb_ext (by simp [pLetter] <;> omega), rfl⟩
    | (exfalso; omega))

theorem isDigit_ok (a : Int) : Gives Tryd.prog 26 [.lit (.int .u8 a)] (.lit (.bool (pDigit a))) := by
  refine ACalls.of_swp Tryd.func26 rfl (by decide) rfl (st0 := ⟨9, [(0, .lit (.int .u8 a))], []⟩) rfl (awp_ok ?_)
  repeat' ((conv => whnf); first
    | refine Arith.mk ⟨_, w64 (by omega), ?_⟩
    | refine Side.mk (by first | omega | (simp (disch := omega) only [w64]; omega) | (simp; omega) | (simp_all; done)) ?_
    | refine Arith.mk ⟨_, rfl, ?_⟩
    | ((refine ifB_intro (fun hb => ?_) (fun hb => ?_)) <;> (try simp only [List.length_map, decide_eq_true_eq, decide_eq_false_iff_not, beq_iff_eq, bne_iff_ne, beq_eq_false_iff_ne, bne_eq_false_iff_eq, ne_eq, Bool.not_eq_true', Bool.not_eq_false', Bool.not_eq_true, Bool.not_eq_false] at hb))
    | exact Returns.pure (r := .lit (.bool _)) rfl rfl rfl rfl ⟨by exact lb_ext (by simp [pDigit] <;> omega), rfl⟩
    | (exfalso; omega))

theorem isPart_ok (a : Int) : Gives Tryd.prog 20 [.lit (.int .u8 a)] (.lit (.bool (pPart a))) := by
  refine ACalls.of_swp Tryd.func20 rfl (by decide) rfl (st0 := ⟨13, [(0, .lit (.int .u8 a))], []⟩) rfl (awp_ok ?_)
  repeat' ((conv => whnf); first
    | refine Arith.mk ⟨_, w64 (by omega), ?_⟩
    | refine Side.mk (by first | omega | (simp (disch := omega) only [w64]; omega) | (simp; omega) | (simp_all; done)) ?_
    | refine Arith.mk ⟨_, rfl, ?_⟩
    | ((refine ifB_intro (fun hb => ?_) (fun hb => ?_)) <;> (try simp only [List.length_map, decide_eq_true_eq, decide_eq_false_iff_not, beq_iff_eq, bne_iff_ne, beq_eq_false_iff_ne, bne_eq_false_iff_eq, ne_eq, Bool.not_eq_true', Bool.not_eq_false', Bool.not_eq_true, Bool.not_eq_false] at hb))
    | (refine CallN.gives (isLetter_ok _) rfl ?_)
    | (refine CallN.gives (isDigit_ok _) rfl ?_)
    | exact Returns.pure (r := .lit (.bool _)) rfl rfl rfl rfl ⟨by exact lb_ext (by simp_all [pPart]), rfl⟩
    | (exfalso; omega))
end Go.Q
