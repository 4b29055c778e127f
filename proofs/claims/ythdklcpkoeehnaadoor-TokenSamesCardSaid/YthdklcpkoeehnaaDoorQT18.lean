import Derived.Test.YthdklcpkoeehnaaDoorQT17
namespace Go.Q
open Go Go.Proofs
set_option maxRecDepth 10000
set_option maxHeartbeats 2000000

def awk : ByteArray := ⟨#[97, 40, 49, 58, 50, 41, 61, 98, 37, 99]⟩
def awkT : List (BS × BS) := [(kName, [97]), (kOp, [40]), (kInt, [49]), (kOp, [58]), (kInt, [50]), (kOp, [41]), (kOp, [61]), (kName, [98]), (kOp, [37]), (kName, [99])]
theorem awk_scan : scanSpec (L awk) = (awkT, 0, 0) := by decide +kernel
theorem awk_real : ∀ i, i < 10 → numR ((L awk).drop i) = false := by decide +kernel

theorem awkScan_ok : Gives Tryd.prog 8 [.lit (.string ⟨#[97, 40, 49, 58, 50, 41, 61, 98, 37, 99]⟩)] (.tup [.vs 2 (awkT.map tkL), .lit (.int .i64 0), .lit (.int .i64 0)]) := by
  have h := scan_ok awk (by decide) (fun i hi h => by rw [awk_real i hi] at h; cases h)
  rw [awk_scan] at h
  exact h

theorem awake_ok : Gives Tryd.prog 7 [] (.lit (.bool true)) := by
  refine ACalls.of_swp Tryd.func7 rfl (by decide) rfl (st0 := ⟨34, [], []⟩) rfl (awp_ok ?_)
  repeat' ((conv => whnf); first
    | refine Arith.mk ⟨_, w64 (by omega), ?_⟩
    | refine Side.mk (by decide) ?_
    | refine Arith.mk ⟨_, rfl, ?_⟩
    | (refine EqS.mk ⟨_, tok_flat, ?_⟩)
    | ((refine ifB_intro (fun hb => ?_) (fun hb => ?_)) <;> (try simp only [List.length_map, decide_eq_true_eq, decide_eq_false_iff_not, beq_iff_eq, bne_iff_ne, beq_eq_false_iff_ne, bne_eq_false_iff_eq, ne_eq, Bool.not_eq_true', Bool.not_eq_false', Bool.not_eq_true, Bool.not_eq_false] at hb) <;> (try simp only [toList_mk] at hb))
    | (refine CallN.gives (awkScan_ok) rfl ?_)
    | (refine At.mk ⟨_, rfl, ?_⟩)
    | exact Returns.pure (r := .lit (.bool _)) rfl rfl rfl rfl ⟨by first | (exfalso; rw [beq_L2, beq_L2] at hb; revert hb; decide) | exact lb_ext (by simp only [beq_iff_eq, toList_mk]; decide), rfl⟩
    | (exfalso; omega))

theorem same_ok (l m : List TK) (hl : l.length < 2 ^ 63) (hm : m.length < 2 ^ 63) : Gives Tryd.prog 10 [.vs 2 (l.map tkAV), .vs 2 (m.map tkAV)] (.lit (.bool (decide (l = m)))) := by
  refine ACalls.of_swp Tryd.func10 rfl (by decide) rfl (st0 := ⟨8, [(0, .vs 2 (l.map tkAV)), (1, .vs 2 (m.map tkAV))], []⟩) rfl (awp_ok ?_)
  repeat' ((conv => whnf); first
    | refine Arith.mk ⟨_, w64 (by omega), ?_⟩
    | refine Side.mk (by first | omega | (simp (disch := omega) only [w64]; omega) | (simp; omega) | (simp_all; done)) ?_
    | refine Arith.mk ⟨_, rfl, ?_⟩
    | ((refine ifB_intro (fun hb => ?_) (fun hb => ?_)) <;> (try simp only [List.length_map, decide_eq_true_eq, decide_eq_false_iff_not, beq_iff_eq, bne_iff_ne, beq_eq_false_iff_ne, bne_eq_false_iff_eq, ne_eq, Bool.not_eq_true', Bool.not_eq_false', Bool.not_eq_true, Bool.not_eq_false] at hb))
    | (refine CallN.gives (slicesEqual_ok l m hl hm) rfl ?_)
    | exact Returns.pure (r := .lit (.bool _)) rfl rfl rfl rfl ⟨by rfl, rfl⟩
    | (exfalso; omega))

theorem refSame_ok (l m : List TK) (hl : l.length < 2 ^ 63) (hm : m.length < 2 ^ 63) : Gives Tryd.prog 11 [.vs 2 (l.map tkAV), .vs 2 (m.map tkAV)] (.lit (.bool (decide (l = m)))) := by
  refine ACalls.of_swp Tryd.func11 rfl (by decide) rfl (st0 := ⟨26, [(0, .vs 2 (l.map tkAV)), (1, .vs 2 (m.map tkAV))], []⟩) rfl (awp_ok ?_)
  repeat' ((conv => whnf); first
    | refine Arith.mk ⟨_, w64 (by omega), ?_⟩
    | refine Side.mk (by first | omega | (simp (disch := omega) only [w64]; omega) | (simp; omega) | (simp_all; done)) ?_
    | refine Arith.mk ⟨_, rfl, ?_⟩
    | ((refine ifB_intro (fun hb => ?_) (fun hb => ?_)) <;> (try simp only [List.length_map, decide_eq_true_eq, decide_eq_false_iff_not, beq_iff_eq, bne_iff_ne, beq_eq_false_iff_ne, bne_eq_false_iff_eq, ne_eq, Bool.not_eq_true', Bool.not_eq_false', Bool.not_eq_true, Bool.not_eq_false] at hb))
    | (refine LoopN.of (fun k st => ∃ i : Nat, i + k = l.length ∧ (∀ j (h1 : j < l.length) (h2 : j < m.length), j < i → l[j] = m[j]) ∧ st = ⟨26, [(0, .vs 2 (l.map tkAV)), (1, .vs 2 (m.map tkAV)), (5, .lit (.int .i64 i))], []⟩) ⟨_, _, _, _, Weak.none (ts := [(0, _), (1, _), (5, _)]) rfl ⟨.same (.vs _ _) rfl, .same (.vs _ _) rfl, .same (.lit (.int _ _)) rfl, trivial⟩, l.length, 0, by omega, fun j _ _ hj => by omega, rfl⟩ ?_)
    | exact Returns.pure (r := .lit (.bool _)) rfl rfl rfl rfl ⟨by exact lb_ext (by simp; intro h; exact hb (by simp [h])), rfl⟩
    | (exfalso; omega))
  have hlm : l.length = m.length := by omega
  rintro k st ⟨i, hi, hp, rfl⟩
  refine awp_ok ?_
  repeat' ((conv => whnf); first
    | refine Arith.mk ⟨_, w64 (by omega), ?_⟩
    | refine Side.mk (by first | omega | (simp (disch := omega) only [w64]; omega) | (simp; omega) | (simp_all; done)) ?_
    | refine Arith.mk ⟨_, rfl, ?_⟩
    | (refine DrawN.of rfl ?_)
    | (apply DNode.of)
    | (refine EqS.mk ⟨_, tok_flat, ?_⟩)
    | (refine At.map (i) (by first | rfl | simp) (by first | assumption | omega) ?_)
    | (exact rfl)
    | ((refine ifB_intro (fun hb => ?_) (fun hb => ?_)) <;> (try simp only [List.length_map, decide_eq_true_eq, decide_eq_false_iff_not, beq_iff_eq, bne_iff_ne, beq_eq_false_iff_ne, bne_eq_false_iff_eq, ne_eq, Bool.not_eq_true', Bool.not_eq_false', Bool.not_eq_true, Bool.not_eq_false] at hb))
    | (exact ⟨_, _, _, _, Weak.none (ts := [(0, _), (1, _), (5, _)]) rfl ⟨.same (.vs _ _) rfl, .same (.vs _ _) rfl, .same (.lit (.int _ _)) rfl, trivial⟩, k - 1, by omega, i + 1, by omega, upto_succ2 hp (by omega) (by omega) hb, rfl⟩)
    | exact Returns.pure (r := .lit (.bool _)) rfl rfl rfl rfl ⟨by first | exact lb_ext (by simp; exact eq_upto hp hlm (by omega)) | exact lb_ext (by simp; exact tk_ne (i := i) (by omega) (by omega) hb), rfl⟩
    | (exfalso; omega))

theorem tokenSames_ok (l m : List TK) (hl : l.length < 2 ^ 63) (hm : m.length < 2 ^ 63) : Gives Tryd.prog 4 [.vs 2 (l.map tkAV), .vs 2 (m.map tkAV)] (.lit (.bool true)) := by
  refine ACalls.of_swp Tryd.func4 rfl (by decide) rfl (st0 := ⟨20, [(0, .vs 2 (l.map tkAV)), (1, .vs 2 (m.map tkAV))], []⟩) rfl (awp_ok ?_)
  repeat' ((conv => whnf); first
    | refine Arith.mk ⟨_, w64 (by omega), ?_⟩
    | refine Side.mk (by first | omega | (simp (disch := omega) only [w64]; omega) | (simp; omega) | (simp_all; done)) ?_
    | refine Arith.mk ⟨_, rfl, ?_⟩
    | ((refine ifB_intro (fun hb => ?_) (fun hb => ?_)) <;> (try simp only [List.length_map, decide_eq_true_eq, decide_eq_false_iff_not, beq_iff_eq, bne_iff_ne, beq_eq_false_iff_ne, bne_eq_false_iff_eq, ne_eq, Bool.not_eq_true', Bool.not_eq_false', Bool.not_eq_true, Bool.not_eq_false] at hb))
    | (refine CallN.gives (same_ok l m hl hm) rfl ?_)
    | (refine CallN.gives (refSame_ok l m hl hm) rfl ?_)
    | (refine CallN.gives (same_ok l l hl hl) rfl ?_)
    | (refine CallN.gives (awake_ok) rfl ?_)
    | exact Returns.pure (r := .lit (.bool _)) rfl rfl rfl rfl ⟨by first | rfl | exact lb_ext (by simp_all), rfl⟩
    | (exfalso; omega))
end Go.Q
