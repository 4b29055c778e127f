import Derived.Test.YthdklcpkoeehnaaDoorQT6
import Derived.Laws.Externs
namespace Go.Q
open Go Go.Proofs
set_option maxRecDepth 10000

def strAV (b : BS) : AV := .lit (.string (B b))
def txt (s : String) : BS := s.toUTF8.data.toList
def words : List BS := [[46, 97, 110, 100, 46], [46, 111, 114, 46], [46, 110, 111, 116, 46], [46, 101, 113, 118, 46], [46, 116, 114, 117, 101, 46], [46, 102, 97, 108, 115, 101, 46]]
def signs : List BS := [[42, 42], [61, 61], [47, 61], [60, 61], [62, 61], [61, 62], [58, 58], [43], [45], [42], [47], [60], [62], [61], [40], [41], [91], [93], [44], [58], [37]]

theorem words_ok : Gives Tryd.prog 25 [] (.vs 1 (words.map strAV)) := by
  refine ACalls.of_swp Tryd.func25 rfl (by decide) rfl (st0 := ⟨2, [], []⟩) rfl (awp_ok ?_)
  repeat' ((conv => whnf); first
    | refine Arith.mk ⟨_, w64 (by omega), ?_⟩
    | refine Side.mk (by first | omega | (simp (disch := omega) only [w64]; omega) | (simp; omega) | (simp_all; done)) ?_
    | refine Arith.mk ⟨_, rfl, ?_⟩
    | ((refine ifB_intro (fun hb => ?_) (fun hb => ?_)) <;> (try simp only [List.length_map, decide_eq_true_eq, decide_eq_false_iff_not, beq_iff_eq, bne_iff_ne, beq_eq_false_iff_ne, bne_eq_false_iff_eq, ne_eq, Bool.not_eq_true', Bool.not_eq_false', Bool.not_eq_true, Bool.not_eq_false] at hb))
    | (exact Returns.frozen (r := .vs 1 (words.map strAV)) [0] rfl rfl (WV.frz rfl rfl) ⟨rfl, rfl⟩)
    | (exfalso; omega))

theorem signs_ok : Gives Tryd.prog 28 [] (.vs 1 (signs.map strAV)) := by
  refine ACalls.of_swp Tryd.func28 rfl (by decide) rfl (st0 := ⟨2, [], []⟩) rfl (awp_ok ?_)
  repeat' ((conv => whnf); first
    | refine Arith.mk ⟨_, w64 (by omega), ?_⟩
    | refine Side.mk (by first | omega | (simp (disch := omega) only [w64]; omega) | (simp; omega) | (simp_all; done)) ?_
    | refine Arith.mk ⟨_, rfl, ?_⟩
    | ((refine ifB_intro (fun hb => ?_) (fun hb => ?_)) <;> (try simp only [List.length_map, decide_eq_true_eq, decide_eq_false_iff_not, beq_iff_eq, bne_iff_ne, beq_eq_false_iff_ne, bne_eq_false_iff_eq, ne_eq, Bool.not_eq_true', Bool.not_eq_false', Bool.not_eq_true, Bool.not_eq_false] at hb))
    | (exact Returns.frozen (r := .vs 1 (signs.map strAV)) [0] rfl rfl (WV.frz rfl rfl) ⟨rfl, rfl⟩)
    | (exfalso; omega))

def idxS (ws : List BS) (v : BS) : Int := if v ∈ ws then (ws.idxOf v : Int) else -1

theorem beq_L (a : ByteArray) (b : BS) : (a.toList == (B b).toList) = (L a == b) := by rw [toList_L, toList_L, L_B]
theorem beq_L2 (a b : ByteArray) : (a.toList == b.toList) = (L a == L b) := by rw [toList_L, toList_L]

theorem idxS_found {ws : List BS} {v : BS} {i : Nat} (h : ∀ j (h1 : j < ws.length), j < i → v ≠ ws[j]) (hi : i < ws.length) (he : v = ws[i]) : idxS ws v = i := by
  unfold idxS
  rw [if_pos (he ▸ List.getElem_mem hi)]
  congr 1
  have hlt : ws.idxOf v < ws.length := List.idxOf_lt_length_iff.2 (he ▸ List.getElem_mem hi)
  have e := List.getElem_idxOf hlt
  rcases Nat.lt_trichotomy (ws.idxOf v) i with h1 | h1 | h1
  · exact absurd e.symm (h _ hlt h1)
  · exact h1
  · have := List.not_of_lt_findIdx (xs := ws) (p := (· == v)) (i := i) h1
    simp [he] at this

theorem idxS_none {ws : List BS} {v : BS} {i : Nat} (h : ∀ j (h1 : j < ws.length), j < i → v ≠ ws[j]) (hi : ws.length ≤ i) : idxS ws v = -1 := by
  unfold idxS
  rw [if_neg]
  intro hm
  obtain ⟨j, hj, e⟩ := List.getElem_of_mem hm
  exact h j hj (by omega) e.symm

theorem ne_succ {ws : List BS} {v : BS} {i : Nat} (h : ∀ j (h1 : j < ws.length), j < i → v ≠ ws[j]) (hi : i < ws.length) (he : v ≠ ws[i]) : ∀ j (h1 : j < ws.length), j < i + 1 → v ≠ ws[j] := by
  intro j h1 h2
  rcases Nat.lt_or_ge j i with h3 | h3
  · exact h j h1 h3
  · obtain rfl : j = i := by omega
    exact he

theorem index_ok (ws : List BS) (v : ByteArray) (hw : ws.length < 2 ^ 62) : Gives Tryd.prog 44 [.vs 1 (ws.map strAV), .lit (.string v)] (.lit (.int .i64 (idxS ws (L v)))) := by
  refine ACalls.of_swp Tryd.func44 rfl (by decide) rfl (st0 := ⟨19, [(0, .vs 1 (ws.map strAV)), (1, .lit (.string v))], []⟩) rfl (awp_ok ?_)
  repeat' ((conv => whnf); first
    | refine Arith.mk ⟨_, w64 (by omega), ?_⟩
    | refine Side.mk (by first | omega | (simp (disch := omega) only [w64]; omega) | (simp; omega) | (simp_all; done)) ?_
    | refine Arith.mk ⟨_, rfl, ?_⟩
    | ((refine ifB_intro (fun hb => ?_) (fun hb => ?_)) <;> (try simp only [List.length_map, decide_eq_true_eq, decide_eq_false_iff_not, beq_iff_eq, bne_iff_ne, beq_eq_false_iff_ne, bne_eq_false_iff_eq, ne_eq, Bool.not_eq_true', Bool.not_eq_false', Bool.not_eq_true, Bool.not_eq_false] at hb))
    | (refine LoopN.of (fun k st => ∃ i : Nat, i + k = ws.length ∧ (∀ j (h1 : j < ws.length), j < i → L v ≠ ws[j]) ∧ st = ⟨19, [(0, .vs 1 (ws.map strAV)), (1, .lit (.string v)), (7, .lit (.int .i64 ((ws.map strAV).length : Nat))), (8, .lit (.int .i64 i))], []⟩) ⟨_, _, _, _, Weak.none (ts := [(0, _), (1, _), (7, _), (8, _)]) rfl ⟨.same (.vs _ _) rfl, .same (.lit (.string _)) rfl, .same (.lit (.int _ _)) rfl, .same (.lit (.int _ _)) rfl, trivial⟩, ws.length, 0, by omega, fun j _ hj => by omega, rfl⟩ ?_)
    | (exfalso; omega))
  rintro k st ⟨i, hi, hp, rfl⟩
  refine awp_ok ?_
  repeat' ((conv => whnf); first
    | refine Arith.mk ⟨_, w64 (by omega), ?_⟩
    | refine Side.mk (by first | omega | (simp (disch := omega) only [w64]; omega) | (simp; omega) | (simp_all; done)) ?_
    | refine Arith.mk ⟨_, rfl, ?_⟩
    | (refine At.map (i) (by first | rfl | simp) (by first | assumption | omega) ?_)
    | ((refine ifB_intro (fun hb => ?_) (fun hb => ?_)) <;> (try simp only [List.length_map, decide_eq_true_eq, decide_eq_false_iff_not, beq_iff_eq, bne_iff_ne, beq_eq_false_iff_ne, bne_eq_false_iff_eq, ne_eq, Bool.not_eq_true', Bool.not_eq_false', Bool.not_eq_true, Bool.not_eq_false] at hb))
    | (exact ⟨_, _, _, _, Weak.none (ts := [(0, _), (1, _), (7, _), (8, _)]) rfl ⟨.same (.vs _ _) rfl, .same (.lit (.string _)) rfl, .same (.lit (.int _ _)) rfl, .same (.lit (.int _ _)) rfl, trivial⟩, k - 1, by omega, i + 1, by omega, ne_succ hp (by omega) (by rwa [toList_L, toList_L] at hb), rfl⟩)
    | exact Returns.pure (r := .lit (.int _ _)) rfl rfl rfl rfl ⟨by first | exact li_ext (idxS_none hp (by omega)).symm | exact li_ext (idxS_found hp (by omega) (by rwa [toList_L, toList_L] at hb)).symm, rfl⟩
    | (exfalso; omega))

theorem contains_ok (ws : List BS) (v : ByteArray) (hw : ws.length < 2 ^ 62) : Gives Tryd.prog 24 [.vs 1 (ws.map strAV), .lit (.string v)] (.lit (.bool (decide (L v ∈ ws)))) := by
  refine ACalls.of_swp Tryd.func24 rfl (by decide) rfl (st0 := ⟨9, [(0, .vs 1 (ws.map strAV)), (1, .lit (.string v))], []⟩) rfl (awp_ok ?_)
  repeat' ((conv => whnf); first
    | refine Arith.mk ⟨_, w64 (by omega), ?_⟩
    | refine Side.mk (by first | omega | (simp (disch := omega) only [w64]; omega) | (simp; omega) | (simp_all; done)) ?_
    | refine Arith.mk ⟨_, rfl, ?_⟩
    | ((refine ifB_intro (fun hb => ?_) (fun hb => ?_)) <;> (try simp only [List.length_map, decide_eq_true_eq, decide_eq_false_iff_not, beq_iff_eq, bne_iff_ne, beq_eq_false_iff_ne, bne_eq_false_iff_eq, ne_eq, Bool.not_eq_true', Bool.not_eq_false', Bool.not_eq_true, Bool.not_eq_false] at hb))
    | (refine CallN.gives (index_ok ws v hw) rfl ?_)
    | exact Returns.pure (r := .lit (.bool _)) rfl rfl rfl rfl ⟨by exact lb_ext (by unfold idxS; split <;> simp_all <;> omega), rfl⟩
    | (exfalso; omega))
end Go.Q
