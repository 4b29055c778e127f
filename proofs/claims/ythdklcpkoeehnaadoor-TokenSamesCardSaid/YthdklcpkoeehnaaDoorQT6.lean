import Derived.Test.YthdklcpkoeehnaaDoorQT5
namespace Go.Q
open Go Go.Proofs
set_option maxRecDepth 10000

abbrev BS := List UInt8
def L (s : ByteArray) : BS := s.data.toList
def B (l : BS) : ByteArray := ⟨l.toArray⟩

@[simp] theorem L_B (l : BS) : L (B l) = l := rfl
@[simp] theorem B_L (s : ByteArray) : B (L s) = s := by obtain ⟨⟨l⟩⟩ := s; rfl
theorem B_inj {a b : BS} : B a = B b ↔ a = b := ⟨fun h => by simpa using congrArg L h, fun h => by rw [h]⟩
theorem L_len (s : ByteArray) : (L s).length = s.size := by simp [L, Array.length_toList]
theorem toList_L (s : ByteArray) : s.toList = L s := ByteArray.toList_eq s
theorem L_app (a b : ByteArray) : L (a ++ b) = L a ++ L b := by simp [L, ByteArray.data_append]
theorem L_ext (s : ByteArray) (i j : Nat) : L (s.extract i j) = ((L s).take j).drop i := by
  simp [L, ByteArray.data_extract, Array.toList_extract, List.extract]
  exact (List.drop_take ..).symm ▸ rfl
theorem ofInts_nat (l : BS) : ofInts (l.map fun c => (c.toNat : Int)) = B l := by
  unfold ofInts B
  congr 2
  rw [List.map_map]
  conv => rhs; rw [← List.map_id l]
  apply List.map_congr_left
  intro c _
  simp

theorem pre_L (p : Int → Bool) (s : ByteArray) : pre p s = ((L s).takeWhile (fun c => p c.toNat)).length := rfl

def isUp (c : UInt8) : Bool := decide (65 ≤ c) && decide (c ≤ 90)
def low (c : UInt8) : UInt8 := if isUp c then c + 32 else c
def small (l : BS) : BS := l.map low

def bAV (c : UInt8) : AV := .lit (.int .u8 c.toNat)
def smallAt (l : BS) (i : Nat) : List AV := ((l.take i).map fun c => bAV (low c)) ++ (l.drop i).map bAV

theorem smallAt_len (l : BS) (i : Nat) (h : i ≤ l.length) : (smallAt l i).length = l.length := by simp [smallAt]; omega
theorem smallAt_get {l : BS} {i : Nat} (h : i < l.length) : (smallAt l i)[i]? = some (bAV l[i]) := by
  unfold smallAt
  rw [List.getElem?_append_right (by simp; omega)]
  simp [Nat.min_eq_left (Nat.le_of_lt h), h]
theorem smallAt_set {l : BS} {i : Nat} (h : i < l.length) : (smallAt l i).set i (bAV (low l[i])) = smallAt l (i + 1) := by
  unfold smallAt
  rw [List.set_append_right _ _ (by simp; omega)]
  simp only [List.length_map, List.length_take, Nat.min_eq_left (Nat.le_of_lt h), Nat.sub_self]
  rw [List.drop_eq_getElem_cons h, List.take_succ_eq_append_getElem h]
  simp only [List.map_cons, List.map_append, List.set_cons_zero, List.append_assoc, List.map_nil, List.cons_append, List.nil_append]
theorem smallAt_same {l : BS} {i : Nat} (h : i < l.length) (hc : low l[i] = l[i]) : smallAt l i = smallAt l (i + 1) := by
  unfold smallAt
  rw [List.drop_eq_getElem_cons h, List.take_succ_eq_append_getElem h]
  simp only [List.map_cons, List.map_append, List.append_assoc, List.map_nil, List.cons_append, List.nil_append, hc]
theorem smallAt_all (l : BS) (i : Nat) (h : i = l.length) : smallAt l i = (((small l).map fun c => (c.toNat : Int)).map fun n => .lit (.int .u8 n)) := by
  subst h
  simp [smallAt, small, bAV, Function.comp_def]

theorem smallAt_all' (l : BS) (i : Nat) (h : i = l.length) : ((smallAt l i).drop 0).take l.length = (((small l).map fun c => (c.toNat : Int)).map fun n => .lit (.int .u8 n)) := by
  rw [List.drop_zero, List.take_of_length_le (by rw [smallAt_len _ _ (by omega)]; exact Nat.le_refl _), smallAt_all l i h]
theorem smallAt_one (l : BS) (i : Nat) : OneCells (smallAt l i) := by
  intro e he
  simp only [smallAt, List.mem_append, List.mem_map] at he
  rcases he with ⟨c, _, rfl⟩ | ⟨c, _, rfl⟩ <;> (intro x hx; simp [bAV, AV.cells] at hx; subst hx; rfl)
theorem smallAt_wrap (c : UInt8) (h1 : 65 ≤ (c.toNat : Int)) (h2 : (c.toNat : Int) ≤ 90) : AV.lit (.int .u8 (IntKind.u8.wrap (IntKind.u8.wrap ((c.toNat : Int) - 65) + 97))) = bAV (low c) := by
  have hu : isUp c = true := by simp only [isUp, UInt8.le_iff_toNat_le, Bool.and_eq_true, decide_eq_true_eq]; exact ⟨by have : (65 : UInt8).toNat = 65 := rfl; omega, by have : (90 : UInt8).toNat = 90 := rfl; omega⟩
  unfold bAV low
  rw [if_pos hu]
  congr 2
  simp only [IntKind.wrap, IntKind.bits, IntKind.signed, UInt8.toNat_add]
  have : (32 : UInt8).toNat = 32 := rfl
  simp [this]
  omega
theorem low_same (c : UInt8) (h : ¬ (65 ≤ (c.toNat : Int) ∧ (c.toNat : Int) ≤ 90)) : low c = c := by
  have hu : isUp c = false := by
    rw [← Bool.not_eq_true]
    simp only [isUp, UInt8.le_iff_toNat_le, Bool.and_eq_true, decide_eq_true_eq]
    rintro ⟨h1, h2⟩
    have e1 : (65 : UInt8).toNat = 65 := rfl
    have e2 : (90 : UInt8).toNat = 90 := rfl
    exact h ⟨by omega, by omega⟩
  unfold low
  rw [hu]; rfl

theorem small_ok (s : ByteArray) (hs : s.size < 2 ^ 46) : Gives Tryd.prog 21 [.lit (.string s)] (.lit (.string (B (small (L s))))) := by
  refine ACalls.of_swp Tryd.func21 rfl (by decide) rfl (st0 := ⟨30, [(0, .lit (.string s))], []⟩) rfl (awp_ok ?_)
  have hL := L_len s
  repeat' ((conv => whnf); first
    | refine Arith.mk ⟨_, w64 (by omega), ?_⟩
    | refine Side.mk (by first | omega | (simp (disch := omega) only [w64]; omega) | (simp; omega) | (simp_all; done)) ?_
    | refine Arith.mk ⟨_, rfl, ?_⟩
    | ((refine ifB_intro (fun hb => ?_) (fun hb => ?_)) <;> (try simp only [List.length_map, decide_eq_true_eq, decide_eq_false_iff_not, beq_iff_eq, bne_iff_ne, beq_eq_false_iff_ne, bne_eq_false_iff_eq, ne_eq, Bool.not_eq_true', Bool.not_eq_false', Bool.not_eq_true, Bool.not_eq_false] at hb))
    | (refine Or.inr ?_)
    | (refine LoopN.of (fun k st => ∃ i : Nat, i + k = s.size ∧ st = ⟨30, [(3, .ref 0 0 s.size), (8, .ref 0 0 s.size), (9, .lit (.int .i64 s.size)), (10, .lit (.int .i64 i))], [.arr 1 (smallAt (L s) i)]⟩) ⟨_, _, _, _, Weak.objs (keep := [0]) (frz := []) (m := 0) (ts := [(3, _), (8, _), (9, _), (10, _)]) (hs := [_]) rfl (by decide) rfl rfl ⟨⟨_, rfl, .arr _ _⟩, ⟨rfl, by simp⟩⟩ ⟨.ref _ _ _ 0 rfl, .ref _ _ _ 0 rfl, .same (.lit (.int _ _)) rfl, .same (.lit (.int _ _)) rfl, trivial⟩, s.size, 0, by omega, rfl⟩ ?_)
    | (exfalso; omega))
  rintro k st ⟨i, hi, rfl⟩
  refine awp_ok ?_
  repeat' ((conv => whnf); first
    | refine Arith.mk ⟨_, w64 (by omega), ?_⟩
    | refine Side.mk (by first | omega | (constructor; omega; omega) | (exact ⟨by rw [smallAt_len _ _ (by omega)]; omega, smallAt_one _ _⟩)  | (rw [smallAt_len _ _ (by omega)]; omega) | (exact ⟨Nat.le_refl 1, rfl⟩) | (simp; omega)) ?_
    | refine Arith.mk ⟨_, rfl, ?_⟩
    | ((refine ifB_intro (fun hb => ?_) (fun hb => ?_)) <;> (try simp only [List.length_map, decide_eq_true_eq, decide_eq_false_iff_not, beq_iff_eq, bne_iff_ne, beq_eq_false_iff_ne, bne_eq_false_iff_eq, ne_eq, Bool.not_eq_true', Bool.not_eq_false', Bool.not_eq_true, Bool.not_eq_false] at hb))
    | (refine At.of i (by simp) (smallAt_get (by omega)) ?_)
    | (refine BytesN.mk ⟨_, smallAt_all' (L s) i (by omega), ?_⟩)
    | (exact ⟨_, _, _, _, Weak.objs (keep := [0]) (frz := []) (m := 0) (ts := [(3, _), (8, _), (9, _), (10, _)]) (hs := [_]) rfl (by decide) rfl rfl ⟨⟨_, rfl, .arr _ _⟩, ⟨rfl, by simp⟩⟩ ⟨.ref _ _ _ 0 rfl, .ref _ _ _ 0 rfl, .same (.lit (.int _ _)) rfl, .same (.lit (.int _ _)) rfl, trivial⟩, k - 1, by omega, i + 1, by omega, by first | (rw [smallAt_same (l := L s) (i := i) (by omega) (low_same _ (by omega))]; try rfl) | (rw [← smallAt_set (l := L s) (i := i) (by omega), ← smallAt_wrap (L s)[i] (by omega) (by omega)]; simp; rfl)⟩)
    | exact Returns.pure (r := .lit (.string _)) rfl rfl rfl rfl ⟨by rw [ofInts_nat], rfl⟩
    | (exfalso; omega))
end Go.Q
