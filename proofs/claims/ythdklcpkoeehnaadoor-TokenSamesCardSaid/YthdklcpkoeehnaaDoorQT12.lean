import Derived.Test.YthdklcpkoeehnaaDoorQT11
import Derived.Lib.IndexAny
namespace Go.Q
open Go Go.Proofs
set_option maxRecDepth 10000
set_option maxHeartbeats 4000000

def pointOk (r : BS) : Bool := decide (r = []) || !pLetter (r.getD 0 0).toNat || isExp (r.getD 0 0)
def hasPoint (l : BS) : Bool :=
  decide (preL pDigit l < l.length) && (l.getD (preL pDigit l) 0 == 46) && decide (wordOf (l.drop (preL pDigit l)) = []) && pointOk (l.drop (preL pDigit l + 1))
def pointN (l : BS) : Nat := if hasPoint l then preL pDigit l + (1 + preL pDigit (l.drop (preL pDigit l + 1))) else preL pDigit l
def numN (l : BS) : Nat := pointN l + expo (l.drop (pointN l))
def numR (l : BS) : Bool := hasPoint l || decide (0 < expo (l.drop (pointN l)))

def unsign (l : BS) : BS := if decide (l ≠ []) && isSign (l.getD 0 0) then l.drop 1 else l
def decTail (l : BS) : Bool :=
  if l = [] then true else if isExp (l.getD 0 0) then
    decide (unsign (l.drop 1) ≠ []) && decide ((unsign (l.drop 1)).length ≤ 4) && (preL pDigit (unsign (l.drop 1)) == (unsign (l.drop 1)).length) else false
def decBody (l : BS) : Bool :=
  let f := preL pDigit l
  if (l.drop f).getD 0 0 == 46 && decide (f < l.length) then
    let b := preL pDigit (l.drop (f + 1))
    if f + b = 0 || f + b > 60 then false else decTail (l.drop (f + 1 + b))
  else if f = 0 || f > 60 then false else decTail (l.drop f)
def decIs (l : BS) : Bool := decide (unsign l = [105, 110, 102]) || decide (unsign l = [110, 97, 110]) || decBody (unsign l)
def trimS (l : BS) : BS := l.dropWhile isSign
def isRealL (l : BS) : Bool :=
  decide (l ≠ []) && (pDigit (l.getD 0 0).toNat || l.getD 0 0 == 46) && (l == small l) && decIs l && numR l && (numN l == l.length) &&
    (decide (Lib.indexAny l [101, 100] < 0) || decide (preL pDigit (trimS (l.drop ((Lib.indexAny l [101, 100]).toNat + 1))) ≤ 3))

def RealOK (l : BS) : Prop := Gives Tryd.prog 33 [.lit (.string (B l))] (.lit (.bool (isRealL l)))

def kName : BS := [110, 97, 109, 101]
def kInt : BS := [105, 110, 116]
def kReal : BS := [114, 101, 97, 108]
def kText : BS := [116, 101, 120, 116]
def kOp : BS := [111, 112]
def kLog : BS := [108, 111, 103, 105, 99, 97, 108]

def valid (k t : BS) : Bool :=
  if k = kName then isName t else if k = kInt then isInt t else if k = kReal then isRealL t else if k = kText then preL pText t == t.length
  else if k = kOp then decide (t ∈ signs) || decide (t ∈ words.take 4) else if k = kLog then decide (t ∈ words.drop 4) else false

theorem toList_mk (k : ByteArray) (a : Array UInt8) : k.toList = (ByteArray.mk a).toList ↔ L k = a.toList := by rw [toList_L, toList_L]; rfl

theorem valid_ok (k t : ByteArray) (ht : t.size < 2 ^ 46) (hr : L k = kReal → RealOK (L t)) : Gives Tryd.prog 16 [.agg [.lit (.string k), .lit (.string t)]] (.lit (.bool (valid (L k) (L t)))) := by
  refine ACalls.of_swp Tryd.func16 rfl (by decide) rfl (st0 := ⟨48, [(0, .agg [.lit (.string k), .lit (.string t)])], []⟩) rfl (awp_ok ?_)
  have hl := L_len t
  have hr' : L k = kReal → Gives Tryd.prog 33 [.lit (.string t)] (.lit (.bool (isRealL (L t)))) := fun h => by have := hr h; unfold RealOK at this; rwa [B_L] at this
  repeat' ((conv => whnf); first
    | refine Arith.mk ⟨_, w64 (by omega), ?_⟩
    | refine Side.mk (by first | omega | (simp (disch := omega) only [w64]; omega) | (exact ⟨by decide, by decide⟩) | (simp; omega) | (simp_all; done)) ?_
    | refine Arith.mk ⟨_, rfl, ?_⟩
    | (refine DrawN.of rfl ?_)
    | (apply DNode.of)
    | (exact rfl)
    | ((refine ifB_intro (fun hb => ?_) (fun hb => ?_)) <;> (try simp only [List.length_map, decide_eq_true_eq, decide_eq_false_iff_not, beq_iff_eq, bne_iff_ne, beq_eq_false_iff_ne, bne_eq_false_iff_eq, ne_eq, Bool.not_eq_true', Bool.not_eq_false', Bool.not_eq_true, Bool.not_eq_false] at hb) <;> (try simp only [toList_mk] at hb))
    | (refine CallN.gives (isName_ok t ht) rfl ?_)
    | (refine CallN.gives (isInt_ok t ht) rfl ?_)
    | (refine CallN.gives (hr' (by assumption)) rfl ?_)
    | (refine CallN.gives (run_ok 14 pText isText_ok t (by omega)) rfl ?_)
    | (refine CallN.gives (signs_ok) rfl ?_)
    | (refine CallN.gives (words_ok) rfl ?_)
    | ((refine CallN.all (validD1_ok signs (by decide) k t) ?_; rintro r h' ⟨rfl, rfl⟩))
    | ((refine CallN.all (validD1_ok (words.take 4) (by decide) k t) ?_; rintro r h' ⟨rfl, rfl⟩))
    | ((refine CallN.all (validD1_ok (words.drop 4) (by decide) k t) ?_; rintro r h' ⟨rfl, rfl⟩))
    | exact Returns.pure (r := .lit (.bool _)) rfl rfl rfl rfl ⟨by refine congrArg AV.lit (congrArg Value.bool ?_); simp only [valid, kName, kInt, kReal, kText, kOp, kLog, *, hl, ← pre_preL]; first | (simp (config := { decide := true }); done) | (simp (config := { decide := true }) <;> simp_all; done) | (simp (config := { decide := true }); rw [Bool.eq_iff_iff, beq_iff_eq, beq_iff_eq]; omega), rfl⟩
    | (exfalso; omega))
end Go.Q
