import Derived.Test.YtemmhailjfdfdaaGreatFD
import Derived.Test.YtemmhailjfdfdaaGreatPS
import Derived.Test.YtemmhailjfdfdaaGreatAG9
namespace Go.Q
open Go
theorem chk_pos {ρ:Type} {c:Prop} {X:Option ρ} (h:c):chk c X = X:=if_pos h
theorem w64n {x:Int} (h0:0 ≤ x) (h:x < 9223372036854775808):IntKind.i64.wrap x = x:=w64 ⟨by omega,h⟩
theorem eqL (s t:ByteArray):(s.toList == t.toList) = (L s == L t):=by rw [toList_L,toList_L]
end Go.Q
namespace Go.Q
open Go
set_option maxRecDepth 10000
set_option maxHeartbeats 2000000
def BL (ws:List BS):List ByteArray:=ws.map B
theorem BL_get {ws:List BS} {i:Nat} (h:i < ws.length):(BL ws)[i]? = some (B ws[i]):=by simp [BL,h]
theorem BL_len (ws:List BS):(BL ws).length = ws.length:=by simp [BL]
theorem idx_l0 (ws:List BS) (v:ByteArray) (hw:ws.length < 2 ^ 62):∀ k n:Nat,n + k = ws.length → (∀ j (h1:j < ws.length),j < n → L v ≠ ws[j]) → Slcs.Index___string_string_.l0 (BL ws) v ws.length n = some (idxS ws (L v)):=by
  intro k
  induction k with
  | zero =>
    intro n hn hj
    rw [Slcs.Index___string_string_.l0_eq,Slcs.Index___string_string_.s0]
    simp only [letk]
    rw [decide_eq_false (by omega:¬ (n:Int) < (ws.length:Int))]
    simp only [cond,Option.bind_some,Sum.elim_inr]
    rw [idxS_none hj (by omega)]
  | succ k ih =>
    intro n hn hj
    have hlt:n < ws.length:=by omega
    rw [Slcs.Index___string_string_.l0_eq,Slcs.Index___string_string_.s0]
    simp only [letk]
    rw [decide_eq_true (by omega:(n:Int) < (ws.length:Int))]
    simp only [cond]
    rw [chk_pos (by omega),Int.toNat_natCast,BL_get hlt]
    simp only [Option.bind_some,eqL,L_B]
    by_cases he:L v = ws[n]
    · simp only [he,beq_self_eq_true,Option.bind_some,Sum.elim_inr]
      rw [← he,idxS_found hj hlt he]
    · rw [show (L v == ws[n]) = false from beq_eq_false_iff_ne.2 he,w64n (by omega) (by omega)]
      simp only [Option.bind_some,Sum.elim_inl]
      exact ih (n + 1) (by omega) (ne_succ hj hlt he)
theorem idx_nonneg (ws:List BS) (v:BS):decide (idxS ws v ≥ 0) = decide (v ∈ ws):=by
  unfold idxS
  split <;> rename_i h <;> simp [h]
theorem contains_eq (ws:List BS) (v:ByteArray) (hw:ws.length < 2 ^ 62):Slcs.Contains___string_string_ (BL ws) v = some (decide (L v ∈ ws)):=by
  unfold Slcs.Contains___string_string_ Slcs.Index___string_string_
  simp only [letk,BL_len]
  have:=idx_l0 ws v hw ws.length 0 (by omega) (fun j _ h=>by omega)
  rw [show ((0:Nat):Int) = 0 from rfl] at this
  rw [this]
  simp only [Option.bind_some,idx_nonneg]
end Go.Q
