import Derived.Test.YtoecgpemlfoogaaGreatDoorFW1
namespace Go.Q
open Go
set_option maxRecDepth 100000
set_option maxHeartbeats 4000000
def cut (n:Nat) (sep:BS) (s:BS):BS :=
  if h:0 < n ∧ n < s.length then s.take n ++ sep ++ cut n sep (s.drop n) else s ++ [10]
termination_by s.length
decreasing_by simp only [List.length_drop]; omega
theorem cut_go {n:Nat} {sep s:BS} (h0:0 < n) (h:n < s.length):cut n sep s = s.take n ++ sep ++ cut n sep (s.drop n):=by rw [cut,dif_pos ⟨h0,h⟩]
theorem cut_end {n:Nat} {sep s:BS} (h:¬ n < s.length):cut n sep s = s ++ [10]:=by rw [cut,dif_neg (fun h'=>h h'.2)]
theorem cut_len {n:Nat} {sep:BS} (h0:0 < n) (hs:sep.length ≤ 7):∀ (k:Nat) (s:BS),s.length ≤ k → (cut n sep s).length ≤ 8 * s.length + 1
  | k,s,hk=>by
    by_cases h:n < s.length
    · match k,hk with
      | 0,hk=>omega
      | k + 1,hk =>
        have:=cut_len h0 hs k (s.drop n) (by rw [List.length_drop]; omega)
        rw [cut_go h0 h]
        simp only [List.length_append,List.length_take,List.length_drop] at this ⊢
        omega
    · rw [cut_end h,List.length_append]; simp only [List.length_cons,List.length_nil]; omega
theorem lim2 {x y:BS} (h:x.length + y.length < 4611686018427387904):(((B x).size + (B y).size:Nat):Int) ≤ 9223372036854775807:=by
  rw [size_B,size_B]; omega
theorem cutc {n:Nat} {s:BS} (h:n ≤ s.length):0 ≤ (n:Int) ∧ (n:Int) ≤ ((B s).size:Int):=by
  rw [size_B]; omega
theorem ap_B {x y:BS}:B x ++ B y = B (x ++ y):=B_appR x y
theorem extT {s:BS} {n:Nat}:(B s).extract 0 n = B (s.take n):=by rw [ext_B,L_B]
theorem extD {s:BS} {n:Nat}:(B s).extract n (B s).size = B (s.drop n):=by rw [ext_D,L_B]
theorem mapE {α β:Type} {f:α → β} {Z:Option α} {a:α} (h:Z = some a):Option.map f Z = some (f a):=by rw [h]; rfl
def ampN:BS:=[38,10,38]
def col6:BS:=[32,32,32,32,32,38]
theorem newLoop:∀ (k:Nat) (s out:BS),s.length ≤ k → out.length + 8 * s.length + 10 < 1099511627776 → Src.WriteNew_1.l0 (B s) (B out) = some (B (out ++ cut 100 ampN s))
  | k,s,out,hk,hb=>by
    unfold Src.WriteNew_1.l0
    by_cases h:100 < s.length
    · match k,hk with
      | 0,hk=>omega
      | k + 1,hk =>
        have ih:=newLoop k (s.drop 100) (out ++ (s.take 100 ++ ampN)) (by rw [List.length_drop]; omega) (by simp only [List.length_append,List.length_drop,List.length_take,ampN,List.length_cons,List.length_nil]; omega)
        have hl:ampN.length = 3:=rfl
        have ht:(s.take 100).length = 100:=by rw [List.length_take]; omega
        refine loopO_next (t:=(B (s.drop 100),B (out ++ (s.take 100 ++ ampN)))) ?_ (ih.trans ?_)
        · show Src.WriteNew_1.s0 (B s) (B out) = _
          unfold Src.WriteNew_1.s0
          exact letV rfl (letT (decide_eq_true (by rw [size_B]; omega)) (chkE (cutc (n:=100) (by omega)) (letV (y:=B (s.take 100)) extT (chkE (lim2 (y:=ampN) (by omega)) (letV (ap_B (y:=ampN)) (chkE (lim2 (by rw [List.length_append]; omega)) (letV ap_B (chkE (cutc (n:=100) (by omega)) (letV extD rfl)))))))))
        · rw [cut_go (by decide) h]; simp only [List.append_assoc]
    · refine loopO_end ?_
      show Src.WriteNew_1.s0 (B s) (B out) = _
      unfold Src.WriteNew_1.s0
      refine letV rfl (letF (decide_eq_false (by rw [size_B]; omega)) ?_)
      rw [cut_end h,← List.append_assoc]
      exact mapE (chkE (lim2 (by omega)) (letV ap_B (chkE (lim2 (y:=[10]) (by simp only [List.length_append,List.length_cons,List.length_nil]; omega)) (letV (ap_B (y:=[10])) rfl))))
theorem oldLoop:∀ (k:Nat) (s out:BS),s.length ≤ k → out.length + 8 * s.length + 10 < 1099511627776 → Src.WriteOld_1.l0 (B out) (B s) = some (B (out ++ cut 66 (10 :: col6) s))
  | k,s,out,hk,hb=>by
    unfold Src.WriteOld_1.l0
    by_cases h:66 < s.length
    · match k,hk with
      | 0,hk=>omega
      | k + 1,hk =>
        have ih:=oldLoop k (s.drop 66) (out ++ (s.take 66 ++ 10 :: col6)) (by rw [List.length_drop]; omega) (by simp only [List.length_append,List.length_drop,List.length_take,col6,List.length_cons,List.length_nil]; omega)
        have hl:(10 :: col6).length = 7:=rfl
        have ht:(s.take 66).length = 66:=by rw [List.length_take]; omega
        refine loopO_next (t:=(B (out ++ (s.take 66 ++ 10 :: col6)),B (s.drop 66))) ?_ (ih.trans ?_)
        · show Src.WriteOld_1.s0 (B out) (B s) = _
          unfold Src.WriteOld_1.s0
          exact letV rfl (letT (decide_eq_true (by rw [size_B]; omega)) (chkE (cutc (n:=66) (by omega)) (letV (y:=B (s.take 66)) extT (chkE (lim2 (y:=10 :: col6) (by omega)) (letV (ap_B (y:=10 :: col6)) (chkE (lim2 (by rw [List.length_append]; omega)) (letV ap_B (chkE (cutc (n:=66) (by omega)) (letV extD rfl)))))))))
        · rw [cut_go (by decide) h]; simp only [List.append_assoc]
    · refine loopO_end ?_
      show Src.WriteOld_1.s0 (B out) (B s) = _
      unfold Src.WriteOld_1.s0
      refine letV rfl (letF (decide_eq_false (by rw [size_B]; omega)) ?_)
      rw [cut_end h,← List.append_assoc]
      exact mapE (chkE (lim2 (by omega)) (letV ap_B (chkE (lim2 (y:=[10]) (by simp only [List.length_append,List.length_cons,List.length_nil]; omega)) (letV (ap_B (y:=[10])) rfl))))
end Go.Q
