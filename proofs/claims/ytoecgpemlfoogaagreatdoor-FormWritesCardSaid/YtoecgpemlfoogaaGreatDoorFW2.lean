import Derived.Test.YtoecgpemlfoogaaGreatDoorFW1
namespace Go.Q
open Go
set_option maxRecDepth 100000
set_option maxHeartbeats 4000000
def cut (n:Nat) (sep:BS) (s:BS):BS :=
  if h:0 < n ∧ n < s.length then s.take n ++ sep ++ cut n sep (s.drop n) else s ++ [10]
termination_by s.length
decreasing_by simp only [List.length_drop]; omega
theorem cut_go {n:Nat} {sep s:BS} (h0:0 < n) (h:n < s.length):cut n sep s = s.take n ++ sep ++ cut n sep (s.drop n):=by rw [cut,dif_pos ⟨h0,h⟩]
theorem cut_end {n:Nat} {sep s:BS} (h:¬ n < s.length):cut n sep s = s ++ [10]:=by rw [cut,dif_neg (fun h'=>h h'.2)]
theorem cut_len {n:Nat} {sep:BS} (h0:0 < n) (hs:sep.length ≤ 7):∀ (k:Nat) (s:BS),s.length ≤ k → (cut n sep s).length ≤ 8 * s.length + 1
  | k,s,hk=>by
    by_cases h:n < s.length
    · match k,hk with
      | 0,hk=>omega
      | k + 1,hk =>
        have:=cut_len h0 hs k (s.drop n) (by rw [List.length_drop]; omega)
        rw [cut_go h0 h]
        simp only [List.length_append,List.length_take,List.length_drop] at this ⊢
        omega
    · rw [cut_end h,List.length_append]; simp only [List.length_cons,List.length_nil]; omega
theorem lim2 {x y:BS} (h:x.length + y.length < 4611686018427387904):(((B x).size + (B y).size:Nat):Int) ≤ 9223372036854775807:=by
  rw [size_B,size_B]; omega
theorem cutc {n:Nat} {s:BS} (h:n ≤ s.length):0 ≤ (n:Int) ∧ (n:Int) ≤ ((B s).size:Int):=by
  rw [size_B]; omega
theorem ap_B {x y:BS}:B x ++ B y = B (x ++ y):=B_appR x y
theorem extT {s:BS} {n:Nat}:(B s).extract 0 n = B (s.take n):=by rw [ext_B,L_B]
theorem extD {s:BS} {n:Nat}:(B s).extract n (B s).size = B (s.drop n):=by rw [ext_D,L_B]
theorem mapE {α β:Type} {f:α → β} {Z:Option α} {a:α} (h:Z = some a):Option.map f Z = some (f a):=by rw [h]; rfl
def ampN:BS:=[38,10,38]
def col6:BS:=[32,32,32,32,32,38]
theorem newLoop:∀ (k:Nat) (s out:BS),s.length ≤ k → out.length + 8 * s.length + 10 < 1099511627776 → Src.WriteNew_1.l0 (B s) (B out) = some (B (out ++ cut 100 ampN s))
  | k,s,out,hk,hb=>by
    unfold Src.WriteNew_1.l0
    by_cases h:100 < s.length
    · match k,hk with
      | 0,hk=>omega
      | k + 1,hk =>
        have ih:=newLoop k (s.drop 100) (out ++ (s.take 100 ++ ampN)) (by rw [List.length_drop]; omega) (by simp only [List.length_append,List.length_drop,List.length_take,ampN,List.length_cons,List.length_nil]; omega)
        have hl:ampN.length = 3:=rfl
        have ht:(s.take 100).length = 100:=by rw [List.length_take]; omega
        refine loopO_next (t:=(B (s.drop 100),B (out ++ (s.take 100 ++ ampN)))) ?_ (ih.trans ?_)
        · show Src.WriteNew_1.s0 (B s) (B out) = _
          unfold Src.WriteNew_1.s0
          exact letV rfl (letT (decide_eq_true (by rw [size_B]; omega)) (chkE (cutc (n:=100) (by omega)) (letV (y:=B (s.take 100)) extT (chkE (lim2 (y:=ampN) (by omega)) (letV (ap_B (y:=ampN)) (chkE (lim2 (by rw [List.length_append]; omega)) (letV ap_B (chkE (cutc (n:=100) (by omega)) (letV extD rfl)))))))))
        · rw [cut_go (by decide) h]; simp only [List.append_assoc]
    · refine loopO_end ?_
      show Src.WriteNew_1.s0 (B s) (B out) = _
      unfold Src.WriteNew_1.s0
      refine letV rfl (letF (decide_eq_false (by rw [size_B]; omega)) ?_)
      rw [cut_end h,← List.append_assoc]
      exact mapE (chkE (lim2 (by omega)) (letV ap_B (chkE (lim2 (y:=[10]) (by simp only [List.length_append,List.length_cons,List.length_nil]; omega)) (letV (ap_B (y:=[10])) rfl))))
theorem oldLoop:∀ (k:Nat) (s out:BS),s.length ≤ k → out.length + 8 * s.length + 10 < 1099511627776 → Src.WriteOld_1.l0 (B out) (B s) = some (B (out ++ cut 66 (10 :: col6) s))
  | k,s,out,hk,hb=>by
    unfold Src.WriteOld_1.l0
    by_cases h:66 < s.length
    · match k,hk with
      | 0,hk=>omega
      | k + 1,hk =>
        have ih:=oldLoop k (s.drop 66) (out ++ (s.take 66 ++ 10 :: col6)) (by rw [List.length_drop]; omega) (by simp only [List.length_append,List.length_drop,List.length_take,col6,List.length_cons,List.length_nil]; omega)
        have hl:(10 :: col6).length = 7:=rfl
        have ht:(s.take 66).length = 66:=by rw [List.length_take]; omega
        refine loopO_next (t:=(B (out ++ (s.take 66 ++ 10 :: col6)),B (s.drop 66))) ?_ (ih.trans ?_)
        · show Src.WriteOld_1.s0 (B out) (B s) = _
          unfold Src.WriteOld_1.s0
          exact letV rfl (letT (decide_eq_true (by rw [size_B]; omega)) (chkE (cutc (n:=66) (by omega)) (letV (y:=B (s.take 66)) extT (chkE (lim2 (y:=10 :: col6) (by omega)) (letV (ap_B (y:=10 :: col6)) (chkE (lim2 (by rw [List.length_append]; omega)) (letV ap_B (chkE (cutc (n:=66) (by omega)) (letV extD rfl)))))))))
        · rw [cut_go (by decide) h]; simp only [List.append_assoc]
    · refine loopO_end ?_
      show Src.WriteOld_1.s0 (B out) (B s) = _
      unfold Src.WriteOld_1.s0
      refine letV rfl (letF (decide_eq_false (by rw [size_B]; omega)) ?_)
      rw [cut_end h,← List.append_assoc]
      exact mapE (chkE (lim2 (by omega)) (letV ap_B (chkE (lim2 (y:=[10]) (by simp only [List.length_append,List.length_cons,List.length_nil]; omega)) (letV (ap_B (y:=[10])) rfl))))
theorem rnewLoop (l0:List api.Line) (i:Nat) (hi:i < 4611686018427387904):∀ (k:Nat) (s out:BS),s.length ≤ k → out.length + 8 * s.length + 10 < 1099511627776 →
    Ref3.WriteNew.l1 l0 (i:Int) (B out) (B s) = some (.inl (B (out ++ cut 100 ampN s),((i + 1:Nat):Int)))
  | k,s,out,hk,hb=>by
    unfold Ref3.WriteNew.l1
    by_cases h:100 < s.length
    · match k,hk with
      | 0,hk=>omega
      | k + 1,hk =>
        have ih:=rnewLoop l0 i hi k (s.drop 100) (out ++ (s.take 100 ++ ampN)) (by rw [List.length_drop]; omega) (by simp only [List.length_append,List.length_drop,List.length_take,ampN,List.length_cons,List.length_nil]; omega)
        have hl:ampN.length = 3:=rfl
        have ht:(s.take 100).length = 100:=by rw [List.length_take]; omega
        refine loopO_next (t:=(B (out ++ (s.take 100 ++ ampN)),B (s.drop 100))) ?_ (ih.trans ?_)
        · show Ref3.WriteNew.s1 l0 (i:Int) (B out) (B s) = _
          unfold Ref3.WriteNew.s1
          exact letV rfl (letT (decide_eq_true (by rw [size_B]; omega)) (chkE (cutc (n:=100) (by omega)) (letV (y:=B (s.take 100)) extT (chkE (lim2 (y:=ampN) (by omega)) (letV (ap_B (y:=ampN)) (chkE (lim2 (by rw [List.length_append]; omega)) (letV ap_B (chkE (cutc (n:=100) (by omega)) (letV extD rfl)))))))))
        · rw [cut_go (by decide) h]; simp only [List.append_assoc]
    · refine loopO_end ?_
      show Ref3.WriteNew.s1 l0 (i:Int) (B out) (B s) = _
      unfold Ref3.WriteNew.s1
      refine letV rfl (letF (decide_eq_false (by rw [size_B]; omega)) ?_)
      rw [cut_end h]
      exact mapE (chkE (lim2 (y:=[10]) (by simp only [List.length_cons,List.length_nil]; omega)) (letV (ap_B (y:=[10])) (chkE (lim2 (by simp only [List.length_append,List.length_cons,List.length_nil]; omega)) (letV ap_B (letV (w64n (by omega) (by omega)) rfl)))))
theorem roldLoop (l0:List api.Line) (i:Nat) (hi:i < 4611686018427387904):∀ (k:Nat) (s hd out:BS),s.length ≤ k → hd.length ≤ 6 → out.length + 8 * s.length + 20 < 1099511627776 →
    Ref3.WriteOld.l2 l0 (i:Int) (B out) (B hd) (B s) = some (.inl (B (out ++ (hd ++ cut 66 (10 :: col6) s)),((i + 1:Nat):Int)))
  | k,s,hd,out,hk,hh,hb=>by
    unfold Ref3.WriteOld.l2
    by_cases h:66 < s.length
    · match k,hk with
      | 0,hk=>omega
      | k + 1,hk =>
        have ih:=roldLoop l0 i hi k (s.drop 66) col6 (out ++ (hd ++ s.take 66 ++ [10])) (by rw [List.length_drop]; omega) (by decide) (by simp only [List.length_append,List.length_drop,List.length_take,List.length_cons,List.length_nil]; omega)
        have ht:(s.take 66).length = 66:=by rw [List.length_take]; omega
        refine loopO_next (t:=(B (out ++ (hd ++ s.take 66 ++ [10])),B col6,B (s.drop 66))) ?_ (ih.trans ?_)
        · show Ref3.WriteOld.s2 l0 (i:Int) (B out) (B hd) (B s) = _
          unfold Ref3.WriteOld.s2
          exact letV rfl (letT (decide_eq_true (by rw [size_B]; omega)) (chkE (cutc (n:=66) (by omega)) (letV (y:=B (s.take 66)) extT (chkE (lim2 (by omega)) (letV ap_B (chkE (lim2 (y:=[10]) (by simp only [List.length_append,List.length_cons,List.length_nil]; omega)) (letV (ap_B (y:=[10])) (chkE (lim2 (by simp only [List.length_append,List.length_cons,List.length_nil]; omega)) (letV ap_B (chkE (cutc (n:=66) (by omega)) (letV extD rfl)))))))))))
        · rw [cut_go (by decide) h]; simp only [List.append_assoc,List.cons_append,List.nil_append]
    · refine loopO_end ?_
      show Ref3.WriteOld.s2 l0 (i:Int) (B out) (B hd) (B s) = _
      unfold Ref3.WriteOld.s2
      refine letV rfl (letF (decide_eq_false (by rw [size_B]; omega)) ?_)
      rw [cut_end h,← List.append_assoc hd]
      exact mapE (chkE (lim2 (by omega)) (letV ap_B (chkE (lim2 (y:=[10]) (by simp only [List.length_append,List.length_cons,List.length_nil]; omega)) (letV (ap_B (y:=[10])) (chkE (lim2 (by simp only [List.length_append,List.length_cons,List.length_nil]; omega)) (letV ap_B (letV (w64n (by omega) (by omega)) rfl)))))))
theorem padLoop (l0:List api.Line) (i:Nat) (hi:i < 4611686018427387904) {x:api.Line} (hx:l0[i]? = some x) (out:BS) (hT:x.Text.size ≤ 8000) (hb:out.length < 68719476736):∀ (k:Nat) (s:BS),6 - s.length ≤ k → s.length ≤ 6 →
    Ref3.WriteOld.l1 l0 (B out) (i:Int) (B s) = some (.inl (B (out ++ (pad6 s ++ cut 66 (10 :: col6) (L x.Text))),((i + 1:Nat):Int)))
  | k,s,hk,h6=>by
    unfold Ref3.WriteOld.l1
    by_cases h:s.length < 6
    · match k,hk with
      | 0,hk=>omega
      | k + 1,hk =>
        have hl:(s ++ [32]).length = s.length + 1:=by rw [List.length_append]; rfl
        have ih:=padLoop l0 i hi hx out hT hb k (s ++ [32]) (by omega) (by omega)
        refine loopO_next (t:=B (s ++ [32])) ?_ (ih.trans ?_)
        · show Ref3.WriteOld.s1 l0 (B out) (i:Int) (B s) = _
          unfold Ref3.WriteOld.s1
          exact letV rfl (letT (decide_eq_true (by rw [size_B]; omega)) (chkE (lim2 (y:=[32]) (by simp only [List.length_cons,List.length_nil]; omega)) (letV (ap_B (y:=[32])) rfl)))
        · unfold pad6
          rw [hl,show 6 - s.length = (6 - (s.length + 1)) + 1 by omega,List.replicate_succ]
          simp only [List.append_assoc,List.cons_append,List.nil_append]
    · refine loopO_end ?_
      show Ref3.WriteOld.s1 l0 (B out) (i:Int) (B s) = _
      unfold Ref3.WriteOld.s1
      refine letV rfl (letF (decide_eq_false (by rw [size_B]; omega)) ?_)
      have hr:=roldLoop l0 i hi _ (L x.Text) s out (Nat.le_refl _) h6 (by rw [L_len]; omega)
      rw [B_L] at hr
      unfold pad6
      rw [show 6 - s.length = 0 by omega,List.replicate_zero,List.append_nil]
      exact mapE (chkE (by omega) (bindE (by rw [Int.toNat_natCast]; exact hx) hr))
end Go.Q
