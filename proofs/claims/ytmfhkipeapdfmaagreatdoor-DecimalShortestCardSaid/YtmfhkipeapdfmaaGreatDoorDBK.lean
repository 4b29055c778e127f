import Derived.RangeFuncNested
import Derived.RangeFuncBound
import Derived.RangeFuncCalls
import Derived.RangeFuncLeaves
import Derived.Shelf.Abstract
import Derived.Shelf.RegionOpen
import Derived.WalkKit
import Derived.OwnWalkIn
import Derived.TacticsInMore
import Derived.LoopNIn
import Derived.LoopIn
import Derived.Test.YtmfhkipeapdfmaaGreatDoorProg
namespace Go.Proofs
open Go.RowKit Go.Shelf
attribute [local go_sem] Oper.semAt_some
def Bk.upto {α:Type} (f:Nat → α) (k:Nat):List α:=(List.range k).map f
theorem Bk.upto_succ {α:Type} (f:Nat → α) (k:Nat):Bk.upto f (k + 1) = Bk.upto f k ++ [f k]:=by simp [Bk.upto,List.range_succ]
theorem Bk.upto_length {α:Type} (f:Nat → α) (k:Nat):(Bk.upto f k).length = k:=by simp [Bk.upto]
structure Bk.Kp (n₀ Bs:Nat) (W W':World):Prop where
  below:Below n₀ W W'
  box:∀ o:Obj,W.heap[Bs]? = some o → o.isCells = true → W'.heap[Bs]? = some o
theorem Bk.Kp.refl (n₀ Bs:Nat) (W:World):Bk.Kp n₀ Bs W W:=⟨Below.refl _ _,fun _ h _=>h⟩
theorem Bk.Kp.trans {n₀ Bs:Nat} {A B C:World} (h:Bk.Kp n₀ Bs A B) (k:Bk.Kp n₀ Bs B C):Bk.Kp n₀ Bs A C:=⟨h.below.trans k.below,fun o h1 h2=>k.box o (h.box o h1 h2) h2⟩
theorem Bk.Kp.cell {n₀ Bs:Nat} {A B:World} (h:Bk.Kp n₀ Bs A B) {v:Value} (hc:A.cell? ⟨Bs,0,none⟩ = some v):B.cell? ⟨Bs,0,none⟩ = some v:=by
  obtain ⟨o,ho,hi⟩:=cells_of_cell hc
  exact (World.cell?_of_block ((h.box o ho hi).trans ho.symm)).trans hc
set_option maxRecDepth 100000 in
set_option maxHeartbeats 2000000 in
theorem Bk.back1_in {α:Type} (F:Fence) (n:Nat) (h8:F.fn 150) (hro:F.round = none) (hn:1 ≤ n) (l Bs n₀ len cap:Nat) (a:Option Addr) (zs:List Int) (f:Nat → α) (encs:α → Array Value)
    (hf:∀ k,k < len → encs (f k) = #[.int .i64 ((len - 1 - k:Nat):Int),.int .i64 (zs[len - 1 - k]?.getD 0)]) (hreach:len * 8 ≤ 140737488351232) (J Jx:List α → World → Prop)
    (hY:∀ pre x W,J pre W → pre.length < len → YieldAt F (n - 1) Tryz.prog l (encs x) W fun e W' =>
      (e = .returned (.bool true) ∧ J (pre ++ [x]) W' ∧ Bk.Kp n₀ Bs W W') ∨ (e = .returned (.bool false) ∧ Jx (pre ++ [x]) W'))
    (W:World) (hBs:W.cell? ⟨Bs,0,none⟩ = some (.slice a len cap)) (hc:len = 0 ∨ ∃ b off,a = some ⟨b,off,none⟩ ∧ b < n₀ ∧ ∀ j,j < len → W.cell? ⟨b,off + j,none⟩ = some (.int .i64 (zs[j]?.getD 0))) (h0:J [] W) :
    CallsIn F n Tryz.prog 150 #[.func (.yield l) #[] #[],.pointer (some ⟨Bs,0,none⟩)] W fun e W'=>(∃ v,e = .returned v) ∧
      ((∃ ys,ys = Bk.upto f len ∧ J ys W') ∨ (∃ pre,True ∧ Jx pre W')):=by
  refine callsIn_of_wp Tryz.func150 rfl h8 ?_ hro
  simp only [Tryz.ntmps150,List.size_toArray,List.length_cons,List.length_nil,Nat.reduceAdd,Nat.reduceSub,Array.replicate_succ,Array.replicate_zero,List.push_toArray,List.append_toArray,List.nil_append,List.cons_append]
  gi_wp2
  gi_loopw [3] (fun i wr=>∃ k:Nat,k ≤ len ∧ i = .int .i64 ((len:Int) - 1 - k) ∧ J (Bk.upto f k) wr ∧ Bk.Kp n₀ Bs W wr)
    (fun i _=>(intOf i + 1).toNat)
  case atStart=>exact ⟨0,Nat.zero_le _,by go_num,h0,Bk.Kp.refl _ _ _⟩
  case round =>
    obtain ⟨k,hk,rfl,hJs,hnx⟩:=hrel
    have hbx:wr.cell? ⟨Bs,0,none⟩ = some (.slice a len cap):=hnx.cell hBs
    by_cases hlt:k < len
    · obtain ⟨b,off,rfl,hb,hcc⟩:∃ b off,a = some ⟨b,off,none⟩ ∧ b < n₀ ∧ ∀ j,j < len → W.cell? ⟨b,off + j,none⟩ = some (.int .i64 (zs[j]?.getD 0)):=hc.resolve_left (by omega)
      obtain ⟨q,hq⟩:∃ q,q = len - 1 - k:=⟨_,rfl⟩
      have hcx:wr.cell? ⟨b,off + q,none⟩ = some (.int .i64 (zs[q]?.getD 0)):=(hnx.below.cell (p:=⟨b,off + q,none⟩) hb).trans (hcc q (by omega))
      obtain ⟨fn,tmps,assign,body,hy,hR⟩:=hY _ (f k) wr hJs (by rw [Bk.upto_length]; exact hlt)
      rw [hf k hlt,← hq] at hy
      have e2:(len:Int) - 1 - k = (q:Int):=by omega
      have hqn:(len:Int) - 1 - ((k + 1:Nat):Int) = (q:Int) - 1:=by omega
      rw [e2]
      have hql:q < len:=by omega
      have hq0:(0:Int) ≤ (q:Int):=by omega
      clear hq e2 hcc hf hc
      gi_wp2
      refine hR.mono ?_
      rintro e W3 (⟨rfl,hJ3,hk3⟩ | ⟨rfl,hJx3⟩)
      · gi_wp2
        go_roundw
        case rel=>exact ⟨k + 1,by omega,by rw [hqn],by rw [Bk.upto_succ]; exact hJ3,hnx.trans hk3⟩
        case measure=>simp [intOf]
      · gi_wp2
        refine bodyPost_ret (results_none rfl _ _ _) rfl ?_
        exact ⟨⟨_,rfl⟩,.inr ⟨_,trivial,hJx3⟩⟩
    · obtain rfl:k = len:=by omega
      gi_wp2
      go_end0
      exact ⟨⟨_,rfl⟩,.inl ⟨_,rfl,hJs⟩⟩
theorem Bk.back_stops {α:Type} (F:Fence) (n:Nat) (h8:F.fn 150) (hro:F.round = none) (hn:1 ≤ n) (Bs n₀ cap:Nat) (a:Option Addr) (zs:List Int) (f:Nat → α) (encs:α → Array Value)
    (hf:∀ k,k < zs.length → encs (f k) = #[.int .i64 ((zs.length - 1 - k:Nat):Int),.int .i64 (zs[zs.length - 1 - k]?.getD 0)]) (hreach:zs.length * 8 ≤ 140737488351232) (w:World) (hBw:Bs < w.heap.size) (hn₀:n₀ ≤ w.heap.size)
    (hc:w.cell? ⟨Bs,0,none⟩ = some (.slice a zs.length cap)) (hI:zs.length = 0 ∨ ∃ b off,a = some ⟨b,off,none⟩ ∧ b < n₀ ∧ ∀ j,j < zs.length → w.cell? ⟨b,off + j,none⟩ = some (.int .i64 (zs[j]?.getD 0))) :
    SeqStopsK F n Tryz.prog 150 #[.pointer (some ⟨Bs,0,none⟩)] encs (Bk.Kp n₀ Bs) (fun ys=>ys = Bk.upto f zs.length) (fun _=>True) zs.length w:=fun l J Jx W hW _ _ hY h0=>by
  have hc':=(hW.cell (p:=⟨Bs,0,none⟩) hBw).trans hc
  refine Bk.back1_in F n h8 hro hn l Bs n₀ zs.length cap a zs f encs hf hreach J Jx hY W hc' ?_ h0
  rcases hI with h | ⟨b,off,e,hb,hcc⟩
  · exact .inl h
  · exact .inr ⟨b,off,e,hb,fun j hj=>(hW.cell (p:=⟨b,off + j,none⟩) (Nat.lt_of_lt_of_le hb hn₀)).trans (hcc j hj)⟩
set_option maxHeartbeats 1000000 in
theorem Bk.back_in (F:Fence) (n:Nat) (h6:F.fn 121) (hro:F.round = none) (a:Option Addr) (len cap:Nat) (w:World) :
    CallsIn F n Tryz.prog 121 #[.slice a len cap] w fun e w'=>e = .returned (.func (.func 150) #[] #[.pointer (some ⟨w.heap.size,0,none⟩)]) ∧ w' = w.alloc (.cells #[.slice a len cap] 103):=by
  refine callsIn_of_wp Tryz.func121 rfl h6 ?_ hro
  simp only [Tryz.ntmps121,List.size_toArray,List.length_cons,List.length_nil,Nat.reduceAdd,Nat.reduceSub,Array.replicate_succ,Array.replicate_zero,List.push_toArray,List.append_toArray,List.nil_append,List.cons_append]
  gi_wp2
  go_ret
  exact ⟨rfl,rfl⟩
end Go.Proofs
