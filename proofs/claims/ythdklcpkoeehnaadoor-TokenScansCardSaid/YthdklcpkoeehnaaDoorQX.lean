/- What the printed walks name. -/
import Derived.Test.YthdklcpkoeehnaaDoorQW
namespace Go.Q
open Go

abbrev eI (k : IntKind) (n : Int) : AV := .lit (.int k n)
abbrev eB (b : Bool) : AV := .lit (.bool b)
abbrev eS (s : ByteArray) : AV := .lit (.string s)
abbrev eV {α : Type} (s : Nat) (f : α → AV) (l : List α) : AV := .vs s (l.map f)

def bytesI (s : ByteArray) : List Int := s.data.toList.map fun c => (c.toNat : Int)
theorem bytesI_map (s : ByteArray) : (bytesI s).map (eI .u8) = s.data.toList.map fun c => .lit (.int .u8 c.toNat) := by
  unfold bytesI
  rw [List.map_map]
  rfl

theorem one_map {α : Type} {f : α → AV} {l : List α} (h : ∀ (x : α) (c : AV), c ∈ (f x).cells → oneQ [] c = true) : OneCells (l.map f) := by
  intro e he c hc
  obtain ⟨x, _, rfl⟩ := List.mem_map.1 he
  exact h x c hc

def WVs (h : List AObj) (keep frz : List Nat) (m : Nat) : List AV → List AV → Prop
  | [], [] => True
  | a :: as', b :: bs => WV h keep frz m a b ∧ WVs h keep frz m as' bs
  | _, _ => False

theorem WVs.spec {h : List AObj} {keep frz : List Nat} {m : Nat} : ∀ {cs ds : List AV}, WVs h keep frz m cs ds → ds.length = cs.length ∧ ∀ i (h1 : i < cs.length) (h2 : i < ds.length), WV h keep frz m cs[i] ds[i]
  | [], [], _ => ⟨rfl, fun i h1 => by simp at h1⟩
  | a :: cs, b :: ds, ⟨h1, h2⟩ => by
    obtain ⟨h3, h4⟩ := WVs.spec h2
    refine ⟨by simp [h3], fun i hi hi' => ?_⟩
    cases i with
    | zero => exact h1
    | succ i => exact h4 i (by simpa using hi) (by simpa using hi')
  | [], _ :: _, h => h.elim
  | _ :: _, [], h => h.elim

theorem WV.tups {h : List AObj} {keep frz : List Nat} {m : Nat} {cs ds : List AV} (w : WVs h keep frz m cs ds) : WV h keep frz m (.tup cs) (.tup ds) := .tup _ _ w.spec.1 w.spec.2
theorem WV.aggs {h : List AObj} {keep frz : List Nat} {m : Nat} {cs ds : List AV} (w : WVs h keep frz m cs ds) : WV h keep frz m (.agg cs) (.agg ds) := .agg _ _ w.spec.1 w.spec.2
theorem fnq {f : Fn} {c : List AV} (h : c.all pureQ.pureQ0 = true) : pureQ (.fn f [] c) = true := by
  show (([] : List AV).isEmpty && c.all pureQ.pureQ0) = true
  rw [h]; rfl
theorem allq_cons {a : AV} {l : List AV} (h1 : pureQ a = true) (h2 : l.all pureQ = true) : (a :: l).all pureQ = true := by rw [List.all_cons, h1, h2]; rfl
theorem pureQ0_pureQ {a : AV} (h : pureQ.pureQ0 a = true) : pureQ a = true := by cases a <;> first | rfl | cases h
theorem allq_app {l c : List AV} (h1 : l.all pureQ = true) (h2 : c.all pureQ.pureQ0 = true) : (l ++ c).all pureQ = true := by
  rw [List.all_append, h1, Bool.true_and]
  simp only [List.all_eq_true] at h2 ⊢
  exact fun x hx => pureQ0_pureQ (h2 x hx)
theorem WO.boxs {h : List AObj} {keep frz : List Nat} {m : Nat} {cs ds : List AV} (w : WVs h keep frz m cs ds) : WO h keep frz m (.box cs) (.box ds) := .box _ _ w.spec.1 w.spec.2
end Go.Q
