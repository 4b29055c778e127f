import Derived.Test.YtmfhkipeapdfmaaGreatDoorFD
namespace Go.Q
open Go
theorem letF {ρ:Type} {x:Bool} {A B:Option ρ} {r:Option ρ} (hx:x = false) (h:B = r):letk x (fun t=>bif t then A else B) = r:=by
  subst hx; exact h
theorem letT {ρ:Type} {x:Bool} {A B:Option ρ} {r:Option ρ} (hx:x = true) (h:A = r):letk x (fun t=>bif t then A else B) = r:=by
  subst hx; exact h
theorem letV {α ρ:Type} {x y:α} {X:α → Option ρ} {r:Option ρ} (hx:x = y) (h:X y = r):letk x X = r:=by
  subst hx; exact h
theorem bindE {α ρ:Type} {x:Option α} {a:α} {X:α → Option ρ} {r:Option ρ} (hx:x = some a) (h:X a = r):x.bind X = r:=by
  subst hx; exact h
theorem chkE {ρ:Type} {c:Prop} {X r:Option ρ} (hc:c) (h:X = r):chk c X = r:=by
  rw [show chk c X = X from if_pos hc]; exact h
theorem loopO_run [_KN:Know] {σ ρ:Type} {step:σ → Option (σ ⊕ ρ)} {r:Option ρ} (f:Nat → σ) (N:Nat) (h:∀ i,i < N → step (f i) = some (.inl (f (i + 1)))) (hN:loopO step (f N) = r):loopO step (f 0) = r:=by
  have go:∀ m i,i + m = N → loopO step (f i) = r:=by
    intro m
    induction m with
    | zero =>
      intro i hi
      obtain rfl:i = N:=by omega
      exact hN
    | succ m ih=>intro i hi; rw [loopO_eq,h i (by omega)]; exact ih (i + 1) (by omega)
  exact go N 0 (by omega)
theorem loopO_end [_KN:Know] {σ ρ:Type} {step:σ → Option (σ ⊕ ρ)} {s:σ} {r:ρ} (h:step s = some (.inr r)):loopO step s = some r:=by
  rw [loopO_eq,h]; rfl
theorem loopO_next [_KN:Know] {σ ρ:Type} {step:σ → Option (σ ⊕ ρ)} {s t:σ} {r:Option ρ} (h:step s = some (.inl t)) (k:loopO step t = r):loopO step s = r:=by
  rw [loopO_eq,h]; exact k
end Go.Q
