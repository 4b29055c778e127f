/- Loops, and states seen with less, as they are met in walks. -/
import Derived.Test.YthdklcpkoeehnaaDoorQS
namespace Go.Q
open Go

/-- A state, and what holds of it seen with less. -/
structure BackN (n : Nat) (s : St) (T : St → Prop) : Prop where
  ex : ∃ s' keep frz m, Weak n s s' keep frz m ∧ T s'

theorem LoopN.of {P : Program} {n : Nat} {c : Code} {Q : Exit → St → Prop} {st : St} (Inv : Nat → St → Prop) (h0 : BackN n st (fun s => ∃ k, Inv k s))
    (round : ∀ k s, Inv k s → SWP P n c (thenQ (fun s' => BackN n s' fun s'' => ∃ k', k' < k ∧ Inv k' s'') Q) s) : LoopN P n c Q st := by
  obtain ⟨s0, keep, frz, m, W, k, hI⟩ := h0
  refine ⟨SWP.loop (fun k s => ∃ s' keep frz m, Weak n s s' keep frz m ∧ Inv k s') ⟨s0, keep, frz, m, W, hI⟩ ?_⟩
  rintro k s ⟨s', keep, frz, m, W, hI⟩
  refine SWP.weak W ((round k s' hI).mono fun e s2 h => ?_)
  cases e with
  | normal =>
    obtain ⟨s3, keep3, frz3, m3, W3, k', hlt, hI3⟩ := h
    exact ⟨k', hlt, s3, keep3, frz3, m3, W3, hI3⟩
  | _ => exact h

/-- What lies behind a loop, or where ways meet, walked once. -/
theorem SWP.cutAt {P : Program} {n : Nat} {x y : Code} {Q : Exit → St → Prop} {st : St} (Mid : St → Prop) (h : SWP P n x (thenQ (fun s => BackN n s Mid) Q) st) (h2 : ∀ s, Mid s → SWP P n y Q s) : SWP P n (.seq x y) Q st :=
  SWP.seq (h.mono fun e s hq => by
    cases e with
    | normal =>
      obtain ⟨s', keep, frz, m, W, hm⟩ := hq
      exact SWP.weak W (h2 s' hm)
    | _ => exact hq)

/-- Temporaries of a state, seen so. -/
def Seen (st : St) (keep frz : List Nat) (m : Nat) : List (Nat × AV) → Prop
  | [] => True
  | (d, v) :: r => WV st.h keep frz m (st.get d) v ∧ Seen st keep frz m r

theorem Seen.all {st : St} {keep frz : List Nat} {m : Nat} : ∀ {ts : List (Nat × AV)}, Seen st keep frz m ts → ∀ p ∈ ts, WV st.h keep frz m (st.get p.1) p.2
  | [], _, p, hp => by simp at hp
  | (d, v) :: r, h, p, hp => by
    rcases List.mem_cons.1 hp with rfl | hp
    · exact h.1
    · exact Seen.all h.2 p hp

def SeenO (h : List AObj) (keep frz : List Nat) (m : Nat) : List Nat → List AObj → Prop
  | [], hs => hs.length = m ∧ ∀ ob ∈ hs, ∃ s, ob = .arr s []
  | k :: ks, ob' :: hs => (∃ ob, h[k]? = some ob ∧ WO h keep frz m ob ob') ∧ SeenO h keep frz m ks hs
  | _ :: _, [] => False

theorem SeenO.spec {h : List AObj} {keep frz : List Nat} {m : Nat} : ∀ {ks : List Nat} {hs : List AObj}, SeenO h keep frz m ks hs → hs.length = ks.length + m ∧
    (∀ i (hi : i < ks.length), ∃ ob ob', h[ks[i]]? = some ob ∧ hs[i]? = some ob' ∧ WO h keep frz m ob ob') ∧ ∀ i, ks.length ≤ i → i < ks.length + m → ∃ s, hs[i]? = some (.arr s [])
  | [], hs, ⟨h1, h2⟩ => by
    refine ⟨by simpa using h1, fun i hi => by simp at hi, fun i _ hi => ?_⟩
    simp only [List.length_nil, Nat.zero_add] at hi
    have hlt : i < hs.length := by omega
    obtain ⟨s, e⟩ := h2 _ (List.getElem_mem hlt)
    exact ⟨s, by rw [List.getElem?_eq_getElem hlt, e]⟩
  | k :: ks, ob' :: hs, ⟨⟨ob, h1, h2⟩, h3⟩ => by
    obtain ⟨a1, a2, a3⟩ := SeenO.spec h3
    refine ⟨by simp only [List.length_cons]; omega, fun i hi => ?_, fun i h1 h2 => ?_⟩
    · cases i with
      | zero => exact ⟨ob, ob', h1, rfl, h2⟩
      | succ i => exact a2 i (by simpa using hi)
    · cases i with
      | zero => simp only [List.length_cons] at h1; omega
      | succ i =>
        simp only [List.length_cons] at h1 h2
        obtain ⟨s, e⟩ := a3 i (by omega) (by omega)
        exact ⟨s, by simpa using e⟩

theorem WH.of {n : Nat} {h : List AObj} {keep frz : List Nat} {m : Nat} {h' : List AObj} (h1 : keep.Nodup) (h2 : keep.take n = List.range n) (h3 : (frz.all fun o => !keep.contains o) = true) (h4 : SeenO h keep frz m keep h') : WH n h keep frz m h' := by
  obtain ⟨a1, a2, a3⟩ := h4.spec
  refine ⟨h1, fun o ho => ?_, fun o ho hk => ?_, a1, a2, a3⟩
  · have e : (keep.take n)[o]? = some o := by rw [h2]; simp [ho]
    rw [List.getElem?_take, if_pos ho] at e
    exact e
  · simp only [List.all_eq_true, Bool.not_eq_true'] at h3
    have := h3 o ho
    rw [List.contains_iff_mem.2 hk] at this
    cases this

theorem Weak.of {n : Nat} {st st' : St} {keep frz : List Nat} {m : Nat} (h0 : st'.n = st.n) (h1 : keep.Nodup) (h2 : keep.take n = List.range n) (h3 : (frz.all fun o => !keep.contains o) = true) (h4 : SeenO st.h keep frz m keep st'.h)
    (h5 : Seen st keep frz m st'.ts) : Weak n st st' keep frz m := ⟨h0, WH.of h1 h2 h3 h4, h5.all⟩

/-- A state without objects, seen with some of its temporaries. -/
theorem Weak.none {st : St} {k : Nat} {ts : List (Nat × AV)} (h0 : k = st.n) (h5 : Seen st [] [] 0 ts) : Weak 0 st ⟨k, ts, []⟩ [] [] 0 := ⟨h0, WH.nil _, h5.all⟩

theorem Weak.objs {n : Nat} {st : St} {keep frz : List Nat} {m k : Nat} {ts : List (Nat × AV)} {hs : List AObj} (h0 : k = st.n) (h1 : keep.Nodup) (h2 : keep.take n = List.range n) (h3 : (frz.all fun o => !keep.contains o) = true) (h4 : SeenO st.h keep frz m keep hs)
    (h5 : Seen st keep frz m ts) : Weak n st ⟨k, ts, hs⟩ keep frz m := ⟨h0, WH.of h1 h2 h3 h4, h5.all⟩

theorem At.of {es : List AV} {j : Nat} {K : AV → Prop} {e : AV} (i : Nat) (hj : j = i) (h : es[i]? = some e) (k : K e) : At es j K := ⟨⟨e, by rw [hj]; exact h, k⟩⟩

theorem WV.frz {h : List AObj} {es : List AV} {s n k : Nat} (ho : h[k]? = some (.arr s es)) (hn : n = es.length) : WV h [] [k] 0 (.ref k 0 n) (.vs s es) := by
  subst hn
  have := WV.refFrz (h := h) (keep := []) (frz := [k]) (m := 0) k 0 es.length s es (by simp) ho (by omega)
  simpa using this

theorem wlt {i n : Nat} (h : i < n) (hn : n < 2 ^ 62) : IntKind.i64.wrap ((i : Int) + 1) = ((i + 1 : Nat) : Int) := by
  simp only [IntKind.wrap, IntKind.bits, IntKind.signed]
  have : (i : Int) + 1 < 2 ^ 62 := by omega
  simp
  omega

theorem WO.refl {h : List AObj} {keep frz : List Nat} {m : Nat} {cs : List AV} (hp : cs.all pureQ = true) : WO h keep frz m (.box cs) (.box cs) :=
  .box _ _ rfl (fun i h1 h2 => .same _ (by simp only [List.all_eq_true] at hp; exact hp _ (List.getElem_mem h1)))

theorem w64 {x : Int} (h : -9223372036854775808 ≤ x ∧ x < 9223372036854775808) : IntKind.i64.wrap x = x := by
  simp only [IntKind.wrap, IntKind.bits, IntKind.signed]
  simp
  omega

/-- A call, its answer under a name. -/
theorem CallN.gen {P : Program} {n : Nat} {g : FuncId} {args : List AV} {st : St} {K : St → AV → Prop} {α : Type} (v : α → AV) (x0 : α) (h : Gives P g args (v x0)) (hp : args.all pureQ = true) (hK : ∀ x, x = x0 → K st (sh2 st.h.length (v x))) : CallN P n g args st K :=
  CallN.gives h hp (hK x0 rfl)

theorem CallN.all {P : Program} {n : Nat} {g : FuncId} {args : List AV} {st : St} {K : St → AV → Prop} {R : AV → List AObj → Prop} (h : ACalls P g args st.h R) (hK : ∀ r h', R r h' → K { st with h := h' } r) : CallN P n g args st K := ⟨CallOK.all h hK⟩

theorem li_ext {k : IntKind} {a b : Int} (h : a = b) : AV.lit (.int k a) = .lit (.int k b) := by rw [h]

theorem DNode.of {P : Program} {o : Oper} {st : St} {K : AV → Prop} {av : AV} (h1 : astep P st.h.length o (fun st'' => st'' = (restrict o st).put o.dst av) (restrict o st)) (h2 : K av) : DNode P o st K := ⟨av, h1, h2⟩

end Go.Q
