/- The walk's nodes, and how they are met. -/
import Derived.Test.YthdklcpkoeehnaaDoorQR
namespace Go.Q
open Go

/-- An operation of a region whose order is open: it gives av, and leaves memory as it is. -/
structure DNode (P : Program) (o : Oper) (st : St) (K : AV → Prop) : Prop where
  ex : ∃ av, astep P st.h.length o (fun st'' => st'' = (restrict o st).put o.dst av) (restrict o st) ∧ K av

def dwp (P : Program) (ops : Array Oper) : List Oper → (St → Prop) → St → Prop
  | [], N, st => N st
  | o :: r, N, st => match o.guard with
    | none => DNode P o st (fun av => st.putK o.dst av (dwp P ops r N))
    | some (j, want) => match (ops[j]?).bind (·.dst) with
      | some d => match st.get d with
        | .lit (.bool b) => ifB b
            (st.putK (some d) (.lit (.bool true)) fun st => match want with | true => DNode P o st (fun av => st.putK o.dst av (dwp P ops r N)) | false => st.putK o.dst (.tup []) (dwp P ops r N))
            (st.putK (some d) (.lit (.bool false)) fun st => match want with | false => DNode P o st (fun av => st.putK o.dst av (dwp P ops r N)) | true => st.putK o.dst (.tup []) (dwp P ops r N))
        | .tup [] => st.putK o.dst (.tup []) (dwp P ops r N)
        | _ => False
      | none => False

theorem SameSt.put {s t : St} (h : SameSt s t) (d : Option Nat) (v : AV) : SameSt (s.put d v) (t.put d v) :=
  ⟨fun k => by rw [put_get, put_get, h.n, h.get k], by rw [put_n, put_n, h.n], by rw [put_h, put_h, h.h]⟩

theorem SameSt.reput {s t : St} (h : SameSt s t) {d : Nat} {v : AV} (hd : s.get d = v) : SameSt (s.put (some d) v) t :=
  ⟨fun k => by
    rw [put_get]
    split
    · rename_i hc
      have : d = k := by simpa using hc.1
      subst this
      rw [← h.get d, hd]
    · exact h.get k, by rw [put_n, h.n], by rw [put_h, h.h]⟩

theorem dwp_ok {P : Program} {ops : Array Oper} {N : St → Prop} : ∀ {l : List Oper} {st : St}, dwp P ops l N st → ∀ st1, SameSt st st1 → ∃ tr sF, TraceL P ops l st1 tr sF ∧ N sF := by
  intro l
  induction l with
  | nil => intro st h st1 hs; exact ⟨[], st, ⟨rfl, ⟨fun d => (hs.get d).symm, hs.n.symm, hs.h.symm⟩⟩, h⟩
  | cons o r ih =>
    intro st h st1 hs
    have node : ∀ st, SameSt st st1 → DNode P o st (fun av => st.putK o.dst av (dwp P ops r N)) → ∃ av tr sF, DO P o st av ∧ TraceL P ops r (st1.put o.dst av) tr sF ∧ N sF := by
      intro st hs ⟨av, h1, h2⟩
      rw [St.putK_eq] at h2
      obtain ⟨tr, sF, h3, h4⟩ := ih h2 _ (hs.put o.dst av)
      exact ⟨av, tr, sF, astep_ok h1, h3, h4⟩
    simp only [dwp] at h
    cases hg : o.guard with
    | none =>
      rw [hg] at h
      simp only at h
      obtain ⟨av, tr, sF, h1, h2, h3⟩ := node st hs h
      exact ⟨av :: tr, sF, ⟨av, tr, rfl, ⟨st, hs, by rw [hg]; exact h1⟩, h2⟩, h3⟩
    | some jw =>
      obtain ⟨j, want⟩ := jw
      rw [hg] at h
      simp only at h
      cases hd : (ops[j]?).bind (·.dst) with
      | none => rw [hd] at h; exact h.elim
      | some d =>
        rw [hd] at h
        simp only at h
        split at h
        · rename_i b hb
          have hs' : SameSt (st.put (some d) (.lit (.bool b))) st1 := hs.reput hb
          have hb' : (st.put (some d) (.lit (.bool b))).get d = .lit (.bool b) := by
            rw [put_get]
            have := get_lt hb (by simp)
            rw [if_pos ⟨rfl, this⟩]
          obtain ⟨hT, hF⟩ := ifB_elim h
          have run : DNode P o (st.put (some d) (.lit (.bool b))) (fun av => (st.put (some d) (.lit (.bool b))).putK o.dst av (dwp P ops r N)) → b = want → ∃ tr sF, TraceL P ops (o :: r) st1 tr sF ∧ N sF := by
            intro h hw
            obtain ⟨av, tr, sF, h1, h2, h3⟩ := node _ hs' h
            exact ⟨av :: tr, sF, ⟨av, tr, rfl, ⟨_, hs', by rw [hg]; exact ⟨d, hd, .inl ⟨b, hb', .inl ⟨hw, h1⟩⟩⟩⟩, h2⟩, h3⟩
          have skip : dwp P ops r N ((st.put (some d) (.lit (.bool b))).put o.dst (.tup [])) → b ≠ want → ∃ tr sF, TraceL P ops (o :: r) st1 tr sF ∧ N sF := by
            intro h hw
            obtain ⟨tr, sF, h3, h4⟩ := ih h _ (hs'.put o.dst (.tup []))
            exact ⟨.tup [] :: tr, sF, ⟨.tup [], tr, rfl, ⟨_, hs', by rw [hg]; exact ⟨d, hd, .inl ⟨b, hb', .inr ⟨hw, rfl⟩⟩⟩⟩, h3⟩, h4⟩
          cases b with
          | true =>
            have h := hT rfl
            rw [St.putK_eq] at h
            cases want with
            | true => exact run h rfl
            | false => rw [St.putK_eq] at h; exact skip h (by simp)
          | false =>
            have h := hF rfl
            rw [St.putK_eq] at h
            cases want with
            | false => exact run h rfl
            | true => rw [St.putK_eq] at h; exact skip h (by simp)
        · rename_i hb
          rw [St.putK_eq] at h
          obtain ⟨tr, sF, h3, h4⟩ := ih h _ (hs.put o.dst (.tup []))
          exact ⟨.tup [] :: tr, sF, ⟨.tup [], tr, rfl, ⟨_, hs, by rw [hg]; exact ⟨d, hd, .inr ⟨hb, rfl⟩⟩⟩, h3⟩, h4⟩
        · exact h.elim

theorem DrawN.of {P : Program} {n id : Nat} {ops : Array Oper} {Q : Exit → St → Prop} {st : St} (hm : P.follows .mixedOrders = true) (hd : drawOk ops = true) (h : dwp P ops ops.toList (Q .normal) st) : DrawN P n id ops Q st := by
  obtain ⟨tr, sF, h1, h2⟩ := dwp_ok h st ⟨fun _ => rfl, rfl, rfl⟩
  exact ⟨SWP.draw hm hd h1 h2⟩

theorem WH.nil (h : List AObj) : WH 0 h [] [] 0 [] := ⟨.nil, fun o ho => by omega, fun o ho => by simp at ho, rfl, fun i hi => by simp at hi, fun i h1 h2 => by simp at h2⟩

def pureT : AV → Bool
  | .tup vs => vs.all pureQ
  | v => pureQ v

theorem pureT_wv {h : List AObj} {keep frz : List Nat} {m : Nat} {r : AV} (hp : pureT r = true) : WV h keep frz m r r := by
  cases r with
  | tup xs =>
    simp only [pureT, List.all_eq_true] at hp
    exact .tup _ _ rfl (fun i h1 h2 => .same _ (hp _ (List.getElem_mem h1)))
  | _ => exact .same _ hp

def isEnd : Exit → Bool
  | .normal | .ret => true
  | _ => false

theorem isEnd_ok {e : Exit} (h : isEnd e = true) : e = .normal ∨ e = .ret := by cases e <;> first | exact .inl rfl | exact .inr rfl | cases h

/-- A function returns values that name no object. -/
theorem Returns.pure {P : Program} {fn : Func} {R : AV → List AObj → Prop} {e : Exit} {st : St} {vs : List AV} {r : AV} (he : isEnd e = true) (hv : aresults P st fn.results.toList = some vs) (hr : resultAV vs = r) (hp : pureT r = true)
    (hR : R r []) : Returns P 0 fn R e st := by
  subst hr
  exact ⟨isEnd_ok he, vs, hv, [], [], 0, _, [], WH.nil _, pureT_wv hp, hR⟩

/-- A function returns, its arrays frozen. -/
theorem Returns.frozen {P : Program} {fn : Func} {R : AV → List AObj → Prop} {e : Exit} {st : St} {vs : List AV} {r : AV} (frz : List Nat) (he : isEnd e = true) (hv : aresults P st fn.results.toList = some vs) (hr : WV st.h [] frz 0 (resultAV vs) r)
    (hR : R r []) : Returns P 0 fn R e st :=
  ⟨isEnd_ok he, vs, hv, [], frz, 0, r, [], ⟨.nil, fun o ho => by omega, fun o _ h => by simp at h, rfl, fun i hi => by simp at hi, fun i h1 h2 => by simp at h2⟩, hr, hR⟩

theorem lb_ext {a b : Bool} (h : a = true ↔ b = true) : AV.lit (.bool a) = .lit (.bool b) := by rw [Bool.eq_iff_iff.2 h]

/-- A contract whose memory nobody asks for. -/
abbrev Gives (P : Program) (g : FuncId) (args : List AV) (v : AV) : Prop := ACalls P g args [] (fun r h => r = v ∧ h = [])

theorem CallN.gives {P : Program} {n : Nat} {g : FuncId} {args : List AV} {st : St} {K : St → AV → Prop} {v : AV} (h : Gives P g args v) (hp : args.all pureQ = true) (hK : K st (sh2 st.h.length v)) : CallN P n g args st K :=
  ⟨CallOK.pure h hp (by
    rintro r h' ⟨rfl, rfl⟩
    simpa using hK)⟩

end Go.Q
