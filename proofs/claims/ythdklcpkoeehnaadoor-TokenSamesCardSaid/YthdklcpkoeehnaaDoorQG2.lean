import Derived.Test.YthdklcpkoeehnaaDoorQG1
namespace Go.Q
open Go Go.Proofs Go.RowKit Go.ChangeShapes Go.WideShapes
set_option maxRecDepth 100000

theorem tryd_struct : ∃ f0 f1 : Field, Tryd.prog.underlying 32 = some (.struct #[f0, f1]) ∧ f0.type = 9 ∧ f1.type = 9 ∧ f0.offset = 0 ∧ f1.offset = 1 := ⟨{ name := "Kind", type := 9, offset := 0, embedded := false, tag := "", pkgPath := "", byteOffset := 0 }, { name := "Text", type := 9, offset := 1, embedded := false, tag := "", pkgPath := "", byteOffset := 16 }, by kernel_rfl, rfl, rfl, rfl, rfl⟩
theorem tryd_string : Tryd.prog.underlying 9 = some .string := by kernel_rfl
theorem tryd_cells9 : Tryd.prog.cellsOf 9 = 1 := by kernel_rfl

section
variable {H : Type} {enc : TypeId × Value → H} {w : World} {base : Nat} {sp : Nat → Bool} {held : Bool}

theorem trod_str {fuel : Nat} {cs : List Value} {y : DataW H × List MemPlace} (h : DataW.trod enc Tryd.prog w base sp held fuel 9 cs = some y) : ∃ s, cs = [.string s] ∧ s.size ≤ maxLen := by
  cases fuel with
  | zero => simp [DataW.trod] at h
  | succ n =>
    unfold DataW.trod at h
    rw [tryd_string] at h
    split at h <;> simp_all

theorem trod_tok {fuel : Nat} {cs : List Value} {y : DataW H × List MemPlace} (h : DataW.trod enc Tryd.prog w base sp held fuel 32 cs = some y) : ∃ k t : ByteArray, cs = [.string k, .string t] ∧ k.size ≤ maxLen ∧ t.size ≤ maxLen := by
  obtain ⟨f0, f1, hu, h0, h1, o0, o1⟩ := tryd_struct
  obtain ⟨xs, n, _, _, hl, hx, hf⟩ := DataW.trod_struct hu h
  rw [tryd_cells] at hl
  have hx2 : xs.length = 2 := by simpa using hx
  match cs, hl with
  | [a, b], _ =>
    have e0 := hf 0 f0 rfl
    have e1 := hf 1 f1 rfl
    rw [h0, o0, tryd_cells9] at e0
    rw [h1, o1, tryd_cells9] at e1
    rw [List.getElem?_eq_getElem (by omega)] at e0 e1
    obtain ⟨k, hk, hk2⟩ := trod_str e0
    obtain ⟨t, ht, ht2⟩ := trod_str e1
    simp at hk ht
    subst hk ht
    exact ⟨k, t, rfl, hk2, ht2⟩
end

def strAt (w : World) (b off : Nat) : ByteArray := match w.cell? ⟨b, off, none⟩ with | some (.string s) => s | _ => ⟨#[]⟩
def valAt (w : World) (b off : Nat) : Value := (w.cell? ⟨b, off, none⟩).getD Go.undef

theorem open_toks {H : Type} {enc : TypeId × Value → H} {w : World} {v : Value} {d : DataW H} {ps : List MemPlace} (h : DataW.Trod enc Tryd.prog w 0 (fun _ => true) true 23 v d ps) (hv : v.cells.toList = [v]) :
    ∃ l : List TK, l.length < 2 ^ 63 ∧ RelV (fun b => b < w.heap.size) w [] (.vs 2 (l.map tkAV)) v := by
  obtain ⟨fuel, h⟩ := h
  rw [hv] at h
  rcases DataW.trod_slice tryd_slice h with ⟨h0, _⟩ | ⟨a, len, cap, elems, rest, n, _, hcs, _, _, hle, hcap, hlen, hel, _, _⟩
  · simp at h0
    subst h0
    exact ⟨[], by decide, .vs [] 2 [] none 0 (fun _ _ => Go.undef) (by simp) (fun h => by simp at h) (fun i hi => by simp at hi) (fun i hi => by simp at hi)⟩
  · simp at hcs
    subst hcs
    rw [tryd_cells] at hel
    have each : ∀ i, i < len → ∃ k t : ByteArray, (w.cell? (a.add (i * 2)) = some (.string k)) ∧ w.cell? ((a.add (i * 2)).add 1) = some (.string t) := by
      intro i hi
      have e := hel i hi
      rw [List.getElem?_eq_getElem (by omega)] at e
      obtain ⟨cs, hc, ht⟩ := Option.bind_eq_some_iff.1 e
      obtain ⟨k, t, rfl, _, _⟩ := trod_tok ht
      obtain ⟨_, _, hc2⟩ := World.cells?_some hc
      have c0 := hc2 0 (by omega)
      have c1 := hc2 1 (by omega)
      exact ⟨k, t, by simpa [Addr.add] using c0, by simpa using c1⟩
    have hspot : 0 < len → a.spot = none := by
      intro h0
      obtain ⟨k, t, e, _⟩ := each 0 h0
      simp only [Nat.zero_mul, Addr.add, if_true] at e
      unfold World.cell? at e
      split at e
      · split at e
        · cases e
        · rename_i hs; simpa using hs
      · cases e
    have ha : 0 < len → a = ⟨a.block, a.off, none⟩ := fun h0 => by have := hspot h0; cases a; simp_all
    have each2 : ∀ i j, i < len → j < 2 → ∃ s : ByteArray, w.cell? ⟨a.block, a.off + i * 2 + j, none⟩ = some (.string s) := by
      intro i j hi hj
      obtain ⟨k, t, e0, e1⟩ := each i hi
      have hs := hspot (by omega)
      have q0 : a.add (i * 2) = ⟨a.block, a.off + i * 2, none⟩ := by
        unfold Addr.add
        split
        · rename_i hz; rw [hz]; cases a; simp_all
        · rfl
      rw [q0] at e0 e1
      have q1 : (⟨a.block, a.off + i * 2, none⟩ : Addr).add 1 = ⟨a.block, a.off + i * 2 + 1, none⟩ := rfl
      rw [q1] at e1
      match j, hj with
      | 0, _ => exact ⟨k, e0⟩
      | 1, _ => exact ⟨t, e1⟩
    let l : List TK := (List.range len).map fun i => (strAt w a.block (a.off + i * 2 + 0), strAt w a.block (a.off + i * 2 + 1))
    have hll : (l.map tkAV).length = len := by simp [l]
    refine ⟨l, by rw [List.length_map] at hll; unfold maxLen at hcap; omega, ?_⟩
    have hR := RelV.vs (I := fun b => b < w.heap.size) (w := w) [] 2 (l.map tkAV) (some a) cap (fun i j => valAt w a.block (a.off + i * 2 + j)) (by omega)
      (fun h0 => by
        rw [hll] at h0
        refine ⟨a.block, a.off, by rw [← ha h0], ?_, fun i j hi hj => ?_⟩
        · obtain ⟨s, e⟩ := each2 0 0 h0 (by omega)
          unfold World.cell? at e
          rcases Nat.lt_or_ge a.block w.heap.size with h1 | h1
          · exact h1
          · rw [Array.getElem?_eq_none h1] at e; simp at e
        · rw [hll] at hi
          obtain ⟨s, e⟩ := each2 i j hi hj
          simp only [valAt, e, Option.getD_some])
      (fun i hi => by simp [tkAV, AV.cells])
      (fun i hi j hj => by
        rw [hll] at hi
        have ei : (l.map tkAV)[i]'(by omega) = .agg [.lit (.string (strAt w a.block (a.off + i * 2 + 0))), .lit (.string (strAt w a.block (a.off + i * 2 + 1)))] := by
          simp [l, tkAV]
        simp only [ei, AV.cells] at hj ⊢
        have hj2 : j < 2 := by simpa using hj
        obtain ⟨s, e⟩ := each2 i j hi hj2
        match j, hj2 with
        | 0, _ =>
          have : valAt w a.block (a.off + i * 2 + 0) = .string (strAt w a.block (a.off + i * 2 + 0)) := by simp only [valAt, strAt, e, Option.getD_some]
          rw [this]; exact .lit _ _
        | 1, _ =>
          have : valAt w a.block (a.off + i * 2 + 1) = .string (strAt w a.block (a.off + i * 2 + 1)) := by simp only [valAt, strAt, e, Option.getD_some]
          rw [this]; exact .lit _ _)
    rw [hll] at hR
    exact hR
end Go.Q
