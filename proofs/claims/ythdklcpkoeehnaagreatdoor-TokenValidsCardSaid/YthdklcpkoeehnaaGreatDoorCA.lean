/- strings.ContainsAny at the letters d and D: whatever the text. -/
import Derived.Shelf.Strings.IndexAnyAll
import Derived.Shelf.Small.Utf8
import Derived.Laws.RangeAny
import Derived.Laws.Runes
import Derived.WalkMore
import Derived.Shelf.RegionOpenPlain
import Derived.Below
namespace Go.Q
open Go Go.Proofs Go.Shelf Go.RowKit Go.Lib
variable {P : Program} {ρ : Ren}

abbrev dD : ByteArray := ⟨#[100, 68]⟩

set_option maxHeartbeats 4000000 in
set_option maxRecDepth 1000000 in
theorem indexRune_bad (L : Lays.n152 P ρ) (w : World) :
    Calls P (ρ.f 152) #[.string dD, .int .i32 65533] w fun e w' => e = .returned (.int .i64 (-1)) ∧ ∃ p, w' = w.iter dD p := by
  have t3 := L.t3; have a3 := L.a3; have z3 := L.z3; have v3 := L.v3
  have t4 := L.t4; have a4 := L.a4; have z4 := L.z4; have v4 := L.v4
  have t5 := L.t5; have a5 := L.a5; have z5 := L.z5; have v5 := L.v5
  have t9 := L.t9; have a9 := L.a9; have z9 := L.z9; have v9 := L.v9
  have t21 := L.t21; have a21 := L.a21; have z21 := L.z21; have v21 := L.v21
  go_enter L.f152, Body.n152_ntmps ρ
  go_wp2
  go_loopg [5, 6] 2 (fun g _ _ wx => ∃ i : Nat, i + g = 2 ∧ wx = w.iter dD i)
  case atStart => exact ⟨0, by omega, rfl⟩
  case round =>
    obtain ⟨i, hig, rfl⟩ := hrel
    cases gk with
    | zero =>
      obtain rfl : i = 2 := by omega
      have hnx := run_next_end (P := P) w dD 2
      go_wp2
      go_ret
      exact ⟨rfl, _, rfl⟩
    | succ g =>
      have hi : i < dD.size := by show i < 2; omega
      have hx128 : (dD[i]'hi).toNat < 128 := by
        have hall : ∀ j (hj : j < 2), (dD[j]'hj).toNat < 128 := by decide
        exact hall i (by omega)
      have hnx := fun ty => run_next_ascii (P := P) w dD i ty hi hx128
      have hne : ¬ (((dD[i]'hi).toNat : Int) = 65533) := by omega
      go_wp2
      go_roundg g
      case measure => omega
      case rel => exact ⟨i + 1, by omega, rfl⟩

set_option maxHeartbeats 4000000 in
set_option maxRecDepth 1000000 in
theorem indexRune_high (L : Lays.n152 P ρ) (r : Int) (h0 : 128 ≤ r) (h1 : r ≤ 2147483647) (hb : ¬ r = 65533) (hv : Lib.validRune r = true) (w : World) :
    Calls P (ρ.f 152) #[.string dD, .int .i32 r] w fun e w' => e = .returned (.int .i64 (-1)) ∧ Below w.heap.size w w' := by
  obtain ⟨hs2, hs4, hlast⟩ := encode_facts r (by rw [Go.validRune_eq]; exact hv) h0
  have t3 := L.t3; have a3 := L.a3; have z3 := L.z3; have v3 := L.v3
  have t4 := L.t4; have a4 := L.a4; have z4 := L.z4; have v4 := L.v4
  have t5 := L.t5; have a5 := L.a5; have z5 := L.z5; have v5 := L.v5
  have t9 := L.t9; have a9 := L.a9; have z9 := L.z9; have v9 := L.v9
  have t21 := L.t21; have a21 := L.a21; have z21 := L.z21; have v21 := L.v21
  have e119 : ∀ args w, (callFunc (ρ.f 119) args).run P w = .ok (.enter (ρ.f 119) args) w := enters_of L.f119 (by kernel_rfl) rfl
  have mixed := L.mixed
  have e137 : ∀ args w, (callFunc (ρ.f 137) args).run P w = .ok (.enter (ρ.f 137) args) w := enters_of L.f137 (by kernel_rfl) rfl
  have hr1 : ¬ r < 128 := by omega
  go_enter L.f152, Body.n152_ntmps ρ
  go_wp2_with (go_at_fn (ρ.f 119); refine (Any.utf8_ValidRune { L with } _ _).mono ?_; rintro e w' ⟨rfl, hw⟩; rw [hw, hv])
  subst hw
  go_step3
  go_wp2
  refine wp_loop_once ?_
  by_cases h2 : (Utf8.encode r).size = 2
  · have hl : 1 < (Utf8.encode r).size := by omega
    obtain ⟨x, hx⟩ : ∃ x, (Utf8.encode r)[1]'hl = x := ⟨_, rfl⟩
    have hx128 : 128 ≤ x.toNat := by
      have := hlast (by omega)
      simp only [h2] at this
      rw [← hx]; exact this
    have hx0 : (Utf8.encode r).get! 1 = x := by rw [← hx]; exact get_at _ 1 hl
    clear hlast
    generalize Utf8.encode r = rs at *
    have e1 : ((rs.size : Int) - 1) = 1 := by omega
    simp only [e1]
    have hbn : (((dD[1]'(by decide)).toNat : Int) != (x.toNat : Int)) = true := bne_iff_ne.2 (by show ((68 : Nat) : Int) ≠ _; omega)
    go_wp2
    go_step3
    go_wp2
    go_region_o
    all_goals go_wp2
    all_goals (try go_region_with_o (go_at_fn (ρ.f 137); refine (Any.strings_IndexByte { L with } _ _ _).mono ?_; rintro e w' ⟨rfl, hw⟩; rw [hw]))
    all_goals (try go_wp2)
    all_goals (repeat (rw [Exit.noGoto_ret]; try go_wp2))
    all_goals go_ret
    all_goals exact ⟨rfl, (Below.refl _ _).drew.drew⟩
  · have hn : ¬ ((Utf8.encode r).size : Int) - 1 < 2 := by omega
    go_wp2
    go_ret
    exact ⟨rfl, Below.refl _ _⟩

set_option maxHeartbeats 4000000 in
set_option maxRecDepth 1000000 in
theorem indexRune_none (L : Lays.n152 P ρ) (r : Int) (h0 : 128 ≤ r) (hb : ¬ r = 65533) (hv : Lib.validRune r = false) (w : World) :
    Calls P (ρ.f 152) #[.string dD, .int .i32 r] w fun e w' => e = .returned (.int .i64 (-1)) ∧ Below w.heap.size w w' := by
  have t3 := L.t3; have a3 := L.a3; have z3 := L.z3; have v3 := L.v3
  have t4 := L.t4; have a4 := L.a4; have z4 := L.z4; have v4 := L.v4
  have t5 := L.t5; have a5 := L.a5; have z5 := L.z5; have v5 := L.v5
  have t9 := L.t9; have a9 := L.a9; have z9 := L.z9; have v9 := L.v9
  have t21 := L.t21; have a21 := L.a21; have z21 := L.z21; have v21 := L.v21
  have e119 : ∀ args w, (callFunc (ρ.f 119) args).run P w = .ok (.enter (ρ.f 119) args) w := enters_of L.f119 (by kernel_rfl) rfl
  have hr1 : ¬ r < 128 := by omega
  go_enter L.f152, Body.n152_ntmps ρ
  go_wp2_with (go_at_fn (ρ.f 119); refine (Any.utf8_ValidRune { L with } _ _).mono ?_; rintro e w' ⟨rfl, hw⟩; rw [hw, hv])
  go_ret
  exact ⟨rfl, hw ▸ Below.refl _ _⟩

/-- At a rune that is not ASCII: it is not there. -/
theorem indexRune_over (L : Lays.n152 P ρ) (r : Int) (h0 : 128 ≤ r) (h1 : r ≤ 2147483647) (w : World) :
    Calls P (ρ.f 152) #[.string dD, .int .i32 r] w fun e w' => e = .returned (.int .i64 (-1)) ∧ Below w.heap.size w w' := by
  by_cases hb : r = 65533
  · subst hb
    refine (indexRune_bad L w).mono ?_
    rintro e w' ⟨he, p, rfl⟩
    exact ⟨he, (Below.refl _ _).alloc (Nat.le_refl _) _⟩
  · cases hv : Lib.validRune r with
    | true => exact indexRune_high L r h0 h1 hb hv w
    | false => exact indexRune_none L r h0 hb hv w

theorem run_next_at (w : World) (k : Nat) (s : ByteArray) (pos : Nat) (ty : TypeId) (hk : w.heap[k]? = some (.stringIter s pos)) (h : pos < s.size) :
    (Instr.next (.pointer (some ⟨k, 0, none⟩)) true ty).run P w =
      .ok (.tuple #[.bool true, .int .i64 pos, .int .i32 (Utf8.decode s pos).1]) { w with heap := w.heap.setIfInBounds k (.stringIter s (pos + (Utf8.decode s pos).2)) } := by
  simp only [Instr.next, getObj, setObj, Sem.run_bind, Sem.run, hk, Result.andThen, h, if_true]
  simp [goInt, Sem.run]
theorem run_next_at_end (w : World) (k : Nat) (s : ByteArray) (pos : Nat) (ty : TypeId) (hk : w.heap[k]? = some (.stringIter s pos)) (h : ¬ pos < s.size) :
    (Instr.next (.pointer (some ⟨k, 0, none⟩)) true ty).run P w = .ok (.tuple #[.bool false]) w := by
  simp [Instr.next, getObj, Sem.run, hk, h]

theorem get_cont {s : ByteArray} {i k : Nat} (h : (decide (i + k < s.size) && (s.get! (i + k)).toNat / 64 == 2) = true) : i + k < s.size ∧ ∀ h : i + k < s.size, 128 ≤ (s[i + k]'h).toNat := by
  simp only [Bool.and_eq_true, decide_eq_true_eq, beq_iff_eq] at h
  refine ⟨h.1, fun hl => ?_⟩
  have e := get_at s (i + k) hl
  rw [Nat.add_zero] at e
  rw [e] at h
  omega

/-- A rune's bytes behind its first are no ASCII. -/
theorem decode_rest (s : ByteArray) (i : Nat) (hi : i < s.size) : 1 ≤ (Utf8.decode s i).2 ∧ i + (Utf8.decode s i).2 ≤ s.size ∧ ∀ j, 1 ≤ j → j < (Utf8.decode s i).2 → ∀ h : i + j < s.size, 128 ≤ (s[i + j]'h).toNat := by
  unfold Utf8.decode
  simp only
  have one : 1 ≤ 1 ∧ i + 1 ≤ s.size ∧ ∀ j, 1 ≤ j → j < 1 → ∀ h : i + j < s.size, 128 ≤ (s[i + j]'h).toNat := ⟨by omega, by omega, fun j h1 h2 => by omega⟩
  split
  · exact one
  split
  · rename_i h
    simp only [Bool.and_eq_true] at h
    have c1 := get_cont (s := s) (i := i) (k := 1) (by simpa using h.2)
    split
    · refine ⟨by omega, by have := c1.1; omega, fun j h1 h2 hl => ?_⟩
      obtain rfl : j = 1 := by omega
      exact c1.2 hl
    · exact one
  split
  · rename_i h
    simp only [Bool.and_eq_true] at h
    have c1 := get_cont (s := s) (i := i) (k := 1) (by simpa using h.1.2)
    have c2 := get_cont (s := s) (i := i) (k := 2) (by simpa using h.2)
    split
    · refine ⟨by omega, by have := c2.1; omega, fun j h1 h2 hl => ?_⟩
      rcases (by omega : j = 1 ∨ j = 2) with rfl | rfl
      · exact c1.2 hl
      · exact c2.2 hl
    · exact one
  split
  · rename_i h
    simp only [Bool.and_eq_true] at h
    have c1 := get_cont (s := s) (i := i) (k := 1) (by simpa using h.1.1.2)
    have c2 := get_cont (s := s) (i := i) (k := 2) (by simpa using h.1.2)
    have c3 := get_cont (s := s) (i := i) (k := 3) (by simpa using h.2)
    split
    · refine ⟨by omega, by have := c3.1; omega, fun j h1 h2 hl => ?_⟩
      rcases (by omega : j = 1 ∨ j = 2 ∨ j = 3) with rfl | rfl | rfl
      · exact c1.2 hl
      · exact c2.2 hl
      · exact c3.2 hl
    · exact one
  · exact one

theorem dD_contains {x : UInt8} (h : 128 ≤ x.toNat) : [(100 : UInt8), 68].contains x = false := by
  have h1 : x ≠ 100 := fun e => by rw [e] at h; exact absurd h (by decide)
  have h2 : x ≠ 68 := fun e => by rw [e] at h; exact absurd h (by decide)
  simp [List.contains, List.elem, beq_eq_false_iff_ne.2 h1, beq_eq_false_iff_ne.2 h2]

theorem noAny_over {s : ByteArray} {i k : Nat} (hn : Lib.NoAny s.data.toList dD.data.toList i) (h : ∀ j, j < k → ∀ h : i + j < s.size, 128 ≤ (s[i + j]'h).toNat) : Lib.NoAny s.data.toList dD.data.toList (i + k) := by
  intro j b hj hb
  by_cases h1 : j < i
  · exact hn j b h1 hb
  · have hl : j < s.size := by
      rcases Nat.lt_or_ge j s.size with h2 | h2
      · exact h2
      · rw [List.getElem?_eq_none (by rw [← Lib.size_eq]; exact h2)] at hb; cases hb
    have e := Lib.data_getElem? s j hl
    rw [e] at hb
    cases hb
    have := h (j - i) (by omega) (by omega)
    simp only [show i + (j - i) = j by omega] at this
    exact dD_contains this

end Go.Q
