/- strings.ContainsAny at the letters d and D: the walk. -/
import Derived.Test.YthdklcpkoeehnaaGreatDoorCA
namespace Go.Q
open Go Go.Proofs Go.Shelf Go.RowKit Go.Lib
variable {P : Program} {ρ : Ren}

theorem iter_set_at {w wx : World} {B : Nat} {s : ByteArray} {p q : Nat} (h : wx.heap[B]? = some (.stringIter s p)) (hb : Below B w wx) :
    ({ wx with heap := wx.heap.setIfInBounds B (.stringIter s q) } : World).heap[B]? = some (.stringIter s q) ∧ Below B w { wx with heap := wx.heap.setIfInBounds B (.stringIter s q) } ∧ B < ({ wx with heap := wx.heap.setIfInBounds B (.stringIter s q) } : World).heap.size := by
  have hlt : B < wx.heap.size := by
    rcases Nat.lt_or_ge B wx.heap.size with h1 | h1
    · exact h1
    · rw [Array.getElem?_eq_none h1] at h; cases h
  refine ⟨?_, ⟨hb.os, hb.tape, hb.output, ?_, fun k hk => ?_⟩, ?_⟩
  · show (wx.heap.setIfInBounds B (.stringIter s q))[B]? = _
    rw [Array.getElem?_setIfInBounds_self_of_lt hlt]
  · show w.heap.size ≤ (wx.heap.setIfInBounds B (.stringIter s q)).size
    rw [Array.size_setIfInBounds]; exact hb.size
  · show (wx.heap.setIfInBounds B (.stringIter s q))[k]? = _
    rw [Array.getElem?_setIfInBounds_ne (by omega)]; exact hb.block k hk
  · show B < (wx.heap.setIfInBounds B (.stringIter s q)).size
    rw [Array.size_setIfInBounds]; exact hlt

set_option maxHeartbeats 8000000 in
set_option maxRecDepth 1000000 in
/-- s of at most 8 bytes, whatever they are. -/
theorem indexAny_dD (L : Lays.n153 P ρ) (s : ByteArray) (w : World) (h8 : s.size ≤ 8) :
    Calls P (ρ.f 153) #[.string s, .string dD] w fun e w' => e = .returned (.int .i64 (Lib.indexAny s.data.toList dD.data.toList)) ∧ Below w.heap.size w w' := by
  have hemp : dD.toList.isEmpty = false := by rw [Lib.toList_data]; rfl
  have hn1 : ((dD.size : Int) == 1) = false := rfl
  have h8z : decide ((8 : Int) < (s.size : Int)) = false := decide_eq_false (by omega)
  have t3 := L.t3; have a3 := L.a3; have z3 := L.z3; have v3 := L.v3
  have t4 := L.t4; have a4 := L.a4; have z4 := L.z4; have v4 := L.v4
  have t5 := L.t5; have a5 := L.a5; have z5 := L.z5; have v5 := L.v5
  have t9 := L.t9; have a9 := L.a9; have z9 := L.z9; have v9 := L.v9
  have t21 := L.t21; have a21 := L.a21; have z21 := L.z21; have v21 := L.v21
  have e152 : ∀ args w, (callFunc (ρ.f 152) args).run P w = .ok (.enter (ρ.f 152) args) w := enters_of L.f152 (by kernel_rfl) rfl
  have e226 : ∀ args w, (callFunc (ρ.f 226) args).run P w = .ok (.enter (ρ.f 226) args) w := enters_of L.f226 (by kernel_rfl) rfl
  generalize hB : w.heap.size = B at *
  go_enter L.f153, Body.n153_ntmps ρ
  go_wp2_with (go_at_fn (ρ.f 226); refine (Any.strings_shouldUseASCIISet { L with } _ _).mono ?_; rintro e w' ⟨rfl, hw⟩; rw [hw, h8z])
  go_loopg [9, 10] s.size (fun g _ _ wx => ∃ i : Nat, i + g = s.size ∧ wx.heap[B]? = some (.stringIter s i) ∧ Below B w wx ∧ Lib.NoAny s.data.toList dD.data.toList i)
  case atStart =>
    refine ⟨0, by omega, ?_, ?_, Lib.NoAny.zero _ _⟩
    · rw [← hB]; exact World.iter_heap _ _ _
    · exact (Below.refl _ _).alloc (by omega) _
  case round =>
    obtain ⟨i, hig, hit, hbl, hno⟩ := hrel
    have HN : Aside (Lib.NoAny s.data.toList dD.data.toList i) := hno
    clear hno
    have HS := fun q => iter_set_at (q := q) hit hbl
    have HB : Aside _ := hbl
    clear hbl
    cases gk with
    | zero =>
      obtain rfl : i = s.size := by omega
      have hnx := fun ty => run_next_at_end (P := P) _ B s s.size ty hit (by omega)
      clear HS
      go_wp2
      go_ret
      exact ⟨by rw [Lib.indexAny_none (by rw [← Lib.size_eq]; exact HN.out)]; rfl, HB.out⟩
    | succ g =>
      have hi : i < s.size := by omega
      have hnx := fun ty => run_next_at (P := P) _ B s i ty hit hi
      have HI : Aside _ := HS
      clear HS
      obtain ⟨x, hx⟩ : ∃ x : UInt8, s[i]'hi = x := ⟨_, rfl⟩
      have hxl : s.data.toList[i]? = some x := by rw [← hx]; exact Lib.data_getElem? s i hi
      have Hx : Aside (s.data.toList[i]? = some x) := hxl
      clear hxl
      by_cases hx128 : x.toNat < 128
      · have hdec : Utf8.decode s i = (x.toNat, 1) := by rw [decode_ascii s i hi (by rw [hx]; exact hx128), hx]
        rw [hdec] at hnx
        simp only at hnx
        have hcon := Lib.contains_iff_indexByte dD.data.toList x
        have hback : ((x.toNat : Int)).toNat.toUInt8 = x := by simp
        cases hin : dD.data.toList.contains x
        · rw [hin] at hcon
          have hlt : ¬ ((0 : Int) ≤ Lib.indexByte dD.data.toList x) := of_decide_eq_false hcon.symm
          clear hcon
          go_wp2_with (go_at_fn (ρ.f 152); refine (Any.strings_IndexRune_ascii { L with } _ _ _ (by omega) (by omega)).mono ?_; rintro e w' ⟨rfl, hw⟩; rw [hw, hback])
          go_roundg g
          case measure => omega
          case rel => exact ⟨i + 1, by omega, (HI.out (i + 1)).1, (HI.out (i + 1)).2.1, HN.out.succ Hx.out hin⟩
        · rw [hin] at hcon
          have hge : (0 : Int) ≤ Lib.indexByte dD.data.toList x := of_decide_eq_true hcon.symm
          clear hcon
          go_wp2_with (go_at_fn (ρ.f 152); refine (Any.strings_IndexRune_ascii { L with } _ _ _ (by omega) (by omega)).mono ?_; rintro e w' ⟨rfl, hw⟩; rw [hw, hback])
          go_ret
          exact ⟨by rw [Lib.indexAny_hit HN.out Hx.out hin]; rfl, (HI.out (i + 1)).2.1⟩
      · have hc := decode_high s i hi (by rw [hx]; omega)
        have hle := decode_le s i
        have hr := decode_rest s i hi
        have Hr : Aside _ := hr
        clear hr
        have hd : ∃ c k, Utf8.decode s i = (c, k) := ⟨_, _, rfl⟩
        obtain ⟨c, k, hck⟩ := hd
        have HC : Aside _ := hck
        rw [hck] at hnx hc hle
        simp only at hnx hc hle
        clear hck
        go_wp2_with (go_at_fn (ρ.f 152); refine (indexRune_over { L with } _ (by omega) (by omega) _).mono ?_; rintro e w' ⟨rfl, hw⟩)
        have hr := Hr.out
        rw [HC.out] at hr
        obtain ⟨hk1, hk2, hk3⟩ := hr
        go_roundg (s.size - (i + k))
        case measure => omega
        case rel =>
          obtain ⟨h1, h2, h3⟩ := HI.out (i + k)
          refine ⟨i + k, by omega, (hw.block B h3).trans h1, h2.trans (hw.mono (Nat.le_of_lt h3)), noAny_over HN.out (fun j hj hl => ?_)⟩
          by_cases hj0 : j = 0
          · subst hj0
            simp only [Nat.add_zero, hx]; omega
          · exact hk3 j (by omega) hj hl

set_option maxHeartbeats 1000000 in
/-- strings.ContainsAny at the letters d and D. -/
theorem containsAny_dD (L : Lays.n150 P ρ) (h116 : (P.info? (ρ.t 116)).map (fun i => (i.zero, i.size)) = some (some (.agg (Array.replicate 256 (.bool false))), 256)) (s : ByteArray) (w : World) (hs : s.size < 4294967281) :
    Calls P (ρ.f 150) #[.string s, .string dD] w fun e w' => e = .returned (.bool (Lib.containsAny s.data.toList dD.data.toList)) ∧ Below w.heap.size w w' := by
  have c : Calls P (ρ.f 153) #[.string s, .string dD] w fun e w' => e = .returned (.int .i64 (Lib.indexAny s.data.toList dD.data.toList)) ∧ Below w.heap.size w w' := by
    by_cases h8 : s.size ≤ 8
    · exact indexAny_dD { L with } s w h8
    · refine (Any.strings_IndexAny_long { L with } (zero_of_info h116).1 (zero_of_info h116).2 s dD w (by decide) (by omega) hs (by decide) (fun j b hb => ?_)).mono fun e w' ⟨h1, h2⟩ => ⟨h1, ?_⟩
      · have hm : b ∈ [(100 : UInt8), 68] := List.mem_of_getElem? hb
        simp only [List.mem_cons, List.not_mem_nil, or_false] at hm
        rcases hm with rfl | rfl <;> decide
      · rw [h2]
        exact ((Below.refl _ _).alloc (Nat.le_refl _) _).alloc (by simp) _
  have t3 := L.t3; have a3 := L.a3; have z3 := L.z3; have v3 := L.v3
  have t4 := L.t4; have a4 := L.a4; have z4 := L.z4; have v4 := L.v4
  have t9 := L.t9; have a9 := L.a9; have z9 := L.z9; have v9 := L.v9
  have e153 : ∀ args w, (callFunc (ρ.f 153) args).run P w = .ok (.enter (ρ.f 153) args) w := enters_of L.f153 (by kernel_rfl) rfl
  go_enter L.f150, Body.n150_ntmps ρ
  go_wp2_with (go_at_fn (ρ.f 153); refine c.mono ?_; rintro e w' ⟨rfl, hw⟩)
  go_ret
  exact ⟨rfl, hw⟩
end Go.Q
