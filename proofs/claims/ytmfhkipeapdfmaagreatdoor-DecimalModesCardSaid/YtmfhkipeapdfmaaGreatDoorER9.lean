import Derived.Test.YtmfhkipeapdfmaaGreatDoorES
import Derived.Test.YtmfhkipeapdfmaaGreatDoorDFR
import Derived.Test.YtmfhkipeapdfmaaGreatDoorDX
namespace Go.Q
open Go
set_option maxRecDepth 10000
theorem exT_lim {e:BS} {n:Int} (h:exT e = some n):-10000 ≤ n ∧ n ≤ 10000:=by
  unfold exT at h
  simp only at h
  generalize (if (hd 45 e || hd 43 e) = true then e.tail else e) = t at h
  split at h
  · cases h
  · rename_i c
    cases h
    have hl:t.length ≤ 4:=Nat.le_of_not_lt fun hh=>c (.inr (.inl hh))
    have ha:t.all dgQ = true:=by cases hh:t.all dgQ with | true=>rfl | false=>exact absurd (.inr (.inr hh)) c
    have hv:=vd_lt t ha
    have hv4:10 ^ t.length ≤ 10 ^ 4:=Nat.pow_le_pow_right (by decide) hl
    split <;> omega
theorem dgT_lim {s d:BS} {x:Int} (h:dgT s = some (d,x)):-10100 ≤ x ∧ x ≤ 10100:=by
  have hd:=(dgT_dig h).2.2
  rw [dgT_eq] at h
  split at h
  · cases h
  · cases ht:tlT (nmT s).2.2 with
    | none=>rw [ht] at h; cases h
    | some n =>
      rw [ht] at h
      cases h
      rw [List.length_append] at hd
      have:-10000 ≤ n ∧ n ≤ 10000:=by
        cases hr:(nmT s).2.2 with
        | nil=>rw [hr] at ht; cases ht; omega
        | cons c e =>
          rw [hr] at ht
          have ht':(if isE c = true then exT e else none) = some n:=ht
          split at ht'
          · exact exT_lim ht'
          · cases ht'
      omega
theorem sgnD_01 (l:BS):sgnD l = 0 ∨ sgnD l = 1:=by unfold sgnD; split <;> omega
theorem prsS_num {l d:BS} {sg x:Int} (h:prsS l = some (.num sg d x)):(sg = 0 ∨ sg = 1) ∧ d.all dgQ = true ∧ d ≠ [] ∧ d.length ≤ 60 ∧ -10100 ≤ x ∧ x ≤ 10100:=by
  unfold prsS at h
  split at h
  · cases h
  · rw [Option.map_eq_some_iff] at h
    obtain ⟨⟨d',x'⟩,hp,h⟩:=h
    cases h
    obtain ⟨h1,h2,h3⟩:=dgT_dig hp
    obtain ⟨h4,h5⟩:=dgT_lim hp
    exact ⟨sgnD_01 l,h1,h2,h3,h4,h5⟩
theorem prsS_word {l w:BS} {sg:Int} (h:prsS l = some (.word sg w)):(sg = 0 ∨ sg = 1) ∧ (w = infB ∨ w = nanB):=by
  unfold prsS at h
  split at h
  · rename_i c
    cases h
    exact ⟨sgnD_01 l,c⟩
  · rw [Option.map_eq_some_iff] at h
    obtain ⟨p,_,h⟩:=h
    cases h
theorem word_inf {kind:Int} {p w:Nat} (h:kindS kind p w) {sg:Int} (hs:sg = 0 ∨ sg = 1):Dec.word kind ⟨sg,B infB,B [],0⟩ = some (packS p w sg (2 ^ w - 1) 0):=by
  rcases h with ⟨rfl,rfl,rfl⟩ | ⟨rfl,rfl,rfl⟩ | ⟨rfl,rfl,rfl⟩ <;> rcases hs with rfl | rfl <;> exact (Dec.word.c_le _ _).of (by kernel_rfl)
theorem word_nan {kind:Int} {p w:Nat} (h:kindS kind p w) {sg:Int} (hs:sg = 0 ∨ sg = 1):Dec.word kind ⟨sg,B nanB,B [],0⟩ = some (packS p w 0 (2 ^ w - 1) (2 ^ (p - 2))):=by
  rcases h with ⟨rfl,rfl,rfl⟩ | ⟨rfl,rfl,rfl⟩ | ⟨rfl,rfl,rfl⟩ <;> rcases hs with rfl | rfl <;> exact (Dec.word.c_le _ _).of (by kernel_rfl)
end Go.Q
