/- Plain words: bytes, tokens. -/
import Derived.Test.YtoecgpemlfoogaaGreatDoorFD
import Derived.Lib.Bytealg
import Derived.Lib.IndexAny
namespace Go.Q
open Go
set_option maxRecDepth 10000
set_option maxHeartbeats 2000000

def pText (c : Int) : Bool := decide (32 ≤ c) && decide (c ≤ 126)
def pLetter (c : Int) : Bool := (decide (97 ≤ c) && decide (c ≤ 122)) || (decide (65 ≤ c) && decide (c ≤ 90))
def pDigit (c : Int) : Bool := decide (48 ≤ c) && decide (c ≤ 57)
def pPart (c : Int) : Bool := pLetter c || pDigit c || decide (c = 95)
/-- how many bytes at the front are of a sort -/
def pre (p : Int → Bool) (s : ByteArray) : Nat := (s.data.toList.takeWhile (fun c => p c.toNat)).length
theorem pre_le (p : Int → Bool) (s : ByteArray) : pre p s ≤ s.size := by
  have := (List.takeWhile_prefix (l := s.data.toList) (fun c => p c.toNat)).length_le
  have e : s.data.toList.length = s.size := by rw [Array.length_toList]; rfl
  unfold pre; omega
theorem bt_get {s : ByteArray} {i : Nat} (h : i < s.data.toList.length) : bt s i = (s.data.toList[i].toNat : Int) := by
  have : s.data.toList.getD i 0 = s.data.toList[i] := by simp only [List.getD, List.getElem?_eq_getElem h, Option.getD_some]
  unfold bt
  simp only [Int.toNat_natCast, this]
theorem take_all {α : Type} {p : α → Bool} : ∀ {l : List α} {i : Nat}, (∀ j (h : j < l.length), j < i → p l[j] = true) → i ≤ l.length → (l.takeWhile p).length = i + ((l.drop i).takeWhile p).length
  | l, 0, _, _ => by simp
  | [], i + 1, _, h => by simp at h
  | x :: xs, i + 1, h, hl => by
    have hx : p x = true := h 0 (by simp) (by omega)
    have ih := take_all (l := xs) (i := i) (fun j hj hji => h (j + 1) (by simpa using hj) (by omega)) (by simpa using hl)
    simp only [List.takeWhile_cons, hx, if_true, List.length_cons, List.drop_succ_cons, ih]
    omega
theorem pre_stop {p : Int → Bool} {s : ByteArray} {i : Nat} (h : ∀ j : Nat, j < i → p (bt s j) = true) (hi : i ≤ s.size) (hs : i < s.size → p (bt s i) = false) : pre p s = i := by
  have e : s.data.toList.length = s.size := by rw [Array.length_toList]; rfl
  unfold pre
  rw [take_all (i := i) (fun j hj hji => by have := h j hji; rwa [bt_get hj] at this) (by omega)]
  rcases Nat.lt_or_ge i s.size with h1 | h1
  · have h2 := hs h1
    rw [bt_get (by omega)] at h2
    rw [List.drop_eq_getElem_cons (by omega), List.takeWhile_cons, h2]
    simp
  · rw [List.drop_of_length_le (by omega)]; simp
theorem upto_succ {q : Int → Bool} {s : ByteArray} {i : Nat} (h : ∀ j : Nat, j < i → q (bt s j) = true) (hb : q (bt s i) = true) : ∀ j : Nat, j < i + 1 → q (bt s j) = true := by
  intro j hj
  rcases Nat.lt_or_ge j i with h1 | h1
  · exact h j h1
  · obtain rfl : j = i := by omega
    exact hb
abbrev TK := ByteArray × ByteArray
def tkEq (x y : TK) : Bool := x.1.toList == y.1.toList && (x.2.toList == y.2.toList && true)
theorem bytes_eq {a b : ByteArray} (h : a.toList = b.toList) : a = b := by
  rw [ByteArray.toList_eq, ByteArray.toList_eq] at h
  obtain ⟨⟨x⟩⟩ := a
  obtain ⟨⟨y⟩⟩ := b
  simp_all
theorem tkEq_iff (x y : TK) : tkEq x y = decide (x = y) := by
  rw [Bool.eq_iff_iff]
  simp only [tkEq, Bool.and_true, Bool.and_eq_true, beq_iff_eq, decide_eq_true_eq]
  constructor
  · rintro ⟨h1, h2⟩
    exact Prod.ext (bytes_eq h1) (bytes_eq h2)
  · rintro rfl; exact ⟨rfl, rfl⟩
theorem eq_upto {l m : List TK} {i : Nat} (h : ∀ j (h1 : j < l.length) (h2 : j < m.length), j < i → l[j] = m[j]) (hl : l.length = m.length) (hi : i = l.length) : l = m :=
  List.ext_getElem hl (fun j h1 h2 => h j h1 h2 (by omega))
theorem upto_succ2 {l m : List TK} {i : Nat} (h : ∀ j (h1 : j < l.length) (h2 : j < m.length), j < i → l[j] = m[j]) (hl : i < l.length) (hm : i < m.length) (he : (l[i].1.toList == m[i].1.toList && (l[i].2.toList == m[i].2.toList && true)) = true) :
    ∀ j (h1 : j < l.length) (h2 : j < m.length), j < i + 1 → l[j] = m[j] := by
  intro j h1 h2 h3
  rcases Nat.lt_or_ge j i with h4 | h4
  · exact h j h1 h2 h4
  · obtain rfl : j = i := by omega
    have e := tkEq_iff l[j] m[j]
    unfold tkEq at e
    rw [e] at he
    simpa using he
theorem tk_ne {l m : List TK} {i : Nat} (hl : i < l.length) (hm : i < m.length) (he : (l[i].1.toList == m[i].1.toList && (l[i].2.toList == m[i].2.toList && true)) = false) : ¬ l = m := by
  rintro rfl
  simp at he
abbrev BS := List UInt8
def L (s : ByteArray) : BS := s.data.toList
def B (l : BS) : ByteArray := ⟨l.toArray⟩
@[simp] theorem L_B (l : BS) : L (B l) = l := rfl
@[simp] theorem B_L (s : ByteArray) : B (L s) = s := by obtain ⟨⟨l⟩⟩ := s; rfl
theorem B_inj {a b : BS} : B a = B b ↔ a = b := ⟨fun h => by simpa using congrArg L h, fun h => by rw [h]⟩
theorem L_len (s : ByteArray) : (L s).length = s.size := by simp [L, Array.length_toList]
theorem toList_L (s : ByteArray) : s.toList = L s := ByteArray.toList_eq s
theorem L_app (a b : ByteArray) : L (a ++ b) = L a ++ L b := by simp [L, ByteArray.data_append]
theorem L_ext (s : ByteArray) (i j : Nat) : L (s.extract i j) = ((L s).take j).drop i := by
  simp [L, ByteArray.data_extract, Array.toList_extract, List.extract]
  exact (List.drop_take ..).symm ▸ rfl
theorem bt_L (s : ByteArray) (i : Int) : bt s i = (((L s).getD i.toNat 0).toNat : Int) := rfl
theorem ofInts_nat (l : BS) : ofInts (l.map fun c => (c.toNat : Int)) = B l := by
  unfold ofInts B
  congr 2
  rw [List.map_map]
  conv => rhs; rw [← List.map_id l]
  apply List.map_congr_left
  intro c _
  simp
theorem pre_L (p : Int → Bool) (s : ByteArray) : pre p s = ((L s).takeWhile (fun c => p c.toNat)).length := rfl
def isUp (c : UInt8) : Bool := decide (65 ≤ c) && decide (c ≤ 90)
def low (c : UInt8) : UInt8 := if isUp c then c + 32 else c
def small (l : BS) : BS := l.map low
theorem low_same (c : UInt8) (h : ¬ (65 ≤ (c.toNat : Int) ∧ (c.toNat : Int) ≤ 90)) : low c = c := by
  have hu : isUp c = false := by
    rw [← Bool.not_eq_true]
    simp only [isUp, UInt8.le_iff_toNat_le, Bool.and_eq_true, decide_eq_true_eq]
    rintro ⟨h1, h2⟩
    have e1 : (65 : UInt8).toNat = 65 := rfl
    have e2 : (90 : UInt8).toNat = 90 := rfl
    exact h ⟨by omega, by omega⟩
  unfold low
  rw [hu]; rfl
def txt (s : String) : BS := s.toUTF8.data.toList
def words : List BS := [[46, 97, 110, 100, 46], [46, 111, 114, 46], [46, 110, 111, 116, 46], [46, 101, 113, 118, 46], [46, 116, 114, 117, 101, 46], [46, 102, 97, 108, 115, 101, 46]]
def signs : List BS := [[42, 42], [61, 61], [47, 61], [60, 61], [62, 61], [61, 62], [58, 58], [43], [45], [42], [47], [60], [62], [61], [40], [41], [91], [93], [44], [58], [37]]
def idxS (ws : List BS) (v : BS) : Int := if v ∈ ws then (ws.idxOf v : Int) else -1
theorem beq_L (a : ByteArray) (b : BS) : (a.toList == (B b).toList) = (L a == b) := by rw [toList_L, toList_L, L_B]
theorem beq_L2 (a b : ByteArray) : (a.toList == b.toList) = (L a == L b) := by rw [toList_L, toList_L]
theorem idxS_found {ws : List BS} {v : BS} {i : Nat} (h : ∀ j (h1 : j < ws.length), j < i → v ≠ ws[j]) (hi : i < ws.length) (he : v = ws[i]) : idxS ws v = i := by
  unfold idxS
  rw [if_pos (he ▸ List.getElem_mem hi)]
  congr 1
  have hlt : ws.idxOf v < ws.length := List.idxOf_lt_length_iff.2 (he ▸ List.getElem_mem hi)
  have e := List.getElem_idxOf hlt
  rcases Nat.lt_trichotomy (ws.idxOf v) i with h1 | h1 | h1
  · exact absurd e.symm (h _ hlt h1)
  · exact h1
  · have := List.not_of_lt_findIdx (xs := ws) (p := (· == v)) (i := i) h1
    simp [he] at this
theorem idxS_none {ws : List BS} {v : BS} {i : Nat} (h : ∀ j (h1 : j < ws.length), j < i → v ≠ ws[j]) (hi : ws.length ≤ i) : idxS ws v = -1 := by
  unfold idxS
  rw [if_neg]
  intro hm
  obtain ⟨j, hj, e⟩ := List.getElem_of_mem hm
  exact h j hj (by omega) e.symm
theorem ne_succ {ws : List BS} {v : BS} {i : Nat} (h : ∀ j (h1 : j < ws.length), j < i → v ≠ ws[j]) (hi : i < ws.length) (he : v ≠ ws[i]) : ∀ j (h1 : j < ws.length), j < i + 1 → v ≠ ws[j] := by
  intro j h1 h2
  rcases Nat.lt_or_ge j i with h3 | h3
  · exact h j h1 h3
  · obtain rfl : j = i := by omega
    exact he
theorem B_size (l : BS) : (B l).size = l.length := rfl
def wtest (l w : BS) : Bool := decide (w.length ≤ l.length) && (small (l.take w.length) == w)
def wordOf (l : BS) : BS := (words.find? (wtest l)).getD []
theorem wtest_t {s : ByteArray} {w : BS} {n : Nat} (hn : n = w.length) (hle : w.length ≤ s.size) (h : (B (small (L (s.extract 0 n)))).toList = (B w).toList) : wtest (L s) w = true := by
  rw [toList_L, toList_L, L_B, L_B, L_ext, hn] at h
  simp only [wtest, L_len, Bool.and_eq_true, decide_eq_true_eq, beq_iff_eq]
  exact ⟨hle, h⟩
theorem wtest_f {s : ByteArray} {w : BS} {n : Nat} (hn : n = w.length) (h : ¬ (B (small (L (s.extract 0 n)))).toList = (B w).toList) : wtest (L s) w = false := by
  rw [toList_L, toList_L, L_B, L_B, L_ext, hn] at h
  rw [← Bool.not_eq_true]
  simp only [wtest, L_len, Bool.and_eq_true, decide_eq_true_eq, beq_iff_eq]
  exact fun h2 => h h2.2
theorem wtest_f2 {s : ByteArray} {w : BS} (hle : ¬ w.length ≤ s.size) : wtest (L s) w = false := by
  rw [← Bool.not_eq_true]
  simp only [wtest, L_len, Bool.and_eq_true, decide_eq_true_eq, beq_iff_eq]
  exact fun h2 => hle h2.1
theorem find_at {α : Type} {p : α → Bool} : ∀ {l : List α} {i : Nat}, (∀ j (h : j < l.length), j < i → p l[j] = false) → (h : i < l.length) → p l[i] = true → l.find? p = some l[i]
  | [], i, _, h, _ => by simp at h
  | x :: xs, 0, _, _, he => by simp at he; simp [he]
  | x :: xs, i + 1, hj, h, he => by
    have h0 : p x = false := hj 0 (by simp) (by omega)
    rw [List.find?_cons, h0]
    exact find_at (fun j h1 h2 => hj (j + 1) (by simpa using h1) (by omega)) (by simpa using h) (by simpa using he)
theorem find_no {α : Type} {p : α → Bool} {l : List α} {i : Nat} (hj : ∀ j (h : j < l.length), j < i → p l[j] = false) (h : l.length ≤ i) : l.find? p = none := by
  rw [List.find?_eq_none]
  intro x hx
  obtain ⟨j, hj1, rfl⟩ := List.getElem_of_mem hx
  rw [hj j hj1 (by omega)]; simp
theorem no_succ {α : Type} {p : α → Bool} {l : List α} {i : Nat} (h : ∀ j (h1 : j < l.length), j < i → p l[j] = false) (hi : i < l.length) (he : p l[i] = false) : ∀ j (h1 : j < l.length), j < i + 1 → p l[j] = false := by
  intro j h1 h2
  rcases Nat.lt_or_ge j i with h3 | h3
  · exact h j h1 h3
  · obtain rfl : j = i := by omega
    exact he
def preL (p : Int → Bool) (l : BS) : Nat := (l.takeWhile fun c => p c.toNat).length
theorem pre_preL (p : Int → Bool) (s : ByteArray) : pre p s = preL p (L s) := rfl
theorem preL_le (p : Int → Bool) (l : BS) : preL p l ≤ l.length := (List.takeWhile_prefix (l := l) _).length_le
def isExp (c : UInt8) : Bool := c == 101 || c == 69 || c == 100 || c == 68
def isSign (c : UInt8) : Bool := c == 43 || c == 45
def expoN (l : BS) : Nat := if decide (1 < l.length) && isSign (l.getD 1 0) then 2 else 1
def expo (l : BS) : Nat :=
  if l = [] ∨ isExp (l.getD 0 0) = false then 0
  else if preL pDigit (l.drop (expoN l)) = 0 then 0 else expoN l + preL pDigit (l.drop (expoN l))
theorem L_nil {s : ByteArray} : s.toList = ({ data := #[] } : ByteArray).toList ↔ L s = [] := by rw [toList_L, toList_L]; rfl
theorem L_nil' {s : ByteArray} : L s = [] ↔ s.size = 0 := by rw [← L_len, List.length_eq_zero_iff]
theorem u8_eq {c : UInt8} {n : Nat} (hn : n < 256) : (c.toNat : Int) = (n : Int) ↔ c = UInt8.ofNat n := by
  constructor
  · intro h
    apply UInt8.toNat_inj.1
    have : c.toNat = n := by omega
    rw [this]; simp [Nat.mod_eq_of_lt hn]
  · rintro rfl
    simp [Nat.mod_eq_of_lt hn]
theorem ext1 {s : ByteArray} (h : 0 < s.size) : (bt (s.extract 0 (1 : Int).toNat) 0).toNat.toUInt8 = (L s).getD 0 0 := by
  rw [bt_L, L_ext]
  have := L_len s
  obtain ⟨c, r, e⟩ : ∃ c r, L s = c :: r := by
    cases hl : L s with
    | nil => rw [hl] at this; simp at this; omega
    | cons c r => exact ⟨c, r, rfl⟩
  rw [e]
  simp
theorem expC (c : UInt8) : 0 ≤ Lib.indexByte (L ⟨#[101, 69, 100, 68]⟩) c ↔ isExp c = true := by
  have e : L ⟨#[101, 69, 100, 68]⟩ = [101, 69, 100, 68] := rfl
  rw [e, isExp]
  simp only [Lib.indexByte, Bool.or_eq_true, beq_iff_eq]
  by_cases h1 : 101 = c
  · simp [← h1]
  by_cases h2 : 69 = c
  · simp [← h2]
  by_cases h3 : 100 = c
  · simp [← h3]
  by_cases h4 : 68 = c
  · simp [← h4]
  simp [h1, h2, h3, h4, Ne.symm h1, Ne.symm h2, Ne.symm h3, Ne.symm h4]
theorem W2 : IntKind.i64.wrap (1 + 1) = 2 := by decide
theorem T1 : (1 : Int).toNat = 1 := rfl
theorem T2 : (2 : Int).toNat = 2 := rfl
theorem expo_a {s : ByteArray} (h : s.size = 0) : expo (L s) = 0 := by
  unfold expo; rw [if_pos (.inl (L_nil'.2 h))]
theorem expo_b {s : ByteArray} (h0 : ¬ s.size = 0) (h : ¬ 0 ≤ Lib.indexByte (L { data := #[101, 69, 100, 68] }) (bt (s.extract 0 (Int.toNat 1)) 0).toNat.toUInt8) : expo (L s) = 0 := by
  unfold expo
  rw [ext1 (by omega), expC] at h
  rw [if_pos (.inr (by simpa using h))]
theorem expo_c {s : ByteArray} {n : Nat} (h0 : ¬ s.size = 0) (h : 0 ≤ Lib.indexByte (L { data := #[101, 69, 100, 68] }) (bt (s.extract 0 (Int.toNat 1)) 0).toNat.toUInt8) (hn : n = expoN (L s)) :
    expo (L s) = if pre pDigit (s.extract n s.size) = 0 then 0 else n + pre pDigit (s.extract n s.size) := by
  unfold expo
  rw [ext1 (by omega), expC] at h
  rw [if_neg (by rw [h, L_nil']; simpa using h0), ← hn, pre_preL, L_ext, List.take_of_length_le (by rw [L_len]; exact Nat.le_refl _)]
theorem expoN2 {s : ByteArray} (h : 1 < s.size) (hb : bt s 1 = 43 ∨ bt s 1 = 45) : 2 = expoN (L s) := by
  unfold expoN
  rw [bt_L, T1] at hb
  have hb' : (L s).getD 1 0 = 43 ∨ (L s).getD 1 0 = 45 := hb.imp (fun h => (u8_eq (n := 43) (by omega)).1 h) (fun h => (u8_eq (n := 45) (by omega)).1 h)
  rw [if_pos]
  simp only [L_len, isSign, Bool.and_eq_true, decide_eq_true_eq, Bool.or_eq_true, beq_iff_eq]
  exact ⟨h, hb'⟩
theorem expoN1 {s : ByteArray} (hb : 1 < s.size → ¬ bt s 1 = 43 ∧ ¬ bt s 1 = 45) : 1 = expoN (L s) := by
  unfold expoN
  rw [if_neg]
  simp only [L_len, isSign, Bool.and_eq_true, decide_eq_true_eq, Bool.or_eq_true, beq_iff_eq]
  rintro ⟨h1, h2⟩
  have := hb h1
  rw [bt_L, T1] at this
  rcases h2 with h2 | h2 <;> rw [h2] at this
  · exact this.1 rfl
  · exact this.2 rfl
theorem pre_le_of {p : Int → Bool} {s : ByteArray} {a b d : Nat} (h : d = pre p (s.extract a b)) : d ≤ s.size := by
  have := pre_le p (s.extract a b)
  rw [ByteArray.size_extract] at this
  omega
theorem L_drop {s : ByteArray} {n : Nat} : L (s.extract n s.size) = (L s).drop n := by
  rw [L_ext, List.take_of_length_le (by rw [L_len]; exact Nat.le_refl _)]
def isInt (l : BS) : Bool := decide (1 ≤ l.length) && decide (l.length ≤ 10) && (preL pDigit l == l.length)
def isName (l : BS) : Bool := decide (l ≠ []) && decide (l.length ≤ 12) && pLetter (l.getD 0 0).toNat && (preL pPart l == l.length) && (l == small l)
def pointOk (r : BS) : Bool := decide (r = []) || !pLetter (r.getD 0 0).toNat || isExp (r.getD 0 0)
def hasPoint (l : BS) : Bool :=
  decide (preL pDigit l < l.length) && (l.getD (preL pDigit l) 0 == 46) && decide (wordOf (l.drop (preL pDigit l)) = []) && pointOk (l.drop (preL pDigit l + 1))
def pointN (l : BS) : Nat := if hasPoint l then preL pDigit l + (1 + preL pDigit (l.drop (preL pDigit l + 1))) else preL pDigit l
def numN (l : BS) : Nat := pointN l + expo (l.drop (pointN l))
def numR (l : BS) : Bool := hasPoint l || decide (0 < expo (l.drop (pointN l)))
def unsign (l : BS) : BS := if decide (l ≠ []) && isSign (l.getD 0 0) then l.drop 1 else l
def decTail (l : BS) : Bool :=
  if l = [] then true else if isExp (l.getD 0 0) then
    decide (unsign (l.drop 1) ≠ []) && decide ((unsign (l.drop 1)).length ≤ 4) && (preL pDigit (unsign (l.drop 1)) == (unsign (l.drop 1)).length) else false
def decBody (l : BS) : Bool :=
  let f := preL pDigit l
  if (l.drop f).getD 0 0 == 46 && decide (f < l.length) then
    let b := preL pDigit (l.drop (f + 1))
    if f + b = 0 || f + b > 60 then false else decTail (l.drop (f + 1 + b))
  else if f = 0 || f > 60 then false else decTail (l.drop f)
def decIs (l : BS) : Bool := decide (unsign l = [105, 110, 102]) || decide (unsign l = [110, 97, 110]) || decBody (unsign l)
def trimS (l : BS) : BS := l.dropWhile isSign
def isRealL (l : BS) : Bool :=
  decide (l ≠ []) && (pDigit (l.getD 0 0).toNat || l.getD 0 0 == 46) && (l == small l) && decIs l && numR l && (numN l == l.length) &&
    (decide (Lib.indexAny l [101, 100] < 0) || decide (preL pDigit (trimS (l.drop ((Lib.indexAny l [101, 100]).toNat + 1))) ≤ 3))
def kName : BS := [110, 97, 109, 101]
def kInt : BS := [105, 110, 116]
def kReal : BS := [114, 101, 97, 108]
def kText : BS := [116, 101, 120, 116]
def kOp : BS := [111, 112]
def kLog : BS := [108, 111, 103, 105, 99, 97, 108]
def valid (k t : BS) : Bool :=
  if k = kName then isName t else if k = kInt then isInt t else if k = kReal then isRealL t else if k = kText then preL pText t == t.length
  else if k = kOp then decide (t ∈ signs) || decide (t ∈ words.take 4) else if k = kLog then decide (t ∈ words.drop 4) else false
theorem toList_mk (k : ByteArray) (a : Array UInt8) : k.toList = (ByteArray.mk a).toList ↔ L k = a.toList := by rw [toList_L, toList_L]; rfl
theorem pre_le_of2 {p : Int → Bool} {s : ByteArray} {a b d : Nat} (h : d = pre p (s.extract a b)) : d ≤ s.size - a := by
  have := pre_le p (s.extract a b)
  rw [ByteArray.size_extract] at this
  omega
theorem ext_nil {s : ByteArray} {a b : Nat} : L (s.extract a b) = [] ↔ min b s.size - a = 0 := by rw [L_nil', ByteArray.size_extract]
theorem LB_nil {w : BS} : L (B w) = [] ↔ w = [] := by rw [L_B]
theorem getD_drop {l : BS} {n i : Nat} : (l.drop n).getD i 0 = l.getD (n + i) 0 := by simp [List.getD, List.getElem?_drop]
theorem getD_take {l : BS} {n i : Nat} (h : i < n) : (l.take n).getD i 0 = l.getD i 0 := by simp [List.getD, h]
theorem bt_ext {s : ByteArray} {n : Nat} : bt (s.extract ((n : Int) + 1).toNat ((n : Int) + 2).toNat) 0 = (((L s).getD (n + 1) 0).toNat : Int) := by
  rw [bt_L, L_ext]
  have e1 : ((n : Int) + 1).toNat = n + 1 := rfl
  have e2 : ((n : Int) + 2).toNat = n + 2 := rfl
  rw [e1, e2, show (0 : Int).toNat = 0 from rfl, getD_drop, getD_take (by omega)]
theorem u8_46 {s : ByteArray} {n : Nat} : bt s (n : Int) = 46 ↔ (L s).getD n 0 = 46 := by
  rw [bt_L]; exact u8_eq (n := 46) (by omega)
section
variable {s : ByteArray} {n d e : Nat} {w : BS}
theorem hp_eq (hn : n = pre pDigit s) : hasPoint (L s) = (decide (n < s.size) && ((L s).getD n 0 == 46) && decide (wordOf ((L s).drop n) = []) && pointOk ((L s).drop (n + 1))) := by
  unfold hasPoint
  rw [← pre_preL, ← hn, L_len]
theorem hp_f1 (hn : n = pre pDigit s) (h : ¬ n < s.size) : hasPoint (L s) = false := by rw [hp_eq hn]; simp [h]
theorem hp_f2 (hn : n = pre pDigit s) (h : ¬ bt s (n : Int) = 46) : hasPoint (L s) = false := by
  rw [u8_46] at h
  rw [hp_eq hn, show ((L s).getD n 0 == 46) = false from by simpa using h]; simp
theorem hp_f3 (hn : n = pre pDigit s) (hw : w = wordOf (L (s.extract (n : Int).toNat s.size))) (h : ¬ w = []) : hasPoint (L s) = false := by
  rw [Int.toNat_natCast, L_drop] at hw
  rw [hp_eq hn, ← hw]; simp [h]
theorem pointOk_eq : pointOk ((L s).drop (n + 1)) = (decide (s.size ≤ n + 1) || !pLetter ((L s).getD (n + 1) 0).toNat || isExp ((L s).getD (n + 1) 0)) := by
  unfold pointOk
  rw [getD_drop]
  congr 2
  rw [decide_eq_decide, List.drop_eq_nil_iff, L_len]
theorem hp_f4 (hn : n = pre pDigit s) (h1 : (n : Int) + 1 < s.size) (h : pLetter (bt (s.extract ((n : Int) + 1).toNat ((n : Int) + 2).toNat) 0) = true) (hx : ¬ 0 ≤ Lib.indexByte (L ⟨#[101, 69, 100, 68]⟩) (bt (s.extract ((n : Int) + 1).toNat ((n : Int) + 2).toNat) 0).toNat.toUInt8) : hasPoint (L s) = false := by
  rw [bt_ext] at h hx
  rw [Int.toNat_natCast, expC] at hx
  rw [hp_eq hn, pointOk_eq, h]
  simp at hx
  have hx' : isExp ((L s).getD (n + 1) 0) = false := by simpa using hx
  rw [hx']
  simp
  intros; omega
theorem hp_t (hn : n = pre pDigit s) (h0 : n < s.size) (h1 : bt s (n : Int) = 46) (hw : w = wordOf (L (s.extract (n : Int).toNat s.size))) (h2 : w = [])
    (h3 : s.size ≤ n + 1 ∨ pLetter (bt (s.extract ((n : Int) + 1).toNat ((n : Int) + 2).toNat) 0) = false ∨ 0 ≤ Lib.indexByte (L ⟨#[101, 69, 100, 68]⟩) (bt (s.extract ((n : Int) + 1).toNat ((n : Int) + 2).toNat) 0).toNat.toUInt8) : hasPoint (L s) = true := by
  rw [bt_ext] at h3
  rw [Int.toNat_natCast, expC] at h3
  rw [Int.toNat_natCast, L_drop, h2] at hw
  rw [u8_46] at h1
  rw [hp_eq hn, pointOk_eq, ← hw, h1]
  simp only [decide_eq_true h0]
  rcases h3 with h3 | h3 | h3
  · simp [h3]
  · rw [h3]; simp
  · have h3' : isExp ((L s).getD (n + 1) 0) = true := by simpa using h3
    rw [h3']; simp
end
theorem expo_le (l : BS) : expo l ≤ l.length := by
  unfold expo expoN
  have h1 := preL_le pDigit (l.drop 1)
  have h2 := preL_le pDigit (l.drop 2)
  rw [List.length_drop] at h1 h2
  split
  · omega
  · split
    · split <;> omega
    · split <;> omega
theorem expo_le_of {s : ByteArray} {a b e : Nat} (h : e = expo (L (s.extract a b))) : e ≤ s.size - a := by
  have := expo_le (L (s.extract a b))
  rw [L_len, ByteArray.size_extract] at this
  omega
def quo (q : UInt8) : BS → Option (BS × Nat)
  | [] => none
  | c :: r => if c = q then
      (match r with
        | [] => some ([], 1)
        | c' :: r' => if c' = q then (quo q r').map fun p => (q :: p.1, p.2 + 2) else some ([], 1))
    else (quo q r).map fun p => (c :: p.1, p.2 + 1)
theorem quo_cons (q c : UInt8) (r : BS) : quo q (c :: r) = if c = q then
      (match r with
        | [] => some ([], 1)
        | c' :: r' => if c' = q then (quo q r').map fun p => (q :: p.1, p.2 + 2) else some ([], 1))
    else (quo q r).map fun p => (c :: p.1, p.2 + 1) := by
  rw [quo.eq_def]; rfl
def quoRes : Option (BS × Nat) → BS × Nat
  | some (t, n) => (t, n + 1)
  | none => ([], 0)
def quoted (l : BS) : BS × Nat := quoRes (quo (l.getD 0 0) (l.drop 1))
/-- What the loop knows behind i bytes. -/
def QInv (l out : BS) (i : Nat) : Prop := 1 ≤ i ∧ out.length < i ∧ quo (l.getD 0 0) (l.drop 1) = (quo (l.getD 0 0) (l.drop i)).map fun p => (out ++ p.1, p.2 + (i - 1))
theorem QInv.start (l : BS) : QInv l [] 1 := ⟨by omega, by simp, by cases quo (l.getD 0 0) (l.drop 1) <;> simp⟩
theorem drop_cons {l : BS} {i : Nat} (h : i < l.length) : l.drop i = l.getD i 0 :: l.drop (i + 1) := by
  rw [List.drop_eq_getElem_cons h]
  simp [List.getD, h]
theorem QInv.other {l out : BS} {i : Nat} (h : QInv l out i) (hi : i < l.length) (hc : ¬ l.getD i 0 = l.getD 0 0) : QInv l (out ++ [l.getD i 0]) (i + 1) := by
  obtain ⟨h0, h1, h2⟩ := h
  refine ⟨by omega, by simp; omega, ?_⟩
  rw [h2, drop_cons hi]
  rw [quo_cons, if_neg hc]
  cases quo (l.getD 0 0) (l.drop (i + 1)) with
  | none => rfl
  | some p =>
    simp only [Option.map_some, List.append_assoc, List.singleton_append, Option.some.injEq, Prod.mk.injEq, true_and]
    omega
theorem QInv.twice {l out : BS} {i : Nat} (h : QInv l out i) (hi : i + 1 < l.length) (hc : l.getD i 0 = l.getD 0 0) (hc' : l.getD (i + 1) 0 = l.getD 0 0) : QInv l (out ++ [l.getD 0 0]) (i + 1 + 1) := by
  obtain ⟨h0, h1, h2⟩ := h
  refine ⟨by omega, by simp; omega, ?_⟩
  rw [h2, drop_cons (show i < l.length by omega), drop_cons hi]
  rw [quo_cons, if_pos hc]
  simp only [if_pos hc']
  cases quo (l.getD 0 0) (l.drop (i + 1 + 1)) with
  | none => rfl
  | some p =>
    simp only [Option.map_some, List.append_assoc, List.singleton_append, Option.some.injEq, Prod.mk.injEq, true_and]
    omega
theorem QInv.ends {l out : BS} {i : Nat} (h : QInv l out i) (hi : i < l.length) (hc : l.getD i 0 = l.getD 0 0) (hc' : i + 1 = l.length ∨ ¬ l.getD (i + 1) 0 = l.getD 0 0) : quoted l = (out, i + 1) := by
  obtain ⟨h0, h1, h2⟩ := h
  unfold quoted
  rw [h2, drop_cons hi, quo_cons, if_pos hc]
  have e : (i : Nat) = 1 + (i - 1) := by omega
  rcases hc' with hc' | hc'
  · rw [List.drop_of_length_le (by omega)]
    simp only [Option.map_some, quoRes, List.append_nil, Prod.mk.injEq, true_and]; omega
  · rcases Nat.lt_or_ge (i + 1) l.length with h3 | h3
    · rw [drop_cons h3]
      simp only [if_neg hc', Option.map_some, quoRes, List.append_nil, Prod.mk.injEq, true_and]; omega
    · rw [List.drop_of_length_le (by omega)]
      simp only [Option.map_some, quoRes, List.append_nil, Prod.mk.injEq, true_and]; omega
theorem QInv.none {l out : BS} {i : Nat} (h : QInv l out i) (hi : l.length ≤ i) : quoted l = ([], 0) := by
  obtain ⟨h0, h1, h2⟩ := h
  unfold quoted
  rw [h2, List.drop_of_length_le hi]
  rfl
theorem bt_eq {s : ByteArray} {i j : Int} : bt s i = bt s j ↔ (L s).getD i.toNat 0 = (L s).getD j.toNat 0 := by
  rw [bt_L, bt_L]
  constructor
  · intro h; exact UInt8.toNat_inj.1 (by omega)
  · intro h; rw [h]
theorem app_ok {n : Nat} (h : n < 2 ^ 46) : (n + (0 + 1)) * 1 ≤ 140737488355328 ∧ n + (0 + 1) ≤ 9223372036854775807 := by omega
def numT (l : BS) : BS × BS := (if numR l then kReal else kInt, small (l.take (numN l)))
def firstSpec (l : BS) : (BS × BS) × Nat :=
  if pLetter (l.getD 0 0).toNat then ((kName, small (l.take (preL pPart l))), if valid kName (small (l.take (preL pPart l))) then preL pPart l else 0)
  else if l.getD 0 0 = 39 ∨ l.getD 0 0 = 34 then ((kText, (quoted l).1), (quoted l).2)
  else if wordOf l ≠ [] then ((if wordOf l ∈ words.drop 4 then kLog else kOp, wordOf l), (wordOf l).length)
  else if pDigit (l.getD 0 0).toNat ∨ l.getD 0 0 = 46 ∧ 1 < l.length ∧ pDigit (l.getD 1 0).toNat then
    (numT l, if numN l < l.length ∧ pPart (l.getD (numN l) 0).toNat = true then 0 else if valid (numT l).1 (numT l).2 then numN l else 0)
  else match signs.find? (·.isPrefixOf l) with
    | some o => ((kOp, o), o.length)
    | none => (([], []), 0)
theorem L_take {s : ByteArray} {n : Nat} : L (s.extract 0 n) = (L s).take n := by rw [L_ext, List.drop_zero]
section
variable {s : ByteArray} {n : Nat} {b : Bool}
theorem f_name (hc : pLetter (bt s 0) = true) (hn : n = pre pPart s) (hv : valid kName (small (L (s.extract 0 (n : Int).toNat))) = b) : firstSpec (L s) = ((kName, small (L (s.extract 0 (n : Int).toNat))), if b then n else 0) := by
  rw [Int.toNat_natCast, L_take] at *
  unfold firstSpec
  rw [if_pos (show pLetter (((L s).getD 0 0).toNat : Int) = true from hc), ← pre_preL, ← hn, hv]
theorem quote_iff : (bt s 0 = 39 ∨ bt s 0 = 34) ↔ ((L s).getD 0 0 = 39 ∨ (L s).getD 0 0 = 34) := by
  rw [bt_L]; exact or_congr (u8_eq (n := 39) (by omega)) (u8_eq (n := 34) (by omega))
theorem f_text (hc : pLetter (bt s 0) = false) (hq : bt s 0 = 39 ∨ bt s 0 = 34) : firstSpec (L s) = ((kText, (quoted (L s)).1), (quoted (L s)).2) := by
  unfold firstSpec
  rw [if_neg (by rw [show pLetter (((L s).getD 0 0).toNat : Int) = false from hc]; simp), if_pos (quote_iff.1 hq)]
theorem f_word (hc : pLetter (bt s 0) = false) (hq : ¬ (bt s 0 = 39 ∨ bt s 0 = 34)) (hw : ¬ L (B (wordOf (L s))) = []) : firstSpec (L s) = ((if wordOf (L s) ∈ words.drop 4 then kLog else kOp, wordOf (L s)), (wordOf (L s)).length) := by
  unfold firstSpec
  rw [if_neg (by rw [show pLetter (((L s).getD 0 0).toNat : Int) = false from hc]; simp), if_neg (fun h => hq (quote_iff.2 h)), if_pos (show wordOf (L s) ≠ [] from by simpa using hw)]
theorem num_iff {s : ByteArray} : (pDigit (bt s 0) = true ∨ bt s 0 = 46 ∧ 1 < s.size ∧ pDigit (bt s 1) = true) ↔ (pDigit (((L s).getD 0 0).toNat : Int) = true ∨ (L s).getD 0 0 = 46 ∧ 1 < (L s).length ∧ pDigit (((L s).getD 1 0).toNat : Int) = true) := by
  rw [L_len]
  refine or_congr Iff.rfl (and_congr ?_ Iff.rfl)
  rw [bt_L]; exact u8_eq (n := 46) (by omega)
theorem f_num (hc : pLetter (bt s 0) = false) (hq : ¬ (bt s 0 = 39 ∨ bt s 0 = 34)) (hw : L (B (wordOf (L s))) = []) (hd : pDigit (bt s 0) = true ∨ bt s 0 = 46 ∧ 1 < s.size ∧ pDigit (bt s 1) = true) :
    firstSpec (L s) = (numT (L s), if numN (L s) < s.size ∧ pPart (bt s (numN (L s) : Nat)) = true then 0 else if valid (numT (L s)).1 (numT (L s)).2 then numN (L s) else 0) := by
  unfold firstSpec
  rw [if_neg (by rw [show pLetter (((L s).getD 0 0).toNat : Int) = false from hc]; simp), if_neg (fun h => hq (quote_iff.2 h)), if_neg (by simpa using hw), if_pos (num_iff.1 hd), L_len]
  rfl
theorem f_sign (hc : pLetter (bt s 0) = false) (hq : ¬ (bt s 0 = 39 ∨ bt s 0 = 34)) (hw : L (B (wordOf (L s))) = []) (hd : ¬ (pDigit (bt s 0) = true ∨ bt s 0 = 46 ∧ 1 < s.size ∧ pDigit (bt s 1) = true)) :
    firstSpec (L s) = match signs.find? (·.isPrefixOf (L s)) with | some o => ((kOp, o), o.length) | none => (([], []), 0) := by
  unfold firstSpec
  rw [if_neg (by rw [show pLetter (((L s).getD 0 0).toNat : Int) = false from hc]; simp), if_neg (fun h => hq (quote_iff.2 h)), if_neg (by simpa using hw), if_neg (fun h => hd (num_iff.2 h))]
end
theorem small_size {s : ByteArray} {n : Nat} : (B (small (L (s.extract 0 n)))).size ≤ s.size := by
  rw [B_size, small, List.length_map, L_len, ByteArray.size_extract]; omega
theorem numN_le (s : ByteArray) : numN (L s) ≤ s.size := by
  have h1 := expo_le ((L s).drop (pointN (L s)))
  have h2 : pointN (L s) ≤ (L s).length := by
    unfold pointN
    have h3 := preL_le pDigit (L s)
    have h4 := preL_le pDigit ((L s).drop (preL pDigit (L s) + 1))
    rw [List.length_drop] at h4
    split
    · rename_i h
      have h5 : preL pDigit (L s) < (L s).length := by
        unfold hasPoint at h
        simp only [Bool.and_eq_true, decide_eq_true_eq] at h
        exact h.1.1.1
      omega
    · exact h3
  rw [List.length_drop] at h1
  rw [← L_len]
  unfold numN
  omega
theorem numT_r {s : ByteArray} (h : numR (L s) = true) : numT (L s) = (kReal, small (L (s.extract 0 (numN (L s) : Int).toNat))) := by
  unfold numT; rw [if_pos h, Int.toNat_natCast, L_take]
theorem numT_i {s : ByteArray} (h : numR (L s) = false) : numT (L s) = (kInt, small (L (s.extract 0 (numN (L s) : Int).toNat))) := by
  unfold numT; rw [if_neg (by simp [h]), Int.toNat_natCast, L_take]
theorem L_B' {w : BS} : L (B w) = w := rfl
theorem sign_size (i : Nat) (h : i < signs.length) : (B signs[i]).size < 2 ^ 62 := by
  have : ∀ j (h : j < signs.length), (B signs[j]).size < 2 ^ 62 := by decide
  exact this i h
theorem f_wordL {s : ByteArray} (hc : pLetter (bt s 0) = false) (hq : ¬ (bt s 0 = 39 ∨ bt s 0 = 34)) (hw : ¬ L (B (wordOf (L s))) = []) (h : L (B (wordOf (L s))) ∈ words.drop 4) : firstSpec (L s) = ((kLog, wordOf (L s)), (wordOf (L s)).length) := by
  rw [f_word hc hq hw, if_pos (show wordOf (L s) ∈ words.drop 4 from h)]
theorem f_wordO {s : ByteArray} (hc : pLetter (bt s 0) = false) (hq : ¬ (bt s 0 = 39 ∨ bt s 0 = 34)) (hw : ¬ L (B (wordOf (L s))) = []) (h : ¬ L (B (wordOf (L s))) ∈ words.drop 4) : firstSpec (L s) = ((kOp, wordOf (L s)), (wordOf (L s)).length) := by
  rw [f_word hc hq hw, if_neg (show ¬ wordOf (L s) ∈ words.drop 4 from h)]
theorem f_num0 {s : ByteArray} {k t : BS} (hc : pLetter (bt s 0) = false) (hq : ¬ (bt s 0 = 39 ∨ bt s 0 = 34)) (hw : L (B (wordOf (L s))) = []) (hd : pDigit (bt s 0) = true ∨ bt s 0 = 46 ∧ 1 < s.size ∧ pDigit (bt s 1) = true)
    (hT : numT (L s) = (k, t)) (h1 : numN (L s) < s.size) (h2 : pPart (bt s (numN (L s) : Nat)) = true) : firstSpec (L s) = ((k, t), 0) := by
  rw [f_num hc hq hw hd, if_pos ⟨h1, h2⟩, hT]
theorem f_num1 {s : ByteArray} {k t : BS} {b : Bool} (hc : pLetter (bt s 0) = false) (hq : ¬ (bt s 0 = 39 ∨ bt s 0 = 34)) (hw : L (B (wordOf (L s))) = []) (hd : pDigit (bt s 0) = true ∨ bt s 0 = 46 ∧ 1 < s.size ∧ pDigit (bt s 1) = true)
    (hT : numT (L s) = (k, t)) (h1 : ¬ numN (L s) < s.size ∨ pPart (bt s (numN (L s) : Nat)) = false) (hv : valid k t = b) : firstSpec (L s) = ((k, t), if b then numN (L s) else 0) := by
  rw [f_num hc hq hw hd, if_neg, hT]
  · simp only [hv]
  · rintro ⟨h3, h4⟩
    rcases h1 with h1 | h1
    · exact h1 h3
    · rw [h1] at h4; cases h4
theorem sign_yes {s : ByteArray} {i : Nat} (hc : pLetter (bt s 0) = false) (hq : ¬ (bt s 0 = 39 ∨ bt s 0 = 34)) (hw : L (B (wordOf (L s))) = []) (hd : ¬ (pDigit (bt s 0) = true ∨ bt s 0 = 46 ∧ 1 < s.size ∧ pDigit (bt s 1) = true))
    (hj : ∀ j (h : j < signs.length), j < i → List.isPrefixOf signs[j] (L s) = false) (h : i < signs.length) (he : List.isPrefixOf (L (B signs[i])) (L s) = true) : firstSpec (L s) = ((kOp, signs[i]), signs[i].length) := by
  rw [f_sign hc hq hw hd, find_at (p := fun o => List.isPrefixOf o (L s)) hj h he]
theorem sign_no {s : ByteArray} {i : Nat} (hc : pLetter (bt s 0) = false) (hq : ¬ (bt s 0 = 39 ∨ bt s 0 = 34)) (hw : L (B (wordOf (L s))) = []) (hd : ¬ (pDigit (bt s 0) = true ∨ bt s 0 = 46 ∧ 1 < s.size ∧ pDigit (bt s 1) = true))
    (hj : ∀ j (h : j < signs.length), j < i → List.isPrefixOf signs[j] (L s) = false) (h : signs.length ≤ i) : firstSpec (L s) = (([], []), 0) := by
  rw [f_sign hc hq hw hd, find_no (p := fun o => List.isPrefixOf o (L s)) hj h]
def scanG : Nat → BS → Nat → Except Nat (List (BS × BS))
  | 0, _, _ => .ok []
  | f + 1, r, i =>
    if r = [] then .ok []
    else if r.getD 0 0 = 32 then scanG f (r.drop 1) (i + 1)
    else if (firstSpec r).2 = 0 ∨ valid (firstSpec r).1.1 (firstSpec r).1.2 = false then .error i
    else (scanG f (r.drop (firstSpec r).2) (i + (firstSpec r).2)).map ((firstSpec r).1 :: ·)
def scanSpec (l : BS) : List (BS × BS) × Nat × Nat :=
  if preL pText l < l.length then ([], preL pText l, 3)
  else match scanG (l.length + 1) l 0 with
    | .ok ts => (ts, 0, 0)
    | .error i => ([], i, 3)
/-- What the loop knows: out so far, at place i. -/
def SInv (l : BS) (out : List (BS × BS)) (i : Nat) : Prop :=
  out.length ≤ i ∧ i ≤ l.length ∧ ∃ f, l.length - i < f ∧ scanG (l.length + 1) l 0 = (scanG f (l.drop i) i).map (out ++ ·)
theorem SInv.start (l : BS) : SInv l [] 0 := by
  refine ⟨by simp, by omega, l.length + 1, by omega, ?_⟩
  rw [List.drop_zero]
  cases scanG (l.length + 1) l 0 <;> rfl
theorem quo_le (q : UInt8) : ∀ (k : Nat) (r : BS), r.length ≤ k → ∀ p, quo q r = some p → p.2 ≤ r.length
  | k, [], _, p, h => by simp [quo] at h
  | k + 1, c :: r, hk, p, h => by
    rw [quo_cons] at h
    simp only [List.length_cons] at hk ⊢
    split at h
    · match r, h with
      | [], h => simp only [Option.some.injEq] at h; subst h; simp
      | c' :: r', h =>
        simp only [List.length_cons] at hk ⊢
        replace h : (if c' = q then (quo q r').map fun p => (q :: p.1, p.2 + 2) else some ([], 1)) = some p := h
        split at h
        · cases hq : quo q r' with
          | none => rw [hq] at h; cases h
          | some p' =>
            rw [hq] at h
            have := quo_le q k r' (by omega) p' hq
            simp only [Option.map_some, Option.some.injEq] at h
            subst h; simp only; omega
        · simp only [Option.some.injEq] at h; subst h; simp
    · cases hq : quo q r with
      | none => rw [hq] at h; cases h
      | some p' =>
        rw [hq] at h
        have := quo_le q k r (by omega) p' hq
        simp only [Option.map_some, Option.some.injEq] at h
        subst h; simp only; omega
  | 0, c :: r, hk, p, h => by simp at hk
theorem quoted_le (l : BS) (h : l ≠ []) : (quoted l).2 ≤ l.length := by
  have hl : 0 < l.length := List.length_pos_iff.2 h
  unfold quoted
  cases hq : quo (l.getD 0 0) (l.drop 1) with
  | none => simp [quoRes]
  | some p =>
    have := quo_le _ _ _ (Nat.le_refl _) p hq
    rw [List.length_drop] at this
    simp only [quoRes]; omega
theorem wordOf_le (l : BS) : (wordOf l).length ≤ l.length := by
  unfold wordOf
  cases h : words.find? (wtest l) with
  | none => simp
  | some w =>
    have := List.find?_some h
    simp only [wtest, Bool.and_eq_true, decide_eq_true_eq] at this
    simpa using this.1
theorem numN_leL (l : BS) : numN l ≤ l.length := by have := numN_le (B l); rwa [L_B] at this
theorem first_le (l : BS) (h : l ≠ []) : (firstSpec l).2 ≤ l.length := by
  unfold firstSpec
  have h1 := preL_le pPart l
  have h2 := quoted_le l h
  have h3 := wordOf_le l
  have h4 := numN_leL l
  split
  · simp only; split <;> omega
  · split
    · exact h2
    · split
      · exact h3
      · split
        · simp only; split
          · omega
          · split <;> omega
        · split
          · rename_i o ho
            have := List.find?_some ho
            exact (List.isPrefixOf_iff_prefix.1 this).length_le
          · simp
theorem first_real (l : BS) (h : (firstSpec l).1.1 = kReal) : numR l = true ∧ (firstSpec l).1.2 = small (l.take (numN l)) := by
  unfold firstSpec at h ⊢
  split at h
  · exact absurd h (show ¬ kName = kReal by decide)
  · split at h
    · exact absurd h (show ¬ kText = kReal by decide)
    · split at h
      · simp only at h
        split at h
        · exact absurd h (show ¬ kLog = kReal by decide)
        · exact absurd h (show ¬ kOp = kReal by decide)
      · split at h
        · rename_i h1 h2 h3 h4
          rw [if_neg h1, if_neg h2, if_neg h3, if_pos h4]
          refine ⟨?_, rfl⟩
          unfold numT at h
          simp only at h
          split at h
          · assumption
          · exact absurd h (show ¬ kInt = kReal by decide)
        · split at h
          · exact absurd h (show ¬ kOp = kReal by decide)
          · exact absurd h (show ¬ ([] : BS) = kReal by decide)
theorem map_map_out {e : Except Nat (List (BS × BS))} {out : List (BS × BS)} {t : BS × BS} : (e.map (t :: ·)).map (out ++ ·) = e.map (out ++ [t] ++ ·) := by
  cases e with
  | error i => rfl
  | ok ts => simp [Except.map]
theorem drop_ne {l : BS} {i : Nat} (h : i < l.length) : l.drop i ≠ [] := by rw [ne_eq, List.drop_eq_nil_iff]; omega
theorem SInv.blank {l : BS} {out : List (BS × BS)} {i : Nat} (h : SInv l out i) (hi : i < l.length) (hb : (l.drop i).getD 0 0 = 32) : SInv l out (i + 1) := by
  obtain ⟨h0, h1, f, hf, he⟩ := h
  cases f with
  | zero => omega
  | succ f =>
    refine ⟨by omega, by omega, f, by omega, ?_⟩
    rw [he, scanG, if_neg (drop_ne hi), if_pos hb, List.drop_drop]
theorem SInv.token {l : BS} {out : List (BS × BS)} {i : Nat} (h : SInv l out i) (hi : i < l.length) (hb : ¬ (l.drop i).getD 0 0 = 32) (h0 : ¬ (firstSpec (l.drop i)).2 = 0) (hv : valid (firstSpec (l.drop i)).1.1 (firstSpec (l.drop i)).1.2 = true) :
    SInv l (out ++ [(firstSpec (l.drop i)).1]) (i + (firstSpec (l.drop i)).2) := by
  obtain ⟨h2, h1, f, hf, he⟩ := h
  have hle := first_le (l.drop i) (drop_ne hi)
  rw [List.length_drop] at hle
  cases f with
  | zero => omega
  | succ f =>
    refine ⟨by simp only [List.length_append, List.length_cons, List.length_nil]; omega, by omega, f, by omega, ?_⟩
    rw [he, scanG, if_neg (drop_ne hi), if_neg hb, if_neg (by rw [hv]; simp [h0]), List.drop_drop, map_map_out]
theorem SInv.bad {l : BS} {out : List (BS × BS)} {i : Nat} (h : SInv l out i) (hp : ¬ preL pText l < l.length) (hi : i < l.length) (hb : ¬ (l.drop i).getD 0 0 = 32) (h0 : (firstSpec (l.drop i)).2 = 0 ∨ valid (firstSpec (l.drop i)).1.1 (firstSpec (l.drop i)).1.2 = false) : scanSpec l = ([], i, 3) := by
  obtain ⟨h2, h1, f, hf, he⟩ := h
  unfold scanSpec
  cases f with
  | zero => omega
  | succ f =>
    rw [if_neg hp, he, scanG, if_neg (drop_ne hi), if_neg hb, if_pos h0]
    rfl
theorem SInv.all {l : BS} {out : List (BS × BS)} {i : Nat} (h : SInv l out i) (hp : ¬ preL pText l < l.length) (hi : l.length ≤ i) : scanSpec l = (out, 0, 0) := by
  obtain ⟨h2, h1, f, hf, he⟩ := h
  unfold scanSpec
  cases f with
  | zero => omega
  | succ f =>
    rw [if_neg hp, he, scanG, if_pos (List.drop_of_length_le hi)]
    simp [Except.map]
theorem quo_text (q : UInt8) : ∀ (k : Nat) (r : BS), r.length ≤ k → ∀ p, quo q r = some p → p.1.length ≤ p.2
  | k, [], _, p, h => by simp [quo] at h
  | k + 1, c :: r, hk, p, h => by
    rw [quo_cons] at h
    simp only [List.length_cons] at hk
    split at h
    · match r, h with
      | [], h => simp only [Option.some.injEq] at h; subst h; simp
      | c' :: r', h =>
        simp only [List.length_cons] at hk
        replace h : (if c' = q then (quo q r').map fun p => (q :: p.1, p.2 + 2) else some ([], 1)) = some p := h
        split at h
        · cases hq : quo q r' with
          | none => rw [hq] at h; cases h
          | some p' =>
            rw [hq] at h
            have := quo_text q k r' (by omega) p' hq
            simp only [Option.map_some, Option.some.injEq] at h
            subst h; simp only [List.length_cons]; omega
        · simp only [Option.some.injEq] at h; subst h; simp
    · cases hq : quo q r with
      | none => rw [hq] at h; cases h
      | some p' =>
        rw [hq] at h
        have := quo_text q k r (by omega) p' hq
        simp only [Option.map_some, Option.some.injEq] at h
        subst h; simp only [List.length_cons]; omega
  | 0, c :: r, hk, p, h => by simp at hk
theorem quoted_text (l : BS) : (quoted l).1.length ≤ (quoted l).2 := by
  unfold quoted
  cases hq : quo (l.getD 0 0) (l.drop 1) with
  | none => simp [quoRes]
  | some p =>
    have := quo_text _ _ _ (Nat.le_refl _) p hq
    simp only [quoRes]; omega
theorem first_text (l : BS) (h : l ≠ []) : (firstSpec l).1.2.length ≤ l.length := by
  unfold firstSpec
  have h1 := preL_le pPart l
  have h2 := quoted_le l h
  have h2' := quoted_text l
  have h3 := wordOf_le l
  have h4 := numN_leL l
  split
  · simp only [small, List.length_map, List.length_take]; omega
  · split
    · simp only; omega
    · split
      · exact h3
      · split
        · simp only [numT, small, List.length_map, List.length_take]; omega
        · split
          · rename_i o ho
            have := List.find?_some ho
            exact (List.isPrefixOf_iff_prefix.1 this).length_le
          · simp
theorem app2_ok {n : Nat} (h : n < 2 ^ 41) : (n + (0 + 1)) * 32 ≤ 140737488355328 ∧ n + (0 + 1) ≤ 9223372036854775807 := by omega
theorem u32 {s : ByteArray} {i : Nat} : bt s (i : Int) = 32 ↔ ((L s).drop i).getD 0 0 = 32 := by
  rw [bt_L, getD_drop, Int.toNat_natCast, Nat.add_zero]; exact u8_eq (n := 32) (by omega)
theorem scan_early {s : ByteArray} (h : preL pText (L s) < s.size) : scanSpec (L s) = ([], preL pText (L s), 3) := by
  unfold scanSpec; rw [if_pos (by rw [L_len]; exact h)]
theorem SInv.token' {l : BS} {out : List (BS × BS)} {i : Nat} {p : (BS × BS) × Nat} (hp : p = firstSpec (l.drop i)) (h : SInv l out i) (hi : i < l.length) (hb : ¬ (l.drop i).getD 0 0 = 32) (h0 : ¬ p.2 = 0) (hv : valid p.1.1 p.1.2 = true) :
    SInv l (out ++ [p.1]) (i + p.2) := by subst hp; exact h.token hi hb h0 hv
theorem SInv.bad' {l : BS} {out : List (BS × BS)} {i : Nat} {p : (BS × BS) × Nat} (hp : p = firstSpec (l.drop i)) (h : SInv l out i) (hp2 : ¬ preL pText l < l.length) (hi : i < l.length) (hb : ¬ (l.drop i).getD 0 0 = 32) (h0 : p.2 = 0 ∨ valid p.1.1 p.1.2 = false) : scanSpec l = ([], i, 3) := by
  subst hp; exact h.bad hp2 hi hb h0
end Go.Q
