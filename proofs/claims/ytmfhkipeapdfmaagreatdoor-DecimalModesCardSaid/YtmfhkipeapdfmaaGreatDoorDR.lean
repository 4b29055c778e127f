import Derived.Test.YtmfhkipeapdfmaaGreatDoorDQ6
import Derived.Test.YtmfhkipeapdfmaaGreatDoorAB
import Derived.Test.YtmfhkipeapdfmaaGreatDoorZU
namespace Go.Q
open Go
set_option maxRecDepth 10000
theorem bq (a b:BS) {r:Bool} (h:(a == b) = r):((B a).toList == (B b).toList) = r:=by rw [toList_L,toList_L,L_B,L_B]; exact h
end Go.Q
namespace Go.Q
open Go
set_option maxRecDepth 10000
def isE (c:UInt8):Bool:=c == 101 || c == 69 || c == 100 || c == 68
def hd (c:UInt8):BS → Bool | d :: _=>d == c | []=>false
def nmT (l:BS):BS × BS × BS:=match l.dropWhile dgQ with
  | []=>(l.takeWhile dgQ,[],[])
  | c :: q=>if c == 46 then (l.takeWhile dgQ,q.takeWhile dgQ,q.dropWhile dgQ) else (l.takeWhile dgQ,[],c :: q)
def exT (e:BS):Option Int :=
  let t:=if hd 45 e || hd 43 e then e.tail else e
  if t = [] ∨ 4 < t.length ∨ t.all dgQ = false then none else some (if hd 45 e = true then -(vd t:Int) else (vd t:Int))
def sgnD (l:BS):Int:=if hd 45 l = true then 1 else 0
def untD (l:BS):BS:=if hd 45 l || hd 43 l then l.tail else l
def infB:BS:=[105,110,102]
def nanB:BS:=[110,97,110]
def dgT (s:BS):Option (BS × Int) :=
  let d:=(nmT s).1 ++ (nmT s).2.1
  if d = [] ∨ 60 < d.length then none
  else match (nmT s).2.2 with
    | []=>some (d,-((nmT s).2.1.length:Int))
    | c :: e=>if isE c = true then (exT e).map fun n=>(d,n - ((nmT s).2.1.length:Int)) else none
inductive DecT where
  | word (sign:Int) (w:BS)
  | num (sign:Int) (d:BS) (x:Int)
def prsS (l:BS):Option DecT :=
  if untD l = infB ∨ untD l = nanB then some (.word (sgnD l) (untD l))
  else (dgT (untD l)).map fun p=>.num (sgnD l) p.1 p.2
theorem nmT_dig (l:BS):(nmT l).1.all dgQ = true ∧ (nmT l).2.1.all dgQ = true:=by
  have tw:∀ l:BS,(l.takeWhile dgQ).all dgQ = true:=fun l=>by
    induction l with
    | nil=>rfl
    | cons c r ih =>
      rw [List.takeWhile_cons]
      split
      · rename_i h; rw [List.all_cons,h,ih]; rfl
      · rfl
  unfold nmT
  split
  · exact ⟨tw _,rfl⟩
  · split
    · exact ⟨tw _,tw _⟩
    · exact ⟨tw _,rfl⟩
theorem dgT_dig {s d:BS} {x:Int} (h:dgT s = some (d,x)):d.all dgQ = true ∧ d ≠ [] ∧ d.length ≤ 60:=by
  unfold dgT at h
  have hn:=nmT_dig s
  have hd:((nmT s).1 ++ (nmT s).2.1).all dgQ = true:=by rw [List.all_append,hn.1,hn.2]; rfl
  simp only at h
  split at h
  · cases h
  · rename_i hc
    have key:∀ {p:BS × Int},p.1 = (nmT s).1 ++ (nmT s).2.1 → p.1.all dgQ = true ∧ p.1 ≠ [] ∧ p.1.length ≤ 60:=fun {p} e=>by
      rw [e]
      exact ⟨hd,fun h0=>hc (.inl h0),Nat.le_of_not_lt fun h0=>hc (.inr h0)⟩
    split at h
    · simp only [Option.some.injEq] at h
      have:=key (p:=(d,x)) (by rw [← h])
      exact this
    · split at h
      · rw [Option.map_eq_some_iff] at h
        obtain ⟨n,_,h⟩:=h
        have:=key (p:=(d,x)) (by rw [← h])
        exact this
      · cases h
end Go.Q
namespace Go.Q
open Go
set_option maxRecDepth 10000
theorem bt_B (l:BS) (i:Nat) (h:i < l.length):bt (B l) (i:Int) = ((l[i]).toNat:Int):=by
  rw [bt_L,L_B,Int.toNat_natCast,List.getD_eq_getElem?_getD,List.getElem?_eq_getElem h]; rfl
theorem takeWhile_stop {l:BS} {n:Nat} (h:∀ i (hi:i < l.length),i < n → dgQ l[i] = true) (hn:n ≤ l.length) (hs:∀ (hi:n < l.length),dgQ l[n] = false):l.takeWhile dgQ = l.take n:=by
  induction n generalizing l with
  | zero =>
    cases l with
    | nil=>rfl
    | cons c r =>
      have:=hs (by simp)
      rw [List.takeWhile_cons,show dgQ c = false from this]; rfl
  | succ n ih =>
    cases l with
    | nil=>simp at hn
    | cons c r =>
      have h0:dgQ c = true:=h 0 (by simp) (by omega)
      rw [List.takeWhile_cons,h0,List.take_succ_cons]
      simp only [if_true]
      congr 1
      refine ih (fun i hi hl=>?_) (by simpa using hn) (fun hi=>?_)
      · have:=h (i + 1) (by simp; omega) (by omega)
        simpa using this
      · have:=hs (by simp; omega)
        simpa using this
theorem dgQ_int (c:UInt8):dgQ c = (decide ((c.toNat:Int) ≥ 48) && decide ((c.toNat:Int) ≤ 57)):=by
  unfold dgQ
  congr 1
  · rw [decide_eq_decide]; omega
  · rw [decide_eq_decide]; omega
theorem take_B (l:BS) (n:Nat):(B l).extract 0 n = B (l.take n):=by rw [← B_L ((B l).extract 0 n),L_take,L_B]
theorem drop_B (l:BS) (n:Nat):(B l).extract n (B l).size = B (l.drop n):=by rw [← B_L ((B l).extract n (B l).size),L_drop,L_B]
theorem digitsOf_eq {l:BS} (hl:l.length ≤ 1000000):Dec.digitsOf (B l) = some (B (l.takeWhile dgQ)):=by
  have hs:(B l).size = l.length:=B_size l
  unfold Dec.digitsOf
  obtain ⟨n,h1,h2⟩:=least (P:=fun n=>¬ (∃ h:n < l.length,dgQ l[n] = true)) ⟨l.length,fun ⟨h,_⟩=>absurd h (Nat.lt_irrefl _)⟩
  have hn:n ≤ l.length:=by
    rcases Nat.lt_or_ge l.length n with h | h
    · obtain ⟨h3,_⟩:=Classical.byContradiction fun hc=>h2 _ h hc
      exact absurd h3 (Nat.lt_irrefl _)
    · exact h
  have hd:∀ i (hi:i < l.length),i < n → dgQ l[i] = true:=fun i hi hin=>by
    obtain ⟨_,h3⟩:=Classical.byContradiction fun hc=>h2 _ hin hc
    exact h3
  have hst:∀ (hi:n < l.length),dgQ l[n] = false:=fun hi=>by
    rcases Bool.eq_false_or_eq_true (dgQ l[n]) with h | h
    · exact absurd ⟨hi,h⟩ h1
    · exact h
  rw [takeWhile_stop hd hn hst]
  unfold Dec.digitsOf.l0
  have key:=loopO_run (step:=fun x:Int=>Dec.digitsOf.s0 (B l) x) (r:=some (B (l.take n))) (fun i=>(i:Int)) n ?_ ?_
  · exact key
  · intro i hi
    have hil:i < l.length:=by omega
    have hq:=hd i hil hi
    rw [dgQ_int,Bool.and_eq_true] at hq
    show Dec.digitsOf.s0 (B l) (i:Int) = _
    unfold Dec.digitsOf.s0
    exact letV rfl (letT (decide_eq_true (by omega)) (chkE (by omega) (letV (bt_B l i hil) (letT hq.1 (chkE (by omega) (letV (bt_B l i hil) (letT hq.2 (letV (wi (by omega) (by omega)) rfl))))))))
  · refine loopO_end ?_
    have fin:∀ X:Option ByteArray,X = some (B (l.take n)) → X.map Sum.inr = some (Sum.inr (α:=Int) (B (l.take n))):=fun X h=>by rw [h]; rfl
    have fin2:(chk (0 ≤ (n:Int) ∧ (n:Int) ≤ ((B l).size:Int)) <| letk ((B l).extract 0 (n:Int).toNat) fun t=>some t) = some (B (l.take n)):=chkE (by omega) (letV (take_B l n) rfl)
    show Dec.digitsOf.s0 (B l) (n:Int) = _
    unfold Dec.digitsOf.s0
    rcases Nat.lt_or_ge n l.length with hi | hi
    · have hq:=hst hi
      rw [dgQ_int,Bool.and_eq_false_iff] at hq
      refine letV rfl (letT (decide_eq_true (by omega)) (chkE (by omega) (letV (bt_B l n hi) ?_)))
      rcases Bool.eq_false_or_eq_true (decide ((l[n].toNat:Int) ≥ 48)) with h | h
      · refine letT h (chkE (by omega) (letV (bt_B l n hi) (letF (hq.resolve_left (by rw [h]; decide)) (fin _ fin2))))
      · exact letF h (fin _ fin2)
    · exact letV rfl (letF (decide_eq_false (by omega)) (fin _ fin2))
theorem HasPrefix_eq (c:UInt8) (l:BS) (hl:l.length ≤ 1000000):Strs.HasPrefix (B l) ⟨#[c]⟩ = some (hd c l):=by
  have hs:(B l).size = l.length:=B_size l
  have h1:(⟨#[c]⟩:ByteArray).size = 1:=rfl
  unfold Strs.HasPrefix
  refine bindE (a:=hd c l) ?_ rfl
  unfold Slite.HasPrefix
  cases l with
  | nil=>exact letV rfl (letV rfl (letF rfl rfl))
  | cons d r =>
    rw [List.length_cons] at hs
    refine letV rfl (letV rfl (letT (decide_eq_true (by omega)) (letV rfl (chkE (by omega) (letV rfl (letV ?_ rfl))))))
    show (((B (d :: r)).extract 0 1).toList == (B [c]).toList) = (d == c)
    rw [take_B,toList_L,toList_L,L_B,L_B]
    show ([d] == [c]) = (d == c)
    simp
theorem nil_eq (l:BS):((B l).toList == (⟨#[]⟩:ByteArray).toList) = decide (l = []):=by
  rw [show (⟨#[]⟩:ByteArray) = B [] from rfl,toList_L,toList_L,L_B,L_B]
  cases l <;> rfl
theorem eqB (l m:BS):((B l).toList == (B m).toList) = decide (l = m):=by
  rw [toList_L,toList_L,L_B,L_B]
  by_cases h:l = m
  · rw [decide_eq_true h,h]; exact beq_self_eq_true _
  · rw [decide_eq_false h]; exact beq_eq_false_iff_ne.2 h
theorem all_take_eq (l:BS):decide (l.takeWhile dgQ = l) = l.all dgQ:=by
  induction l with
  | nil=>rfl
  | cons c r ih =>
    rw [List.takeWhile_cons,List.all_cons,← ih]
    cases dgQ c <;> simp
theorem isE_contains (c:UInt8):Lib.contains [101,69,100,68] [c] = isE c:=by
  have h:∀ n:Fin 256,Lib.contains [101,69,100,68] [UInt8.ofNat n.val] = isE (UInt8.ofNat n.val):=by decide +kernel
  have:=h ⟨c.toNat,c.toNat_lt⟩
  rwa [show UInt8.ofNat c.toNat = c from UInt8.ofNat_toNat] at this
theorem exT_j4 {e:BS} {s2:BS} {m:Bool} (hs:s2 = if hd 45 e || hd 43 e then e.tail else e) (hm:m = hd 45 e) (hl:e.length ≤ 1000) (d:BS) (f:Int) (sg:Int) (hf:0 ≤ f ∧ f ≤ 1000) :
    (∀ n,exT e = some n → Dec.parse.j4 (B s2) sg (B []) (B d) f m = some (⟨sg,B [],B d,f + n⟩,true)) ∧
    (exT e = none → ∃ q,Dec.parse.j4 (B s2) sg (B []) (B d) f m = some (q,false)):=by
  have hsl:s2.length ≤ 1000:=by
    rw [hs]; split
    · have:=List.length_tail (l:=e); omega
    · exact hl
  have hx:exT e = if s2 = [] ∨ 4 < s2.length ∨ s2.all dgQ = false then none else some (if hd 45 e = true then -(vd s2:Int) else (vd s2:Int)):=by rw [hs]; rfl
  rw [hx]
  have hsz:(B s2).size = s2.length:=B_size s2
  unfold Dec.parse.j4
  by_cases c1:s2 = []
  · rw [if_pos (.inl c1)]
    exact ⟨fun n h=>(by cases h),fun _=>⟨_,letT (by rw [nil_eq]; exact decide_eq_true c1) rfl⟩⟩
  · by_cases c2:4 < s2.length
    · rw [if_pos (.inr (.inl c2))]
      exact ⟨fun n h=>(by cases h),fun _=>⟨_,letF (by rw [nil_eq]; exact decide_eq_false c1) (letV rfl (letT (decide_eq_true (by omega)) rfl))⟩⟩
    · have ha:=all_take_eq s2
      by_cases c3:s2.all dgQ = false
      · rw [if_pos (.inr (.inr c3))]
        exact ⟨fun n h=>(by cases h),fun _=>⟨_,letF (by rw [nil_eq]; exact decide_eq_false c1) (letV rfl (letF (decide_eq_false (by omega)) (bindE (digitsOf_eq (by omega)) (letV (y:=true) (by rw [eqB,ha,c3]; rfl) rfl))))⟩⟩
      · rw [if_neg (fun hh=>hh.elim c1 (fun hh=>hh.elim c2 c3))]
        have c4:s2.all dgQ = true:=by simpa using c3
        have hv:vd s2 < 10 ^ 4:=Nat.lt_of_lt_of_le (vd_lt s2 c4) (Nat.pow_le_pow_right (by decide) (by omega))
        refine ⟨fun n h=>?_,fun h=>by cases h⟩
        cases h
        refine letF (by rw [nil_eq]; exact decide_eq_false c1) (letV rfl (letF (decide_eq_false (by omega)) (bindE (digitsOf_eq (by omega)) (letV (y:=false) (by rw [eqB,ha,c4]; rfl) ?_))))
        show Dec.parse.j5 (B s2) sg (B []) (B d) f m = _
        unfold Dec.parse.j5
        refine bindE (atoi_dgQ (by omega) c1 c4) ?_
        subst hm
        cases hd 45 e with
        | true =>
          refine condT rfl (letV (y:=-(vd s2:Int)) (by rw [wi (by omega) (by omega)]; omega) ?_)
          unfold Dec.parse.j6
          exact letV (wi (by omega) (by omega)) rfl
        | false =>
          refine condF rfl ?_
          unfold Dec.parse.j6
          exact letV (wi (by omega) (by omega)) rfl
def tlT:BS → Option Int
  | []=>some 0
  | c :: e=>if isE c = true then exT e else none
theorem parse_j3 {r:BS} (hl:r.length ≤ 1000) (d:BS) (f:Int) (sg:Int) (hf:0 ≤ f ∧ f ≤ 1000) :
    (∀ n,tlT r = some n → Dec.parse.j3 (B r) sg (B []) (B d) f = some (⟨sg,B [],B d,f + n⟩,true)) ∧
    (tlT r = none → ∃ q,Dec.parse.j3 (B r) sg (B []) (B d) f = some (q,false)):=by
  cases r with
  | nil =>
    refine ⟨fun n h=>?_,fun h=>by cases h⟩
    cases h
    unfold Dec.parse.j3
    rw [Int.add_zero]
    exact letT (nil_eq []) rfl
  | cons c e =>
    rw [List.length_cons] at hl
    have hsz:(B (c :: e)).size = e.length + 1:=B_size _
    have hsz2:(B e).size = e.length:=B_size _
    have hdr:(B (c :: e)).extract (1:Int).toNat (B (c :: e)).size = B e:=drop_B (c :: e) 1
    have htl:(B e).extract (1:Int).toNat (B e).size = B e.tail:=by rw [show (1:Int).toNat = 1 from rfl,drop_B,List.drop_one]
    have hct:Strs.Contains ⟨#[101,69,100,68]⟩ (B [c]) = some (isE c):=by
      unfold Strs.Contains
      rw [chk_pos (by decide),L_B,← isE_contains c]; rfl
    have key:∀ X:Option (decimal.parsed × Bool),(Option.bind (Strs.HasPrefix (B e) ⟨#[45]⟩) fun t80 =>
      bif t80 then
        chk (0 ≤ (1:Int) ∧ (1:Int) ≤ ((B e).size:Int)) <|
        letk ((B e).extract (1:Int).toNat (B e).size) fun t87_1 =>
        Dec.parse.j4 t87_1 sg (B []) (B d) f true
      else
        Option.bind (Strs.HasPrefix (B e) ⟨#[43]⟩) fun t84 =>
        bif t84 then
          chk (0 ≤ (1:Int) ∧ (1:Int) ≤ ((B e).size:Int)) <|
          letk ((B e).extract (1:Int).toNat (B e).size) fun t87 =>
          Dec.parse.j4 t87 sg (B []) (B d) f false
        else
          Dec.parse.j4 (B e) sg (B []) (B d) f false) = X → isE c = true → Dec.parse.j3 (B (c :: e)) sg (B []) (B d) f = X:=by
      intro X hX hE
      unfold Dec.parse.j3
      refine letF (nil_eq _) (chkE (by omega) (letV (y:=B [c]) (take_B (c :: e) 1) (bindE hct (letF (by rw [hE]; rfl) (chkE (by omega) (letV hdr hX))))))
    cases hE:isE c with
    | false =>
      have ht:tlT (c :: e) = none:=by show (if isE c = true then exT e else none) = none; rw [hE]; rfl
      rw [ht]
      refine ⟨fun n h=>(by cases h),fun _=>?_⟩
      unfold Dec.parse.j3
      exact ⟨_,letF (nil_eq _) (chkE (by omega) (letV (y:=B [c]) (take_B (c :: e) 1) (bindE hct (letT (by rw [hE]; rfl) rfl))))⟩
    | true =>
      have ht:tlT (c :: e) = exT e:=by show (if isE c = true then exT e else none) = _; rw [hE]; rfl
      rw [ht]
      have hp1:=HasPrefix_eq 45 e (by omega)
      have hp2:=HasPrefix_eq 43 e (by omega)
      have hlen:∀ x,hd x e = true → 1 ≤ e.length:=fun x h=>by cases e with | nil=>cases h | cons=>simp
      obtain ⟨s2,h2⟩:∃ s2,s2 = if hd 45 e || hd 43 e then e.tail else e:=⟨_,rfl⟩
      have hj:=exT_j4 h2 rfl (by omega) d f sg hf
      have go:∀ X,Dec.parse.j4 (B s2) sg (B []) (B d) f (hd 45 e) = X → Dec.parse.j3 (B (c :: e)) sg (B []) (B d) f = X:=by
        intro X hX
        refine key X (bindE hp1 ?_) hE
        cases h45:hd 45 e with
        | true =>
          rw [h45] at h2 hX
          rw [h2] at hX
          have:=hlen 45 h45
          exact condT rfl (chkE (by omega) (letV htl hX))
        | false =>
          rw [h45] at h2 hX
          refine condF rfl (bindE hp2 ?_)
          cases h43:hd 43 e with
          | true =>
            rw [h43] at h2
            rw [h2] at hX
            have:=hlen 43 h43
            exact condT rfl (chkE (by omega) (letV htl hX))
          | false =>
            rw [h43] at h2
            rw [h2] at hX
            exact condF rfl hX
      exact ⟨fun n h=>go _ (hj.1 n h),fun h=>by obtain ⟨q,hq⟩:=hj.2 h; exact ⟨q,go _ hq⟩⟩
end Go.Q
namespace Go.Q
open Go
set_option maxRecDepth 10000
theorem dgT_eq (s:BS):dgT s = if (nmT s).1 ++ (nmT s).2.1 = [] ∨ 60 < ((nmT s).1 ++ (nmT s).2.1).length then none else (tlT (nmT s).2.2).map fun n=>((nmT s).1 ++ (nmT s).2.1,n - ((nmT s).2.1.length:Int)):=by
  unfold dgT
  simp only
  split
  · rfl
  · cases h:(nmT s).2.2 with
    | nil=>simp [tlT]
    | cons c e =>
      simp only [tlT]
      cases isE c <;> rfl
theorem parse_j2 {a b r:BS} (ha:a.length ≤ 1000) (hb:b.length ≤ 1000) (hr:r.length ≤ 1000) (sg:Int) :
    (∀ n,(if a ++ b = [] ∨ 60 < (a ++ b).length then none else tlT r) = some n → Dec.parse.j2 (B a) (B r) sg (B []) (B []) 0 (B b) = some (⟨sg,B [],B (a ++ b),a.length + n⟩,true)) ∧
    ((if a ++ b = [] ∨ 60 < (a ++ b).length then none else tlT r) = none → ∃ q,Dec.parse.j2 (B a) (B r) sg (B []) (B []) 0 (B b) = some (q,false)):=by
  have hsa:(B a).size = a.length:=B_size a
  have hsb:(B b).size = b.length:=B_size b
  have hab:B a ++ B b = B (a ++ b):=by rw [← B_L (B a ++ B b),L_app,L_B,L_B]
  have hsab:(B (a ++ b)).size = a.length + b.length:=by rw [B_size,List.length_append]
  have hlen:(a ++ b).length = a.length + b.length:=List.length_append
  have hj:=parse_j3 hr (a ++ b) a.length sg (by omega)
  unfold Dec.parse.j2
  by_cases c1:a ++ b = []
  · rw [if_pos (.inl c1)]
    exact ⟨fun n h=>(by cases h),fun _=>⟨_,chkE (by omega) (letV hab (letV rfl (letT (by rw [nil_eq]; exact decide_eq_true c1) rfl)))⟩⟩
  · by_cases c2:60 < (a ++ b).length
    · rw [if_pos (.inr c2)]
      refine ⟨fun n h=>(by cases h),fun _=>⟨_,chkE (by omega) (letV hab (letV rfl (letF (by rw [nil_eq]; exact decide_eq_false c1) (letV rfl (letV (y:=true) (decide_eq_true (by omega)) rfl)))))⟩⟩
    · rw [if_neg (fun hh=>hh.elim c1 c2)]
      have go:∀ X,Dec.parse.j3 (B r) sg (B []) (B (a ++ b)) a.length = X → (chk ((((B a).size + (B b).size:Nat):Int) ≤ 9223372036854775807) <|
          letk (B a ++ B b) fun t54=>letk (((B a).size:Int)) fun t56=>letk (t54.toList == (⟨#[]⟩:ByteArray).toList) fun t61 =>
          bif t61 then Dec.parse.j8 (B r) sg (B []) t54 t56 true
          else letk ((t54.size:Int)) fun t65=>letk (decide (t65 > (60:Int))) fun t66=>Dec.parse.j8 (B r) sg (B []) t54 t56 t66) = X:=fun X hX =>
        chkE (by omega) (letV hab (letV (y:=(a.length:Int)) (by rw [hsa]) (letF (by rw [nil_eq]; exact decide_eq_false c1) (letV rfl (letV (y:=false) (decide_eq_false (by omega)) hX)))))
      exact ⟨fun n h=>go _ (hj.1 n h),fun h=>by obtain ⟨q,hq⟩:=hj.2 h; exact ⟨q,go _ hq⟩⟩
theorem dropWhile_drop' (s:BS):s.drop (s.takeWhile dgQ).length = s.dropWhile dgQ:=by
  have h:=List.takeWhile_append_dropWhile (p:=dgQ) (l:=s)
  conv=>lhs; arg 2; rw [← h]
  exact List.drop_left
theorem nmT_of (s:BS):nmT s = if hd 46 (s.dropWhile dgQ) = true then (s.takeWhile dgQ,(s.dropWhile dgQ).tail.takeWhile dgQ,(s.dropWhile dgQ).tail.dropWhile dgQ) else (s.takeWhile dgQ,[],s.dropWhile dgQ):=by
  unfold nmT
  cases h:s.dropWhile dgQ with
  | nil=>rfl
  | cons c q =>
    show (if (c == 46) = true then _ else _) = if (c == 46) = true then _ else _
    rfl
theorem parse_j1 {s:BS} (hs:s.length ≤ 1000) (sg:Int) :
    (∀ d x,dgT s = some (d,x) → Dec.parse.j1 (B s) sg (B []) (B []) 0 = some (⟨sg,B [],B d,x + d.length⟩,true)) ∧
    (dgT s = none → ∃ q,Dec.parse.j1 (B s) sg (B []) (B []) 0 = some (q,false)):=by
  have hsz:(B s).size = s.length:=B_size s
  have htl:(s.takeWhile dgQ).length ≤ s.length:=(List.takeWhile_sublist _).length_le
  have hdl:(s.dropWhile dgQ).length ≤ s.length:=(List.dropWhile_sublist _).length_le
  have hst:(B (s.takeWhile dgQ)).size = (s.takeWhile dgQ).length:=B_size _
  have hsd:(B (s.dropWhile dgQ)).size = (s.dropWhile dgQ).length:=B_size _
  have hdr:(B s).extract ((s.takeWhile dgQ).length:Int).toNat (B s).size = B (s.dropWhile dgQ):=by rw [Int.toNat_natCast,drop_B,dropWhile_drop']
  obtain ⟨a,b,r,hn,hla,hlb,hlr,go⟩:∃ a b r,nmT s = (a,b,r) ∧ a.length ≤ 1000 ∧ b.length ≤ 1000 ∧ r.length ≤ 1000 ∧ ∀ X,Dec.parse.j2 (B a) (B r) sg (B []) (B []) 0 (B b) = X → Dec.parse.j1 (B s) sg (B []) (B []) 0 = X:=by
    rw [nmT_of]
    have hp:=HasPrefix_eq 46 (s.dropWhile dgQ) (by omega)
    cases h46:hd 46 (s.dropWhile dgQ) with
    | false =>
      rw [h46] at hp
      refine ⟨s.takeWhile dgQ,[],s.dropWhile dgQ,rfl,by omega,by simp,by omega,fun X hX=>?_⟩
      unfold Dec.parse.j1
      exact bindE (digitsOf_eq (by omega)) (letV (y:=((s.takeWhile dgQ).length:Int)) (by rw [hst]) (chkE (by omega) (letV hdr (bindE hp (condF rfl hX)))))
    | true =>
      rw [h46] at hp
      have hpos:1 ≤ (s.dropWhile dgQ).length:=by
        cases hx:s.dropWhile dgQ with
        | nil=>rw [hx] at h46; cases h46
        | cons=>simp
      have ht0:(s.dropWhile dgQ).tail.length = (s.dropWhile dgQ).length - 1:=List.length_tail
      have ht1:((s.dropWhile dgQ).tail.takeWhile dgQ).length ≤ (s.dropWhile dgQ).tail.length:=(List.takeWhile_sublist _).length_le
      have ht2:((s.dropWhile dgQ).tail.dropWhile dgQ).length ≤ (s.dropWhile dgQ).tail.length:=(List.dropWhile_sublist _).length_le
      have hsb:(B ((s.dropWhile dgQ).tail.takeWhile dgQ)).size = ((s.dropWhile dgQ).tail.takeWhile dgQ).length:=B_size _
      refine ⟨s.takeWhile dgQ,(s.dropWhile dgQ).tail.takeWhile dgQ,(s.dropWhile dgQ).tail.dropWhile dgQ,rfl,by omega,by omega,by omega,fun X hX=>?_⟩
      unfold Dec.parse.j1
      refine bindE (digitsOf_eq (by omega)) (letV (y:=((s.takeWhile dgQ).length:Int)) (by rw [hst]) (chkE (by omega) (letV hdr (bindE hp (condT rfl (chkE (by omega) (letV (y:=B (s.dropWhile dgQ).tail) ?_ (bindE (digitsOf_eq (by omega))
        (letV (y:=(((s.dropWhile dgQ).tail.takeWhile dgQ).length:Int)) (by rw [hsb]) (letV (y:=((((s.dropWhile dgQ).tail.takeWhile dgQ).length + 1:Nat):Int)) ?_ (chkE (by omega) (letV ?_ hX))))))))))))
      · rw [show (1:Int).toNat = 1 from rfl,drop_B,List.drop_one]
      · rw [wi (by omega) (by omega)]; omega
      · rw [Int.toNat_natCast,drop_B]
        have hdt:∀ (l:BS) (m:Nat),l.drop (m + 1) = l.tail.drop m:=fun l m=>by cases l <;> simp
        rw [hdt,dropWhile_drop']
  have hj:=parse_j2 hla hlb hlr sg
  rw [dgT_eq,hn]
  simp only
  by_cases c:a ++ b = [] ∨ 60 < (a ++ b).length
  · rw [if_pos c] at hj ⊢
    exact ⟨fun d x h=>(by cases h),fun _=>by obtain ⟨q,hq⟩:=hj.2 rfl; exact ⟨q,go _ hq⟩⟩
  · rw [if_neg c] at hj ⊢
    refine ⟨fun d x h=>?_,fun h=>?_⟩
    · rw [Option.map_eq_some_iff] at h
      obtain ⟨n,hn2,he⟩:=h
      cases he
      rw [go _ (hj.1 n hn2),List.length_append]
      congr 3
      omega
    · rw [Option.map_eq_none_iff] at h
      obtain ⟨q,hq⟩:=hj.2 h
      exact ⟨q,go _ hq⟩
theorem parse_eq {l:BS} (hl:l.length ≤ 1000) :
    (prsS l = none → ∃ q,Dec.parse (B l) = some (q,false)) ∧ (∀ sg w,prsS l = some (.word sg w) → Dec.parse (B l) = some (⟨sg,B w,B [],0⟩,true)) ∧
    (∀ sg d x,prsS l = some (.num sg d x) → Dec.parse (B l) = some (⟨sg,B [],B d,x + d.length⟩,true)):=by
  have hu:(untD l).length ≤ 1000:=by
    unfold untD; split
    · have:=List.length_tail (l:=l); omega
    · exact hl
  have go:∀ X,Dec.parse.j0 (B (untD l)) (sgnD l) (B []) (B []) 0 = X → Dec.parse (B l) = X:=by
    intro X hX
    unfold Dec.parse
    cases l with
    | nil=>exact letF (by rw [nil_eq]; rfl) hX
    | cons c r =>
      have hsz:(B (c :: r)).size = r.length + 1:=B_size _
      have hb:bt (B (c :: r)) 0 = (c.toNat:Int):=bt_B (c :: r) 0 (by simp)
      have hdr:(B (c :: r)).extract (1:Int).toNat (B (c :: r)).size = B r:=drop_B (c :: r) 1
      have e45:((c.toNat:Int) == 45) = (c == 45):=by
        rw [Bool.eq_iff_iff,beq_iff_eq,beq_iff_eq]
        constructor
        · intro h; apply UInt8.toNat_inj.1; show c.toNat = 45; omega
        · rintro rfl; rfl
      have e43:((c.toNat:Int) == 43) = (c == 43):=by
        rw [Bool.eq_iff_iff,beq_iff_eq,beq_iff_eq]
        constructor
        · intro h; apply UInt8.toNat_inj.1; show c.toNat = 43; omega
        · rintro rfl; rfl
      refine letT (by rw [nil_eq]; rfl) (chkE (by omega) (letV hb ?_))
      have hun:untD (c :: r) = if (c == 45 || c == 43) = true then r else c :: r:=rfl
      have hsg:sgnD (c :: r) = if (c == 45) = true then 1 else 0:=rfl
      rw [hun,hsg] at hX
      cases h45:(c == 45) with
      | true =>
        rw [h45] at hX
        refine letT (e45.trans h45) ?_
        unfold Dec.parse.j10
        exact condT rfl (chkE (by omega) (letV hb (letT (e45.trans h45) (chkE (by omega) (letV hdr hX)))))
      | false =>
        rw [h45] at hX
        refine letF (e45.trans h45) (chkE (by omega) (letV hb ?_))
        cases h43:(c == 43) with
        | true =>
          rw [h43] at hX
          refine letV (e43.trans h43) ?_
          unfold Dec.parse.j10
          exact condT rfl (chkE (by omega) (letV hb (letF (e45.trans h45) (chkE (by omega) (letV hdr hX)))))
        | false =>
          rw [h43] at hX
          refine letV (e43.trans h43) ?_
          unfold Dec.parse.j10
          exact condF rfl hX
  have hw:∀ X,(untD l = infB ∨ untD l = nanB) → some ((⟨sgnD l,B (untD l),B [],0⟩:decimal.parsed),true) = X → Dec.parse (B l) = X:=by
    intro X h hX
    refine go X ?_
    unfold Dec.parse.j0
    by_cases hi:untD l = infB
    · exact letT (by rw [show (⟨#[105,110,102]⟩:ByteArray) = B infB from rfl,eqB]; exact decide_eq_true hi) hX
    · refine letF (by rw [show (⟨#[105,110,102]⟩:ByteArray) = B infB from rfl,eqB]; exact decide_eq_false hi) (letV (y:=true) ?_ hX)
      rw [show (⟨#[110,97,110]⟩:ByteArray) = B nanB from rfl,eqB]; exact decide_eq_true (h.resolve_left hi)
  have hnw:∀ X,¬ (untD l = infB ∨ untD l = nanB) → Dec.parse.j1 (B (untD l)) (sgnD l) (B []) (B []) 0 = X → Dec.parse (B l) = X:=by
    intro X h hX
    refine go X ?_
    unfold Dec.parse.j0
    refine letF (by rw [show (⟨#[105,110,102]⟩:ByteArray) = B infB from rfl,eqB]; exact decide_eq_false fun hh=>h (.inl hh)) (letV (y:=false) ?_ hX)
    rw [show (⟨#[110,97,110]⟩:ByteArray) = B nanB from rfl,eqB]; exact decide_eq_false fun hh=>h (.inr hh)
  have hj:=parse_j1 hu (sgnD l)
  unfold prsS
  by_cases c:untD l = infB ∨ untD l = nanB
  · rw [if_pos c]
    refine ⟨fun h=>(by cases h),fun sg w h=>?_,fun sg d x h=>(by cases h)⟩
    cases h
    exact hw _ c rfl
  · rw [if_neg c]
    refine ⟨fun h=>?_,fun sg w h=>?_,fun sg d x h=>?_⟩
    · rw [Option.map_eq_none_iff] at h
      obtain ⟨q,hq⟩:=hj.2 h
      exact ⟨q,hnw _ c hq⟩
    · rw [Option.map_eq_some_iff] at h
      obtain ⟨q,_,he⟩:=h
      cases he
    · rw [Option.map_eq_some_iff] at h
      obtain ⟨⟨d',x'⟩,hq,he⟩:=h
      cases he
      exact hnw _ c (hj.1 _ _ hq)
end Go.Q
namespace Go.Q
open Go
set_option maxRecDepth 10000
theorem bitsOk0 {p w:Nat}:bitsOk p w 0:=by
  unfold bitsOk
  rintro ⟨_,h⟩
  rw [show ((0:Int) % 18446744073709551616).toNat = 0 from rfl] at h
  have:=Nat.two_pow_pos (p + w)
  omega
theorem isKind_eq {kind mode:Int} {p w:Nat} (h:kindS kind p w) (hm:0 ≤ mode ∧ mode < 4):Dec.isKind kind mode = some true:=by
  unfold Dec.isKind
  have hv:=(Valid_eq h 0).trans (congrArg some (@decide_eq_true _ (Classical.propDecidable _) bitsOk0))
  exact bindE hv (condT rfl (letT (decide_eq_true (by omega)) (letV (decide_eq_true (by omega)) rfl)))
theorem Read_num {kind mode:Int} {p w:Nat} (h:kindS kind p w) (hm:0 ≤ mode ∧ mode < 4) {l d:BS} {sg x:Int} (hl:l.length ≤ 1000) (hp:prsS l = some (.num sg d x)) {a f e:Int}
    (hr:Dec.round kind mode sg (B d) (x + d.length) = some (a,f,e)):Dec.Read (B l) kind mode = some (a,f,e):=by
  unfold Dec.Read
  exact bindE (isKind_eq h hm) (letF rfl (bindE ((parse_eq hl).2.2 _ _ _ hp) (letF rfl (letF (by rw [nil_eq]; rfl) (bindE hr rfl)))))
end Go.Q
namespace Go.Q
open Go
set_option maxRecDepth 10000
end Go.Q
namespace Go.Q
open Go
set_option maxRecDepth 100000
set_option maxHeartbeats 4000000
def sizeS (p w:Nat) (a:Int):Nat:=(a % 18446744073709551616).toNat % 2 ^ (p + w - 1)
def placeS (p w:Nat) (a:Int):Int:=if sgnS p w (a % 18446744073709551616).toNat = 1 then -(sizeS p w a:Int) else sizeS p w a
theorem mask_eq {p w:Nat} (h:OkS p w) (a:Int):IntKind.u64.wrap (((BitVec.ofInt IntKind.u64.bits (IntKind.u64.wrap a) &&& BitVec.ofInt IntKind.u64.bits (IntKind.u64.wrap (IntKind.u64.wrap ((1:Int) * 2 ^ (min (((p:Int) + w - 1)).toNat IntKind.u64.bits)) - 1))).toNat:Nat):Int) = (sizeS p w a:Int):=by
  obtain ⟨h1,h2,h3,h4,h5,h6⟩:=h.facts
  obtain ⟨e1,e2⟩:=wrap_toNat a
  have hp:=pw_lt (a:=p + w - 1) (Nat.le_refl _) (by omega)
  have h0:=Nat.two_pow_pos (p + w - 1)
  rw [e1,u_shl' (a:=1) (k:=p + w - 1) (x:=1) rfl (by omega),Nat.one_mul,Nat.mod_eq_of_lt hp]
  rw [wu (x:=((2 ^ (p + w - 1):Nat):Int) - 1) (by omega) (by omega)]
  rw [u_and' (b:=2 ^ (p + w - 1) - 1) rfl (by omega) e2 (by omega),Nat.and_two_pow_sub_one_eq_mod]
  rfl
theorem size_lt {p w:Nat} (h:OkS p w) (a:Int):(sizeS p w a:Int) < 9223372036854775808:=by
  obtain ⟨h1,h2,h3,h4,h5,h6⟩:=h.facts
  have:sizeS p w a < 2 ^ (p + w - 1):=Nat.mod_lt _ (Nat.two_pow_pos _)
  have h2:2 ^ (p + w - 1) ≤ 2 ^ 63:=Nat.pow_le_pow_right (by decide) (by omega)
  have h3:(2:Nat) ^ 63 = 9223372036854775808:=by decide
  omega
def cmpS (p w:Nat) (a b:Int) (x y:float.number):Int :=
  if x.class_ = 3 ∨ y.class_ = 3 then 2 else if x.class_ = 0 ∧ y.class_ = 0 then 0 else if placeS p w a < placeS p w b then -1 else if placeS p w b < placeS p w a then 1 else 0
theorem wnat {n:Nat} (h:n < 18446744073709551616):IntKind.u64.wrap (n:Int) = (n:Int):=by
  rw [wuN,Nat.mod_eq_of_lt h]
theorem tdiv_nat (a b:Nat):(a:Int).tdiv (b:Int) = ((a / b:Nat):Int):=by
  rw [Int.tdiv_eq_ediv_of_nonneg (Int.natCast_nonneg _)]; rfl
theorem tmod_nat (a b:Nat):(a:Int).tmod (b:Int) = ((a % b:Nat):Int):=by
  rw [Int.tmod_eq_emod_of_nonneg (Int.natCast_nonneg _)]; rfl
section
variable {t36:Int} {y n1 n0:Nat}
end
def bd (n i:Nat):Nat:=n / 2 ^ i % 2
def dk (k n:Nat):List Int:=(List.range k).map fun i=>((bd n i:Nat):Int)
def dg (n:Nat):List Int:=dk (bl n) n
theorem bd_lt (n i:Nat):bd n i < 2:=Nat.mod_lt _ (by decide)
theorem dk_len (k n:Nat):(dk k n).length = k:=by simp [dk]
theorem dk_succ (k n:Nat):dk (k + 1) n = dk k n ++ [((bd n k:Nat):Int)]:=by
  unfold dk
  rw [List.range_succ,List.map_append]; rfl
theorem bd_high {n i:Nat} (h:bl n ≤ i):n / 2 ^ i = 0:=Nat.div_eq_of_lt (bl_le_iff.1 h)
theorem div_low {n i:Nat} (h:i < bl n):0 < n / 2 ^ i:=by
  have h0:0 < n:=by
    rcases Nat.eq_zero_or_pos n with h1 | h1
    · rw [h1] at h; cases h
    · exact h1
  have:=bl_le h0
  rw [Nat.lt_iff_add_one_le,Nat.zero_add,Nat.le_div_iff_mul_le (Nat.two_pow_pos i),Nat.one_mul]
  exact Nat.le_trans (Nat.pow_le_pow_right (by decide) (by omega)) this
theorem div_succ (n i:Nat):n / 2 ^ (i + 1) = n / 2 ^ i / 2:=by rw [Nat.pow_succ,Nat.div_div_eq_div_mul]
theorem Of_l0 {N:Nat} (hN:N < 18446744073709551616):∀ m i:Nat,i + m = bl N → Ref1.Of.l0 (dk i N) ((N / 2 ^ i:Nat):Int) = some (dg N):=by
  have hb:bl N ≤ 64:=bl_le_iff.2 hN
  intro m
  induction m with
  | zero =>
    intro i h
    rw [Ref1.Of.l0,loopO_eq,Ref1.Of.s0]
    simp only [letk]
    rw [bd_high (by omega),decide_eq_false (by decide)]
    simp only [cond]
    rw [show i = bl N by omega]; rfl
  | succ m ih =>
    intro i h
    have h1:=div_low (n:=N) (i:=i) (by omega)
    have h2:=Nat.div_le_self N (2 ^ i)
    rw [Ref1.Of.l0,loopO_eq,Ref1.Of.s0]
    simp only [letk]
    rw [decide_eq_true (show ((N / 2 ^ i:Nat):Int) > 0 by omega)]
    simp only [cond]
    rw [chk_pos (by decide),chk_pos (by rw [List.length_singleton,dk_len]; omega),chk_pos (by decide)]
    rw [show ((N / 2 ^ i:Nat):Int).tmod 2 = ((bd N i:Nat):Int) from tmod_nat _ 2,show ((N / 2 ^ i:Nat):Int).tdiv 2 = ((N / 2 ^ i / 2:Nat):Int) from tdiv_nat _ 2,← div_succ]
    have h3:=bd_lt N i
    have h4:=Nat.div_le_self N (2 ^ (i + 1))
    rw [show IntKind.u8.wrap ((bd N i:Nat):Int) = ((bd N i:Nat):Int) by show ((bd N i:Nat):Int) % 256 = _; omega,wnat (Nat.lt_of_le_of_lt h4 hN),← dk_succ,Option.bind_some,Sum.elim_inl]
    exact ih (i + 1) (by omega)
theorem Of_eq {N:Nat} (hN:N < 18446744073709551616) {x:Int} (hx:IntKind.u64.wrap x = N):Ref1.Of x = some (dg N):=by
  unfold Ref1.Of
  simp only [letk]
  rw [hx]
  have:=Of_l0 hN (bl N) 0 (by omega)
  rw [Nat.pow_zero,Nat.div_one] at this
  exact this
theorem letkE {α ρ:Type} (x:α) (X:α → Option ρ):letk x X = X x:=Eq.trans rfl rfl
theorem cnT {α:Type} (x y:α):cond true x y = x:=Eq.trans rfl rfl
theorem cnF {α:Type} (x y:α):cond false x y = y:=Eq.trans rfl rfl
theorem bindS {α β:Type} (x:α) (f:α → Option β):Option.bind (some x) f = f x:=Eq.trans rfl rfl
theorem Digits_eq {kind:Int} {p w:Nat} (h:kindS kind p w):Ref1.Digits kind = some (p:Int):=by
  rcases h with ⟨rfl,rfl,rfl⟩ | ⟨rfl,rfl,rfl⟩ | ⟨rfl,rfl,rfl⟩ <;> rfl
theorem Bias_eq {kind:Int} {p w:Nat} (h:kindS kind p w):Ref1.Bias kind = some (biasS w):=by
  rcases h with ⟨rfl,rfl,rfl⟩ | ⟨rfl,rfl,rfl⟩ | ⟨rfl,rfl,rfl⟩ <;> rfl
theorem rleast_eq {kind:Int} {p w:Nat} (h:kindS kind p w):Ref1.least kind = some (lstS p w):=by
  unfold Ref1.least
  rw [Bias_eq h,Digits_eq h]
  rcases h with ⟨rfl,rfl,rfl⟩ | ⟨rfl,rfl,rfl⟩ | ⟨rfl,rfl,rfl⟩ <;> rfl
theorem kindS.eight {kind:Int} {p w:Nat} (h:kindS kind p w):8 * kind = ((p + w:Nat):Int):=by
  rcases h with ⟨rfl,rfl,rfl⟩ | ⟨rfl,rfl,rfl⟩ | ⟨rfl,rfl,rfl⟩ <;> rfl
section
variable {kind:Int} {p w:Nat} (h:kindS kind p w)
include h
end
def classN (c:Int):ByteArray:=if c = 0 then ⟨#[122,101,114,111]⟩ else if c = 1 then ⟨#[102,105,110,105,116,101]⟩ else if c = 2 then ⟨#[105,110,102,105,110,105,116,101]⟩ else ⟨#[110,111,110,101]⟩
noncomputable def takS (x:float.number):quadratref01.float:=⟨classN x.class_,if x.class_ = 3 then 0 else x.sign,dg x.m.toNat,x.e⟩
structure NumZ (p w:Nat) (x:float.number):Prop extends NumOk p w x where
  nil:x.class_ ≠ 1 → x.m = 0 ∧ x.e = 0
theorem numS_z {p w:Nat} (h:OkS p w) (a:Int):NumZ p w (numS p w a):=by
  refine ⟨numS_ok h a,?_⟩
  unfold numS readS
  repeat' split
  all_goals first
    | exact fun _=>⟨rfl,rfl⟩
    | exact fun q=>absurd rfl q
theorem t_none:(⟨#[110,111,110,101]⟩:ByteArray).toList = [110,111,110,101]:=by rw [Lib.toList_data]
theorem t_inf:(⟨#[105,110,102,105,110,105,116,101]⟩:ByteArray).toList = [105,110,102,105,110,105,116,101]:=by rw [Lib.toList_data]
theorem t_zero:(⟨#[122,101,114,111]⟩:ByteArray).toList = [122,101,114,111]:=by rw [Lib.toList_data]
theorem t_fin:(⟨#[102,105,110,105,116,101]⟩:ByteArray).toList = [102,105,110,105,116,101]:=by rw [Lib.toList_data]
section
variable {c:Int} (hc:c = 0 ∨ c = 1 ∨ c = 2 ∨ c = 3)
include hc
theorem what_none:((classN c).toList == (⟨#[110,111,110,101]⟩:ByteArray).toList) = decide (c = 3):=by
  unfold classN
  rcases hc with rfl | rfl | rfl | rfl <;> simp only [t_none,t_inf,t_zero,t_fin,if_true,if_false,show ¬ ((1:Int) = 0) by decide,show ¬ ((2:Int) = 0) by decide,show ¬ ((3:Int) = 0) by decide,show ¬ ((2:Int) = 1) by decide,show ¬ ((3:Int) = 1) by decide,show ¬ ((3:Int) = 2) by decide] <;> rfl
end
def I64 (a:Int):Prop:=-9223372036854775808 ≤ a ∧ a < 9223372036854775808
theorem rValid_eq {kind:Int} {p w:Nat} (h:kindS kind p w) {a:Int} (ha:I64 a):Ref1.Valid kind a = some (@decide (bitsOk p w a) (Classical.propDecidable _)):=by
  unfold I64 at ha
  unfold Ref1.Valid bitsOk
  simp only [letkE]
  rcases h with ⟨rfl,rfl,rfl⟩ | ⟨rfl,rfl,rfl⟩ | ⟨rfl,rfl,rfl⟩
  · rw [show ((2:Int) == 2) = true from rfl,cond_true]
    by_cases h0:0 ≤ a
    · rw [decide_eq_true (show a ≥ 0 from h0),cond_true]
      congr 1
      rw [decide_eq_decide]
      have:(2:Nat) ^ (11 + 5) = 65536:=by decide
      omega
    · rw [decide_eq_false (show ¬ a ≥ 0 from h0),cond_false]
      congr 1
      symm
      rw [decide_eq_false_iff_not]
      have:(2:Nat) ^ (11 + 5) = 65536:=by decide
      omega
  · rw [show ((4:Int) == 2) = false from rfl,cond_false,show ((4:Int) == 4) = true from rfl,cond_true]
    by_cases h0:0 ≤ a
    · rw [decide_eq_true (show a ≥ 0 from h0),cond_true]
      congr 1
      rw [decide_eq_decide]
      have:(2:Nat) ^ (24 + 8) = 4294967296:=by decide
      omega
    · rw [decide_eq_false (show ¬ a ≥ 0 from h0),cond_false]
      congr 1
      symm
      rw [decide_eq_false_iff_not]
      have:(2:Nat) ^ (24 + 8) = 4294967296:=by decide
      omega
  · rw [show ((8:Int) == 2) = false from rfl,cond_false,show ((8:Int) == 4) = false from rfl,cond_false]
    congr 1
    rw [show ((8:Int) == 8) = true from rfl]
    symm
    exact @decide_eq_true _ (_) (by omega)
theorem asked_ok {kind mode:Int} {p w:Nat} (h:kindS kind p w) (hm:0 ≤ mode ∧ mode < 4) {a b:Int} (ha:I64 a) (hb:I64 b) (ka:bitsOk p w a) (kb:bitsOk p w b):Ref1.asked kind mode a b = some true:=by
  unfold Ref1.asked Ref1.IsMode
  rw [rValid_eq h ha,rValid_eq h hb,@decide_eq_true _ (_) ka,@decide_eq_true _ (_) kb]
  simp only [letkE]
  rw [decide_eq_true (show mode ≥ 0 from hm.1),decide_eq_true (show mode ≤ 3 by omega)]; rfl
theorem taken_eq {kind:Int} {p w:Nat} (h:kindS kind p w) {a:Int} (hb:bitsOk p w a):Ref1.taken kind a = some (takS (numS p w a)):=by
  obtain ⟨h1,h2,h3,h4,h5,h6⟩:=h.ok.facts
  obtain ⟨e1,e2⟩:=wrap_toNat a
  unfold numS
  generalize hu:(a % 18446744073709551616).toNat = u at *
  have hpw:u < 2 ^ (p + w):=by
    unfold bitsOk at hb
    rw [hu] at hb
    by_cases q:p + w < 64
    · by_cases q2:2 ^ (p + w) ≤ u
      · exact absurd ⟨q,q2⟩ hb
      · omega
    · rw [show p + w = 64 by omega,pow64]; exact e2
  have hE:expS p w u < 2 ^ w:=Nat.mod_lt _ (Nat.two_pow_pos w)
  have hF:frcS p u < 2 ^ (p - 1):=Nat.mod_lt _ (Nat.two_pow_pos _)
  have hS:sgnS p w u < 2:=Nat.mod_lt _ (by decide)
  have hp53:2 ^ p ≤ 2 ^ 53:=Nat.pow_le_pow_right (by decide) h4
  have hp53':(2:Nat) ^ 53 = 9007199254740992:=by decide
  have hpp:2 ^ p = 2 ^ (p - 1) * 2:=by rw [← Nat.pow_succ]; congr 1; omega
  have hw11:2 ^ w ≤ 2 ^ 11:=Nat.pow_le_pow_right (by decide) h5
  have hw11':(2:Nat) ^ 11 = 2048:=by decide
  have hp0:=Nat.two_pow_pos (p - 1)
  have hw0:=Nat.two_pow_pos w
  have hbb:0 ≤ biasS w ∧ biasS w < 2000:=by rcases h.ok with ⟨rfl,rfl⟩ | ⟨rfl,rfl⟩ | ⟨rfl,rfl⟩ <;> decide
  unfold Ref1.taken
  rw [Digits_eq h,h.eight,Option.bind_some]
  simp only [letkE,Option.bind_some]
  rw [wi (x:=((p + w:Nat):Int)) (by omega) (by omega),show ((p + w:Nat):Int) - (p:Int) = (w:Int) by omega,wi (x:=(w:Int)) (by omega) (by omega),wi (x:=(p:Int) - 1) (by omega) (by omega),wi (x:=((p + w:Nat):Int) - 1) (by omega) (by omega),e1]
  rw [chk_pos (by omega),chk_pos (by omega),chk_pos (by omega),chk_pos (by omega),chk_pos (by omega)]
  have hpm:2 ^ (p - 1) % 18446744073709551616 = 2 ^ (p - 1):=Nat.mod_eq_of_lt (by omega)
  have hwm:2 ^ w % 18446744073709551616 = 2 ^ w:=Nat.mod_eq_of_lt (by omega)
  rw [u_shl' (a:=1) (k:=p - 1) (x:=1) (y:=(p:Int) - 1) rfl (by omega),Nat.one_mul,hpm,u_shl' (a:=1) (k:=w) (x:=1) (y:=(w:Int)) rfl rfl,Nat.one_mul,hwm]
  rw [show ((2 ^ (p - 1):Nat):Int) - 1 = ((2 ^ (p - 1) - 1:Nat):Int) by omega,show ((2 ^ w:Nat):Int) - 1 = ((2 ^ w - 1:Nat):Int) by omega]
  rw [wnat (n:=2 ^ (p - 1) - 1) (by omega),wnat (n:=2 ^ w - 1) (by omega)]
  rw [u_shr' (a:=u) (k:=p - 1) (y:=(p:Int) - 1) rfl (by omega) e2,u_shr' (a:=u) (k:=p + w - 1) (y:=((p + w:Nat):Int) - 1) rfl (by omega) e2]
  have d1:u / 2 ^ (p - 1) < 18446744073709551616:=Nat.lt_of_le_of_lt (Nat.div_le_self _ _) e2
  have d2:u / 2 ^ (p + w - 1) < 18446744073709551616:=Nat.lt_of_le_of_lt (Nat.div_le_self _ _) e2
  rw [u_and' (a:=u) (b:=2 ^ (p - 1) - 1) rfl rfl e2 (by omega),Nat.and_two_pow_sub_one_eq_mod,u_and' (a:=u / 2 ^ (p - 1)) (b:=2 ^ w - 1) rfl rfl d1 (by omega),Nat.and_two_pow_sub_one_eq_mod,u_and' (a:=u / 2 ^ (p + w - 1)) (b:=1) (y:=1) rfl rfl d2 (by decide),Nat.and_one_is_mod]
  rw [show u % 2 ^ (p - 1) = frcS p u from rfl,show u / 2 ^ (p - 1) % 2 ^ w = expS p w u from rfl,show u / 2 ^ (p + w - 1) % 2 = sgnS p w u from rfl]
  rw [wi (x:=((frcS p u:Nat):Int)) (by omega) (by omega),wi (x:=((expS p w u:Nat):Int)) (by omega) (by omega),wi (x:=((sgnS p w u:Nat):Int)) (by omega) (by omega)]
  have hone:∀ k:Nat,k ≤ 53 → ∀ K:Int,K = k → IntKind.i64.wrap ((1:Int) * 2 ^ (min K.toNat IntKind.i64.bits)) = ((2 ^ k:Nat):Int):=by
    intro k hk K hK
    subst hK
    have h2k:2 ^ k ≤ 2 ^ 53:=Nat.pow_le_pow_right (by decide) hk
    have:((1:Int) * 2 ^ (min ((k:Int)).toNat IntKind.i64.bits)) = ((2 ^ k:Nat):Int):=by
      rw [Int.toNat_natCast,show min k IntKind.i64.bits = k from Nat.min_eq_left (by show k ≤ 64; omega)]
      rw [Int.one_mul,Int.natCast_pow]; rfl
    rw [this]
    clear this
    generalize 2 ^ k = z at *
    rw [wi (x:=(z:Int)) (by omega) (by omega)]
  rw [hone w (by omega) _ (by omega),wi (x:=((2 ^ w:Nat):Int) - 1) (by omega) (by omega)]
  have j2:∀ l:List Int,Ref1.taken.j2 kind p (frcS p u:Nat) (expS p w u:Nat) (sgnS p w u:Nat) l false = if expS p w u = 0 then some ⟨⟨#[102,105,110,105,116,101]⟩,(sgnS p w u:Nat),dg (frcS p u),lstS p w⟩ else some ⟨⟨#[102,105,110,105,116,101]⟩,(sgnS p w u:Nat),dg (frcS p u + 2 ^ (p - 1)),(expS p w u:Int) - biasS w - p + 1⟩:=by
    intro l
    unfold Ref1.taken.j2
    rw [cond_false]
    simp only [letkE]
    by_cases hz:expS p w u = 0
    · rw [if_pos hz,show (((expS p w u:Nat):Int) == 0) = true from by rw [hz]; rfl,cond_true,Of_eq (N:=frcS p u) (by omega) (wnat (by omega)),Option.bind_some,rleast_eq h]; rfl
    · rw [if_neg hz,show (((expS p w u:Nat):Int) == 0) = false from by rw [beq_eq_false_iff_ne]; omega,cond_false]
      unfold Ref1.taken.j0
      simp only [letkE]
      rw [wi (x:=(p:Int) - 1) (by omega) (by omega),chk_pos (by omega),hone (p - 1) (by omega) _ (by omega),wi (x:=((2 ^ (p - 1):Nat):Int) + ((frcS p u:Nat):Int)) (by omega) (by omega)]
      rw [show ((2 ^ (p - 1):Nat):Int) + ((frcS p u:Nat):Int) = ((frcS p u + 2 ^ (p - 1):Nat):Int) by omega,Of_eq (N:=frcS p u + 2 ^ (p - 1)) (by omega) (wnat (by omega)),Option.bind_some,Bias_eq h,Option.bind_some]
      rw [wi (x:=((expS p w u:Nat):Int) - biasS w) (by omega) (by omega),wi (x:=((expS p w u:Nat):Int) - biasS w - p) (by omega) (by omega),wi (x:=((expS p w u:Nat):Int) - biasS w - p + 1) (by omega) (by omega)]
  by_cases ht:expS p w u = 2 ^ w - 1
  · have hne:¬ expS p w u = 0:=by
      have:2 ^ 5 ≤ 2 ^ w:=Nat.pow_le_pow_right (by decide) h2
      have:(2:Nat) ^ 5 = 32:=by decide
      omega
    rw [show (((expS p w u:Nat):Int) == ((2 ^ w:Nat):Int) - 1) = true from by rw [beq_iff_eq]; omega,cond_true]
    by_cases hf:frcS p u = 0
    · have hR:readS p w u = ⟨2,sgnS p w u,0,0⟩:=by unfold readS; rw [if_pos ⟨ht,hf⟩]
      rw [show (((frcS p u:Nat):Int) == 0) = true from by rw [hf]; rfl,hR]
      rfl
    · have hR:readS p w u = ⟨3,sgnS p w u,0,0⟩:=by unfold readS; rw [if_neg (fun q=>hf q.2),if_pos ht]
      rw [show (((frcS p u:Nat):Int) == 0) = false from by rw [beq_eq_false_iff_ne]; omega,hR]
      unfold Ref1.taken.j1
      rw [cond_false]
      simp only [letkE]
      rw [chk_pos (by omega),hone w (by omega) _ (by omega),wi (x:=((2 ^ w:Nat):Int) - 1) (by omega) (by omega)]
      rw [show (((expS p w u:Nat):Int) == ((2 ^ w:Nat):Int) - 1) = true from by rw [beq_iff_eq]; omega,cond_true]; rfl
  · rw [show (((expS p w u:Nat):Int) == ((2 ^ w:Nat):Int) - 1) = false from by rw [beq_eq_false_iff_ne]; omega,cond_false]
    unfold Ref1.taken.j1
    rw [cond_false]
    simp only [letkE]
    rw [chk_pos (by omega),hone w (by omega) _ (by omega),wi (x:=((2 ^ w:Nat):Int) - 1) (by omega) (by omega)]
    rw [show (((expS p w u:Nat):Int) == ((2 ^ w:Nat):Int) - 1) = false from by rw [beq_eq_false_iff_ne]; omega,cond_false]
    by_cases hz:expS p w u = 0
    · rw [show (((expS p w u:Nat):Int) == 0) = true from by rw [hz]; rfl,cond_true]
      by_cases hf:frcS p u = 0
      · have hR:readS p w u = ⟨0,sgnS p w u,0,0⟩:=by unfold readS; rw [if_neg (fun q=>ht q.1),if_neg ht,if_pos ⟨hz,hf⟩]
        rw [show (((frcS p u:Nat):Int) == 0) = true from by rw [hf]; rfl,hR]; rfl
      · have hR:readS p w u = ⟨1,sgnS p w u,frcS p u,lstS p w⟩:=by unfold readS; rw [if_neg (fun q=>ht q.1),if_neg ht,if_neg (fun q=>hf q.2),if_pos hz]
        rw [show (((frcS p u:Nat):Int) == 0) = false from by rw [beq_eq_false_iff_ne]; omega,j2,if_pos hz,hR]; rfl
    · have hR:readS p w u = ⟨1,sgnS p w u,((frcS p u + 2 ^ (p - 1):Nat):Int),(expS p w u:Int) - biasS w - p + 1⟩:=by unfold readS; rw [if_neg (fun q=>ht q.1),if_neg ht,if_neg (fun q=>hz q.1),if_neg hz]
      rw [show (((expS p w u:Nat):Int) == 0) = false from by rw [beq_eq_false_iff_ne]; omega,cond_false,j2,if_neg hz,hR]; rfl
section
variable {kind mode:Int} {p w:Nat} (h:kindS kind p w) (hm:0 ≤ mode ∧ mode < 4)
include h hm
end
section
variable {kind mode:Int} {p w:Nat} (h:kindS kind p w)
include h
end
theorem numS_sign {p w:Nat} (a:Int):(numS p w a).sign = sgnS p w (a % 18446744073709551616).toNat:=by
  unfold numS readS
  repeat' split
  all_goals rfl
section
variable {kind mode:Int} {p w:Nat} (h:kindS kind p w)
include h
theorem rsize_eq {a:Int}:Ref1.size kind a = some (sizeS p w a:Int):=by
  obtain ⟨h1,h2,h3,h4,h5,h6⟩:=h.ok.facts
  have hs:=size_lt h.ok a
  have hk:=mask_eq h.ok a
  unfold Ref1.size
  rw [h.eight]
  simp only [letkE]
  rw [wi (x:=((p + w:Nat):Int)) (by omega) (by omega),wi (x:=((p + w:Nat):Int) - 1) (by omega) (by omega),chk_pos (by omega)]
  rw [show (((p + w:Nat):Int) - 1) = ((p:Int) + w - 1) by omega,hk,wi (x:=(sizeS p w a:Int)) (by omega) (by omega)]
theorem size_zero {a:Int} (c:(numS p w a).class_ = 0):sizeS p w a = 0:=by
  obtain ⟨h1,h2,h3,h4,h5,h6⟩:=h.ok.facts
  unfold numS readS at c
  generalize hu:(a % 18446744073709551616).toNat = u at *
  have hz:expS p w u = 0 ∧ frcS p u = 0:=by
    by_cases q1:expS p w u = 2 ^ w - 1 ∧ frcS p u = 0
    · rw [if_pos q1] at c; cases c
    · rw [if_neg q1] at c
      by_cases q2:expS p w u = 2 ^ w - 1
      · rw [if_pos q2] at c; cases c
      · rw [if_neg q2] at c
        by_cases q3:expS p w u = 0 ∧ frcS p u = 0
        · exact q3
        · rw [if_neg q3] at c
          by_cases q4:expS p w u = 0
          · rw [if_pos q4] at c; cases c
          · rw [if_neg q4] at c; cases c
  unfold sizeS
  rw [hu,show p + w - 1 = (p - 1) + w by omega,Nat.pow_add,Nat.mod_mul]
  rw [show u % 2 ^ (p - 1) = 0 from hz.2,show u / 2 ^ (p - 1) % 2 ^ w = 0 from hz.1,Nat.mul_zero]
theorem rCompare_eq {a b:Int} (ha:I64 a) (hb:I64 b) (ka:bitsOk p w a) (kb:bitsOk p w b):Ref1.Compare kind a b = some (cmpS p w a b (numS p w a) (numS p w b),0):=by
  have sa:=size_lt h.ok a
  have sb:=size_lt h.ok b
  have hx:=numS_z h.ok a
  have hy:=numS_z h.ok b
  unfold Ref1.Compare
  rw [asked_ok h (by decide) ha hb ka kb,bindS,taken_eq h ka,taken_eq h kb]
  simp only [letkE,Bool.not_true,cnF,bindS]
  rw [show (takS (numS p w a)).what = classN (numS p w a).class_ from rfl,show (takS (numS p w b)).what = classN (numS p w b).class_ from rfl,what_none hx.cls,what_none hy.cls]
  unfold cmpS
  by_cases cx:(numS p w a).class_ = 3
  · rw [decide_eq_true cx,cnT,if_pos (.inl cx)]
  · rw [decide_eq_false cx,cnF]
    by_cases cy:(numS p w b).class_ = 3
    · rw [decide_eq_true cy,cnT,if_pos (.inr cy)]
    · rw [decide_eq_false cy,cnF,if_neg (by rintro (q | q); exact cx q; exact cy q)]
      unfold Ref1.Compare.j0
      rw [rsize_eq h,bindS,rsize_eq h,bindS]
      simp only [letkE]
      have e1:(takS (numS p w a)).sign = sgnS p w (a % 18446744073709551616).toNat:=by unfold takS; simp only; rw [if_neg cx,numS_sign]
      have e2:(takS (numS p w b)).sign = sgnS p w (b % 18446744073709551616).toNat:=by unfold takS; simp only; rw [if_neg cy,numS_sign]
      have j2:Ref1.Compare.j2 (placeS p w a) (placeS p w b) = some (if (numS p w a).class_ = 0 ∧ (numS p w b).class_ = 0 then 0 else if placeS p w a < placeS p w b then -1 else if placeS p w b < placeS p w a then 1 else 0,0):=by
        unfold Ref1.Compare.j2
        simp only [letkE]
        by_cases cz:(numS p w a).class_ = 0 ∧ (numS p w b).class_ = 0
        · rw [if_pos cz]
          have z1:=size_zero h cz.1
          have z2:=size_zero h cz.2
          have p1:placeS p w a = 0:=by unfold placeS; rw [z1]; split <;> rfl
          have p2:placeS p w b = 0:=by unfold placeS; rw [z2]; split <;> rfl
          rw [p1,p2]; rfl
        · rw [if_neg cz]
          by_cases c1:placeS p w a < placeS p w b
          · rw [decide_eq_true c1,cnT,if_pos c1]
          · rw [decide_eq_false c1,cnF,if_neg c1]
            by_cases c2:placeS p w b < placeS p w a
            · rw [decide_eq_true (show placeS p w a > placeS p w b from c2),cnT,if_pos c2]
            · rw [decide_eq_false (show ¬ placeS p w a > placeS p w b from c2),cnF,if_neg c2]
      have pa:∀ q:Nat,q = sgnS p w (a % 18446744073709551616).toNat → placeS p w a = if q = 1 then -(sizeS p w a:Int) else sizeS p w a:=by rintro q rfl; rfl
      have pb:∀ q:Nat,q = sgnS p w (b % 18446744073709551616).toNat → placeS p w b = if q = 1 then -(sizeS p w b:Int) else sizeS p w b:=by rintro q rfl; rfl
      have pa:=pa _ rfl
      have pb:=pb _ rfl
      rw [e1]
      unfold Ref1.Compare.j1
      simp only [letkE]
      rw [e2]
      generalize sgnS p w (a % 18446744073709551616).toNat = s at *
      generalize sgnS p w (b % 18446744073709551616).toNat = t at *
      rw [show ((s:Int) == 1) = decide (s = 1) from beq_nat _ 1,show ((t:Int) == 1) = decide (t = 1) from beq_nat _ 1,wi (x:=0 - (sizeS p w a:Int)) (by omega) (by omega),wi (x:=0 - (sizeS p w b:Int)) (by omega) (by omega),Int.zero_sub,Int.zero_sub]
      rw [pa,pb] at j2
      rw [pa,pb]
      by_cases q1:s = 1 <;> by_cases q2:t = 1
      · simp only [decide_eq_true q1,decide_eq_true q2,cnT,if_pos q1,if_pos q2] at j2 ⊢; exact j2
      · simp only [decide_eq_true q1,decide_eq_false q2,cnT,cnF,if_pos q1,if_neg q2] at j2 ⊢; exact j2
      · simp only [decide_eq_false q1,decide_eq_true q2,cnT,cnF,if_neg q1,if_pos q2] at j2 ⊢; exact j2
      · simp only [decide_eq_false q1,decide_eq_false q2,cnF,if_neg q1,if_neg q2] at j2 ⊢; exact j2
end
end Go.Q
