/- The new form: both readers answer alike. -/
import Derived.Test.YtoecgpemlfoogaaGreatDoorNB
namespace Go.Q
open Go

theorem fold_q : ∀ (G : List PL) (f : List (List PL)) (c : List PL) (q : UInt8), (G.foldl stepG (f, c, q)).2.2 = (bys G).foldl nx q
  | [], _, _, _ => rfl
  | p :: r, f, c, q => by
    show ((r.foldl stepG (stepG (f, c, q) p)).2.2) = (bys r).foldl nx (nx q p.1)
    by_cases h : p.1 = 59 ∧ q = 0
    · rw [show stepG (f, c, q) p = (f ++ [c], [], 0) from if_pos h, fold_q, h.1, h.2]; rfl
    · rw [show stepG (f, c, q) p = (f, c ++ [p], nx q p.1) from if_neg h, fold_q]
theorem fold_cur : ∀ (G : List PL) (f : List (List PL)) (c : List PL) (q : UInt8), q = (bys c).foldl nx 0 → (G.foldl stepG (f, c, q)).2.2 = (bys (G.foldl stepG (f, c, q)).2.1).foldl nx 0
  | [], _, _, _, h => h
  | p :: r, f, c, q, hq => by
    show ((r.foldl stepG (stepG (f, c, q) p)).2.2) = (bys (r.foldl stepG (stepG (f, c, q) p)).2.1).foldl nx 0
    by_cases h : p.1 = 59 ∧ q = 0
    · rw [show stepG (f, c, q) p = (f ++ [c], [], 0) from if_pos h]
      exact fold_cur r _ _ _ rfl
    · rw [show stepG (f, c, q) p = (f, c ++ [p], nx q p.1) from if_neg h]
      refine fold_cur r _ _ _ ?_
      rw [bys_app, List.foldl_append, ← hq]; rfl
theorem zOf_sp (s : BS) : zOf (32 :: s) 0 = (32 :: (zOf s 0).1, (zOf s 0).2) := by
  have hc : cutR (32 :: s) 0 = 32 :: cutR s 0 := by
    show (if (32 : UInt8) = 33 ∧ (0 : UInt8) = 0 then [] else 32 :: cutR s (nx 0 32)) = _
    rw [if_neg (by decide)]; rfl
  unfold zOf
  rw [hc, trimR_sp]
  by_cases h : Lib.trimRightB (cutR s 0) 32 = []
  · rw [if_pos h, h]; rfl
  · rw [if_neg h]
    have : amp (32 :: Lib.trimRightB (cutR s 0) 32) = amp (Lib.trimRightB (cutR s 0) 32) := amp_app [32] _ h
    rw [this]
    have hp := List.length_pos_iff.2 h
    split
    · congr 1
      rw [List.length_cons, show (Lib.trimRightB (cutR s 0) 32).length + 1 - 1 = ((Lib.trimRightB (cutR s 0) 32).length - 1) + 1 by omega, List.take_succ_cons]
    · rfl
/-- A line that is blank, or a comment. -/
def cmt (s : BS) : Bool := match s.dropWhile (· == 32) with
  | [] => true
  | c :: _ => c == 33
theorem comment_new (s : BS) (h : s.length < 2 ^ 40) : Src.Comment (B s) false = some (cmt s) ∧ Ref3.Comment (B s) false = some (cmt s) := by
  have h1 : Src.Comment (B s) false = some (cmt s) := by
    unfold Src.Comment Strs.TrimLeft cmt
    rw [chk_pos rfl, L_B]
    simp only [Option.bind_some, letk, cond_false]
    rw [eqL, L_B, L_e0]
    show (bif (s.dropWhile (· == 32) == []) then _ else _) = _
    rcases drop_cases s with hd | ⟨c, r, hd, hc⟩
    · rw [hd]; rfl
    · rw [hd]
      have hs1 : (B (c :: r)).size = r.length + 1 := rfl
      rw [show ((c :: r : BS) == []) = false from rfl, cond_false, show (B (Lib.trimLeftB s 32)) = B (c :: r) from congrArg B hd, chk_pos (by omega)]
      show some (((c.toNat : Nat) : Int) == 33) = some (c == 33)
      rw [show ((c.toNat : Int) == 33) = (c == 33) from beq_u8 c 33 (by omega)]
  obtain ⟨b, k1, k2⟩ := comment_eq s false h
  rw [h1] at k1
  cases k1
  exact ⟨h1, k2⟩
theorem quiet_blank : ∀ s : BS, s.dropWhile (· == 32) = [] → quiet s 0 ∧ s.foldl nx 0 = 0
  | [], _ => ⟨trivial, rfl⟩
  | c :: r, h => by
    rw [List.dropWhile_cons] at h
    split at h
    · rename_i hc
      have : c = 32 := beq_iff_eq.1 hc
      subst this
      obtain ⟨h1, h2⟩ := quiet_blank r h
      exact ⟨⟨by decide, h1⟩, h2⟩
    · cases h
theorem dw_nil (p : UInt8 → Bool) : ∀ l : BS, l.dropWhile p = [] ↔ ∀ x ∈ l, p x = true
  | [] => by simp
  | c :: r => by
    rw [List.dropWhile_cons]
    by_cases h : p c = true
    · rw [if_pos h, dw_nil p r]; simp [h]
    · rw [if_neg h]; simp [h]
/-- Such a line gives nothing. -/
theorem cmt_z : ∀ s : BS, cmt s = true → (zOf s 0).2 = false ∧ (zOf s 0).1.dropWhile (· == 32) = [] := by
  have key : ∀ s : BS, cmt s = true → (cutR s 0).dropWhile (· == 32) = [] := by
    intro s
    induction s with
    | nil => intro _; rfl
    | cons c r ih =>
      intro h
      unfold cmt at h
      rw [List.dropWhile_cons] at h
      unfold cutR
      cases hc : (c == 32) with
      | true =>
        have : c = 32 := beq_iff_eq.1 hc
        subst this
        simp only [hc, if_true] at h
        rw [if_neg (by decide), List.dropWhile_cons]
        simp only [hc, if_true]
        exact ih h
      | false =>
        rw [hc] at h
        simp only [Bool.false_eq_true, if_false, beq_iff_eq] at h
        rw [if_pos ⟨h, rfl⟩]; rfl
  intro s h
  have hb := key s h
  have ht : Lib.trimRightB (cutR s 0) 32 = [] := by
    unfold Lib.trimRightB
    rw [List.reverse_eq_nil_iff]
    rw [dw_nil] at hb ⊢
    intro x hx
    exact hb x (List.mem_reverse.1 hx)
  unfold zOf
  rw [ht]
  exact ⟨rfl, hb⟩

structure NI (n : Nat) (goes : Int) (o : List api.Line) (w : Int) (b : Bool) (a : Int) (t : ByteArray) (q : Int) (o' : List api.Line) (W : Int) (G : List PL) : Prop where
  g0 : 0 ≤ goes ∧ goes ≤ n
  gG : goes = 0 → G = []
  gb : 0 < goes → b = true
  hg : good G
  hw : w = WF W (G.foldl stepG ([], [], 0)).1
  W0 : 0 ≤ W
  ho : w = 0 → o = o' ++ LF (G.foldl stepG ([], [], 0)).1
  ht : t = B (bys (G.foldl stepG ([], [], 0)).2.1)
  hq : q = (((G.foldl stepG ([], [], 0)).2.2.toNat : Nat) : Int)
  hat : AT (G.foldl stepG ([], [], 0)).2.1 a
  l1 : o.length ≤ n * 10010
  l2 : o'.length + G.length ≤ n * 10010
theorem step_len : ∀ (G : List PL) (s : List (List PL) × List PL × UInt8), (G.foldl stepG s).2.1.length ≤ s.2.1.length + G.length
  | [], s => Nat.le_refl _
  | p :: r, s => by
    rw [List.foldl_cons, List.length_cons]
    refine Nat.le_trans (step_len r _) ?_
    unfold stepG
    split
    · simp; omega
    · simp; omega
theorem good_all {G : List PL} (h : good G) : ∀ c ∈ allG (G.foldl stepG ([], [], 0)), good c := good_fold G _ h (fun c hc => by simp [allG] at hc; subst hc; intro p hp; cases hp)
theorem NI.fins {n goes o w b a t q o' W G} (h : NI n goes o w b a t q o' W G) : ∀ c ∈ (G.foldl stepG ([], [], 0)).1, good c := fun c hc => good_all h.hg c (List.mem_append_left _ hc)
theorem NI.w0 {n goes o w b a t q o' W G} (h : NI n goes o w b a t q o' W G) : 0 ≤ w := by rw [h.hw]; exact WF_ge h.W0 h.fins
theorem NI.cur {n goes o w b a t q o' W G} (h : NI n goes o w b a t q o' W G) : good (G.foldl stepG ([], [], 0)).2.1 := good_all h.hg _ (by simp [allG])
theorem NI.fail {n goes o w b a t q o' W G} (h : NI n goes o w b a t q o' W G) {e : Int} (he : 0 < e) : NI n goes o (failN w e) b a t q o' (failN W e) G := by
  have e1 : failN w e = WF (failN W e) (G.foldl stepG ([], [], 0)).1 := by
    rw [← mw_pos he, ← mw_pos he, WF_mw h.W0 (by omega) h.fins, ← h.hw]
  have := failN_pos h.w0 he
  have := failN_pos h.W0 he
  exact ⟨h.g0, h.gG, h.gb, h.hg, e1, by omega, fun h => by omega, h.ht, h.hq, h.hat, h.l1, h.l2⟩
theorem NI.mono {n m goes o w b a t q o' W G} (h : NI n goes o w b a t q o' W G) (hm : n ≤ m) : NI m goes o w b a t q o' W G :=
  ⟨⟨h.g0.1, by have := h.g0.2; omega⟩, h.gG, h.gb, h.hg, h.hw, h.W0, h.ho, h.ht, h.hq, h.hat, Nat.le_trans h.l1 (Nat.mul_le_mul_right _ hm), Nat.le_trans h.l2 (Nat.mul_le_mul_right _ hm)⟩

/-- The reference's line, from its text on. -/
theorem ref_j2 (T : ByteArray) (LL : List ByteArray) (n : Nat) (hn : n < 2 ^ 20) (G : List PL) (hg : good G) (hgl : G.length < 2 ^ 38) (s : BS) (hs : s.length < 2 ^ 30) (q : UInt8) (o' : List api.Line) (l' : Int) (t' : ByteArray) (a' : Int) (b' : Bool) (W : Int) (ho : o'.length < 2 ^ 38) (h0 : 0 ≤ W) :
    ((zOf s q).2 = true ∧ Ref3.New.j2 T LL n q.toNat o' l' t' a' b' W (B (bys G)) (G.map (·.2)) (B s) = some (.inl (o', l', t', a', b', W, B (bys (G ++ tag ((n + 1 : Nat) : Int) (zOf s q).1)), (G ++ tag ((n + 1 : Nat) : Int) (zOf s q).1).map (·.2), ((n + 1 : Nat) : Int), ((n + 1 : Nat) : Int)))) ∨
    ((zOf s q).2 = false ∧ ∃ o1 l1 t1 a1 b1, Ref3.New.j2 T LL n q.toNat o' l' t' a' b' W (B (bys G)) (G.map (·.2)) (B s) = some (.inl (o1, l1, t1, a1, b1, WF W (allG ((G ++ tag ((n + 1 : Nat) : Int) (zOf s q).1).foldl stepG ([], [], 0))), ⟨#[]⟩, [], 0, ((n + 1 : Nat) : Int))) ∧
      (WF W (allG ((G ++ tag ((n + 1 : Nat) : Int) (zOf s q).1).foldl stepG ([], [], 0))) = 0 → o1 = o' ++ LF (allG ((G ++ tag ((n + 1 : Nat) : Int) (zOf s q).1).foldl stepG ([], [], 0)))) ∧ o1.length ≤ o'.length + (G.length + (zOf s q).1.length) + 1) := by
  have hsz : (B s).size = s.length := rfl
  have hcl : (cutR s q).length ≤ s.length := by
    rw [← cutR_eq s 0 q]
    split
    · rw [List.length_take]; omega
    · omega
  have htl := trimR_len (cutR s q)
  have hw1 : IntKind.i64.wrap ((n : Int) + 1) = ((n + 1 : Nat) : Int) := by rw [w64n (by omega) (by omega)]; rfl
  have j3 : Ref3.New.j2 T LL n q.toNat o' l' t' a' b' W (B (bys G)) (G.map (·.2)) (B s) = Ref3.New.j3 T LL n o' l' t' a' b' W (B (bys G)) (G.map (·.2)) (B (cutR s q)) := by
    unfold Ref3.New.j2
    rw [show Ref3.outside (B s) (q.toNat : Int) 33 = _ from outside_eq s q 33 (by omega)]
    simp only [Option.bind_some, letk]
    have := cutR_eq s 0 q
    by_cases h : 0 ≤ findC 33 s 0 q
    · obtain ⟨k, h1, h2, h3⟩ := findC_zero 33 s 0 q h
      rw [if_pos h, Nat.sub_zero] at this
      rw [decide_eq_true (by omega : findC 33 s 0 q ≥ 0), cond_true, chk_pos (by omega), ext_B, L_B, this]
    · rw [if_neg h] at this
      rw [decide_eq_false (by omega : ¬ findC 33 s 0 q ≥ 0), cond_false, ← this]
  have j4 : ∀ (z : BS) (gg : Int), z.length ≤ s.length → Ref3.New.j4 T LL n o' l' t' a' b' W (B (bys G)) (G.map (·.2)) gg (B z) = (bif decide (gg > 0) then some (.inl (o', l', t', a', b', W, B (bys (G ++ tag ((n + 1 : Nat) : Int) z)), (G ++ tag ((n + 1 : Nat) : Int) z).map (·.2), gg, ((n + 1 : Nat) : Int))) else (Ref3.written.statements (B (bys (G ++ tag ((n + 1 : Nat) : Int) z))) ((G ++ tag ((n + 1 : Nat) : Int) z).map (·.2)) o' l' t' a' b' W).bind fun x => some (.inl (x.1, x.2.1, x.2.2.1, x.2.2.2.1, x.2.2.2.2.1, x.2.2.2.2.2, ⟨#[]⟩, [], gg, ((n + 1 : Nat) : Int)))) := by
    intro z gg hz
    unfold Ref3.New.j4
    simp only [letk]
    rw [hw1, add_eq G z _ (by omega) (by omega)]
    rfl
  have j5 : Ref3.New.j3 T LL n o' l' t' a' b' W (B (bys G)) (G.map (·.2)) (B (cutR s q)) = Ref3.New.j4 T LL n o' l' t' a' b' W (B (bys G)) (G.map (·.2)) (if (zOf s q).2 = true then ((n + 1 : Nat) : Int) else 0) (B (zOf s q).1) := by
    unfold Ref3.New.j3 Ref3.New.j5
    rw [rright_eq _ (by omega)]
    simp only [Option.bind_some, letk]
    rw [eqL, L_B, L_e0, hw1]
    unfold zOf
    generalize Lib.trimRightB (cutR s q) 32 = t at htl ⊢
    have htz : (B t).size = t.length := rfl
    by_cases h : t = []
    · subst h; rfl
    · have hp := List.length_pos_iff.2 h
      rw [show (t == []) = false from beq_eq_false_iff_ne.2 h, Bool.not_false, cond_true, w64n (by omega) (by omega), chk_pos (by omega), chk_pos (by omega), show (((B t).size : Int) - 1) = ((t.length - 1 : Nat) : Int) by omega, show bt (B t) ((t.length - 1 : Nat) : Int) = ((t.getD (t.length - 1) 0).toNat : Int) from rfl, show ∀ x : UInt8, ((x.toNat : Int) == 38) = (x == 38) from fun x => beq_u8 x 38 (by omega), Int.toNat_natCast, ext_B, L_B]
      show (bif amp t then _ else _) = _
      cases amp t <;> rfl
  rw [j3, j5, j4 _ _ (by
    unfold zOf
    split
    · simp only [List.length_take]; omega
    · simp only; omega)]
  cases hz : (zOf s q).2 with
  | true =>
    refine .inl ⟨rfl, ?_⟩
    rw [if_pos rfl, decide_eq_true (by omega : ((n + 1 : Nat) : Int) > 0)]; rfl
  | false =>
    refine .inr ⟨rfl, ?_⟩
    have hzl : (zOf s q).1.length ≤ s.length := by
      unfold zOf
      split
      · simp only [List.length_take]; omega
      · simp only; omega
    have hG' : good (G ++ tag ((n + 1 : Nat) : Int) (zOf s q).1) := good_app hg (good_tag (by omega) _)
    have hGl : (G ++ tag ((n + 1 : Nat) : Int) (zOf s q).1).length = G.length + (zOf s q).1.length := by rw [List.length_append, tag_len]
    obtain ⟨o1, l1, t1, a1, b1, k1, k2, k3⟩ := statements_eq (G ++ tag ((n + 1 : Nat) : Int) (zOf s q).1) hG' (by omega) o' l' t' a' b' W (by omega) h0
    rw [k1, if_neg (by simp), decide_eq_false (by omega : ¬ (0 : Int) > 0)]
    exact ⟨o1, l1, t1, a1, b1, rfl, k2, by omega⟩
end Go.Q
namespace Go.Q
open Go

theorem zOf_len (s : BS) (q : UInt8) : (zOf s q).1.length ≤ s.length := by
  have hcl : (cutR s q).length ≤ s.length := by
    rw [← cutR_eq s 0 q]
    split
    · rw [List.length_take]; omega
    · omega
  have htl := trimR_len (cutR s q)
  unfold zOf
  split
  · simp only [List.length_take]; omega
  · simp only; omega
/-- Both take the same text of a line. -/
theorem adv (T : ByteArray) (LL : List ByteArray) (t15 : Int) (n : Nat) (hn : n < 2 ^ 14) {goes o w b a t q o' W G} (h : NI n goes o w b a t q o' W G) (l : Int) (ch s' : BS) (G0 : List PL) (hch : ch.length ≤ 9001) (hs' : s'.length ≤ 9001) (hG0 : good G0) (hG0l : G0.length ≤ G.length + 1)
    (e1 : G0 ++ tag ((n + 1 : Nat) : Int) (zOf s' (G.foldl stepG ([], [], 0)).2.2).1 = G ++ tag ((n + 1 : Nat) : Int) (zOf ch (G.foldl stepG ([], [], 0)).2.2).1) (e2 : (zOf s' (G.foldl stepG ([], [], 0)).2.2).2 = (zOf ch (G.foldl stepG ([], [], 0)).2.2).2) (l' : Int) (t' : ByteArray) (a' : Int) (b' : Bool) :
    ∃ o2 w2 b2 l2 a2 t2 q2 g2 o1 l1 t1 a1 b1 W1 G1, Src.New.j1 T LL t15 n o w b l a t q (B ch) = some (.inl (o2, w2, b2, l2, a2, t2, q2, g2, ((n + 1 : Nat) : Int))) ∧
      Ref3.New.j2 T LL n (((G.foldl stepG ([], [], 0)).2.2.toNat : Nat) : Int) o' l' t' a' b' W (B (bys G0)) (G0.map (·.2)) (B s') = some (.inl (o1, l1, t1, a1, b1, W1, B (bys G1), G1.map (·.2), g2, ((n + 1 : Nat) : Int))) ∧ NI (n + 1) g2 o2 w2 b2 a2 t2 q2 o1 W1 G1 := by
  have hw1 : IntKind.i64.wrap ((n : Int) + 1) = ((n + 1 : Nat) : Int) := by rw [w64n (by omega) (by omega)]; rfl
  have hcur : (G.foldl stepG ([], [], 0)).2.1.length ≤ G.length := by have := step_len G ([], [], 0); simpa using this
  have hb1 : n * 10010 ≤ 2 ^ 14 * 10010 := Nat.mul_le_mul_right _ (by omega)
  have hL1 := h.l1
  have hL2 := h.l2
  have hfc : (bys (G.foldl stepG ([], [], 0)).2.1).foldl nx 0 = (G.foldl stepG ([], [], 0)).2.2 := (fold_cur G [] [] 0 rfl).symm
  have hz := zOf_len ch (G.foldl stepG ([], [], 0)).2.2
  have hz' := zOf_len s' (G.foldl stepG ([], [], 0)).2.2
  have hfold : (G ++ tag ((n + 1 : Nat) : Int) (zOf ch (G.foldl stepG ([], [], 0)).2.2).1).foldl stepG ([], [], 0) = ((G.foldl stepG ([], [], 0)).1 ++ ((tag ((n + 1 : Nat) : Int) (zOf ch (G.foldl stepG ([], [], 0)).2.2).1).foldl stepG ([], (G.foldl stepG ([], [], 0)).2.1, (G.foldl stepG ([], [], 0)).2.2)).1, ((tag ((n + 1 : Nat) : Int) (zOf ch (G.foldl stepG ([], [], 0)).2.2).1).foldl stepG ([], (G.foldl stepG ([], [], 0)).2.1, (G.foldl stepG ([], [], 0)).2.2)).2) := by
    rw [List.foldl_append]
    exact step_pre _ _ _ _
  have hl1 : (G ++ tag ((n + 1 : Nat) : Int) (zOf ch (G.foldl stepG ([], [], 0)).2.2).1).length = G.length + (zOf ch (G.foldl stepG ([], [], 0)).2.2).1.length := by rw [List.length_append, tag_len]
  have hl0 : G0.length + (zOf s' (G.foldl stepG ([], [], 0)).2.2).1.length = G.length + (zOf ch (G.foldl stepG ([], [], 0)).2.2).1.length := by rw [← hl1, ← e1, List.length_append, tag_len]
  have hG1 : good (G ++ tag ((n + 1 : Nat) : Int) (zOf ch (G.foldl stepG ([], [], 0)).2.2).1) := good_app h.hg (good_tag (by omega) _)
  have hR := ref_j2 T LL n (by omega) G0 hG0 (by omega) s' (by omega) (G.foldl stepG ([], [], 0)).2.2 o' l' t' a' b' W (by omega) h.W0
  rw [e1, e2] at hR
  obtain ⟨o2, l2, a2, hF, hFl⟩ := (fresh_l0 ((n + 1 : Nat) : Int) (by omega) ch.length ch (Nat.le_refl _) (by omega) o w b l a _ h.cur (by omega) (by omega) h.w0 h.hat).ok
  rw [hfc] at hF
  have hG1a := good_all hG1
  unfold Src.New.j1 Src.reader.fresh
  simp only [letk]
  rw [hw1, h.ht, h.hq]
  rcases hF with ⟨g1, g2, g3, g4, g5⟩ | ⟨g1, g2, g3⟩
  · rw [g2]
    rcases hR with ⟨_, r2⟩ | ⟨r1, _⟩
    · refine ⟨_, _, _, _, _, _, _, _, _, _, _, _, _, _, _, rfl, r2, ⟨by omega, by omega, fun _ => rfl, hG1, ?_, h.W0, fun hz => ?_, ?_, ?_, ?_, (show o2.length ≤ (n + 1) * 10010 by omega), by rw [hl1]; omega⟩⟩
      · rw [hfold]; simp only; rw [WF_app, ← h.hw]
      · have hw0 : w = 0 := WF_zero h.w0 (fun c hc => hG1a c (by rw [hfold]; simp [allG]; exact .inr (.inl hc))) hz
        rw [hfold]; simp only
        rw [LF_app, g3 hz, h.ho hw0, List.append_assoc]
      · rw [hfold]
      · rw [hfold]
      · rw [hfold]; exact g4
    · rw [g1] at r1; cases r1
  · rw [g2]
    rcases hR with ⟨r1, _⟩ | ⟨_, o1, l1, t1, a1, b1, r2, r3, r4⟩
    · rw [g1] at r1; cases r1
    · have hall : allG ((G ++ tag ((n + 1 : Nat) : Int) (zOf ch (G.foldl stepG ([], [], 0)).2.2).1).foldl stepG ([], [], 0)) = (G.foldl stepG ([], [], 0)).1 ++ allG ((tag ((n + 1 : Nat) : Int) (zOf ch (G.foldl stepG ([], [], 0)).2.2).1).foldl stepG ([], (G.foldl stepG ([], [], 0)).2.1, (G.foldl stepG ([], [], 0)).2.2)) := by
        rw [hfold]; simp [allG]
      have hww : WF W (allG ((G ++ tag ((n + 1 : Nat) : Int) (zOf ch (G.foldl stepG ([], [], 0)).2.2).1).foldl stepG ([], [], 0))) = WF w (allG ((tag ((n + 1 : Nat) : Int) (zOf ch (G.foldl stepG ([], [], 0)).2.2).1).foldl stepG ([], (G.foldl stepG ([], [], 0)).2.1, (G.foldl stepG ([], [], 0)).2.2))) := by
        rw [hall, WF_app, ← h.hw]
      have hge := WF_ge h.W0 hG1a
      refine ⟨_, _, _, _, _, _, _, _, o1, l1, t1, a1, b1, _, [], rfl, r2, ⟨⟨Int.le_refl _, by omega⟩, fun _ => rfl, fun h => absurd h (Int.lt_irrefl _), (fun p hp => by cases hp), hww.symm, hge, fun hz => ?_, rfl, rfl, fun h => absurd rfl h, (show o2.length ≤ (n + 1) * 10010 by omega), (show o1.length + 0 ≤ (n + 1) * 10010 by omega)⟩⟩
      have hw0 : w = 0 := WF_zero h.w0 (fun c hc => hG1a c (by rw [hall]; exact List.mem_append_right _ hc)) hz
      rw [g3 hz, h.ho hw0, r3 (by rw [hww]; exact hz), hall, LF_app, List.append_assoc]
      show _ = _ ++ []
      rw [List.append_nil]

theorem trimL (s : BS) : Lib.trimLeftB s 32 = s.dropWhile (· == 32) := rfl
theorem cutpre_eq (s : BS) (h : s.length < 2 ^ 62) : Strs.CutPrefix (B s) ⟨#[38]⟩ = some (if (s.getD 0 0 == 38) = true then (B (s.drop 1), true) else (B s, false)) := by
  have hsz : (B s).size = s.length := rfl
  have hs1 : (⟨#[38]⟩ : ByteArray).size = 1 := rfl
  unfold Strs.CutPrefix Slite.CutPrefix Slite.HasPrefix
  simp only [letk]
  rw [hs1]
  cases s with
  | nil => rfl
  | cons c r =>
    rw [List.length_cons] at hsz
    rw [decide_eq_true (by omega : ((B (c :: r)).size : Int) ≥ ((1 : Nat) : Int)), cond_true, chk_pos (by omega)]
    simp only [Option.bind_some]
    rw [show (((1 : Nat) : Int)).toNat = 1 from rfl, ext_B, L_B, eqL, L_B, chk_pos (by omega), ext_D, L_B]
    show _ = some (if (c == 38) = true then _ else _)
    have : ((c :: r).take 1 == L (⟨#[38]⟩ : ByteArray)) = (c == 38) := by
      show ((c == 38) && true) = _
      rw [Bool.and_true]
    rw [this]
    cases (c == 38) <;> rfl
theorem ref_skip (T : ByteArray) (LL : List ByteArray) (i : Int) (q : Int) (o' : List api.Line) (l' : Int) (t' : ByteArray) (a' : Int) (b' : Bool) (W : Int) (gs : ByteArray) (gl : List Int) : ∀ s : BS, s.length < 2 ^ 40 → Ref3.New.l1 T LL i q o' l' t' a' b' W gs gl (B s) = Ref3.New.j6 T LL i q o' l' t' a' b' W gs gl (B (s.dropWhile (· == 32))) := by
  have hm : ∀ R : Option ((List api.Line × Int × ByteArray × Int × Bool × Int × ByteArray × List Int × Int × Int) ⊕ (List api.Line × Int × Int)), ((R.map (Sum.inr (α := List api.Line × Int × ByteArray × Int × Bool × Int × ByteArray × List Int × ByteArray))).bind (Sum.elim (fun v => Ref3.New.l1 T LL i q v.1 v.2.1 v.2.2.1 v.2.2.2.1 v.2.2.2.2.1 v.2.2.2.2.2.1 v.2.2.2.2.2.2.1 v.2.2.2.2.2.2.2.1 v.2.2.2.2.2.2.2.2) some)) = R := fun R => by cases R <;> rfl
  intro s
  induction s with
  | nil =>
    intro _
    rw [Ref3.New.l1_eq, Ref3.New.s1]
    simp only [letk]
    rw [decide_eq_false (by decide : ¬ (((B []).size : Int)) > 0), cond_false, hm]
    rfl
  | cons c r ih =>
    intro hl
    have hsz : (B (c :: r)).size = r.length + 1 := rfl
    rw [List.length_cons] at hl
    rw [Ref3.New.l1_eq, Ref3.New.s1]
    simp only [letk]
    rw [decide_eq_true (by omega : ((B (c :: r)).size : Int) > 0), cond_true, chk_pos (by omega), show bt (B (c :: r)) 0 = (c.toNat : Int) from rfl, show ((c.toNat : Int) == 32) = (c == 32) from beq_u8 c 32 (by omega), List.dropWhile_cons]
    cases hc : (c == 32) with
    | true =>
      simp only [cond_true, if_true]
      rw [chk_pos (by omega), show ((1 : Int)).toNat = 1 from rfl, ext_D, L_B]
      simp only [Option.bind_some, Sum.elim_inl]
      exact ih (by omega)
    | false =>
      rw [cond_false, hm]; rfl
/-- A line, both times. -/
theorem line_new (T : ByteArray) (LL : List ByteArray) (t15 : Int) (n : Nat) (hn : n < 2 ^ 14) {goes o w b a t q o' W G} (h : NI n goes o w b a t q o' W G) (l : Int) (s : BS) (hs : s.length ≤ 9000) (l' : Int) (t' : ByteArray) (a' : Int) (b' : Bool) :
    ∃ o2 w2 b2 l2 a2 t2 q2 g2 o1 l1 t1 a1 b1 W1 G1, Src.New.j0 T LL t15 goes n (B s) o w b l a t q = some (.inl (o2, w2, b2, l2, a2, t2, q2, g2, ((n + 1 : Nat) : Int))) ∧
      Ref3.New.j0 T LL goes n (B s) o' l' t' a' b' W (B (bys G)) (G.map (·.2)) = some (.inl (o1, l1, t1, a1, b1, W1, B (bys G1), G1.map (·.2), g2, ((n + 1 : Nat) : Int))) ∧ NI (n + 1) g2 o2 w2 b2 a2 t2 q2 o1 W1 G1 := by
  have hw1 : IntKind.i64.wrap ((n : Int) + 1) = ((n + 1 : Nat) : Int) := by rw [w64n (by omega) (by omega)]; rfl
  have hL2 := h.l2
  have hb1 : n * 10010 ≤ 2 ^ 14 * 10010 := Nat.mul_le_mul_right _ (by omega)
  have hfq : (bys G).foldl nx 0 = (G.foldl stepG ([], [], 0)).2.2 := (fold_q G [] [] 0).symm
  obtain ⟨c1, c2⟩ := comment_new s (by omega)
  have hq := h.hq
  have hqz : (q == 0) = ((G.foldl stepG ([], [], 0)).2.2 == 0) := by rw [hq]; exact beq_u8 _ 0 (by omega)
  have hqz2 : ((((G.foldl stepG ([], [], 0)).2.2.toNat : Nat) : Int) == 0) = ((G.foldl stepG ([], [], 0)).2.2 == 0) := beq_u8 _ 0 (by omega)
  have hdl : (s.dropWhile (· == 32)).length ≤ s.length := (List.dropWhile_sublist _).length_le
  -- a line that goes on
  have hon : 0 < goes → ∃ o2 w2 b2 l2 a2 t2 q2 g2 o1 l1 t1 a1 b1 W1 G1, Src.New.j2 T LL t15 n (B s) o w b l a t q = some (.inl (o2, w2, b2, l2, a2, t2, q2, g2, ((n + 1 : Nat) : Int))) ∧
      Ref3.New.j1 T LL goes n (B s) (((G.foldl stepG ([], [], 0)).2.2.toNat : Nat) : Int) o' l' t' a' b' W (B (bys G)) (G.map (·.2)) = some (.inl (o1, l1, t1, a1, b1, W1, B (bys G1), G1.map (·.2), g2, ((n + 1 : Nat) : Int))) ∧ NI (n + 1) g2 o2 w2 b2 a2 t2 q2 o1 W1 G1 := by
    intro hg
    unfold Src.New.j2 Ref3.New.j1 Strs.TrimLeft
    simp only [letk]
    rw [decide_eq_true (by omega : goes > 0), cond_true, ref_skip _ _ _ _ _ _ _ _ _ _ _ _ s (by omega), chk_pos (by trivial), L_B, trimL]
    simp only [Option.bind_some]
    rw [cutpre_eq _ (by omega)]
    generalize s.dropWhile (· == 32) = s1 at hdl ⊢
    have hs1 : (B s1).size = s1.length := rfl
    unfold Ref3.New.j6 Ref3.New.j7 Src.New.j3
    simp only [letk]
    rw [eqL, L_B, L_e0, bne, bne, hqz, hqz2]
    cases h38 : (s1.getD 0 0 == 38) with
    | true =>
      have hne : s1 ≠ [] := by intro e; subst e; cases h38
      have hp := List.length_pos_iff.2 hne
      simp only [if_true, Option.bind_some, Bool.not_true, cond_false]
      rw [show (s1 == []) = false from beq_eq_false_iff_ne.2 hne, Bool.not_false, cond_true, chk_pos (by omega), show bt (B s1) 0 = ((s1.getD 0 0).toNat : Int) from rfl, show ∀ x : UInt8, ((x.toNat : Int) == 38) = (x == 38) from fun x => beq_u8 x 38 (by omega), h38, cond_true, chk_pos (by omega), show ((1 : Int)).toNat = 1 from rfl, ext_D, L_B]
      exact adv T LL t15 n hn h l (s1.drop 1) (s1.drop 1) G (by rw [List.length_drop]; omega) (by rw [List.length_drop]; omega) h.hg (by omega) rfl rfl l' t' a' b'
    | false =>
      simp only [Bool.false_eq_true, if_false, Option.bind_some, Bool.not_false, cond_true]
      have hR : (bif !(s1 == []) then chk (0 ≤ (0 : Int) ∧ (0 : Int) < ((B s1).size : Int)) (bif (bt (B s1) 0 == 38) then
            chk (0 ≤ (1 : Int) ∧ (1 : Int) ≤ ((B s1).size : Int)) (Ref3.New.j2 T LL n (((G.foldl stepG ([], [], 0)).2.2.toNat : Nat) : Int) o' l' t' a' b' W (B (bys G)) (G.map (·.2)) ((B s1).extract (1 : Int).toNat (B s1).size))
          else (bif !((G.foldl stepG ([], [], 0)).2.2 == 0) then (Ref3.reader.wrong o' l' t' a' b' W (IntKind.i64.wrap ((n : Int) + 1))).bind fun x => Ref3.New.j2 T LL n (((G.foldl stepG ([], [], 0)).2.2.toNat : Nat) : Int) x.1 x.2.1 x.2.2.1 x.2.2.2.1 x.2.2.2.2.1 x.2.2.2.2.2 (B (bys G)) (G.map (·.2)) (B s1) else (Ref3.written.add (B (bys G)) (G.map (·.2)) ⟨#[32]⟩ (IntKind.i64.wrap ((n : Int) + 1))).bind fun x => Ref3.New.j2 T LL n (((G.foldl stepG ([], [], 0)).2.2.toNat : Nat) : Int) o' l' t' a' b' W x.1 x.2 (B s1)))
          else (bif false then
            chk (0 ≤ (1 : Int) ∧ (1 : Int) ≤ ((B s1).size : Int)) (Ref3.New.j2 T LL n (((G.foldl stepG ([], [], 0)).2.2.toNat : Nat) : Int) o' l' t' a' b' W (B (bys G)) (G.map (·.2)) ((B s1).extract (1 : Int).toNat (B s1).size))
          else (bif !((G.foldl stepG ([], [], 0)).2.2 == 0) then (Ref3.reader.wrong o' l' t' a' b' W (IntKind.i64.wrap ((n : Int) + 1))).bind fun x => Ref3.New.j2 T LL n (((G.foldl stepG ([], [], 0)).2.2.toNat : Nat) : Int) x.1 x.2.1 x.2.2.1 x.2.2.2.1 x.2.2.2.2.1 x.2.2.2.2.2 (B (bys G)) (G.map (·.2)) (B s1) else (Ref3.written.add (B (bys G)) (G.map (·.2)) ⟨#[32]⟩ (IntKind.i64.wrap ((n : Int) + 1))).bind fun x => Ref3.New.j2 T LL n (((G.foldl stepG ([], [], 0)).2.2.toNat : Nat) : Int) o' l' t' a' b' W x.1 x.2 (B s1)))) =
          (bif !((G.foldl stepG ([], [], 0)).2.2 == 0) then (Ref3.reader.wrong o' l' t' a' b' W (IntKind.i64.wrap ((n : Int) + 1))).bind fun x => Ref3.New.j2 T LL n (((G.foldl stepG ([], [], 0)).2.2.toNat : Nat) : Int) x.1 x.2.1 x.2.2.1 x.2.2.2.1 x.2.2.2.2.1 x.2.2.2.2.2 (B (bys G)) (G.map (·.2)) (B s1) else (Ref3.written.add (B (bys G)) (G.map (·.2)) ⟨#[32]⟩ (IntKind.i64.wrap ((n : Int) + 1))).bind fun x => Ref3.New.j2 T LL n (((G.foldl stepG ([], [], 0)).2.2.toNat : Nat) : Int) o' l' t' a' b' W x.1 x.2 (B s1)) := by
        by_cases hne : s1 = []
        · rw [hne]; rfl
        · have hp := List.length_pos_iff.2 hne
          rw [show (s1 == []) = false from beq_eq_false_iff_ne.2 hne, Bool.not_false, cond_true, chk_pos (by omega), show bt (B s1) 0 = ((s1.getD 0 0).toNat : Int) from rfl, show ∀ x : UInt8, ((x.toNat : Int) == 38) = (x == 38) from fun x => beq_u8 x 38 (by omega), h38, cond_false]
      rw [hR, hw1]
      cases hz : ((G.foldl stepG ([], [], 0)).2.2 == 0) with
      | false =>
        simp only [Bool.not_false, cond_true]
        rw [fail_eq, wrong_eq]
        simp only [Option.bind_some]
        exact adv T LL t15 n hn (h.fail (by omega : (0 : Int) < ((n + 1 : Nat) : Int))) l s1 s1 G (by omega) (by omega) h.hg (by omega) rfl rfl l' t' a' b'
      | true =>
        have hz0 := beq_iff_eq.1 hz
        simp only [Bool.not_true, cond_false]
        have hs32 : (⟨#[32]⟩ : ByteArray).size = 1 := rfl
        rw [chk_pos (by omega), show (⟨#[32]⟩ : ByteArray) ++ B s1 = B (32 :: s1) from B_appR [32] s1, show Ref3.written.add (B (bys G)) (G.map (·.2)) ⟨#[32]⟩ ((n + 1 : Nat) : Int) = _ from add_eq G [32] ((n + 1 : Nat) : Int) (by decide) (by omega)]
        simp only [Option.bind_some]
        refine adv T LL t15 n hn h l (32 :: s1) s1 (G ++ tag ((n + 1 : Nat) : Int) [32]) (by rw [List.length_cons]; omega) (by omega) (good_app h.hg (good_tag (by omega) _)) (by rw [List.length_append, tag_len]; simp) ?_ ?_ l' t' a' b'
        · rw [hz0, zOf_sp, List.append_assoc]
          rfl
        · rw [hz0, zOf_sp]
  unfold Src.New.j0 Ref3.New.j0
  simp only [letk]
  rw [open_eq G (by omega), hfq, c1, c2, hqz]
  simp only [Option.bind_some]
  rw [hqz2, hw1]
  by_cases hg : 0 < goes
  · rw [decide_eq_true (by omega : goes > 0), cond_true]
    cases ((G.foldl stepG ([], [], 0)).2.2 == 0) with
    | false => exact hon hg
    | true =>
      simp only [cond_true]
      cases cmt s with
      | true => exact ⟨_, _, _, _, _, _, _, _, _, _, _, _, _, _, G, rfl, rfl, h.mono (Nat.le_succ n)⟩
      | false => exact hon hg
  · have hg0 : goes = 0 := by have := h.g0.1; omega
    have hG : G = [] := h.gG hg0
    subst hG
    rw [decide_eq_false (by omega : ¬ goes > 0), cond_false]
    have hj1 : Ref3.New.j1 T LL goes n (B s) ((((([] : List PL)).foldl stepG ([], [], 0)).2.2.toNat : Nat) : Int) o' l' t' a' b' W (B (bys [])) (([] : List PL).map (·.2)) = Ref3.New.j2 T LL n ((((([] : List PL)).foldl stepG ([], [], 0)).2.2.toNat : Nat) : Int) o' l' t' a' b' W (B (bys [])) (([] : List PL).map (·.2)) (B s) := by
      unfold Ref3.New.j1
      simp only [letk]
      rw [decide_eq_false (by omega : ¬ goes > 0), cond_false]
    rw [hj1]
    show ∃ o2 w2 b2 l2 a2 t2 q2 g2 o1 l1 t1 a1 b1 W1 G1, _ ∧ (bif true then _ else _) = _ ∧ _
    simp only [cond_true]
    cases hc : cmt s with
    | false => exact adv T LL t15 n hn h l s s [] (by omega) (by omega) h.hg (by simp) rfl rfl l' t' a' b'
    | true =>
      simp only [cond_true]
      obtain ⟨z1, z2⟩ := cmt_z s hc
      obtain ⟨o2, w2, b2, l2, a2, t2, q2, g2, o1, l1, t1, a1, b1, W1, G1, k1, k2, k3⟩ := adv T LL t15 n hn h l s s [] (by omega) (by omega) h.hg (by simp) rfl rfl l' t' a' b'
      -- ours goes through it, and nothing comes
      obtain ⟨o3, l3, a3, hF, hFl⟩ := (fresh_l0 ((n + 1 : Nat) : Int) (by omega) s.length s (Nat.le_refl _) (by omega) o w b l a [] (fun p hp => by cases hp) (by decide) (by have := h.l1; omega) h.w0 (fun h => absurd rfl h)).ok
      rw [bys_fold0] at hF
      obtain ⟨qq1, qq2⟩ := quiet_blank _ z2
      have hst := step_quiet ((n + 1 : Nat) : Int) (zOf s 0).1 [] [] 0 qq1
      have hpe : pE (tag ((n + 1 : Nat) : Int) (zOf s 0).1) = 0 := by unfold pE pieceE; rw [if_pos (by rw [bys_tag]; exact tr_nil' z2)]
      have hpl : pL (tag ((n + 1 : Nat) : Int) (zOf s 0).1) = [] := by unfold pL pieceL; rw [if_pos (by rw [bys_tag]; exact tr_nil' z2)]
      rcases hF with ⟨f1, _⟩ | ⟨_, f2, f3⟩
      · rw [z1] at f1; cases f1
      · rw [hst] at f2 f3
        have hall : allG ([], [] ++ tag ((n + 1 : Nat) : Int) (zOf s 0).1, (zOf s 0).1.foldl nx 0) = [tag ((n + 1 : Nat) : Int) (zOf s 0).1] := rfl
        have hWF : WF w [tag ((n + 1 : Nat) : Int) (zOf s 0).1] = w := by show mw w (pE _) = w; rw [hpe, mw_zero]
        rw [hall, hWF] at f2 f3
        rw [LF_one, hpl, List.append_nil] at f3
        have hsrc : Src.New.j1 T LL t15 n o w b l a t q (B s) = some (.inl (o3, w, false, 0, 0, ⟨#[]⟩, 0, 0, ((n + 1 : Nat) : Int))) := by
          unfold Src.New.j1 Src.reader.fresh
          simp only [letk]
          have e : Src.reader.fresh.l0 ((n + 1 : Nat) : Int) o w b l a t q (B s) = some (o3, w, false, 0, 0, ⟨#[]⟩, 0, false) := by rw [h.ht, hq]; exact f2
          rw [hw1, e]
          rfl
        have hmm := h.l1
        refine ⟨_, _, _, _, _, _, _, _, _, _, _, _, _, _, [], hsrc, by rw [hg0], ⟨⟨Int.le_refl _, by omega⟩, fun _ => rfl, fun h => absurd h (Int.lt_irrefl _), h.hg, h.hw, h.W0, fun hz => ?_, rfl, rfl, fun h => absurd rfl h, by omega, Nat.le_trans h.l2 (Nat.mul_le_mul_right _ (by omega))⟩⟩
        rw [f3 hz]; exact h.ho hz
end Go.Q
namespace Go.Q
open Go

theorem new_loop (T : ByteArray) (ls : List BS) (hc : ls.length < 2 ^ 14) (hl : ∀ x ∈ ls, x.length ≤ 9000) : ∀ (k n : Nat), n + k = ls.length → ∀ {goes o w b a t q o' W G}, NI n goes o w b a t q o' W G → ∀ (l l' : Int) (t' : ByteArray) (a' : Int) (b' : Bool),
    ∃ v : List api.Line × Int × Int, v.1.length < 2 ^ 40 ∧ Src.New.l0 T (ls.map B) ((ls.map B).length : Int) o w b l a t q goes n = some v ∧ Ref3.New.l0 T (ls.map B) o' l' t' a' b' W (B (bys G)) (G.map (·.2)) goes n = some v := by
  have hml : (ls.map B).length = ls.length := List.length_map _
  intro k
  induction k with
  | zero =>
    intro n hn goes o w b a t q o' W G h l l' t' a' b'
    have hb1 : n * 10010 ≤ 2 ^ 14 * 10010 := Nat.mul_le_mul_right _ (by omega)
    have hL1 := h.l1
    have hL2 := h.l2
    rw [Src.New.l0_eq, Ref3.New.l0_eq, Src.New.s0, Ref3.New.s0]
    simp only [letk]
    rw [hml, decide_eq_false (by omega : ¬ (n : Int) < (ls.length : Int)), cond_false, cond_false]
    by_cases hg : 0 < goes
    · rw [decide_eq_true (by omega : goes > 0), cond_true, cond_true, fail_eq, wrong_eq]
      simp only [Option.bind_some]
      have hf := h.fail hg
      have hb := h.gb hg
      subst hb
      have hcur : (G.foldl stepG ([], [], 0)).2.1.length ≤ G.length := by have := step_len G ([], [], 0); simpa using this
      obtain ⟨o1, k1, k2, k3⟩ := overP o (failN w goes) l a _ h.cur (by omega) (by omega) hf.w0 h.hat
      rw [← fold_cur G [] [] 0 rfl, ← h.ht, ← h.hq] at k1
      rw [k1]
      obtain ⟨o2, l2, t2, a2, b2, m1, m2, m3⟩ := statements_eq G h.hg (by omega) o' l' t' a' b' (failN W goes) (by omega) hf.W0
      have hww : WF (failN W goes) (allG (G.foldl stepG ([], [], 0))) = mw (failN w goes) (pE (G.foldl stepG ([], [], 0)).2.1) := by
        unfold allG
        rw [WF_app, ← hf.hw]; rfl
      rw [m1, hww]
      simp only [Option.bind_some]
      have hpos := failN_pos h.w0 hg
      have hge := mw_ge hf.w0 (pE_ge h.cur)
      obtain ⟨v, hv, f1, f2⟩ := answer_told o1 (mw (failN w goes) (pE (G.foldl stepG ([], [], 0)).2.1)) false 0 0 ⟨#[]⟩ 0 T o2 l2 t2 a2 b2 hge (fun hz => by have := (mw_none hf.w0 (pE_ge h.cur) hz).1; omega) (o.length + 1) k3
      rw [f1, f2]
      exact ⟨v, by omega, rfl, rfl⟩
    · have hg0 : goes = 0 := by have := h.g0.1; omega
      have hG := h.gG hg0
      subst hG
      rw [decide_eq_false (by omega : ¬ goes > 0), cond_false, cond_false]
      have hw : w = W := h.hw
      subst hw
      obtain ⟨v, hv, f1, f2⟩ := answer_told o w b l a t q T o' l' t' a' b' h.W0 (fun hz => by have := h.ho hz; rw [this]; show o' ++ [] = o'; rw [List.append_nil]) (n * 10010) hL1
      rw [f1, f2]
      exact ⟨v, by omega, rfl, rfl⟩
  | succ k ih =>
    intro n hn goes o w b a t q o' W G h l l' t' a' b'
    have hlt : n < ls.length := by omega
    have hls := hl _ (List.getElem_mem hlt)
    have hget : (ls.map B)[n]? = some (B ls[n]) := by rw [List.getElem?_map, List.getElem?_eq_getElem hlt]; rfl
    have hw1 : IntKind.i64.wrap ((n : Int) + 1) = ((n + 1 : Nat) : Int) := by rw [w64n (by omega) (by omega)]; rfl
    have hsz : (B ls[n]).size = ls[n].length := rfl
    rw [Src.New.l0_eq, Ref3.New.l0_eq, Src.New.s0, Ref3.New.s0]
    simp only [letk]
    rw [hml, decide_eq_true (by omega : (n : Int) < (ls.length : Int)), cond_true, cond_true, chk_pos (by omega), chk_pos (by omega), Int.toNat_natCast, hget]
    simp only [Option.bind_some]
    rw [isText_eq _ (by omega), isLine_eq _ 132 (by omega), hw1]
    simp only [Option.bind_some]
    have tail : ∀ {o w b a t q o' W}, NI n goes o w b a t q o' W G →
        ∃ v : List api.Line × Int × Int, v.1.length < 2 ^ 40 ∧ (Src.New.j0 T (ls.map B) (ls.length : Int) goes n (B ls[n]) o w b l a t q).bind (Sum.elim (fun v => Src.New.l0 T (ls.map B) (ls.length : Int) v.1 v.2.1 v.2.2.1 v.2.2.2.1 v.2.2.2.2.1 v.2.2.2.2.2.1 v.2.2.2.2.2.2.1 v.2.2.2.2.2.2.2.1 v.2.2.2.2.2.2.2.2) some) = some v ∧ (Ref3.New.j0 T (ls.map B) goes n (B ls[n]) o' l' t' a' b' W (B (bys G)) (G.map (·.2))).bind (Sum.elim (fun v => Ref3.New.l0 T (ls.map B) v.1 v.2.1 v.2.2.1 v.2.2.2.1 v.2.2.2.2.1 v.2.2.2.2.2.1 v.2.2.2.2.2.2.1 v.2.2.2.2.2.2.2.1 v.2.2.2.2.2.2.2.2.1 v.2.2.2.2.2.2.2.2.2) some) = some v := by
      intro o w b a t q o' W h
      obtain ⟨o2, w2, b2, l2, a2, t2, q2, g2, o1, l1, t1, a1, b1, W1, G1, k1, k2, k3⟩ := line_new T (ls.map B) (ls.length : Int) n (by omega) h l ls[n] hls l' t' a' b'
      rw [k1, k2]
      have := ih (n + 1) (by omega) k3 l2 l1 t1 a1 b1
      rw [hml] at this
      exact this
    have hj4 : ∀ x : Bool, Src.New.j4 T (ls.map B) (ls.length : Int) goes n (B ls[n]) o w b l a t q x = (bif x then Src.New.j0 T (ls.map B) (ls.length : Int) goes n (B ls[n]) o (failN w ((n + 1 : Nat) : Int)) b l a t q else Src.New.j0 T (ls.map B) (ls.length : Int) goes n (B ls[n]) o w b l a t q) := by
      intro x
      unfold Src.New.j4
      simp only [letk]
      rw [hw1, fail_eq]
      cases x <;> rfl
    have hneg : decide (((B ls[n]).size : Int) > 132) = !(decide ((ls[n].length : Int) ≤ 132)) := by rw [← decide_not, decide_eq_decide]; omega
    rw [hj4, hj4, hneg, wrong_eq]
    simp only [Option.bind_some]
    have hf := h.fail (by omega : (0 : Int) < ((n + 1 : Nat) : Int))
    cases ls[n].all okB with
    | false => exact tail hf
    | true =>
      cases decide ((ls[n].length : Int) ≤ 132) with
      | false => exact tail hf
      | true => exact tail h
theorem news_eq (x : BS) (hx : x.length ≤ 9000) : ∃ v : List api.Line × Int × Int, v.1.length < 2 ^ 40 ∧ Src.New (B x) = some v ∧ Ref3.New (B x) = some v := by
  obtain ⟨h1, h2⟩ := linesL_len x []
  simp only [List.length_nil, Nat.add_zero] at h1 h2
  unfold Src.New Ref3.New
  rw [lines_eq x (by omega), split_eq x (by omega)]
  simp only [Option.bind_some, letk]
  exact new_loop (B x) (linesL x []) (by omega) (fun y hy => by have := h2 y hy; omega) _ 0 (by rw [Nat.zero_add]) (goes := 0) (o := []) (w := 0) (b := false) (a := 0) (t := ⟨#[]⟩) (q := 0) (o' := []) (W := 0) (G := []) ⟨⟨Int.le_refl _, Int.le_refl _⟩, fun _ => rfl, fun h => absurd h (Int.lt_irrefl _), (fun p hp => by cases hp), rfl, Int.le_refl _, fun _ => rfl, rfl, rfl, fun h => absurd rfl h, Nat.zero_le _, Nat.zero_le _⟩ 0 0 ⟨#[]⟩ 0 false
theorem FormNews_of (hA : Law3.Awake = some true) (x : ByteArray) : Law3.FormNews x = some true := by
  unfold Law3.FormNews
  simp only [letk]
  rw [hA]
  by_cases h : (x.size : Int) > 9000
  · rw [decide_eq_true h]; rfl
  · rw [decide_eq_false h, cond_false]
    have hx : (L x).length ≤ 9000 := by rw [L_len]; omega
    obtain ⟨⟨v, c, d⟩, h1, h2, h3⟩ := news_eq (L x) hx
    rw [B_L] at h2 h3
    rw [h2, h3]
    simp only [Option.bind_some]
    have hs : Ref3.SameLines v v true = some true := by
      unfold Ref3.SameLines
      simp only [letk]
      rw [show ((v.length : Int) != (v.length : Int)) = false from bne_self_eq_false _, cond_false]
      exact same_self v h1 _ 0 (by rw [Nat.zero_add])
    rw [hs]
    simp only [beq_self_eq_true, cond_true, Option.bind_some]
end Go.Q
