import Derived.Test.YthdklcpkoeehnaaDoorQT7
import Derived.Lib.Bytealg
namespace Go.Q
open Go Go.Proofs
set_option maxRecDepth 10000

theorem hasPrefix0_ok (s p : ByteArray) (hs : s.size < 2 ^ 62) (hp : p.size < 2 ^ 62) : Gives Tryd.prog 47 [.lit (.string s), .lit (.string p)] (.lit (.bool ((L p).isPrefixOf (L s)))) := by
  refine ACalls.of_swp Tryd.func47 rfl (by decide) rfl (st0 := ⟨18, [(0, .lit (.string s)), (1, .lit (.string p))], []⟩) rfl (awp_ok ?_)
  have h1 := L_len s
  have h2 := L_len p
  repeat' ((conv => whnf); first
    | refine Arith.mk ⟨_, w64 (by omega), ?_⟩
    | refine Side.mk (by first | omega | (simp (disch := omega) only [w64]; omega) | (simp; omega) | (simp_all; done)) ?_
    | refine Arith.mk ⟨_, rfl, ?_⟩
    | ((refine ifB_intro (fun hb => ?_) (fun hb => ?_)) <;> (try simp only [List.length_map, decide_eq_true_eq, decide_eq_false_iff_not, beq_iff_eq, bne_iff_ne, beq_eq_false_iff_ne, bne_eq_false_iff_eq, ne_eq, Bool.not_eq_true', Bool.not_eq_false', Bool.not_eq_true, Bool.not_eq_false] at hb))
    | exact Returns.pure (r := .lit (.bool _)) rfl rfl rfl rfl ⟨by first | (refine lb_ext ?_; rw [toList_L, toList_L, L_ext]; simp only [List.drop_zero, beq_iff_eq, List.isPrefixOf_iff_prefix, Int.toNat_natCast, ← h2]; exact ⟨fun e => e ▸ List.take_prefix _ _, fun e => (List.prefix_iff_eq_take.1 e).symm⟩) | (refine lb_ext ?_; simp only [List.isPrefixOf_iff_prefix]; refine ⟨fun e => by simp at e, fun e => ?_⟩; have := e.length_le; omega), rfl⟩
    | (exfalso; omega))

theorem hasPrefix_ok (s p : ByteArray) (hs : s.size < 2 ^ 62) (hp : p.size < 2 ^ 62) : Gives Tryd.prog 29 [.lit (.string s), .lit (.string p)] (.lit (.bool ((L p).isPrefixOf (L s)))) := by
  refine ACalls.of_swp Tryd.func29 rfl (by decide) rfl (st0 := ⟨8, [(0, .lit (.string s)), (1, .lit (.string p))], []⟩) rfl (awp_ok ?_)
  repeat' ((conv => whnf); first
    | refine Arith.mk ⟨_, w64 (by omega), ?_⟩
    | refine Side.mk (by first | omega | (simp (disch := omega) only [w64]; omega) | (simp; omega) | (simp_all; done)) ?_
    | refine Arith.mk ⟨_, rfl, ?_⟩
    | ((refine ifB_intro (fun hb => ?_) (fun hb => ?_)) <;> (try simp only [List.length_map, decide_eq_true_eq, decide_eq_false_iff_not, beq_iff_eq, bne_iff_ne, beq_eq_false_iff_ne, bne_eq_false_iff_eq, ne_eq, Bool.not_eq_true', Bool.not_eq_false', Bool.not_eq_true, Bool.not_eq_false] at hb))
    | (refine CallN.gives (hasPrefix0_ok s p hs hp) rfl ?_)
    | exact Returns.pure (r := .lit (.bool _)) rfl rfl rfl rfl ⟨by rfl, rfl⟩
    | (exfalso; omega))

theorem Gives.extern {P : Program} {g : FuncId} {fn : Func} {ext : Array Value → Sem Value} (hf : P.funcs[g]? = some fn) (hname : (fn.name == "runtime.NumGoroutine") = false) (hb : fn.body.isNone = true) (hn : Extern.findNext fn = none) (he : Extern.find fn = some ext)
    {vs : List Value} {v : Value} (h : ∀ w, (ext vs.toArray).run P w = .ok v w) : Gives P g (vs.map .lit) (.lit v) := by
  intro I μ w vals H hA
  obtain ⟨hn1, hA⟩ := hA
  have e : vals = vs.toArray := by
    simp only [List.length_map] at hn1 hA
    apply Array.ext
    · simpa using hn1
    · intro i h1 h2
      have := hA i (by omega)
      simp only [List.getElem_map] at this
      have := this.lit_eq
      rw [getD_of h1] at this
      simpa using this
  subst e
  refine .inr ⟨v, w, by rw [run_callFunc_extern hf hname hb hn he, h w]; rfl, v, .lit v, [], I, μ, rfl, ⟨rfl, rfl⟩, H, .lit _ _, Step.refl _ _ _, Pre.refl _ _ (by have := H.len; omega)⟩

theorem indexByteString_ok (s : ByteArray) (c : Int) : Gives Tryd.prog 77 [.lit (.string s), .lit (.int .u8 c)] (.lit (.int .i64 (Lib.indexByte (L s) c.toNat.toUInt8))) :=
  Gives.extern Tryd.func77 (by kernel_rfl) (by kernel_rfl) (by kernel_rfl) (ext := Extern.BytealgIndexByte.indexByte) (by kernel_rfl) (vs := [.string s, .int .u8 c]) (fun w => Lib.run_indexByteString s c w)

theorem indexByte_ok (s : ByteArray) (c : Int) : Gives Tryd.prog 72 [.lit (.string s), .lit (.int .u8 c)] (.lit (.int .i64 (Lib.indexByte (L s) c.toNat.toUInt8))) := by
  refine ACalls.of_swp Tryd.func72 rfl (by decide) rfl (st0 := ⟨8, [(0, .lit (.string s)), (1, .lit (.int .u8 c))], []⟩) rfl (awp_ok ?_)
  repeat' ((conv => whnf); first
    | refine Arith.mk ⟨_, w64 (by omega), ?_⟩
    | refine Side.mk (by first | omega | (simp (disch := omega) only [w64]; omega) | (simp; omega) | (simp_all; done)) ?_
    | refine Arith.mk ⟨_, rfl, ?_⟩
    | ((refine ifB_intro (fun hb => ?_) (fun hb => ?_)) <;> (try simp only [List.length_map, decide_eq_true_eq, decide_eq_false_iff_not, beq_iff_eq, bne_iff_ne, beq_eq_false_iff_ne, bne_eq_false_iff_eq, ne_eq, Bool.not_eq_true', Bool.not_eq_false', Bool.not_eq_true, Bool.not_eq_false] at hb))
    | (refine CallN.gives (indexByteString_ok s c) rfl ?_)
    | exact Returns.pure (r := .lit (.int _ _)) rfl rfl rfl rfl ⟨by rfl, rfl⟩
    | (exfalso; omega))

theorem bt_L (s : ByteArray) (i : Int) : bt s i = (((L s).getD i.toNat 0).toNat : Int) := rfl
theorem index_self {l : BS} {c : Int} (h : l.length = 1) (hc : c = ((l.getD (0 : Int).toNat 0).toNat : Int)) : Lib.indexByte l c.toNat.toUInt8 = 0 := by
  match l, h with
  | [b], _ =>
    subst hc
    simp [Lib.indexByte]

theorem indexOne_ok (s : ByteArray) (p : ByteArray) (hp : p.size = 1) : Gives Tryd.prog 63 [.lit (.string s), .lit (.string p)] (.lit (.int .i64 (Lib.indexByte (L s) (bt p 0).toNat.toUInt8))) := by
  refine ACalls.of_swp Tryd.func63 rfl (by decide) rfl (st0 := ⟨143, [(0, .lit (.string s)), (1, .lit (.string p))], []⟩) rfl (awp_ok ?_)
  repeat' ((conv => whnf); first
    | refine Arith.mk ⟨_, w64 (by omega), ?_⟩
    | refine Side.mk (by first | omega | (simp (disch := omega) only [w64]; omega) | (simp; omega) | (simp_all; done)) ?_
    | refine Arith.mk ⟨_, rfl, ?_⟩
    | ((refine ifB_intro (fun hb => ?_) (fun hb => ?_)) <;> (try simp only [List.length_map, decide_eq_true_eq, decide_eq_false_iff_not, beq_iff_eq, bne_iff_ne, beq_eq_false_iff_ne, bne_eq_false_iff_eq, ne_eq, Bool.not_eq_true', Bool.not_eq_false', Bool.not_eq_true, Bool.not_eq_false] at hb))
    | (refine CallN.gives (indexByte_ok s _) rfl ?_)
    | exact Returns.pure (r := .lit (.int _ _)) rfl rfl rfl rfl ⟨by first | rfl | (exfalso; omega) | (exact li_ext (by rw [toList_L, toList_L] at hb; exact (index_self (by rw [← hb, L_len, hp]) (by rw [bt_L, hb])).symm)), rfl⟩
    | (exfalso; omega))

theorem strIndexOne_ok (s : ByteArray) (p : ByteArray) (hp : p.size = 1) : Gives Tryd.prog 54 [.lit (.string s), .lit (.string p)] (.lit (.int .i64 (Lib.indexByte (L s) (bt p 0).toNat.toUInt8))) := by
  refine ACalls.of_swp Tryd.func54 rfl (by decide) rfl (st0 := ⟨8, [(0, .lit (.string s)), (1, .lit (.string p))], []⟩) rfl (awp_ok ?_)
  repeat' ((conv => whnf); first
    | refine Arith.mk ⟨_, w64 (by omega), ?_⟩
    | refine Side.mk (by first | omega | (simp (disch := omega) only [w64]; omega) | (simp; omega) | (simp_all; done)) ?_
    | refine Arith.mk ⟨_, rfl, ?_⟩
    | ((refine ifB_intro (fun hb => ?_) (fun hb => ?_)) <;> (try simp only [List.length_map, decide_eq_true_eq, decide_eq_false_iff_not, beq_iff_eq, bne_iff_ne, beq_eq_false_iff_ne, bne_eq_false_iff_eq, ne_eq, Bool.not_eq_true', Bool.not_eq_false', Bool.not_eq_true, Bool.not_eq_false] at hb))
    | (refine CallN.gives (indexOne_ok s p hp) rfl ?_)
    | exact Returns.pure (r := .lit (.int _ _)) rfl rfl rfl rfl ⟨by rfl, rfl⟩
    | (exfalso; omega))

theorem containsOne_ok (s : ByteArray) (p : ByteArray) (hp : p.size = 1) : Gives Tryd.prog 45 [.lit (.string s), .lit (.string p)] (.lit (.bool (decide (0 ≤ Lib.indexByte (L s) (bt p 0).toNat.toUInt8)))) := by
  refine ACalls.of_swp Tryd.func45 rfl (by decide) rfl (st0 := ⟨9, [(0, .lit (.string s)), (1, .lit (.string p))], []⟩) rfl (awp_ok ?_)
  repeat' ((conv => whnf); first
    | refine Arith.mk ⟨_, w64 (by omega), ?_⟩
    | refine Side.mk (by first | omega | (simp (disch := omega) only [w64]; omega) | (simp; omega) | (simp_all; done)) ?_
    | refine Arith.mk ⟨_, rfl, ?_⟩
    | ((refine ifB_intro (fun hb => ?_) (fun hb => ?_)) <;> (try simp only [List.length_map, decide_eq_true_eq, decide_eq_false_iff_not, beq_iff_eq, bne_iff_ne, beq_eq_false_iff_ne, bne_eq_false_iff_eq, ne_eq, Bool.not_eq_true', Bool.not_eq_false', Bool.not_eq_true, Bool.not_eq_false] at hb))
    | (refine CallN.gives (strIndexOne_ok s p hp) rfl ?_)
    | exact Returns.pure (r := .lit (.bool _)) rfl rfl rfl rfl ⟨by rfl, rfl⟩
    | (exfalso; omega))
end Go.Q
