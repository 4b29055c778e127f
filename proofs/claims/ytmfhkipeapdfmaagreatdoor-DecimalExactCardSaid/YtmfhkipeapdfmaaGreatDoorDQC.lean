import Derived.Test.YtmfhkipeapdfmaaGreatDoorDQB
namespace Go.Q
open Go Go.Proofs
set_option maxRecDepth 100000
def zT (sg:Int):BS:=ptD sg (List.replicate 41 48) 40
theorem zero_run:∀ mode:Int,0 ≤ mode ∧ mode < 4 → ∀ a:Int,a = 0 ∨ a = 32768 ∨ a = 31744 ∨ a = 64512 → ∃ t,Dec.Fixed 2 mode a 40 = some (t,0) ∧ Dec.Read t 2 mode = some (a,0,0):=by
  intro mode hm a ha
  have h4:mode = 0 ∨ mode = 1 ∨ mode = 2 ∨ mode = 3:=by omega
  rcases h4 with rfl | rfl | rfl | rfl <;> rcases ha with rfl | rfl | rfl | rfl
  · exact ⟨B (zT 0),(Dec.Fixed.c_le _ _ _ _).of (by kernel_rfl),(Dec.Read.c_le _ _ _).of (by kernel_rfl)⟩
  · exact ⟨B (zT 1),(Dec.Fixed.c_le _ _ _ _).of (by kernel_rfl),(Dec.Read.c_le _ _ _).of (by kernel_rfl)⟩
  · exact ⟨B infB,(Dec.Fixed.c_le _ _ _ _).of (by kernel_rfl),(Dec.Read.c_le _ _ _).of (by kernel_rfl)⟩
  · exact ⟨B (45 :: infB),(Dec.Fixed.c_le _ _ _ _).of (by kernel_rfl),(Dec.Read.c_le _ _ _).of (by kernel_rfl)⟩
  · exact ⟨B (zT 0),(Dec.Fixed.c_le _ _ _ _).of (by kernel_rfl),(Dec.Read.c_le _ _ _).of (by kernel_rfl)⟩
  · exact ⟨B (zT 1),(Dec.Fixed.c_le _ _ _ _).of (by kernel_rfl),(Dec.Read.c_le _ _ _).of (by kernel_rfl)⟩
  · exact ⟨B infB,(Dec.Fixed.c_le _ _ _ _).of (by kernel_rfl),(Dec.Read.c_le _ _ _).of (by kernel_rfl)⟩
  · exact ⟨B (45 :: infB),(Dec.Fixed.c_le _ _ _ _).of (by kernel_rfl),(Dec.Read.c_le _ _ _).of (by kernel_rfl)⟩
  · exact ⟨B (zT 0),(Dec.Fixed.c_le _ _ _ _).of (by kernel_rfl),(Dec.Read.c_le _ _ _).of (by kernel_rfl)⟩
  · exact ⟨B (zT 1),(Dec.Fixed.c_le _ _ _ _).of (by kernel_rfl),(Dec.Read.c_le _ _ _).of (by kernel_rfl)⟩
  · exact ⟨B infB,(Dec.Fixed.c_le _ _ _ _).of (by kernel_rfl),(Dec.Read.c_le _ _ _).of (by kernel_rfl)⟩
  · exact ⟨B (45 :: infB),(Dec.Fixed.c_le _ _ _ _).of (by kernel_rfl),(Dec.Read.c_le _ _ _).of (by kernel_rfl)⟩
  · exact ⟨B (zT 0),(Dec.Fixed.c_le _ _ _ _).of (by kernel_rfl),(Dec.Read.c_le _ _ _).of (by kernel_rfl)⟩
  · exact ⟨B (zT 1),(Dec.Fixed.c_le _ _ _ _).of (by kernel_rfl),(Dec.Read.c_le _ _ _).of (by kernel_rfl)⟩
  · exact ⟨B infB,(Dec.Fixed.c_le _ _ _ _).of (by kernel_rfl),(Dec.Read.c_le _ _ _).of (by kernel_rfl)⟩
  · exact ⟨B (45 :: infB),(Dec.Fixed.c_le _ _ _ _).of (by kernel_rfl),(Dec.Read.c_le _ _ _).of (by kernel_rfl)⟩
theorem half_ok {a:Int} (h0:0 ≤ a) (h1:a < 65536):bitsOk 11 5 a:=by
  unfold bitsOk
  rintro ⟨_,h⟩
  have:(2:Nat) ^ (11 + 5) = 65536:=by decide
  omega
theorem half_cls {a:Int} (h0:0 ≤ a) (h1:a < 65536):(numS 11 5 a).class_ = 1 ∨ (numS 11 5 a).class_ = 3 ∨ ((numS 11 5 a).class_ = 0 ∨ (numS 11 5 a).class_ = 2) ∧ (a = 0 ∨ a = 32768 ∨ a = 31744 ∨ a = 64512):=by
  have hu:uS a < 2 ^ (11 + 5):=uS_lt k2.ok (half_ok h0 h1)
  obtain ⟨h2,h3⟩:=bits_split k2.ok hu
  have hua:(uS a:Int) = a:=by unfold uS; omega
  have e1:(2:Nat) ^ (11 + 5 - 1) = 32768:=by decide
  have e2:(2:Nat) ^ (11 - 1) = 1024:=by decide
  have e3:(2:Nat) ^ 5 - 1 = 31:=by decide
  rw [e1,e2] at h2
  show (readS 11 5 (uS a)).class_ = 1 ∨ (readS 11 5 (uS a)).class_ = 3 ∨ ((readS 11 5 (uS a)).class_ = 0 ∨ (readS 11 5 (uS a)).class_ = 2) ∧ _
  unfold readS
  rw [e3]
  split
  · rename_i c
    right; right
    exact ⟨.inr rfl,by omega⟩
  · split
    · exact .inr (.inl rfl)
    · split
      · rename_i c
        right; right
        exact ⟨.inl rfl,by omega⟩
      · split
        · exact .inl rfl
        · exact .inl rfl
theorem rClass {a:Int} (h0:0 ≤ a) (h1:a < 65536):∃ c:BS,Ref1.Class 2 a = some (B c) ∧ ((numS 11 5 a).class_ ≠ 3 → c ≠ bNone):=by
  have ht:=taken_eq k2 (half_ok h0 h1)
  have hv:Ref1.Valid 2 a = some true:=by
    unfold Ref1.Valid
    exact letT rfl (letT (decide_eq_true h0) (letV (decide_eq_true h1) rfl))
  unfold Ref1.Class
  have hcl:=(numS_ok k2.ok a).cls
  by_cases hc:(numS 11 5 a).class_ = 1
  · have hsz:∃ r,Ref1.size 2 a = some r:=⟨_,by unfold Ref1.size; exact letV rfl (letV rfl (letV rfl (chkE (by decide) (letV rfl (letV rfl (letV rfl (letV rfl rfl)))))))⟩
    obtain ⟨r,hr⟩:=hsz
    have hd:Ref1.Digits 2 = some 11:=rfl
    have hw:(takS (numS 11 5 a)).what = B [102,105,110,105,116,101]:=by unfold takS classN; rw [hc]; rfl
    rcases Bool.eq_false_or_eq_true (decide (r < IntKind.i64.wrap ((1:Int) * 2 ^ (min (IntKind.i64.wrap (11 - 1)).toNat (IntKind.i64).bits)))) with hx | hx
    · exact ⟨bLeast,bindE hv (letF rfl (bindE ht (letF (by rw [hw]; exact congrArg not (bq _ [102,105,110,105,116,101] rfl)) (bindE hr (bindE hd (letV rfl (chkE (by decide) (letV rfl (letT hx rfl))))))))),fun _=>by decide⟩
    · exact ⟨bNormal,bindE hv (letF rfl (bindE ht (letF (by rw [hw]; exact congrArg not (bq _ [102,105,110,105,116,101] rfl)) (bindE hr (bindE hd (letV rfl (chkE (by decide) (letV rfl (letF hx rfl))))))))),fun _=>by decide⟩
  · have hx:∃ c:BS,(takS (numS 11 5 a)).what = B c ∧ c ≠ [102,105,110,105,116,101] ∧ ((numS 11 5 a).class_ ≠ 3 → c ≠ bNone):=by
      unfold takS classN
      rcases hcl with h | h | h | h
      · rw [h]; exact ⟨[122,101,114,111],rfl,by decide,fun _=>by decide⟩
      · exact absurd h hc
      · rw [h]; exact ⟨[105,110,102,105,110,105,116,101],rfl,by decide,fun _=>by decide⟩
      · rw [h]; exact ⟨bNone,rfl,by decide,fun h=>absurd rfl h⟩
    obtain ⟨c,h2,h3,h4⟩:=hx
    refine ⟨c,bindE hv (letF rfl (bindE ht (letT ?_ ?_))),h4⟩
    · rw [h2,show (⟨#[102,105,110,105,116,101]⟩:ByteArray) = B [102,105,110,105,116,101] from rfl,eqB,decide_eq_false h3]; rfl
    · rw [h2]
theorem DecimalExact_eq (a mode:Int):Law2.DecimalExact a mode = some true:=by
  have aw:(Option.bind Law2.Awake fun t=>some t) = some true:=by rw [Law2.Awake_eq]; rfl
  unfold Law2.DecimalExact
  by_cases h0:a < 0
  · exact letT (decide_eq_true h0) aw
  · refine letF (decide_eq_false h0) ?_
    by_cases h1:a ≥ 65536
    · exact letT (decide_eq_true h1) aw
    · refine letF (decide_eq_false h1) ?_
      by_cases h2:mode < 0
      · exact letT (decide_eq_true h2) aw
      · refine letF (decide_eq_false h2) ?_
        by_cases h3:mode > 3
        · exact letT (decide_eq_true h3) aw
        · refine letF (decide_eq_false h3) ?_
          obtain ⟨c,hc1,hc2⟩:=rClass (a:=a) (by omega) (by omega)
          refine bindE hc1 ?_
          have hbn:(⟨#[110,111,110,101]⟩:ByteArray) = B bNone:=rfl
          by_cases hn:c = bNone
          · exact letT (by rw [hbn,eqB]; exact decide_eq_true hn) aw
          · refine letF (by rw [hbn,eqB]; exact decide_eq_false hn) ?_
            have hb:=half_ok (a:=a) (by omega) (by omega)
            have hmain:∃ t,Dec.Fixed 2 mode a 40 = some (t,0) ∧ Dec.Read t 2 mode = some (a,0,0):=by
              rcases half_cls (a:=a) (by omega) (by omega) with h | h | h
              · exact exact_back (by omega) (by omega) ⟨by omega,by omega⟩ hb h
              · -- such a one is none
                exfalso
                have ht:=taken_eq k2 hb
                have hv:Ref1.Valid 2 a = some true:=by
                  unfold Ref1.Valid
                  exact letT rfl (letT (decide_eq_true (by omega)) (letV (decide_eq_true (by omega)) rfl))
                have hw:(takS (numS 11 5 a)).what = B bNone:=by unfold takS classN; rw [h]; rfl
                have:Ref1.Class 2 a = some (B bNone):=by
                  unfold Ref1.Class
                  refine bindE hv (letF rfl (bindE ht (letT ?_ ?_)))
                  · rw [hw,show (⟨#[102,105,110,105,116,101]⟩:ByteArray) = B [102,105,110,105,116,101] from rfl,eqB]; rfl
                  · rw [hw]
                rw [hc1] at this
                exact hn (B_inj.1 (Option.some.inj this))
              · exact zero_run mode ⟨by omega,by omega⟩ a h.2
            obtain ⟨t,hf,hr⟩:=hmain
            unfold Law2.DecimalExact.j0
            exact bindE hf (bindE hr (letT rfl (letT rfl (letT (beq_self_eq_true a) (letT rfl aw)))))
end Go.Q
