import Derived.Test.YtmfhkipeapdfmaaGreatDoorBK8
import Derived.Test.YtmfhkipeapdfmaaGreatDoorDFB
namespace Go.Q
open Go Go.Proofs
set_option maxRecDepth 100000
def bZero:BS:=[122,101,114,111]
def zeroT:BS:=[48,46,48]
def edge (kind a:Int):Prop :=
  (kind = 2 ∧ (a = 0 ∨ a = 32768 ∨ a = 31744 ∨ a = 64512)) ∨ (kind = 4 ∧ (a = 0 ∨ a = 2147483648 ∨ a = 2139095040 ∨ a = 4286578688)) ∨ (kind = 8 ∧ (a = 0 ∨ a = -9223372036854775808 ∨ a = 9218868437227405312 ∨ a = -4503599627370496))
theorem edge_run {kind a:Int} (h:edge kind a):∃ t,Dec.Plain kind a = some (t,0) ∧ Dec.Read t kind 0 = some (a,0,0):=by
  rcases h with ⟨rfl,h⟩ | ⟨rfl,h⟩ | ⟨rfl,h⟩ <;> rcases h with rfl | rfl | rfl | rfl
  · exact ⟨B zeroT,(Dec.Plain.c_le _ _).of (by kernel_rfl),(Dec.Read.c_le _ _ _).of (by kernel_rfl)⟩
  · exact ⟨B (45 :: zeroT),(Dec.Plain.c_le _ _).of (by kernel_rfl),(Dec.Read.c_le _ _ _).of (by kernel_rfl)⟩
  · exact ⟨B infB,(Dec.Plain.c_le _ _).of (by kernel_rfl),(Dec.Read.c_le _ _ _).of (by kernel_rfl)⟩
  · exact ⟨B (45 :: infB),(Dec.Plain.c_le _ _).of (by kernel_rfl),(Dec.Read.c_le _ _ _).of (by kernel_rfl)⟩
  · exact ⟨B zeroT,(Dec.Plain.c_le _ _).of (by kernel_rfl),(Dec.Read.c_le _ _ _).of (by kernel_rfl)⟩
  · exact ⟨B (45 :: zeroT),(Dec.Plain.c_le _ _).of (by kernel_rfl),(Dec.Read.c_le _ _ _).of (by kernel_rfl)⟩
  · exact ⟨B infB,(Dec.Plain.c_le _ _).of (by kernel_rfl),(Dec.Read.c_le _ _ _).of (by kernel_rfl)⟩
  · exact ⟨B (45 :: infB),(Dec.Plain.c_le _ _).of (by kernel_rfl),(Dec.Read.c_le _ _ _).of (by kernel_rfl)⟩
  · exact ⟨B zeroT,(Dec.Plain.c_le _ _).of (by kernel_rfl),(Dec.Read.c_le _ _ _).of (by kernel_rfl)⟩
  · exact ⟨B (45 :: zeroT),(Dec.Plain.c_le _ _).of (by kernel_rfl),(Dec.Read.c_le _ _ _).of (by kernel_rfl)⟩
  · exact ⟨B infB,(Dec.Plain.c_le _ _).of (by kernel_rfl),(Dec.Read.c_le _ _ _).of (by kernel_rfl)⟩
  · exact ⟨B (45 :: infB),(Dec.Plain.c_le _ _).of (by kernel_rfl),(Dec.Read.c_le _ _ _).of (by kernel_rfl)⟩
theorem none_run {kind:Int} {p w:Nat} (h:kindS kind p w):∃ q,Dec.Read (B nanB) kind 0 = some (q,0,0) ∧ Ref1.Quiet kind = some q:=by
  rcases h with ⟨rfl,_⟩ | ⟨rfl,_⟩ | ⟨rfl,_⟩
  · exact ⟨32256,(Dec.Read.c_le _ _ _).of (by kernel_rfl),(Ref1.Quiet.c_le _).of (by kernel_rfl)⟩
  · exact ⟨2143289344,(Dec.Read.c_le _ _ _).of (by kernel_rfl),(Ref1.Quiet.c_le _).of (by kernel_rfl)⟩
  · exact ⟨9221120237041090560,(Dec.Read.c_le _ _ _).of (by kernel_rfl),(Ref1.Quiet.c_le _).of (by kernel_rfl)⟩
theorem edge_of {kind:Int} {p w:Nat} (h:kindS kind p w) {a:Int} (hi:I64 a) (hb:bitsOk p w a) (hc:(numS p w a).class_ = 0 ∨ (numS p w a).class_ = 2):edge kind a:=by
  have hu:uS a < 2 ^ (p + w):=uS_lt h.ok hb
  obtain ⟨h2,h3⟩:=bits_split h.ok hu
  have key:frcS p (uS a) = 0 ∧ (expS p w (uS a) = 0 ∨ expS p w (uS a) = 2 ^ w - 1):=by
    have hn:numS p w a = readS p w (uS a):=rfl
    rw [hn] at hc
    unfold readS at hc
    split at hc
    · rename_i c; exact ⟨c.2,.inr c.1⟩
    · split at hc
      · rcases hc with q | q <;> cases q
      · split at hc
        · rename_i c; exact ⟨c.2,.inl c.1⟩
        · split at hc <;> rcases hc with q | q <;> cases q
  rw [key.1] at h2
  unfold I64 at hi
  unfold edge
  have hua:(uS a:Int) = a % 18446744073709551616:=by unfold uS; omega
  generalize sgnS p w (uS a) = s at *
  generalize expS p w (uS a) = e at *
  rcases h with ⟨rfl,rfl,rfl⟩ | ⟨rfl,rfl,rfl⟩ | ⟨rfl,rfl,rfl⟩
  · left
    have e1:(2:Nat) ^ (11 + 5 - 1) = 32768:=by decide
    have e2:(2:Nat) ^ (11 - 1) = 1024:=by decide
    have e3:(2:Nat) ^ 5 - 1 = 31:=by decide
    have e4:(2:Nat) ^ (11 + 5) = 65536:=by decide
    rw [e1,e2] at h2; rw [e3] at key; rw [e4] at hu
    refine ⟨rfl,?_⟩
    unfold bitsOk at hb
    have hs:s = 0 ∨ s = 1:=by omega
    have ha:0 ≤ a ∨ a < 0:=by omega
    rcases hs with rfl | rfl <;> rcases key.2 with q | q <;> subst q <;> omega
  · right; left
    have e1:(2:Nat) ^ (24 + 8 - 1) = 2147483648:=by decide
    have e2:(2:Nat) ^ (24 - 1) = 8388608:=by decide
    have e3:(2:Nat) ^ 8 - 1 = 255:=by decide
    rw [e1,e2] at h2; rw [e3] at key
    refine ⟨rfl,?_⟩
    have hs:s = 0 ∨ s = 1:=by omega
    rcases hs with rfl | rfl <;> rcases key.2 with q | q <;> subst q <;> omega
  · right; right
    have e1:(2:Nat) ^ (53 + 11 - 1) = 9223372036854775808:=by decide
    have e2:(2:Nat) ^ (53 - 1) = 4503599627370496:=by decide
    have e3:(2:Nat) ^ 11 - 1 = 2047:=by decide
    rw [e1,e2] at h2; rw [e3] at key
    refine ⟨rfl,?_⟩
    have hs:s = 0 ∨ s = 1:=by omega
    rcases hs with rfl | rfl <;> rcases key.2 with q | q <;> subst q <;> omega
theorem rClassG {kind:Int} {p w:Nat} (h:kindS kind p w) {a:Int} (hi:I64 a) (hb:bitsOk p w a):∃ c:BS,Ref1.Class kind a = some (B c) ∧ ((numS p w a).class_ = 0 ∧ c = bZero ∨ (numS p w a).class_ = 1 ∧ (c = bLeast ∨ c = bNormal) ∨ (numS p w a).class_ = 2 ∧ c = bInf ∨ (numS p w a).class_ = 3 ∧ c = bNone):=by
  have ht:=taken_eq h hb
  have hv:=(rValid_eq h hi).trans (congrArg some (@decide_eq_true _ (Classical.propDecidable _) hb))
  have hf:(⟨#[102,105,110,105,116,101]⟩:ByteArray) = B [102,105,110,105,116,101]:=rfl
  have other:∀ c:BS,(takS (numS p w a)).what = B c → c ≠ [102,105,110,105,116,101] → Ref1.Class kind a = some (B c):=by
    intro c h2 h3
    unfold Ref1.Class
    refine bindE hv (letF rfl (bindE ht (letT ?_ ?_)))
    · rw [h2,hf,eqB,decide_eq_false h3]; rfl
    · rw [h2]
  rcases (numS_ok h.ok a).cls with hc | hc | hc | hc
  · exact ⟨bZero,other bZero (by unfold takS classN; rw [hc]; rfl) (by decide),.inl ⟨hc,rfl⟩⟩
  · have hw:(takS (numS p w a)).what = B [102,105,110,105,116,101]:=by unfold takS classN; rw [hc]; rfl
    have hsz:∃ r d,Ref1.size kind a = some r ∧ Ref1.Digits kind = some d ∧ 0 ≤ IntKind.i64.wrap (d - 1):=by
      rcases h with ⟨rfl,_⟩ | ⟨rfl,_⟩ | ⟨rfl,_⟩
      · exact ⟨_,11,by unfold Ref1.size; exact letV rfl (letV rfl (letV rfl (chkE (by decide) (letV rfl (letV rfl (letV rfl (letV rfl rfl))))))),rfl,by decide⟩
      · exact ⟨_,24,by unfold Ref1.size; exact letV rfl (letV rfl (letV rfl (chkE (by decide) (letV rfl (letV rfl (letV rfl (letV rfl rfl))))))),rfl,by decide⟩
      · exact ⟨_,53,by unfold Ref1.size; exact letV rfl (letV rfl (letV rfl (chkE (by decide) (letV rfl (letV rfl (letV rfl (letV rfl rfl))))))),rfl,by decide⟩
    obtain ⟨r,d,hr,hd,hd0⟩:=hsz
    rcases Bool.eq_false_or_eq_true (decide (r < IntKind.i64.wrap ((1:Int) * 2 ^ (min (IntKind.i64.wrap (d - 1)).toNat (IntKind.i64).bits)))) with hx | hx
    · refine ⟨bLeast,?_,.inr (.inl ⟨hc,.inl rfl⟩)⟩
      unfold Ref1.Class
      exact bindE hv (letF rfl (bindE ht (letF (by rw [hw]; exact congrArg not (bq _ [102,105,110,105,116,101] rfl)) (bindE hr (bindE hd (letV rfl (chkE hd0 (letV rfl (letT hx rfl)))))))))
    · refine ⟨bNormal,?_,.inr (.inl ⟨hc,.inr rfl⟩)⟩
      unfold Ref1.Class
      exact bindE hv (letF rfl (bindE ht (letF (by rw [hw]; exact congrArg not (bq _ [102,105,110,105,116,101] rfl)) (bindE hr (bindE hd (letV rfl (chkE hd0 (letV rfl (letF hx rfl)))))))))
  · exact ⟨bInf,other bInf (by unfold takS classN; rw [hc]; rfl) (by decide),.inr (.inr (.inl ⟨hc,rfl⟩))⟩
  · exact ⟨bNone,other bNone (by unfold takS classN; rw [hc]; rfl) (by decide),.inr (.inr (.inr ⟨hc,rfl⟩))⟩
end Go.Q
