import Derived.Test.YtmfhkipeapdfmaaGreatDoorDBD
namespace Go.Q
open Go Go.Proofs Go.RowKit
set_option maxRecDepth 100000
def okD (l:List Int):Prop:=l.length ≤ 100000 ∧ (∀ i:Nat,0 ≤ l[i]?.getD 0 ∧ l[i]?.getD 0 < 1000000000) ∧ ∀ x:Int,0 ≤ x → x < 1000000000 → (Lib.itoa x).length ≤ 9
noncomputable def Dec.big.digits (l:List Int):Option ByteArray:=open Classical in if h:okD l then some (B (Lib.trimLeftB (outS (Bk.upto (d9 l h.2.1) l.length)) 48)) else none
theorem Dec.big.digits_ok {l:List Int} {r:ByteArray} (h0:Dec.big.digits l = some r):Gives Tryz.prog 74 [.vs 1 (l.map (eI .i64))] (.lit (.string r)):=by
  unfold Dec.big.digits at h0
  split at h0
  · rename_i hok
    cases h0
    intro I μ w vals H ⟨hn,hA⟩
    have hμ:μ = []:=List.eq_nil_of_length_eq_zero (by rw [H.len]; rfl)
    subst hμ
    have hk:Knows (fun b=>b < w.heap.size) w:=H.know.step (fun b hb=>H.imm b hb) (fun _ _=>rfl)
    obtain ⟨v0,hv0⟩:∃ v0,v0 = vals.getD 0 Go.undef:=⟨_,rfl⟩
    have hvals:vals = #[v0]:=by
      apply Array.ext
      · simpa using hn
      · intro i h1 h2
        have h3:i < 1:=by simpa using h2
        match i,h3 with
        | 0,_=>simp [hv0,Array.getD,h1]
    have r0:RelV I w [] (.vs 1 (l.map (eI .i64))) v0:=by rw [hv0]; exact hA 0 (by simp)
    obtain ⟨ad,cap,val,e0,hcap,ha,hnn,hr⟩:=r0.vs_inv
    rw [List.length_map] at e0 hcap
    subst e0
    have hI:∀ b,I b → b < w.heap.size:=H.imm
    have hc:l.length = 0 ∨ ∃ b off,ad = some ⟨b,off,none⟩ ∧ b < w.heap.size ∧ ∀ j,j < l.length → w.cell? ⟨b,off + j,none⟩ = some (.int .i64 (l[j]?.getD 0)):=by
      rcases Nat.eq_zero_or_pos l.length with h | h
      · exact .inl h
      · obtain ⟨b,off,e2,hb,hcell⟩:=ha (by rw [List.length_map]; omega)
        refine .inr ⟨b,off,e2,hI b hb,fun j hj=>?_⟩
        have hi':j < (l.map (eI .i64)).length:=by rw [List.length_map]; exact hj
        have hj':0 < ((l.map (eI .i64))[j]).cells.length:=by rw [hnn j hi']; decide
        have h3:=hr j hi' 0 hj'
        have h4:(l.map (eI .i64))[j] = eI .i64 l[j]:=List.getElem_map _
        simp only [h4] at h3
        have c0:val j 0 = .int .i64 l[j]:=RelV.lit_eq h3
        have h5:=hcell j 0 hi' (by decide)
        rw [c0,Nat.mul_one,Nat.add_zero] at h5
        rw [h5,List.getElem?_eq_getElem hj]; rfl
    rw [hvals]
    refine .inl ⟨run_enter Tryz.func74 rfl (by kernel_rfl) _ _,(digits_calls l ad cap w hk hok.1 hok.2.1 hok.2.2 hc).mono ?_⟩
    rintro e w' ⟨rfl,K⟩
    exact ⟨_,_,[],I,[],rfl,⟨rfl,rfl⟩,relH_nil (fun b hb=>Nat.lt_of_lt_of_le (hI b hb) K.size) (H.know.step (fun _ h=>h) (fun b hb=>K.same b (hI b hb))),.lit _ _,
      ⟨fun _ h=>h,K.size,fun b h1 _=>K.same b h1,fun _ h=>.inl h,fun _ h=>.inl h,K.ext.1,K.ext.2⟩,⟨Nat.zero_le _,fun o ho=>by simp at ho⟩⟩
  · cases h0
end Go.Q
