import Derived.Test.YtmfhkipeapdfmaaGreatDoorBK9
namespace Go.Q
open Go Go.Proofs
set_option maxRecDepth 10000
theorem digs_of {kind:Int} {p w:Nat} (h:kindS kind p w):∃ n:Nat,1 ≤ n ∧ n ≤ 17 ∧ 2 ^ p < 10 ^ (n - 1) ∧ ((kind = 2 ∧ n = 5) ∨ (kind = 4 ∧ n = 9) ∨ (kind = 8 ∧ n = 17)):=by
  rcases h with ⟨rfl,rfl,_⟩ | ⟨rfl,rfl,_⟩ | ⟨rfl,rfl,_⟩
  · exact ⟨5,by decide,by decide,by decide,.inl ⟨rfl,rfl⟩⟩
  · exact ⟨9,by decide,by decide,by decide,.inr (.inl ⟨rfl,rfl⟩)⟩
  · exact ⟨17,by decide,by decide,by decide,.inr (.inr ⟨rfl,rfl⟩)⟩
theorem back_j1 {kind a:Int} {n:Nat} {t:ByteArray} {f sg k:Int} {c:BS} (hk:(kind = 2 ∧ n = 5) ∨ (kind = 4 ∧ n = 9) ∨ (kind = 8 ∧ n = 17)) (hp:Dec.Power kind 0 a n 2 = some (t,0)) (hr:Dec.Read t kind 0 = some (a,f,0)) (hs:Dec.Shortest kind a = some (sg,B c,k,0)) (h1:1 ≤ c.length) (h2:c.length ≤ n) :
    Law2.DecimalBack.j1 kind a = some true:=by
  have aw:(Option.bind Law2.Awake fun t=>some t) = some true:=by rw [Law2.Awake_eq]; rfl
  have sz:(B c).size = c.length:=B_size c
  unfold Law2.DecimalBack.j1
  rcases hk with ⟨rfl,rfl⟩ | ⟨rfl,rfl⟩ | ⟨rfl,rfl⟩
  · exact letT rfl (bindE hp (bindE hr (bindE hs (letT rfl (letT rfl (letT (beq_self_eq_true a) (letT rfl (letV (y:=(c.length:Int)) (by rw [sz]) (letT (decide_eq_true (by omega)) (letV (y:=(c.length:Int)) (by rw [sz]) (letT (decide_eq_true (by omega)) aw)))))))))))
  · exact letF rfl (letT rfl (bindE hp (bindE hr (bindE hs (letT rfl (letT rfl (letT (beq_self_eq_true a) (letT rfl (letV (y:=(c.length:Int)) (by rw [sz]) (letT (decide_eq_true (by omega)) (letV (y:=(c.length:Int)) (by rw [sz]) (letT (decide_eq_true (by omega)) aw))))))))))))
  · exact letF rfl (letF rfl (letT rfl (bindE hp (bindE hr (bindE hs (letT rfl (letT rfl (letT (beq_self_eq_true a) (letT rfl (letV (y:=(c.length:Int)) (by rw [sz]) (letT (decide_eq_true (by omega)) (letV (y:=(c.length:Int)) (by rw [sz]) (letT (decide_eq_true (by omega)) aw)))))))))))))
theorem DecimalBack_eq (kind a:Int) (hi:I64 a):Law2.DecimalBack kind a = some true:=by
  have aw:(Option.bind Law2.Awake fun t=>some t) = some true:=by rw [Law2.Awake_eq]; rfl
  have zn:(⟨#[110,111,110,101]⟩:ByteArray) = B bNone:=rfl
  have zz:(⟨#[122,101,114,111]⟩:ByteArray) = B bZero:=rfl
  have zi:(⟨#[105,110,102,105,110,105,116,101]⟩:ByteArray) = B bInf:=rfl
  have bad:Ref1.Valid kind a = some false → Flt.Valid kind a = some false → Law2.DecimalBack kind a = some true:=by
    intro h1 h2
    have hp:Dec.Plain kind a = some (⟨#[]⟩,2):=by
      unfold Dec.Plain
      exact bindE h2 (letT rfl rfl)
    unfold Law2.DecimalBack
    exact bindE h1 (letT rfl (bindE hp (letT rfl aw)))
  rcases kind_any kind with ⟨p,w,h⟩ | h
  · by_cases hb:bitsOk p w a
    · have hv:=(rValid_eq h hi).trans (congrArg some (@decide_eq_true _ (Classical.propDecidable _) hb))
      have hfv:=(Valid_eq h a).trans (congrArg some (@decide_eq_true _ (Classical.propDecidable _) hb))
      obtain ⟨c,hcl,hcc⟩:=rClassG h hi hb
      have main:∀ t b f,Dec.Plain kind a = some (t,0) → Dec.Read t kind 0 = some (b,f,0) → Law2.DecimalBack.j0 kind a b f = some true → Law2.DecimalBack kind a = some true:=by
        intro t b f h1 h2 h3
        unfold Law2.DecimalBack
        exact bindE hv (letF rfl (bindE h1 (bindE h2 (letF rfl (letF rfl h3)))))
      have edgeL:((numS p w a).class_ = 0 ∨ (numS p w a).class_ = 2) → (c = bZero ∨ c = bInf) → Law2.DecimalBack kind a = some true:=by
        intro he hce
        obtain ⟨t,h1,h2⟩:=edge_run (edge_of h hi hb he)
        refine main t a 0 h1 h2 ?_
        unfold Law2.DecimalBack.j0
        refine bindE hcl (letF (by rw [zn,eqB]; rcases hce with rfl | rfl <;> decide) (letF (by simp) (bindE hcl ?_)))
        rcases hce with rfl | rfl
        · refine letT (by rw [zz,eqB]; decide) ?_
          unfold Law2.DecimalBack.j2
          exact condT rfl (letT rfl aw)
        · refine letF (by rw [zz,eqB]; decide) (letV (y:=true) (by rw [zi,eqB]; decide) ?_)
          unfold Law2.DecimalBack.j2
          exact condT rfl (letT rfl aw)
      rcases hcc with ⟨q1,q2⟩ | ⟨q1,q2⟩ | ⟨q1,q2⟩ | ⟨q1,q2⟩
      · exact edgeL (.inl q1) (.inl q2)
      · obtain ⟨D,X,he,ho⟩:=exact_eq h hb q1
        obtain ⟨n,n1,n2,hp,hk⟩:=digs_of h
        obtain ⟨s,k,hS,hSh⟩:=Shortest_eq h hi hb q1 ho n1 n2 hp he
        obtain ⟨t,f,h1,h2⟩:=Plain_back h hb q1 n2 hS hSh
        obtain ⟨t2,f2,h3,h4⟩:=Power_back h hi hb q1 ho he n1 (by omega) hp
        refine main t a f h1 h2 ?_
        have ne:∀ x:BS,x ≠ bLeast → x ≠ bNormal → c ≠ x:=fun x y1 y2 e=>q2.elim (fun z=>y1 (e.symm.trans z)) (fun z=>y2 (e.symm.trans z))
        unfold Law2.DecimalBack.j0
        refine bindE hcl (letF (by rw [zn,eqB]; exact decide_eq_false (ne _ (by decide) (by decide))) (letF (by simp) (bindE hcl (letF (by rw [zz,eqB]; exact decide_eq_false (ne _ (by decide) (by decide))) (letV (y:=false) (by rw [zi,eqB]; exact decide_eq_false (ne _ (by decide) (by decide))) ?_)))))
        unfold Law2.DecimalBack.j2
        exact condF rfl (back_j1 hk h3 h4 hS hSh.one hSh.len)
      · exact edgeL (.inr q1) (.inr q2)
      · -- no number
        obtain ⟨q,h1,h2⟩:=none_run h
        have hcls:Flt.Class kind a = some (B bNone):=by
          unfold Flt.Class
          exact bindE (two_eq h (by decide) hb hb) (letF rfl (letF (by rw [q1]; rfl) (letF (by rw [q1]; rfl) (letT (by rw [q1]; rfl) rfl))))
        have hpl:Dec.Plain kind a = some (B nanB,0):=by
          unfold Dec.Plain
          refine bindE hfv (letF rfl (bindE (a:=(B nanB,true)) ?_ (condT rfl rfl)))
          unfold Dec.special
          exact bindE hcls (letT (by rw [zn,eqB]; decide) rfl)
        refine main _ q 0 hpl h1 ?_
        unfold Law2.DecimalBack.j0
        refine bindE hcl (letT (by rw [zn,eqB,q2]; decide) (bindE h2 (letT (beq_self_eq_true q) aw)))
    · refine bad ((rValid_eq h hi).trans (congrArg some (@decide_eq_false _ (Classical.propDecidable _) hb))) ((Valid_eq h a).trans (congrArg some (@decide_eq_false _ (Classical.propDecidable _) hb)))
  · refine bad ?_ ?_
    · unfold Ref1.Valid
      exact letF (beq_eq_false_iff_ne.2 fun q=>h (.inl q)) (letF (beq_eq_false_iff_ne.2 fun q=>h (.inr (.inl q))) (letV (y:=false) (beq_eq_false_iff_ne.2 fun q=>h (.inr (.inr q))) rfl))
    · unfold Flt.Valid
      rw [of_no h]; rfl
end Go.Q
