import Derived.Test.YtoecgpemlfoogaaGreatDoorGA1
import Derived.Test.YtoecgpemlfoogaaGreatDoorBW
namespace Go.Q
open Go Go.Proofs Go.RowKit
set_option maxRecDepth 100000
noncomputable def Src.write (l:List api.Line) (one:api.Line → Option ByteArray):Option (ByteArray × Int) :=
  (Src.Valid l).bind fun v=>chk (l.length < 4611686018427387904) (bif v then writeL one l [] else some (⟨#[]⟩,2))
theorem enters_f {f : Nat} {fn : Func} {c : Code} (hf : Tryz.prog.funcs[f]? = some fn) (hb : fn.body = some c) (hname : (fn.name == "runtime.NumGoroutine") = false) : ∀ args w, (callFunc f args).run Tryz.prog w = .ok (.enter f args) w := fun args w => run_enter hf hb hname args w
theorem Src.write_ok {l:List api.Line} {one:api.Line → Option ByteArray} {r:ByteArray × Int} {fg:Nat} (_h1:(([]:List AV).all pureQ.pureQ0) = true)
    (h2:∀ a0 r,one a0 = some r → Gives Tryz.prog fg ([api.Line.enc a0] ++ []) (.lit (.string r))) (h0:Src.write l one = some r) (hfg:(Nat.beq fg 39 || Nat.beq fg 42) = true:=by rfl) :
    Gives Tryz.prog 38 [.vs 3 (l.map api.Line.enc),.fn (.func fg) [] []] (.tup [.lit (.string r.1),.lit (.int .i64 r.2)]):=by
  have hen:∀ args w,(callFunc fg args).run Tryz.prog w = .ok (.enter fg args) w:=by
    rw [Bool.or_eq_true] at hfg
    rcases hfg with h | h
    · obtain rfl:=Nat.eq_of_beq_eq_true h; exact enters_f Tryz.func39 rfl (by kernel_rfl)
    · obtain rfl:=Nat.eq_of_beq_eq_true h; exact enters_f Tryz.func42 rfl (by kernel_rfl)
  unfold Src.write at h0
  obtain ⟨v,ev,h0⟩:=bind_elim h0
  obtain ⟨hl,h0⟩:=chk_elim h0
  intro I μ w vals H ⟨hn,hA⟩
  have hμ:μ = []:=List.eq_nil_of_length_eq_zero (by rw [H.len]; rfl)
  subst hμ
  have hk:Knows (fun b=>b < w.heap.size) w:=H.know.step (fun b hb=>H.imm b hb) (fun _ _=>rfl)
  obtain ⟨v0,hv0⟩:∃ v0,v0 = vals.getD 0 Go.undef:=⟨_,rfl⟩
  obtain ⟨v1,hv1⟩:∃ v1,v1 = vals.getD 1 Go.undef:=⟨_,rfl⟩
  have hvals:vals = #[v0,v1]:=by
    apply Array.ext
    · simpa using hn
    · intro i h1 h2
      have h3:i < 2:=by simpa using h2
      match i,h3 with
      | 0,_=>simp [hv0,Array.getD,h1]
      | 1,_=>simp [hv1,Array.getD,h1]
  have r0:RelV I w [] (.vs 3 (l.map api.Line.enc)) v0:=by rw [hv0]; exact hA 0 (by simp)
  have r1:RelV I w [] (.fn (.func fg) [] []) v1:=by rw [hv1]; exact hA 1 (by simp)
  obtain ⟨ad,cap,val,e0,hcap,ha,hnn,hr⟩:=r0.vs_inv
  have e1:v1 = .func (.func fg) #[] #[]:=by
    generalize ht:AV.fn (.func fg) [] [] = t at r1
    cases r1 with
    | fn μ f first captured fs cs hf hc _ _ =>
      cases ht
      have h3:fs = #[]:=Array.eq_empty_of_size_eq_zero hf
      have h4:cs = #[]:=Array.eq_empty_of_size_eq_zero hc
      rw [h3,h4]
    | _=>cases ht
  rw [List.length_map] at e0 hcap
  subst e1
  have hI:∀ b,I b → b < w.heap.size:=H.imm
  have r0':RelV (fun b=>b < w.heap.size) w [] (.vs 3 (l.map api.Line.enc)) v0:=r0.mono hI (fun _ _=>rfl)
  have hV:Calls Tryz.prog 17 #[v0] w fun e w'=>e = .returned (.bool v) ∧ Keep w w' :=
    calls_of_gives (enters_f Tryz.func17 rfl (by kernel_rfl)) (Src.Valid_ok ev) hk ⟨rfl,fun i hi=>by
      match i,hi with
      | 0,_=>exact r0'⟩
  subst e0
  have hone:∀ x r w,Knows (fun b=>b < w.heap.size) w → one x = some r → Calls Tryz.prog fg #[lineVal x] w fun e w'=>e = .returned (.string r) ∧ Keep w w':=by
    intro x r w hk hx
    refine calls_of_gives hen (h2 x r hx) hk ⟨rfl,fun i hi=>?_⟩
    match i,hi with
    | 0,_ =>
      refine .agg _ _ _ rfl (fun j hj=>?_)
      match j,hj with
      | 0,_=>exact .lit _ _
      | 1,_=>exact .lit _ _
      | 2,_=>exact .lit _ _
  have hc:∀ i x,l[i]? = some x → ∃ b off,ad = some ⟨b,off,none⟩ ∧ b < w.heap.size ∧ w.cell? ⟨b,off + i * 3,none⟩ = some (.int .i64 x.Label) ∧ w.cell? ⟨b,off + i * 3 + 1,none⟩ = some (.string x.Text) ∧ w.cell? ⟨b,off + i * 3 + 2,none⟩ = some (.int .i64 x.At):=by
    intro i x hx
    have hi:i < l.length:=by
      rcases Nat.lt_or_ge i l.length with h | h
      · exact h
      · rw [List.getElem?_eq_none h] at hx; cases hx
    obtain rfl:l[i] = x:=by rw [List.getElem?_eq_getElem hi] at hx; exact Option.some.inj hx
    obtain ⟨b,off,e2,hb,hcell⟩:=ha (by rw [List.length_map]; omega)
    have hi':i < (l.map api.Line.enc).length:=by rw [List.length_map]; exact hi
    have hv:∀ j (hj:j < 3),RelV I w [] ((api.Line.enc l[i]).cells[j]'hj) (val i j):=by
      intro j hj
      have hj':j < ((l.map api.Line.enc)[i]).cells.length:=by rw [hnn i hi']; exact hj
      have h3:=hr i hi' j hj'
      have h4:(l.map api.Line.enc)[i] = api.Line.enc l[i]:=List.getElem_map _
      simp only [h4] at h3
      exact h3
    have c0:val i 0 = .int .i64 l[i].Label:=(hv 0 (by decide)).lit_eq
    have c1:val i 1 = .string l[i].Text:=(hv 1 (by decide)).lit_eq
    have c2:val i 2 = .int .i64 l[i].At:=(hv 2 (by decide)).lit_eq
    refine ⟨b,off,e2,hI b hb,?_,?_,?_⟩
    · rw [← c0]; exact hcell i 0 hi' (by decide)
    · rw [← c1]; exact hcell i 1 hi' (by decide)
    · rw [← c2]; exact hcell i 2 hi' (by decide)
  rw [hvals]
  refine .inl ⟨run_enter Tryz.func38 rfl (by kernel_rfl) _ _,(write_calls fg hen one hone l v w hk ad cap hcap hl hc hV r ?_).mono ?_⟩
  · cases v with
    | true=>rw [if_pos rfl]; exact h0
    | false=>rw [if_neg (by decide)]; exact (Option.some.inj h0).symm
  · rintro e w' ⟨rfl,K⟩
    exact ⟨_,_,[],I,[],rfl,⟨rfl,rfl⟩,relH_nil (fun b hb=>Nat.lt_of_lt_of_le (hI b hb) K.size) (H.know.step (fun _ h=>h) (fun b hb=>K.same b (hI b hb))),rel_two _ _,
      ⟨fun _ h=>h,K.size,fun b h1 _=>K.same b h1,fun _ h=>.inl h,fun _ h=>.inl h,K.ext.1,K.ext.2⟩,⟨Nat.zero_le _,fun o ho=>by simp at ho⟩⟩
end Go.Q
