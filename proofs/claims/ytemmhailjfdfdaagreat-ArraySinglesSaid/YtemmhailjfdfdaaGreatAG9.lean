import Derived.Test.YtemmhailjfdfdaaGreatAG8
import Derived.Test.YtemmhailjfdfdaaGreatFX
import Derived.Test.YtemmhailjfdfdaaGreatFY
import Derived.Test.YtemmhailjfdfdaaGreatProg
namespace Go.Q
open Go Go.Proofs
set_option maxRecDepth 10000
set_option maxHeartbeats 2000000
noncomputable def Law7.ArraySingles (op0:ByteArray) (kind1:Int) (a2:api.Array):Option Bool :=
 Option.bind (Law7.isLarge ([(⟨a2.Kind,a2.Shape,a2.Elems⟩:api.Array)])) fun t17 =>
 bif t17 then
 Option.bind (Law7.Awake) fun t18 =>
 some t18
 else
 Option.bind (Arr.Single op0 (⟨a2.Kind,a2.Shape,a2.Elems⟩:api.Array)) fun (t22_0,t22_1) =>
 Option.bind (Ref7.Single op0 (⟨a2.Kind,a2.Shape,a2.Elems⟩:api.Array)) fun (t28_0,t28_1) =>
 Option.bind (Arr.Convert kind1 (⟨a2.Kind,a2.Shape,a2.Elems⟩:api.Array)) fun (t34_0,t34_1) =>
 Option.bind (Ref7.Convert kind1 (⟨a2.Kind,a2.Shape,a2.Elems⟩:api.Array)) fun (t40_0,t40_1) =>
 letk (t22_1 == t28_1) fun t45 =>
 bif t45 then
 Option.bind (Ref7.Same (⟨t22_0.Kind,t22_0.Shape,t22_0.Elems⟩:api.Array) (⟨t28_0.Kind,t28_0.Shape,t28_0.Elems⟩:api.Array)) fun t49 =>
 bif t49 then
 letk (t34_1 == t40_1) fun t54 =>
 bif t54 then
 Option.bind (Ref7.Same (⟨t34_0.Kind,t34_0.Shape,t34_0.Elems⟩:api.Array) (⟨t40_0.Kind,t40_0.Shape,t40_0.Elems⟩:api.Array)) fun t59 =>
 bif t59 then
 Option.bind (Law7.Awake) fun t62 =>
 some t62
 else
 some false
 else
 some false
 else
 some false
 else
 some false
theorem Law7.ArraySingles_ok {op0:ByteArray} {kind1:Int} {a2:api.Array} {r:Bool} (h0:Law7.ArraySingles op0 kind1 a2 = some r):Gives Tryz.prog 10 [.lit (.string op0),J kind1,api.Array.enc a2] (.lit (.bool r)):=by
 unfold Law7.ArraySingles at h0
 refine W' [] Tryz.func10 ?_
 refine V' ?_
 refine Gate.go ?_
 refine Nm.mk ⟨([(⟨a2.Kind,a2.Shape,a2.Elems⟩:api.Array)]).map (api.Array.enc),rfl,?_⟩
 obtain ⟨t17,et17,h1⟩:=bind_elim h0
 refine Gate.weak (Sees.of (Weak.objs (k:=64) (keep:=[0]) (frz:=[1]) (m:=0) (ts:=[(0,.lit (.string op0)),(1,J kind1),(5,.ptr 0 0),(16,.vs 3 (([(⟨a2.Kind,a2.Shape,a2.Elems⟩:api.Array)]).map (api.Array.enc)))]) (hs:=[.box [J a2.Kind,VI' a2.Shape,VI' a2.Elems]]) rfl (by decide) rfl rfl ⟨⟨_,rfl,WO.refl rfl⟩,⟨rfl,fun _ h=>by cases h⟩⟩ ⟨.s,.s,(.ptr _ _ 0 rfl),(WV.all (k:=1) (by decide) rfl),trivial⟩)) ?_
 refine Z' (Law7.isLarge_ok et17) ?_
 rcases t17 with _ | _
 have h2:=bif_f h1
 obtain ⟨⟨_,_⟩,et22,h3⟩:=bind_elim h2
 refine Gate.go ?_
 refine Z' (Arr.Single_ok et22) ?_
 refine V' ?_
 refine V' ?_
 obtain ⟨⟨_,_⟩,et28,h4⟩:=bind_elim h3
 refine Gate.go ?_
 refine Z' (Ref7.Single_ok et28) ?_
 refine V' ?_
 refine V' ?_
 obtain ⟨⟨_,_⟩,et34,h5⟩:=bind_elim h4
 refine Gate.go ?_
 refine Z' (Arr.Convert_ok et34) ?_
 refine V' ?_
 refine V' ?_
 obtain ⟨⟨_,_⟩,et40,h6⟩:=bind_elim h5
 refine Gate.go ?_
 refine Z' (Ref7.Convert_ok et40) ?_
 refine V' ?_
 refine V' ?_
 refine C' h6 (fun h8=>?_) fun h8=>?_
 exact R' (E:=E1') h8
 refine Gate.go (A' h8 Ref7.Same_ok fun t49 h9=>?_)
 rcases t49 with _ | _
 have h10:=bif_f h9
 exact R' (E:=E1') h10
 have h10:=bif_t h9
 refine C' h10 (fun h12=>?_) fun h12=>?_
 exact R' (E:=E1') h12
 refine Gate.go (A' h12 Ref7.Same_ok fun t59 h13=>?_)
 rcases t59 with _ | _
 have h14:=bif_f h13
 exact R' (E:=E1') h14
 have h14:=bif_t h13
 refine Gate.go (A' h14 Law7.Awake_ok fun _ h15=>?_)
 exact R' (E:=E1') h15
 have h2:=bif_t h1
 refine Gate.go (A' h2 Law7.Awake_ok fun _ h3=>?_)
 exact R' (E:=E1') h3
end Go.Q
