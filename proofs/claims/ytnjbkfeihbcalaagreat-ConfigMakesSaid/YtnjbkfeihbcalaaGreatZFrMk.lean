/-
  The law ConfigMakes returns true for every input, and each argument reads behind the call as it read before.
  Conditions: none.
-/
import Derived.Test.YtnjbkfeihbcalaaGreatZMk
import Derived.Test.YtnjbkfeihbcalaaGreatZOpen
import Derived.WalkKit
import Derived.ProofKit
import Derived.OpenShut
import Derived.ShutString
import Derived.ChangeOld
import Derived.Below
/- The law ConfigMakes returns true for every input, and each argument reads behind the call as it read before.
  Conditions: none. -/
namespace Go.Proofs.YtnjbkfeihbcalaaGreat.configMakesFrame
open Go.ChangeShapes Go.WideShapes Go.ChangeAt Go.RowKit
open Go.ChangeMaps (open_string shut_string)
set_option linter.unusedVariables false

theorem own:ownKnob Tryz.prog.godebug=none:=by kernel_rfl
theorem laidOut:laidOutB Tryz.prog=true:=by kernel_rfl

set_option maxRecDepth 100000 in
theorem lifted (os:Os) (started:os.Started) (H:Type) (enc:TypeId × Value→H) :
  ReturnsInHanded {} Tryz.checked os 3 .any (Rows.configMakesSpec.pre6 enc Tryz.prog Tryz.f3 Rows.configMakesRow.domain false) (Rows.configMakesSpec.post enc Tryz.prog Tryz.f3 false true false false):=by
 refine returnsInHanded_of_change (C:=Tryz.checked) own started (by kernel_rfl) Tryz.func3
  (ChangeSpec.witness6 (enc:=enc) (C:=Tryz.checked) false ⟨#[],#[.agg #[.int .u8 0,.int .i64 0,.int .i64 0,.int .i64 0,.int .i64 0,.int .i64 0,.int .i64 0]],[]⟩ 8 (by kernel_rfl) (by kernel_rfl) (by kernel_rfl) (by kernel_rfl)) ?_
 intro W base args ds gs before hval0 hW hcnd _
 have hval:∀ (j:Nat) t v,Tryz.f3.params[j]? = some t→args[j]? = some v→Value.okWide Tryz.prog W .any base t v:=hval0
 have hW':=hW
 obtain ⟨p,q,hA0,hV,rfl,hfz,hnd⟩:=hW
 have hA:DataW.TrodAll enc Tryz.prog W 0 (fun _=>true) true Tryz.f3.params.toList args.toList ds p:=hA0
 rw [Tryz.params3] at hA hval
 obtain ⟨v0,vs0,d0,ds0,p0,q0,hargs,rfl,rfl,h0,r0⟩:=trodAll_cons hA
 obtain ⟨rfl,rfl,rfl⟩:=trodAll_nil r0
 obtain rfl:args=#[v0]:=by cases args;simp_all
 obtain ⟨rfl,rfl⟩:=trodVars_none hV
 have k0:=h0
 have lt0:∀ x ∈ p0,x.block < W.heap.size:=by obtain ⟨m,hm⟩:=k0;exact DataW.trod_lt m _ _ _ hm
 obtain ⟨c0_0,c0_1,c0_2,c0_3,c0_4,c0_5,c0_6,y0_0,y0_1,y0_2,y0_3,y0_4,y0_5,y0_6,m0,rfl,g0_0,g0_1,g0_2,g0_3,g0_4,g0_5,g0_6⟩:=open_agg7 Tryz.underlying23 (by kernel_rfl) (by kernel_rfl) (hval 0 23 v0 rfl rfl) h0
 obtain ⟨n0_0,e0_0,_,w0_0⟩:=DataW.trod_int Tryz.underlying5 g0_0
 obtain rfl:c0_0=_:=by simpa using e0_0
 obtain ⟨n0_1,e0_1,_,w0_1⟩:=DataW.trod_int Tryz.underlying3 g0_1
 obtain rfl:c0_1=_:=by simpa using e0_1
 obtain ⟨n0_2,e0_2,_,w0_2⟩:=DataW.trod_int Tryz.underlying3 g0_2
 obtain rfl:c0_2=_:=by simpa using e0_2
 obtain ⟨n0_3,e0_3,_,w0_3⟩:=DataW.trod_int Tryz.underlying3 g0_3
 obtain rfl:c0_3=_:=by simpa using e0_3
 obtain ⟨n0_4,e0_4,_,w0_4⟩:=DataW.trod_int Tryz.underlying3 g0_4
 obtain rfl:c0_4=_:=by simpa using e0_4
 obtain ⟨n0_5,e0_5,_,w0_5⟩:=DataW.trod_int Tryz.underlying3 g0_5
 obtain rfl:c0_5=_:=by simpa using e0_5
 obtain ⟨n0_6,e0_6,_,w0_6⟩:=DataW.trod_int Tryz.underlying3 g0_6
 obtain rfl:c0_6=_:=by simpa using e0_6
 clear hA0 hval0
 refine (makes_any n0_0 n0_1 n0_2 n0_3 n0_4 n0_5 n0_6 W ).mono fun e W' ⟨he,bel⟩=>?_
 subst he
 exact ⟨_,rfl,_,_,_,[],_,[],hW',trodAll_mk1 (shut_bool Tryz.underlying4 _),(trodAll_cons_mk (Below.trod laidOut (by kernel_rfl) (of_decide_eq_true (by kernel_rfl)) k0 bel lt0) trodAll_mk0),rfl,bel.frame _,fun h=>by cases h⟩

theorem proved:Rows.ConfigMakesSaid :=
 OpenClaim.holds_of_wide 3 Tryz.f3 rfl rfl rfl rfl rfl rfl rfl ⟨rfl,rfl,rfl,rfl,rfl⟩ rfl rfl rfl rfl rfl (by kernel_rfl) Tryz.func3 (by kernel_rfl)
  (of_decide_eq_true (by kernel_rfl)) (by unfold Func.isWrapper;first | (rw [if_pos (by decide +kernel)];kernel_rfl) | (rw [if_neg (by decide +kernel)];exact ⟨rfl,rfl⟩))
  (fun os started H enc _=>lifted os started H enc)
#print axioms proved
end Go.Proofs.YtnjbkfeihbcalaaGreat.configMakesFrame
