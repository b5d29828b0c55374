/- MixSome: whatever the arguments, the law answers true. No conditions. -/
import Derived.Test.YthofngceiecniaaGreatRows
import Derived.OpenShut
import Derived.ShutString
import Derived.ChangeOld
import Derived.Lib.SmallJoins
import Derived.Test.YthofngceiecniaaGreatZxTSome1
set_option linter.unusedVariables false
/- MixSome: whatever the arguments, the law answers true. No conditions. -/
namespace Go.Proofs.YthofngceiecniaaGreat
set_option maxRecDepth 100000
section
open Go.ChangeShapes Go.WideShapes Go.ChangeAt Go.RowKit Go.Joins
theorem ownT:ownKnob Tryz.prog.godebug=none:=by kernel_rfl
theorem nx:laidOutB Tryz.prog=true:=by kernel_rfl
theorem mixSome_lifted (os:Os)(started:os.Started)(H:Type)(enc:TypeId × Value→H) :
  ReturnsInHanded {} Tryz.checked os 4 .any (Rows.mixSomeSpec.pre6 enc Tryz.prog Tryz.f4 Rows.mixSomeRow.domain false) (Rows.mixSomeSpec.post enc Tryz.prog Tryz.f4 false true false false):=by
 refine returnsInHanded_of_change (C:=Tryz.checked) ownT started (by kernel_rfl) Tryz.func4
  (ChangeSpec.witness6 (enc:=enc) (C:=Tryz.checked) false ⟨#[],#[.agg #[.int .i64 0,.slice none 0 0,.slice none 0 0,.slice none 0 0],.slice none 0 0,.int .u8 0],[]⟩ 8 (by kernel_rfl) (by kernel_rfl) (by kernel_rfl) (by kernel_rfl)) ?_
 intro W base args ds gs before hval0 hW hcnd _;have hval:∀ (j:Nat) t v,Tryz.f4.params[j]? =some t→args[j]? =some v→Value.okWide Tryz.prog W .any base t v:=hval0;have hW':=hW;obtain ⟨p,q,hA0,hV,rfl,hfz,hnd⟩:=hW;have hA:DataW.TrodAll enc Tryz.prog W 0 (fun _=>true) true Tryz.f4.params.toList args.toList ds p:=hA0;rw [Tryz.params4] at hA hval;obtain ⟨v0,vs0,d0,ds0,p0,q0,hargs,rfl,rfl,h0,r0⟩:=trodAll_cons hA;obtain ⟨v1,vs1,d1,ds1,p1,q1,rfl,rfl,rfl,h1,r1⟩:=trodAll_cons r0;obtain ⟨v2,vs2,d2,ds2,p2,q2,rfl,rfl,rfl,h2,r2⟩:=trodAll_cons r1;obtain ⟨rfl,rfl,rfl⟩:=trodAll_nil r2;obtain rfl:args=#[v0,v1,v2]:=by cases args;simp_all
 obtain ⟨rfl,rfl⟩:=trodVars_none hV;have k0:=h0;have lt0:∀ x∈p0,x.block<W.heap.size:=by obtain ⟨m,hm⟩:=k0;exact DataW.trod_lt m _ _ _ hm
 have k1:=h1;have lt1:∀ x∈p1,x.block<W.heap.size:=by obtain ⟨m,hm⟩:=k1;exact DataW.trod_lt m _ _ _ hm
 have k2:=h2;have lt2:∀ x∈p2,x.block<W.heap.size:=by obtain ⟨m,hm⟩:=k2;exact DataW.trod_lt m _ _ _ hm
 obtain ⟨Av,nv,cv,Aa,na,ca,At,nt,ct,m,rfl,hca,hct,hm⟩:=vU (hval 0 26 v0 rfl rfl) h0;obtain ⟨A2x,k2x,c2x,e1⟩:=okWide_slice Tryz.underlying42 (hval 1 42 v1 rfl rfl);have hh1:=h1;obtain ⟨fu1,hf1⟩:=hh1;rw [e1,show (Value.slice A2x k2x c2x).cells=#[.slice A2x k2x c2x] from rfl] at hf1;obtain ⟨By,ny,cy,ly,e1',hcy,hny,_,hby⟩:=sA hf1;rw [← e1] at e1';clear e1 hf1;subst e1';obtain ⟨s2,e2,hb2⟩:=xH h2 (okWide_int Tryz.underlying5 (hval 2 5 v2 rfl rfl));subst e2;clear hA0 hval0;refine (callsIn_wide.1 (wK Av nv cv Aa na ca At nt ct m By ny cy ly s2 W hm hny hby hb2)).mono fun e W' ⟨he,bel⟩=>?_;subst he;exact ⟨_,rfl,_,_,_,[],_,[],hW',trodAll_mk1 (shut_bool Tryz.underlying4 _),(trodAll_cons_mk (Below.trod nx (by kernel_rfl) (of_decide_eq_true (by kernel_rfl)) k0 bel lt0) (trodAll_cons_mk (Below.trod nx (by kernel_rfl) (of_decide_eq_true (by kernel_rfl)) k1 bel lt1) (trodAll_cons_mk (Below.trod nx (by kernel_rfl) (of_decide_eq_true (by kernel_rfl)) k2 bel lt2) (trodAll_mk0)))),rfl,bel.frame _,fun h=>by cases h⟩
theorem mixSome_holds:Rows.MixSomeSaid :=
 OpenClaim.holds_of_wide 4 Tryz.f4 rfl rfl rfl rfl rfl rfl rfl ⟨rfl,rfl,rfl,rfl,rfl⟩ rfl rfl rfl rfl rfl (by kernel_rfl) Tryz.func4 (by kernel_rfl)
  (of_decide_eq_true (by kernel_rfl)) (by unfold Func.isWrapper;rw [if_neg (of_decide_eq_false (by kernel_rfl))];exact ⟨rfl,rfl⟩)
  (fun os started H enc _=>mixSome_lifted os started H enc)
#print axioms mixSome_holds
end
end Go.Proofs.YthofngceiecniaaGreat
