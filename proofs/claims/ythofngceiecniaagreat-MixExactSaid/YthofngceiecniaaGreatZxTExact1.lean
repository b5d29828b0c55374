/- MixExact: whatever the arguments, the law answers true. No conditions. -/
import Derived.Sort.CutIn
import Derived.Test.YthofngceiecniaaGreatRows
import Derived.OpenShut
import Derived.ShutString
import Derived.ChangeOld
import Derived.Lib.SmallJoins
import Derived.Test.YthofngceiecniaaGreatZxB14
set_option linter.unusedVariables false
/- MixExact. -/
namespace Go.Proofs.YthofngceiecniaaGreat
set_option maxHeartbeats 32000000
set_option maxRecDepth 100000
section
open Go.RowKit Go.Shelf
attribute [local go_sem] Oper.semAt_some
theorem ux (Av:Option Addr)(nv cv:Nat)(Aa:Option Addr)(na ca:Nat)(At:Option Addr)(nt ct:Nat)(m:Mix)(vessel after which drops:Nat)(w:World)(h:dD w w.heap.size Av nv Aa na At nt m)(h_vessel:vessel≤255)(h_after:after≤255)(h_which:which≤255)(h_drops:drops≤255) :
  CallsIn Fence.wide 9 Tryz.prog 5 #[.agg #[.int .i64 m.fountains,.slice Av nv cv,.slice Aa na ca,.slice At nt ct],.int .u8 vessel,.int .u8 after,.int .u8 which,.int .u8 drops] w (pZ w):=by
 have HM:=lh h;clear h;refine callsIn_of_wp Tryz.func5 rfl trivial ?_ rfl;simp only [Tryz.ntmps5,es,Nat.reduceAdd,Nat.reduceSub];gi_upto_region 1 with fail
 have Ly:=lh (Lay.one w 26 #[.int .i64 m.fountains,.slice Av nv cv,.slice Aa na ca,.slice At nt ct]);generalize (w.alloc (.cells #[.int .i64 m.fountains,.slice Av nv cv,.slice Aa na ca,.slice At nt ct] 26))=w0 at *;gi_wp2;refine ⟨trivial,(c_W (m5 w0)).mono ?_⟩;rintro e W1 ⟨rfl,hb⟩;replace Ly:=lyb Ly hb;clear hb;obtain ⟨x0_0,x0_1,x0_2,x0_3⟩:=lyc4 Ly 0 rfl;have l0_:=Ly.out.lt 0 rfl;gi_wp2;clear x0_0 x0_1 x0_2 x0_3 l0_;refine ⟨trivial,(c_W (mM Av nv cv Aa na ca At nt ct m W1 (HM.out.up Ly.out.1))).mono ?_⟩;rintro e W2 ⟨rfl,hb⟩;replace Ly:=lyb Ly hb;clear hb
 cases hr:jC nv na nt m with
 | false =>
  clear hr;gi_wp2;refine bodyPost_ret (v:=.bool true) (by simp [results,Tryz.results5,go_sem]) rfl ?_;exact ⟨rfl,Ly.out.1⟩
 | true =>
  have hok:=(jz hr).2;have hvs:=cL hok;have hl1:=HM.out.lenV;have hl2:=HM.out.lenA;have hl3:=HM.out.lenT
  have hsx:MixS w Av nv Aa na At nt m:=⟨HM.out,by omega,by omega,by omega⟩
  have HMS:=lh hsx;have HOK:=lh hok;have HL1:=lh hl1;have HL2:=lh hl2;have HL3:=lh hl3;have hnv:nv≤4:=by omega
  have hna:na≤12:=by omega
  have hnt:nt≤8:=by omega
  have hF:1≤m.fountains∧m.fountains≤4:=by omega
  have HFF:=lh hF;clear hr hok hvs hsx hl1 hl2 hl3 hF;by_cases hv0:nv=0
  ·
   have hv0b:(((nv:Nat):Int)==0)=true:=by simp;omega
   obtain ⟨x0_0,x0_1,x0_2,x0_3⟩:=lyc4 Ly 0 rfl;have l0_:=Ly.out.lt 0 rfl;gi_wp2;clear x0_0 x0_1 x0_2 x0_3 l0_;refine bodyPost_ret (v:=.bool true) (by simp [results,Tryz.results5,go_sem]) rfl ?_;exact ⟨rfl,Ly.out.1⟩
  ·
   have hv0b:(((nv:Nat):Int)==0)=false:=by simp;omega
   have hv1:0<nv:=by omega
   by_cases hx0:nt=8
   ·
    have hx0b:(((nt:Nat):Int)==8)=true:=by simp;omega
    obtain ⟨x0_0,x0_1,x0_2,x0_3⟩:=lyc4 Ly 0 rfl;have l0_:=Ly.out.lt 0 rfl;gi_wp2;clear x0_0 x0_1 x0_2 x0_3 l0_;refine bodyPost_ret (v:=.bool true) (by simp [results,Tryz.results5,go_sem]) rfl ?_;exact ⟨rfl,Ly.out.1⟩
   ·
    have hx0b:(((nt:Nat):Int)==8)=false:=by simp;omega
    have hx7:nt≤7:=by omega
    obtain ⟨F,hFn⟩:∃ F:Nat,m.fountains=(F:Int):=⟨m.fountains.toNat,by have:=HFF.out;omega⟩
    have hF4:1≤F∧F≤4:=by have:=HFF.out;omega
    have HFn:=lh hFn;have dz_F:¬ m.fountains=0:=by omega
    have dy_F:(m.fountains==0)=false:=by simp;omega
    clear hFn;obtain ⟨x0_0,x0_1,x0_2,x0_3⟩:=lyc4 Ly 0 rfl;have l0_:=Ly.out.lt 0 rfl;gi_upto_region 4 with fail
    clear x0_0 x0_1 x0_2 x0_3 l0_;have hlt_i1:vessel % nv<nv:=Nat.mod_lt _ (by omega);have tm_i1:Int.tmod (vessel:Int) ((nv:Nat):Int)=((vessel % nv:Nat):Int):=by rw [Int.tmod_eq_emod_of_nonneg (by omega)];push_cast;rfl
    obtain ⟨i1,hq_i1⟩:∃ r,vessel % nv=r:=⟨_,rfl⟩
    rw [hq_i1] at hlt_i1 tm_i1;clear hq_i1;have wx_i1:IntKind.i64.wrap (vessel:Int)=(vessel:Int):=IntWalk.i64_in _ (by omega);have dz_nv:¬ ((nv:Int):Int)=0:=by omega
    have dy_nv:(((nv:Int):Int)==0)=false:=by simp;omega
    have hlt_t1:after % (na+1)<(na+1):=Nat.mod_lt _ (by omega);have tm_t1:Int.tmod (after:Int) ((na:Int)+1)=((after % (na+1):Nat):Int):=by rw [Int.tmod_eq_emod_of_nonneg (by omega)];push_cast;rfl
    obtain ⟨t1,hq_t1⟩:∃ r,after % (na+1)=r:=⟨_,rfl⟩
    rw [hq_t1] at hlt_t1 tm_t1;clear hq_t1;have wx_t1:IntKind.i64.wrap (after:Int)=(after:Int):=IntWalk.i64_in _ (by omega);have dz_na:¬ (((na:Int)+1):Int)=0:=by omega
    have dy_na:((((na:Int)+1):Int)==0)=false:=by simp;omega
    have hlt_r:which % F<F:=Nat.mod_lt _ (by omega);have tm_r:Int.tmod (which:Int) m.fountains=((which % F:Nat):Int):=by rw [HFn.out,Int.tmod_eq_emod_of_nonneg (by omega)];push_cast;rfl
    obtain ⟨r,hq_r⟩:∃ r,which % F=r:=⟨_,rfl⟩
    rw [hq_r] at hlt_r tm_r;clear hq_r;have wx_r:IntKind.i64.wrap (which:Int)=(which:Int):=IntWalk.i64_in _ (by omega);have hlt_n1:drops % 13<13:=Nat.mod_lt _ (by omega);have tm_n1:Int.tmod (drops:Int) 13=((drops % 13:Nat):Int):=by rw [Int.tmod_eq_emod_of_nonneg (by omega)];push_cast;rfl
    obtain ⟨n1,hq_n1⟩:∃ r,drops % 13=r:=⟨_,rfl⟩
    rw [hq_n1] at hlt_n1 tm_n1;clear hq_n1;have wx_n1:IntKind.i64.wrap (drops:Int)=(drops:Int):=IntWalk.i64_in _ (by omega);obtain ⟨bv,off,x1,rfl,hbv,hx_x1,hc_x1,_⟩:=HM.out.vess hlt_i1;have HBV0:=lh hbv;have HX_x1:=lh hx_x1;have HC_x1:=lh hc_x1;have HI_x1:=lh (k9 HOK.out hx_x1);clear hx_x1 hc_x1;refine wpIn_flow_old [] [true,true,true,true,true,true,true,true,true,true,true,true,true,true,true,true,true,true,true,true,true,true,true,true,true,true,true,true,true,true,true] [] (by kernel_rfl) (by kernel_rfl) (by kernel_rfl) (av b_R 1) ?_;refine wpFlow_nil (A:=?AF1) ?hq1 ?_
    case hq1 =>
     rintro σ hσ of hof hcl;have HOF:=lh hof;clear hof hcl;obtain ⟨c0_,c1_,c2_,c3_⟩:=lyz4 Ly HOF 0 rfl;have hfw:=hfT;have hv_x1:∀ z,(of z).cell? ⟨bv,off+i1 * 2,none⟩=some (.int .i64 x1.id):=fun z=>((Ly.out.1.trans ((HOF.out z).mono Ly.out.1.size)).cell (p:=⟨bv,off+i1 * 2,none⟩) HBV0.out).trans HC_x1.out;have i0_i1:(0:Int)≤(i1:Int):=by omega
     have i1_i1:(i1:Int)<(nv:Int):=by omega
     simp only [bu]
     repeat (gi_big_quiet_step (fail))
     refine wpQuietIn_nil ?_;exact rfl
    intro W3 hW;replace Ly:=lyb Ly hW;clear hW;simp only [bu];refine cr ?_
    obtain ⟨f,hf⟩:∃ f:Int,1+(r:Int)=f:=⟨_,rfl⟩
    rw [hf];have HFB:Hid (1≤f∧f≤m.fountains):=lh (by have:=HFn.out;omega);have HV0:Hid (0≤idxV m.vessels x1.id):=lh (by rw [HI_x1.out];omega);have HT0:Hid ((0:Int)≤(t1:Nat)∧((t1:Nat):Int)≤m.acts.length):=lh (by have:=HL2.out;omega);clear hf;obtain ⟨x0_0,x0_1,x0_2,x0_3⟩:=lyc4 Ly 0 rfl;have l0_:=Ly.out.lt 0 rfl;gi_wp2;clear x0_0 x0_1 x0_2 x0_3 l0_;refine ⟨trivial,(c_W (kx (some ⟨bv,off,none⟩) nv cv Aa na ca At nt ct m x1.id (t1:Nat) f W3 (HMS.out.up Ly.out.1))).mono ?_⟩;rintro e W4 ⟨s1,s2,ee,rfl,hma,hb⟩;replace Ly:=lyb Ly hb;clear hb;have HT1:=lh hma;clear hma;gi_upto_region 6 with fail
    obtain ⟨V5,hV⟩:∃ V,(W4.alloc (.cells #[.int .i64 s1,.int .i64 s2] 54))=V:=⟨_,rfl⟩
    rw [hV];have hb:=cK hV;have hnew:=cO hV;have hge:=Ly.out.bel.size;replace Ly:=lyb Ly hb;replace Ly:=lh (Ly.out.add hge hnew);clear hnew hge hb hV
    obtain ⟨G6,hG⟩:∃ g,W4.heap.size=g:=⟨_,rfl⟩
    rw [hG] at Ly ⊢;clear hG;replace Ly:=lh (show Lay w V5 [(w.heap.size,26,#[.int .i64 m.fountains,.slice (some ⟨bv,off,none⟩) nv cv,.slice Aa na ca,.slice At nt ct]),(G6,54,#[.int .i64 s1,.int .i64 s2])] from Ly.out);obtain ⟨x0_0,x0_1,x0_2,x0_3⟩:=lyc4 Ly 0 rfl;have l0_:=Ly.out.lt 0 rfl;gi_wp2;clear x0_0 x0_1 x0_2 x0_3 l0_;refine ⟨trivial,(c_W (rN (some ⟨bv,off,none⟩) nv cv Aa na ca At nt ct m x1.id (t1:Nat) V5 (HMS.out.up Ly.out.1))).mono ?_⟩;rintro e W7 ⟨all,eg,rfl,hma,hb⟩;replace Ly:=lyb Ly hb;clear hb;have hfi:=qI HOK.out HV0.out HT0.out HFB.out HT1.out hma;obtain ⟨rfl,hf2,hf3⟩:=hfi;have HF2:=lh hf2;have HF3:=lh hf3;clear hma hf2 hf3;gi_upto_region 7 with fail
    obtain ⟨nu,hnu⟩:∃ nu,eu m.tastes=nu:=⟨_,rfl⟩
    have HNU:=lh hnu;clear hnu
    obtain ⟨X,hX⟩:∃ X,eq m (insS m.tastes ⟨nu,x1.id,(t1:Nat),f,(n1:Nat),(n1:Nat)⟩)=X:=⟨_,rfl⟩
    have hput:=tq (m:=m) (T:=⟨nu,x1.id,(t1:Nat),f,(n1:Nat),(n1:Nat)⟩) HOK.out (by rw [HL3.out];omega) HNU.out.symm (by
     unfold dA;have h1:=HV0.out;have h2:=HT0.out;have h3:=HFB.out;simp only [decide_eq_true_eq]
     omega)
    rw [hX] at hput;have HX:=lh hX;have HPUT:=lh hput.1;have HOX:=lh hput.2;clear hX hput;have HLay0:=lh Ly.out;refine dw [([true,true,false,true,true,true,true,true],2),([],8),([],9)] [false,false,false,false,false,false,false,false,false,false,true,true,true,false,false,true] [false,false,false,false,false,false,false,false,false,false,false,false,false,false,true] 13 (fun b=>.pointer (some ⟨b,0,none⟩)) 26 #[.int .i64 0,.slice none 0 0,.slice none 0 0,.slice none 0 0] (by kernel_rfl) (by kernel_rfl) (by kernel_rfl) (av b_R 1) rfl rfl rfl (fun _ _=>rfl) (fun _ _=>rfl) ?_;refine wpFlow_cons (A:=?AF2) rfl ?hq2 ?_
    case hq2 =>
     rintro σ hσ of hof hcl;have HOF:=lh hof;clear hof hcl;obtain ⟨c0_,c1_,c2_,c3_⟩:=lyz4 Ly HOF 0 rfl;have hfw:=hfT;simp only [bu]
     repeat (gi_big_quiet_step (fail))
     refine wpQuietIn_nil ?_;exact rfl
    intro W8 hW;replace Ly:=lyb Ly hW;clear hW;gi_wp2;refine ⟨trivial,(c_W (py (some ⟨bv,off,none⟩) nv cv Aa na ca At nt ct m W8 (HMS.out.up Ly.out.1))).mono ?_⟩;rintro e W9 ⟨rfl,hb⟩;replace Ly:=lyb Ly hb;rw [HNU.out];gi_wp2;refine ⟨trivial,hb,?_⟩;clear hb;refine wpFlow_cons rfl Quietly.none ?_;intro W10 hW;replace Ly:=lyb Ly hW;clear hW;gi_wp2;refine ⟨trivial,(c_W (j5 nu x1.id (t1:Nat) f (n1:Nat) (n1:Nat) W10)).mono ?_⟩;rintro e W11 ⟨rfl,hb⟩;replace Ly:=lyb Ly hb;gi_wp2;refine ⟨trivial,hb,?_⟩;clear hb;refine wpFlow_cons rfl Quietly.none ?_;intro W12 hW;replace Ly:=lyb Ly hW;clear hW;gi_wp2;refine ⟨trivial,(c_W (sJ (some ⟨bv,off,none⟩) nv cv Aa na ca At nt ct m ⟨nu,x1.id,(t1:Nat),f,(n1:Nat),(n1:Nat)⟩ W12 (HMS.out.up Ly.out.1))).mono ?_⟩;rintro e W13 ⟨A1,m1,d1,A2,m2,d2,A3,m3,d3,rfl,hmo,_,hb⟩;replace Ly:=lyb Ly hb;rw [HPUT.out] at hmo ⊢;have HSM:=lh (iL hmo HOX.out);have HO1:=lh hmo.v;have HO2:=lh hmo.a;have HO3:=lh hmo.t;clear hmo;gi_wp2;refine ⟨trivial,hb,?_⟩;clear hb;refine wpFlow_nil (A:=?AF3) ?hq3 ?_
    case hq3 =>
     rintro σ hσ of hof hcl;have HOF:=lh hof;clear hof hcl;obtain ⟨c0_,c1_,c2_,c3_⟩:=lyz4 Ly HOF 0 rfl;have hfw:=hfT;simp only [bu]
     repeat (gi_big_quiet_step (fail))
     refine wpQuietIn_nil ?_;exact rfl
    intro G9 W14 hW hbg hbb hbi;replace Ly:=lyb Ly hW;replace HO1:=lh (HO1.out.below hW n_R);replace HO2:=lh (HO2.out.below hW n_R);replace HO3:=lh (HO3.out.below hW n_R);have c0:=hbb.cell 0;have z0:=hbb.frozen 0;have c1:=hbb.cell 1;have z1:=hbb.frozen 1;have c2:=hbb.cell 2;have z2:=hbb.frozen 2;have c3:=hbb.cell 3;have z3:=hbb.frozen 3;have hbl:=hbb.lt;have hbw:w.heap.size≤G9:=Nat.le_trans HLay0.out.1.size hbg;simp only [bu];refine dB ?_;gi_wp2;refine cr ?_;have R2:=ret4' hbb (Below.refl G9 W14) n_R (.int .i64 X.fountains) (.slice A1 m1 d1) (.slice A2 m2 d2) (.slice A3 m3 d3);replace HO1:=lh (eH HO1.out hbb (by decide) R2.2.2);replace HO2:=lh (eH HO2.out hbb (by decide) R2.2.2);replace HO3:=lh (eH HO3.out hbb (by decide) R2.2.2);replace Ly:=lh (Lay.add (w:=w) (bs:=[(w.heap.size,26,#[.int .i64 m.fountains,.slice (some ⟨bv,off,none⟩) nv cv,.slice Aa na ca,.slice At nt ct]),(G6,54,#[.int .i64 s1,.int .i64 s2])]) ⟨Ly.out.1.trans (R2.2.1.mono hbw),fun p hp=>⟨(Ly.out.2 p hp).1,(Ly.out.2 p hp).2.below R2.2.1 (by have:=(HLay0.out.2 p hp).2.lt;omega)⟩⟩ hbw R2.1);generalize ((((W14.setCell ⟨G9,0,none⟩ (.int .i64 X.fountains)).setCell ⟨G9,1,none⟩ (.slice A1 m1 d1)).setCell ⟨G9,2,none⟩ (.slice A2 m2 d2)).setCell ⟨G9,3,none⟩ (.slice A3 m3 d3))=W15 at *;clear c0 z0 c1 z1 c2 z2 c3 z3 hbl hbb hW hbg R2 hbw hbi HLay0;rcases HF2.out with e0 | e8
    ·
     subst e0;have hr:=HF3.out rfl;have q1:decide (s1<0)=false:=by simp;omega
     have q2:decide (s2<s1)=false:=by simp;omega
     have q3:decide (all<s2)=false:=by simp;omega
     clear hr;obtain ⟨x1_0,x1_1⟩:=lyc2 Ly 1 rfl;have l1_:=Ly.out.lt 1 rfl;gi_upto_region 10 with fail
     clear x1_0 x1_1 l1_;obtain ⟨x2_0,x2_1,x2_2,x2_3⟩:=lyc4 Ly 2 rfl;have l2_:=Ly.out.lt 2 rfl;gi_wp2;clear x2_0 x2_1 x2_2 x2_3 l2_;refine ⟨trivial,(c_W (kx A1 m1 d1 A2 m2 d2 A3 m3 d3 X x1.id (t1:Nat) f W15 ⟨⟨HO1.out.reads n_R,HO2.out.reads n_R,HO3.out.reads n_R⟩,HSM.out.1,HSM.out.2.1,HSM.out.2.2.1⟩)).mono ?_⟩;rintro e W16 ⟨u1,u2,ei,rfl,hma,hb⟩;replace Ly:=lyb Ly hb;replace HO1:=lh (HO1.out.below hb n_R);replace HO2:=lh (HO2.out.below hb n_R);replace HO3:=lh (HO3.out.below hb n_R);clear hb;have hlaw:=pu (n:=(n1:Nat)) HOK.out HOX.out HX.out.symm ⟨rfl,rfl,rfl,rfl,rfl⟩ HV0.out HT0.out HFB.out HT1.out hma;have HLAW:Hid ((ei=0∨ei=8)∧(ei=0↔s1≤((n1:Nat):Int)∧((n1:Nat):Int)≤s2)):=lh ⟨hlaw.1,⟨fun e=>(hlaw.2.1 e).2,fun h=>hlaw.2.2 ⟨rfl,h⟩⟩⟩;clear hma hlaw;gi_upto_region 11 with fail
     obtain ⟨V17,hV⟩:∃ V,(W16.alloc (.cells #[.int .i64 u1,.int .i64 u2] 54))=V:=⟨_,rfl⟩
     rw [hV];have hb:=cK hV;have hnew:=cO hV;have hge:=Ly.out.bel.size;replace Ly:=lyb Ly hb;replace HO1:=lh (HO1.out.below hb n_R);replace HO2:=lh (HO2.out.below hb n_R);replace HO3:=lh (HO3.out.below hb n_R);replace Ly:=lh (Ly.out.add hge hnew);clear hnew hge hb hV
     obtain ⟨G18,hG⟩:∃ g,W16.heap.size=g:=⟨_,rfl⟩
     rw [hG] at Ly ⊢;clear hG;replace Ly:=lh (show Lay w V17 [(w.heap.size,26,#[.int .i64 m.fountains,.slice (some ⟨bv,off,none⟩) nv cv,.slice Aa na ca,.slice At nt ct]),(G6,54,#[.int .i64 s1,.int .i64 s2]),(G9,26,#[.int .i64 X.fountains,.slice A1 m1 d1,.slice A2 m2 d2,.slice A3 m3 d3]),(G18,54,#[.int .i64 u1,.int .i64 u2])] from Ly.out);by_cases hw:s1≤((n1:Nat):Int)∧((n1:Nat):Int)≤s2
     ·
      obtain rfl:ei=0:=HLAW.out.2.2 hw;have hwb:decide (s1≤((n1:Nat):Int)∧((n1:Nat):Int)≤s2)=true:=by simpa using hw
      have HWB:=lh hwb;clear hw hwb;obtain ⟨x1_0,x1_1⟩:=lyc2 Ly 1 rfl;have l1_:=Ly.out.lt 1 rfl;gi_wp2;clear x1_0 x1_1 l1_;refine ⟨trivial,(c_W (ph s1 s2 (n1:Nat) V17)).mono ?_⟩;rintro e W19 ⟨rfl,hb⟩;replace Ly:=lyb Ly hb;replace HO1:=lh (HO1.out.below hb n_R);replace HO2:=lh (HO2.out.below hb n_R);replace HO3:=lh (HO3.out.below hb n_R);clear hb;rw [HWB.out];gi_wp2;refine bodyPost_ret (v:=.bool true) (by simp [results,Tryz.results5,go_sem]) rfl ?_;exact ⟨rfl,Ly.out.1⟩
     ·
      obtain rfl:ei=8:=HLAW.out.1.resolve_left fun e=>hw (HLAW.out.2.1 e);have hwb:decide (s1≤((n1:Nat):Int)∧((n1:Nat):Int)≤s2)=false:=by simpa using hw
      have HWB:=lh hwb;clear hw hwb;obtain ⟨x1_0,x1_1⟩:=lyc2 Ly 1 rfl;have l1_:=Ly.out.lt 1 rfl;gi_wp2;clear x1_0 x1_1 l1_;refine ⟨trivial,(c_W (ph s1 s2 (n1:Nat) V17)).mono ?_⟩;rintro e W20 ⟨rfl,hb⟩;replace Ly:=lyb Ly hb;replace HO1:=lh (HO1.out.below hb n_R);replace HO2:=lh (HO2.out.below hb n_R);replace HO3:=lh (HO3.out.below hb n_R);clear hb;rw [HWB.out];gi_wp2;refine bodyPost_ret (v:=.bool true) (by simp [results,Tryz.results5,go_sem]) rfl ?_;exact ⟨rfl,Ly.out.1⟩
    ·
     subst e8;obtain ⟨x1_0,x1_1⟩:=lyc2 Ly 1 rfl;have l1_:=Ly.out.lt 1 rfl;gi_upto_region 10 with fail
     clear x1_0 x1_1 l1_;obtain ⟨x2_0,x2_1,x2_2,x2_3⟩:=lyc4 Ly 2 rfl;have l2_:=Ly.out.lt 2 rfl;gi_wp2;clear x2_0 x2_1 x2_2 x2_3 l2_;refine ⟨trivial,(c_W (kx A1 m1 d1 A2 m2 d2 A3 m3 d3 X x1.id (t1:Nat) f W15 ⟨⟨HO1.out.reads n_R,HO2.out.reads n_R,HO3.out.reads n_R⟩,HSM.out.1,HSM.out.2.1,HSM.out.2.2.1⟩)).mono ?_⟩;rintro e W21 ⟨u1,u2,ei,rfl,hma,hb⟩;replace Ly:=lyb Ly hb;replace HO1:=lh (HO1.out.below hb n_R);replace HO2:=lh (HO2.out.below hb n_R);replace HO3:=lh (HO3.out.below hb n_R);clear hb;have hlaw:=pu (n:=(n1:Nat)) HOK.out HOX.out HX.out.symm ⟨rfl,rfl,rfl,rfl,rfl⟩ HV0.out HT0.out HFB.out HT1.out hma;obtain rfl:ei=8:=hlaw.1.resolve_left fun e=>by have:=(hlaw.2.1 e).1;omega
     clear hma hlaw;gi_upto_region 11 with fail
     obtain ⟨V22,hV⟩:∃ V,(W21.alloc (.cells #[.int .i64 u1,.int .i64 u2] 54))=V:=⟨_,rfl⟩
     rw [hV];have hb:=cK hV;have hnew:=cO hV;have hge:=Ly.out.bel.size;replace Ly:=lyb Ly hb;replace HO1:=lh (HO1.out.below hb n_R);replace HO2:=lh (HO2.out.below hb n_R);replace HO3:=lh (HO3.out.below hb n_R);replace Ly:=lh (Ly.out.add hge hnew);clear hnew hge hb hV
     obtain ⟨G23,hG⟩:∃ g,W21.heap.size=g:=⟨_,rfl⟩
     rw [hG] at Ly ⊢;clear hG;replace Ly:=lh (show Lay w V22 [(w.heap.size,26,#[.int .i64 m.fountains,.slice (some ⟨bv,off,none⟩) nv cv,.slice Aa na ca,.slice At nt ct]),(G6,54,#[.int .i64 s1,.int .i64 s2]),(G9,26,#[.int .i64 X.fountains,.slice A1 m1 d1,.slice A2 m2 d2,.slice A3 m3 d3]),(G23,54,#[.int .i64 u1,.int .i64 u2])] from Ly.out);obtain ⟨x1_0,x1_1⟩:=lyc2 Ly 1 rfl;have l1_:=Ly.out.lt 1 rfl;gi_wp2;clear x1_0 x1_1 l1_;refine ⟨trivial,?_⟩;gi_wp2;refine bodyPost_ret (v:=.bool true) (by simp [results,Tryz.results5,go_sem]) rfl ?_;exact ⟨rfl,Ly.out.1⟩
end
section
open Go.ChangeShapes Go.WideShapes Go.ChangeAt Go.RowKit Go.Joins
theorem ownT:ownKnob Tryz.prog.godebug=none:=by kernel_rfl
theorem dx:laidOutB Tryz.prog=true:=by kernel_rfl
theorem mixExact_lifted (os:Os)(started:os.Started)(H:Type)(enc:TypeId × Value→H) :
  ReturnsInHanded {} Tryz.checked os 5 .any (Rows.mixExactSpec.pre6 enc Tryz.prog Tryz.f5 Rows.mixExactRow.domain false) (Rows.mixExactSpec.post enc Tryz.prog Tryz.f5 false true false false):=by
 refine returnsInHanded_of_change (C:=Tryz.checked) ownT started (by kernel_rfl) Tryz.func5
  (ChangeSpec.witness6 (enc:=enc) (C:=Tryz.checked) false ⟨#[],#[.agg #[.int .i64 0,.slice none 0 0,.slice none 0 0,.slice none 0 0],.int .u8 0,.int .u8 0,.int .u8 0,.int .u8 0],[]⟩ 8 (by kernel_rfl) (by kernel_rfl) (by kernel_rfl) (by kernel_rfl)) ?_
 intro W base args ds gs before hval0 hW hcnd _;have hval:∀ (j:Nat) t v,Tryz.f5.params[j]? =some t→args[j]? =some v→Value.okWide Tryz.prog W .any base t v:=hval0;have hW':=hW;obtain ⟨p,q,hA0,hV,rfl,hfz,hnd⟩:=hW;have hA:DataW.TrodAll enc Tryz.prog W 0 (fun _=>true) true Tryz.f5.params.toList args.toList ds p:=hA0;rw [Tryz.params5] at hA hval;obtain ⟨v0,vs0,d0,ds0,p0,q0,hargs,rfl,rfl,h0,r0⟩:=trodAll_cons hA;obtain ⟨v1,vs1,d1,ds1,p1,q1,rfl,rfl,rfl,h1,r1⟩:=trodAll_cons r0;obtain ⟨v2,vs2,d2,ds2,p2,q2,rfl,rfl,rfl,h2,r2⟩:=trodAll_cons r1;obtain ⟨v3,vs3,d3,ds3,p3,q3,rfl,rfl,rfl,h3,r3⟩:=trodAll_cons r2;obtain ⟨v4,vs4,d4,ds4,p4,q4,rfl,rfl,rfl,h4,r4⟩:=trodAll_cons r3;obtain ⟨rfl,rfl,rfl⟩:=trodAll_nil r4;obtain rfl:args=#[v0,v1,v2,v3,v4]:=by cases args;simp_all
 obtain ⟨rfl,rfl⟩:=trodVars_none hV;have k0:=h0;have lt0:∀ x∈p0,x.block<W.heap.size:=by obtain ⟨m,hm⟩:=k0;exact DataW.trod_lt m _ _ _ hm
 have k1:=h1;have lt1:∀ x∈p1,x.block<W.heap.size:=by obtain ⟨m,hm⟩:=k1;exact DataW.trod_lt m _ _ _ hm
 have k2:=h2;have lt2:∀ x∈p2,x.block<W.heap.size:=by obtain ⟨m,hm⟩:=k2;exact DataW.trod_lt m _ _ _ hm
 have k3:=h3;have lt3:∀ x∈p3,x.block<W.heap.size:=by obtain ⟨m,hm⟩:=k3;exact DataW.trod_lt m _ _ _ hm
 have k4:=h4;have lt4:∀ x∈p4,x.block<W.heap.size:=by obtain ⟨m,hm⟩:=k4;exact DataW.trod_lt m _ _ _ hm
 obtain ⟨Av,nv,cv,Aa,na,ca,At,nt,ct,m,rfl,hca,hct,hm⟩:=m4 (hval 0 26 v0 rfl rfl) h0;obtain ⟨s1,e1,hb1⟩:=ev h1 (okWide_int Tryz.underlying5 (hval 1 5 v1 rfl rfl));subst e1;obtain ⟨s2,e2,hb2⟩:=ev h2 (okWide_int Tryz.underlying5 (hval 2 5 v2 rfl rfl));subst e2;obtain ⟨s3,e3,hb3⟩:=ev h3 (okWide_int Tryz.underlying5 (hval 3 5 v3 rfl rfl));subst e3;obtain ⟨s4,e4,hb4⟩:=ev h4 (okWide_int Tryz.underlying5 (hval 4 5 v4 rfl rfl));subst e4;clear hA0 hval0;refine (callsIn_wide.1 (ux Av nv cv Aa na ca At nt ct m s1 s2 s3 s4 W hm hb1 hb2 hb3 hb4)).mono fun e W' ⟨he,bel⟩=>?_;subst he;exact ⟨_,rfl,_,_,_,[],_,[],hW',trodAll_mk1 (shut_bool Tryz.underlying4 _),(trodAll_cons_mk (Below.trod dx (by kernel_rfl) (of_decide_eq_true (by kernel_rfl)) k0 bel lt0) (trodAll_cons_mk (Below.trod dx (by kernel_rfl) (of_decide_eq_true (by kernel_rfl)) k1 bel lt1) (trodAll_cons_mk (Below.trod dx (by kernel_rfl) (of_decide_eq_true (by kernel_rfl)) k2 bel lt2) (trodAll_cons_mk (Below.trod dx (by kernel_rfl) (of_decide_eq_true (by kernel_rfl)) k3 bel lt3) (trodAll_cons_mk (Below.trod dx (by kernel_rfl) (of_decide_eq_true (by kernel_rfl)) k4 bel lt4) (trodAll_mk0)))))),rfl,bel.frame _,fun h=>by cases h⟩
theorem mixExact_holds:Rows.MixExactSaid :=
 OpenClaim.holds_of_wide 5 Tryz.f5 rfl rfl rfl rfl rfl rfl rfl ⟨rfl,rfl,rfl,rfl,rfl⟩ rfl rfl rfl rfl rfl (by kernel_rfl) Tryz.func5 (by kernel_rfl)
  (of_decide_eq_true (by kernel_rfl)) (by unfold Func.isWrapper;rw [if_neg (of_decide_eq_false (by kernel_rfl))];exact ⟨rfl,rfl⟩)
  (fun os started H enc _=>mixExact_lifted os started H enc)
#print axioms mixExact_holds
end
end Go.Proofs.YthofngceiecniaaGreat
