/- MixMore: whatever the arguments, the law answers true. No conditions. -/
import Derived.Sort.CutIn
import Derived.Test.YthofngceiecniaaGreatRows
import Derived.OpenShut
import Derived.ShutString
import Derived.ChangeOld
import Derived.Lib.SmallJoins
import Derived.Test.YthofngceiecniaaGreatZxB14
set_option linter.unusedVariables false
/- MixMore. -/
namespace Go.Proofs.YthofngceiecniaaGreat
set_option maxHeartbeats 32000000
set_option maxRecDepth 100000
section
open Go.RowKit Go.Shelf
attribute [local go_sem] Oper.semAt_some
theorem ve (Av:Option Addr)(nv cv:Nat)(Aa:Option Addr)(na ca:Nat)(At:Option Addr)(nt ct:Nat)(m:Mix)(vessel after of_ lo wide about at_ which:Nat)(w:World)(h:dD w w.heap.size Av nv Aa na At nt m)(h_vessel:vessel≤255)(h_after:after≤255)(h_of_:of_≤255)(h_lo:lo≤255)(h_wide:wide≤255)(h_about:about≤255)(h_at_:at_≤255)(h_which:which≤255) :
  CallsIn Fence.wide 9 Tryz.prog 10 #[.agg #[.int .i64 m.fountains,.slice Av nv cv,.slice Aa na ca,.slice At nt ct],.int .u8 vessel,.int .u8 after,.int .u8 of_,.int .u8 lo,.int .u8 wide,.int .u8 about,.int .u8 at_,.int .u8 which] w (pZ w):=by
 have HM:=lh h;clear h;refine callsIn_of_wp Tryz.func10 rfl trivial ?_ rfl;simp only [Tryz.ntmps10,es,Nat.reduceAdd,Nat.reduceSub];gi_upto_region 1 with fail
 have Ly:=lh (Lay.one w 26 #[.int .i64 m.fountains,.slice Av nv cv,.slice Aa na ca,.slice At nt ct]);generalize (w.alloc (.cells #[.int .i64 m.fountains,.slice Av nv cv,.slice Aa na ca,.slice At nt ct] 26))=w0 at *;gi_wp2;refine ⟨trivial,(c_W (m5 w0)).mono ?_⟩;rintro e W1 ⟨rfl,hb⟩;replace Ly:=lyb Ly hb;clear hb;obtain ⟨x0_0,x0_1,x0_2,x0_3⟩:=lyc4 Ly 0 rfl;have l0_:=Ly.out.lt 0 rfl;gi_wp2;clear x0_0 x0_1 x0_2 x0_3 l0_;refine ⟨trivial,(c_W (mM Av nv cv Aa na ca At nt ct m W1 (HM.out.up Ly.out.1))).mono ?_⟩;rintro e W2 ⟨rfl,hb⟩;replace Ly:=lyb Ly hb;clear hb
 cases hr:jC nv na nt m with
 | false =>
  clear hr;gi_wp2;refine bodyPost_ret (v:=.bool true) (by simp [results,Tryz.results10,go_sem]) rfl ?_;exact ⟨rfl,Ly.out.1⟩
 | true =>
  have hok:=(jz hr).2;have hvs:=cL hok;have hl1:=HM.out.lenV;have hl2:=HM.out.lenA;have hl3:=HM.out.lenT
  have hsx:MixS w Av nv Aa na At nt m:=⟨HM.out,by omega,by omega,by omega⟩
  have HMS:=lh hsx;have HOK:=lh hok;have HL1:=lh hl1;have HL2:=lh hl2;have HL3:=lh hl3;have hnv:nv≤4:=by omega
  have hna:na≤12:=by omega
  have hnt:nt≤8:=by omega
  have hF:1≤m.fountains∧m.fountains≤4:=by omega
  have HFF:=lh hF;clear hr hok hvs hsx hl1 hl2 hl3 hF;by_cases hv0:nv=0
  ·
   have hv0b:(((nv:Nat):Int)==0)=true:=by simp;omega
   obtain ⟨x0_0,x0_1,x0_2,x0_3⟩:=lyc4 Ly 0 rfl;have l0_:=Ly.out.lt 0 rfl;gi_wp2;clear x0_0 x0_1 x0_2 x0_3 l0_;refine bodyPost_ret (v:=.bool true) (by simp [results,Tryz.results10,go_sem]) rfl ?_;exact ⟨rfl,Ly.out.1⟩
  ·
   have hv0b:(((nv:Nat):Int)==0)=false:=by simp;omega
   have hv1:0<nv:=by omega
   by_cases hx0:nt=8
   ·
    have hx0b:(((nt:Nat):Int)==8)=true:=by simp;omega
    obtain ⟨x0_0,x0_1,x0_2,x0_3⟩:=lyc4 Ly 0 rfl;have l0_:=Ly.out.lt 0 rfl;gi_wp2;clear x0_0 x0_1 x0_2 x0_3 l0_;refine bodyPost_ret (v:=.bool true) (by simp [results,Tryz.results10,go_sem]) rfl ?_;exact ⟨rfl,Ly.out.1⟩
   ·
    have hx0b:(((nt:Nat):Int)==8)=false:=by simp;omega
    have hx7:nt≤7:=by omega
    obtain ⟨F,hFn⟩:∃ F:Nat,m.fountains=(F:Int):=⟨m.fountains.toNat,by have:=HFF.out;omega⟩
    have hF4:1≤F∧F≤4:=by have:=HFF.out;omega
    have HFn:=lh hFn;have dz_F:¬ m.fountains=0:=by omega
    have dy_F:(m.fountains==0)=false:=by simp;omega
    clear hFn;have hlt_r:of_ % F<F:=Nat.mod_lt _ (by omega);have tm_r:Int.tmod (of_:Int) m.fountains=((of_ % F:Nat):Int):=by rw [HFn.out,Int.tmod_eq_emod_of_nonneg (by omega)];push_cast;rfl
    obtain ⟨r,hq_r⟩:∃ r,of_ % F=r:=⟨_,rfl⟩
    rw [hq_r] at hlt_r tm_r;clear hq_r;have wx_r:IntKind.i64.wrap (of_:Int)=(of_:Int):=IntWalk.i64_in _ (by omega);obtain ⟨x0_0,x0_1,x0_2,x0_3⟩:=lyc4 Ly 0 rfl;have l0_:=Ly.out.lt 0 rfl;gi_upto_region 5 with fail
    clear x0_0 x0_1 x0_2 x0_3 l0_;have hlt_i1:vessel % nv<nv:=Nat.mod_lt _ (by omega);have tm_i1:Int.tmod (vessel:Int) ((nv:Nat):Int)=((vessel % nv:Nat):Int):=by rw [Int.tmod_eq_emod_of_nonneg (by omega)];push_cast;rfl
    obtain ⟨i1,hq_i1⟩:∃ r,vessel % nv=r:=⟨_,rfl⟩
    rw [hq_i1] at hlt_i1 tm_i1;clear hq_i1;have wx_i1:IntKind.i64.wrap (vessel:Int)=(vessel:Int):=IntWalk.i64_in _ (by omega);have dz_nv:¬ ((nv:Int):Int)=0:=by omega
    have dy_nv:(((nv:Int):Int)==0)=false:=by simp;omega
    have hlt_t1:after % (na+1)<(na+1):=Nat.mod_lt _ (by omega);have tm_t1:Int.tmod (after:Int) ((na:Int)+1)=((after % (na+1):Nat):Int):=by rw [Int.tmod_eq_emod_of_nonneg (by omega)];push_cast;rfl
    obtain ⟨t1,hq_t1⟩:∃ r,after % (na+1)=r:=⟨_,rfl⟩
    rw [hq_t1] at hlt_t1 tm_t1;clear hq_t1;have wx_t1:IntKind.i64.wrap (after:Int)=(after:Int):=IntWalk.i64_in _ (by omega);have dz_na:¬ (((na:Int)+1):Int)=0:=by omega
    have dy_na:((((na:Int)+1):Int)==0)=false:=by simp;omega
    have hlt_l1:lo % 8<8:=Nat.mod_lt _ (by omega);have tm_l1:Int.tmod (lo:Int) 8=((lo % 8:Nat):Int):=by rw [Int.tmod_eq_emod_of_nonneg (by omega)];push_cast;rfl
    obtain ⟨l1,hq_l1⟩:∃ r,lo % 8=r:=⟨_,rfl⟩
    rw [hq_l1] at hlt_l1 tm_l1;clear hq_l1;have wx_l1:IntKind.i64.wrap (lo:Int)=(lo:Int):=IntWalk.i64_in _ (by omega);have hlt_w1:wide % 8<8:=Nat.mod_lt _ (by omega);have tm_w1:Int.tmod (wide:Int) 8=((wide % 8:Nat):Int):=by rw [Int.tmod_eq_emod_of_nonneg (by omega)];push_cast;rfl
    obtain ⟨w1,hq_w1⟩:∃ r,wide % 8=r:=⟨_,rfl⟩
    rw [hq_w1] at hlt_w1 tm_w1;clear hq_w1;have wx_w1:IntKind.i64.wrap (wide:Int)=(wide:Int):=IntWalk.i64_in _ (by omega);obtain ⟨bv,off,x1,rfl,hbv,hx_x1,hc_x1,_⟩:=HM.out.vess hlt_i1;have HBV0:=lh hbv;have HX_x1:=lh hx_x1;have HC_x1:=lh hc_x1;have HI_x1:=lh (k9 HOK.out hx_x1);clear hx_x1 hc_x1
    obtain ⟨nu,hnu⟩:∃ nu,eu m.tastes=nu:=⟨_,rfl⟩
    have HNU:=lh hnu;clear hnu
    obtain ⟨X,hX⟩:∃ X,eq m (insS m.tastes ⟨nu,x1.id,(t1:Nat),1+(r:Nat),(l1:Nat),(l1:Nat)+(w1:Nat)⟩)=X:=⟨_,rfl⟩
    have hput:=tq (m:=m) (T:=⟨nu,x1.id,(t1:Nat),1+(r:Nat),(l1:Nat),(l1:Nat)+(w1:Nat)⟩) HOK.out (by rw [HL3.out];omega) HNU.out.symm (by
     unfold dA;have h1:=HI_x1.out;have h2:=HL2.out;have h3:=HFn.out;simp only [decide_eq_true_eq]
     omega)
    rw [hX] at hput;have HX:=lh hX;have HPUT:=lh hput.1;have HOX:=lh hput.2;clear hX hput;have HLay0:=lh Ly.out;refine dw [([true,true,false,true,true,true,true,true,true,true,true,true,true,true,true,true,true,true,true,true,true,true,true,true,true,true,true,true,true,true,true,true],2),([],32),([],33)] [false,false,false,false,false,false,false,false,false,false,false,false,false,false,false,false,false,false,false,false,false,false,false,false,false,false,false,false,false,false,false,false,false,false,true,true,true,false,false,true] [false,false,false,false,false,false,false,false,false,false,false,false,false,false,false,false,false,false,false,false,false,false,false,false,false,false,false,false,false,false,false,false,false,false,false,false,false,false,true] 37 (fun b=>.pointer (some ⟨b,0,none⟩)) 26 #[.int .i64 0,.slice none 0 0,.slice none 0 0,.slice none 0 0] (by kernel_rfl) (by kernel_rfl) (by kernel_rfl) (av b_R 1) rfl rfl rfl (fun _ _=>rfl) (fun _ _=>rfl) ?_;refine wpFlow_cons (A:=?AF1) rfl ?hq1 ?_
    case hq1 =>
     rintro σ hσ of hof hcl;have HOF:=lh hof;clear hof hcl;obtain ⟨c0_,c1_,c2_,c3_⟩:=lyz4 Ly HOF 0 rfl;have hfw:=hfT;have hv_x1:∀ z,(of z).cell? ⟨bv,off+i1 * 2,none⟩=some (.int .i64 x1.id):=fun z=>((Ly.out.1.trans ((HOF.out z).mono Ly.out.1.size)).cell (p:=⟨bv,off+i1 * 2,none⟩) HBV0.out).trans HC_x1.out;have i0_i1:(0:Int)≤(i1:Int):=by omega
     have i1_i1:(i1:Int)<(nv:Int):=by omega
     simp only [bu]
     repeat (gi_big_quiet_step (fail))
     refine wpQuietIn_nil ?_;exact rfl
    intro W3 hW;replace Ly:=lyb Ly hW;clear hW;gi_wp2;refine ⟨trivial,(c_W (py (some ⟨bv,off,none⟩) nv cv Aa na ca At nt ct m W3 (HMS.out.up Ly.out.1))).mono ?_⟩;rintro e W4 ⟨rfl,hb⟩;replace Ly:=lyb Ly hb;rw [HNU.out];gi_wp2;refine ⟨trivial,hb,?_⟩;clear hb;refine wpFlow_cons rfl Quietly.none ?_;intro W5 hW;replace Ly:=lyb Ly hW;clear hW;gi_wp2;refine ⟨trivial,(c_W (j5 nu x1.id (t1:Nat) (1+(r:Nat)) (l1:Nat) ((l1:Nat)+(w1:Nat)) W5)).mono ?_⟩;rintro e W6 ⟨rfl,hb⟩;replace Ly:=lyb Ly hb;gi_wp2;refine ⟨trivial,hb,?_⟩;clear hb;refine wpFlow_cons rfl Quietly.none ?_;intro W7 hW;replace Ly:=lyb Ly hW;clear hW;gi_wp2;refine ⟨trivial,(c_W (sJ (some ⟨bv,off,none⟩) nv cv Aa na ca At nt ct m ⟨nu,x1.id,(t1:Nat),1+(r:Nat),(l1:Nat),(l1:Nat)+(w1:Nat)⟩ W7 (HMS.out.up Ly.out.1))).mono ?_⟩;rintro e W8 ⟨A1,n1,d1,A2,n2,d2,A3,n3,d3,rfl,hmo,_,hb⟩;replace Ly:=lyb Ly hb;rw [HPUT.out] at hmo ⊢;have HSM:=lh (iL hmo HOX.out);have HO1:=lh hmo.v;have HO2:=lh hmo.a;have HO3:=lh hmo.t;clear hmo;gi_wp2;refine ⟨trivial,hb,?_⟩;clear hb;refine wpFlow_nil (A:=?AF2) ?hq2 ?_
    case hq2 =>
     rintro σ hσ of hof hcl;have HOF:=lh hof;clear hof hcl;obtain ⟨c0_,c1_,c2_,c3_⟩:=lyz4 Ly HOF 0 rfl;have hfw:=hfT;simp only [bu]
     repeat (gi_big_quiet_step (fail))
     refine wpQuietIn_nil ?_;exact rfl
    intro G9 W9 hW hbg hbb hbi;replace Ly:=lyb Ly hW;replace HO1:=lh (HO1.out.below hW n_R);replace HO2:=lh (HO2.out.below hW n_R);replace HO3:=lh (HO3.out.below hW n_R);have c0:=hbb.cell 0;have z0:=hbb.frozen 0;have c1:=hbb.cell 1;have z1:=hbb.frozen 1;have c2:=hbb.cell 2;have z2:=hbb.frozen 2;have c3:=hbb.cell 3;have z3:=hbb.frozen 3;have hbl:=hbb.lt;have hbw:w.heap.size≤G9:=Nat.le_trans HLay0.out.1.size hbg;simp only [bu];refine dB ?_;gi_wp2;refine cr ?_;have R2:=ret4' hbb (Below.refl G9 W9) n_R (.int .i64 X.fountains) (.slice A1 n1 d1) (.slice A2 n2 d2) (.slice A3 n3 d3);replace HO1:=lh (eH HO1.out hbb (by decide) R2.2.2);replace HO2:=lh (eH HO2.out hbb (by decide) R2.2.2);replace HO3:=lh (eH HO3.out hbb (by decide) R2.2.2);replace Ly:=lh (Lay.add (w:=w) (bs:=[(w.heap.size,26,#[.int .i64 m.fountains,.slice (some ⟨bv,off,none⟩) nv cv,.slice Aa na ca,.slice At nt ct])]) ⟨Ly.out.1.trans (R2.2.1.mono hbw),fun p hp=>⟨(Ly.out.2 p hp).1,(Ly.out.2 p hp).2.below R2.2.1 (by have:=(HLay0.out.2 p hp).2.lt;omega)⟩⟩ hbw R2.1);generalize ((((W9.setCell ⟨G9,0,none⟩ (.int .i64 X.fountains)).setCell ⟨G9,1,none⟩ (.slice A1 n1 d1)).setCell ⟨G9,2,none⟩ (.slice A2 n2 d2)).setCell ⟨G9,3,none⟩ (.slice A3 n3 d3))=W10 at *;clear c0 z0 c1 z1 c2 z2 c3 z3 hbl hbb hW hbg R2 hbw hbi HLay0;gi_upto_region 8 with fail
    have hlt_i2:about % nv<nv:=Nat.mod_lt _ (by omega);have tm_i2:Int.tmod (about:Int) ((nv:Nat):Int)=((about % nv:Nat):Int):=by rw [Int.tmod_eq_emod_of_nonneg (by omega)];push_cast;rfl
    obtain ⟨i2,hq_i2⟩:∃ r,about % nv=r:=⟨_,rfl⟩
    rw [hq_i2] at hlt_i2 tm_i2;clear hq_i2;have wx_i2:IntKind.i64.wrap (about:Int)=(about:Int):=IntWalk.i64_in _ (by omega);have hlt_t2:at_ % (na+1)<(na+1):=Nat.mod_lt _ (by omega);have tm_t2:Int.tmod (at_:Int) ((na:Int)+1)=((at_ % (na+1):Nat):Int):=by rw [Int.tmod_eq_emod_of_nonneg (by omega)];push_cast;rfl
    obtain ⟨t2,hq_t2⟩:∃ r,at_ % (na+1)=r:=⟨_,rfl⟩
    rw [hq_t2] at hlt_t2 tm_t2;clear hq_t2;have wx_t2:IntKind.i64.wrap (at_:Int)=(at_:Int):=IntWalk.i64_in _ (by omega);have hlt_q:which % F<F:=Nat.mod_lt _ (by omega);have tm_q:Int.tmod (which:Int) m.fountains=((which % F:Nat):Int):=by rw [HFn.out,Int.tmod_eq_emod_of_nonneg (by omega)];push_cast;rfl
    obtain ⟨q,hq_q⟩:∃ r,which % F=r:=⟨_,rfl⟩
    rw [hq_q] at hlt_q tm_q;clear hq_q;have wx_q:IntKind.i64.wrap (which:Int)=(which:Int):=IntWalk.i64_in _ (by omega);obtain ⟨b2,o2,x2,e2,_,hx_x2,hc_x2,_⟩:=HM.out.vess hlt_i2;obtain ⟨rfl,rfl⟩:bv=b2∧off=o2:=by cases e2;exact ⟨rfl,rfl⟩
    clear e2;have HX_x2:=lh hx_x2;have HC_x2:=lh hc_x2;have HI_x2:=lh (k9 HOK.out hx_x2);clear hx_x2 hc_x2;refine wpIn_flow_old [] [true,true,true,true,true,true,true,true,true,true,true,true,true,true,true,true,true,true,true,true,true,true,true,true,true,true,true] [] (by kernel_rfl) (by kernel_rfl) (by kernel_rfl) (av b_R 1) ?_;refine wpFlow_nil (A:=?AF3) ?hq3 ?_
    case hq3 =>
     rintro σ hσ of hof hcl;have HOF:=lh hof;clear hof hcl;obtain ⟨c0_,c1_,c2_,c3_⟩:=lyz4 Ly HOF 0 rfl;have hfw:=hfT;have hv_x2:∀ z,(of z).cell? ⟨bv,off+i2 * 2,none⟩=some (.int .i64 x2.id):=fun z=>((Ly.out.1.trans ((HOF.out z).mono Ly.out.1.size)).cell (p:=⟨bv,off+i2 * 2,none⟩) HBV0.out).trans HC_x2.out;have i0_i2:(0:Int)≤(i2:Int):=by omega
     have i1_i2:(i2:Int)<(nv:Int):=by omega
     simp only [bu]
     repeat (gi_big_quiet_step (fail))
     refine wpQuietIn_nil ?_;exact rfl
    intro W11 hW;replace Ly:=lyb Ly hW;replace HO1:=lh (HO1.out.below hW n_R);replace HO2:=lh (HO2.out.below hW n_R);replace HO3:=lh (HO3.out.below hW n_R);clear hW;simp only [bu];refine cr ?_
    obtain ⟨f,hf⟩:∃ f:Int,1+(q:Int)=f:=⟨_,rfl⟩
    rw [hf];have HFB:Hid (1≤f∧f≤m.fountains):=lh (by have:=HFn.out;omega);clear hf;obtain ⟨x0_0,x0_1,x0_2,x0_3⟩:=lyc4 Ly 0 rfl;have l0_:=Ly.out.lt 0 rfl;gi_wp2;clear x0_0 x0_1 x0_2 x0_3 l0_;refine ⟨trivial,(c_W (kx (some ⟨bv,off,none⟩) nv cv Aa na ca At nt ct m x2.id (t2:Nat) f W11 (HMS.out.up Ly.out.1))).mono ?_⟩;rintro e W12 ⟨s1,s2,eh,rfl,hma,hb⟩;replace Ly:=lyb Ly hb;replace HO1:=lh (HO1.out.below hb n_R);replace HO2:=lh (HO2.out.below hb n_R);replace HO3:=lh (HO3.out.below hb n_R);clear hb;have HT1:=lh hma;clear hma;gi_upto_region 10 with fail
    obtain ⟨V13,hV⟩:∃ V,(W12.alloc (.cells #[.int .i64 s1,.int .i64 s2] 54))=V:=⟨_,rfl⟩
    rw [hV];have hb:=cK hV;have hnew:=cO hV;have hge:=Ly.out.bel.size;replace Ly:=lyb Ly hb;replace HO1:=lh (HO1.out.below hb n_R);replace HO2:=lh (HO2.out.below hb n_R);replace HO3:=lh (HO3.out.below hb n_R);replace Ly:=lh (Ly.out.add hge hnew);clear hnew hge hb hV
    obtain ⟨G14,hG⟩:∃ g,W12.heap.size=g:=⟨_,rfl⟩
    rw [hG] at Ly ⊢;clear hG;replace Ly:=lh (show Lay w V13 [(w.heap.size,26,#[.int .i64 m.fountains,.slice (some ⟨bv,off,none⟩) nv cv,.slice Aa na ca,.slice At nt ct]),(G9,26,#[.int .i64 X.fountains,.slice A1 n1 d1,.slice A2 n2 d2,.slice A3 n3 d3]),(G14,54,#[.int .i64 s1,.int .i64 s2])] from Ly.out);obtain ⟨x1_0,x1_1,x1_2,x1_3⟩:=lyc4 Ly 1 rfl;have l1_:=Ly.out.lt 1 rfl;gi_wp2;clear x1_0 x1_1 x1_2 x1_3 l1_;refine ⟨trivial,(c_W (kx A1 n1 d1 A2 n2 d2 A3 n3 d3 X x2.id (t2:Nat) f V13 ⟨⟨HO1.out.reads n_R,HO2.out.reads n_R,HO3.out.reads n_R⟩,HSM.out.1,HSM.out.2.1,HSM.out.2.2.1⟩)).mono ?_⟩;rintro e W15 ⟨u1,u2,ei,rfl,hma,hb⟩;replace Ly:=lyb Ly hb;replace HO1:=lh (HO1.out.below hb n_R);replace HO2:=lh (HO2.out.below hb n_R);replace HO3:=lh (HO3.out.below hb n_R);clear hb;have HT2:=lh hma;clear hma;gi_upto_region 11 with fail
    obtain ⟨V16,hV⟩:∃ V,(W15.alloc (.cells #[.int .i64 u1,.int .i64 u2] 54))=V:=⟨_,rfl⟩
    rw [hV];have hb:=cK hV;have hnew:=cO hV;have hge:=Ly.out.bel.size;replace Ly:=lyb Ly hb;replace HO1:=lh (HO1.out.below hb n_R);replace HO2:=lh (HO2.out.below hb n_R);replace HO3:=lh (HO3.out.below hb n_R);replace Ly:=lh (Ly.out.add hge hnew);clear hnew hge hb hV
    obtain ⟨G17,hG⟩:∃ g,W15.heap.size=g:=⟨_,rfl⟩
    rw [hG] at Ly ⊢;clear hG;replace Ly:=lh (show Lay w V16 [(w.heap.size,26,#[.int .i64 m.fountains,.slice (some ⟨bv,off,none⟩) nv cv,.slice Aa na ca,.slice At nt ct]),(G9,26,#[.int .i64 X.fountains,.slice A1 n1 d1,.slice A2 n2 d2,.slice A3 n3 d3]),(G14,54,#[.int .i64 s1,.int .i64 s2]),(G17,54,#[.int .i64 u1,.int .i64 u2])] from Ly.out);obtain ⟨x0_0,x0_1,x0_2,x0_3⟩:=lyc4 Ly 0 rfl;have l0_:=Ly.out.lt 0 rfl;gi_wp2;clear x0_0 x0_1 x0_2 x0_3 l0_;refine ⟨trivial,(c_W (nc (some ⟨bv,off,none⟩) nv cv Aa na ca At nt ct m f V16 (HMS.out.up Ly.out.1))).mono ?_⟩;rintro e W18 ⟨c1,c2,ej,rfl,hma,hb⟩;replace Ly:=lyb Ly hb;replace HO1:=lh (HO1.out.below hb n_R);replace HO2:=lh (HO2.out.below hb n_R);replace HO3:=lh (HO3.out.below hb n_R);clear hb;have HT3:=lh hma;clear hma;gi_upto_region 12 with fail
    obtain ⟨V19,hV⟩:∃ V,(W18.alloc (.cells #[.int .i64 c1,.int .i64 c2] 54))=V:=⟨_,rfl⟩
    rw [hV];have hb:=cK hV;have hnew:=cO hV;have hge:=Ly.out.bel.size;replace Ly:=lyb Ly hb;replace HO1:=lh (HO1.out.below hb n_R);replace HO2:=lh (HO2.out.below hb n_R);replace HO3:=lh (HO3.out.below hb n_R);replace Ly:=lh (Ly.out.add hge hnew);clear hnew hge hb hV
    obtain ⟨G20,hG⟩:∃ g,W18.heap.size=g:=⟨_,rfl⟩
    rw [hG] at Ly ⊢;clear hG;replace Ly:=lh (show Lay w V19 [(w.heap.size,26,#[.int .i64 m.fountains,.slice (some ⟨bv,off,none⟩) nv cv,.slice Aa na ca,.slice At nt ct]),(G9,26,#[.int .i64 X.fountains,.slice A1 n1 d1,.slice A2 n2 d2,.slice A3 n3 d3]),(G14,54,#[.int .i64 s1,.int .i64 s2]),(G17,54,#[.int .i64 u1,.int .i64 u2]),(G20,54,#[.int .i64 c1,.int .i64 c2])] from Ly.out);obtain ⟨x1_0,x1_1,x1_2,x1_3⟩:=lyc4 Ly 1 rfl;have l1_:=Ly.out.lt 1 rfl;gi_wp2;clear x1_0 x1_1 x1_2 x1_3 l1_;refine ⟨trivial,(c_W (nc A1 n1 d1 A2 n2 d2 A3 n3 d3 X f V19 ⟨⟨HO1.out.reads n_R,HO2.out.reads n_R,HO3.out.reads n_R⟩,HSM.out.1,HSM.out.2.1,HSM.out.2.2.1⟩)).mono ?_⟩;rintro e W21 ⟨k1,k2,ek,rfl,hma,hb⟩;replace Ly:=lyb Ly hb;replace HO1:=lh (HO1.out.below hb n_R);replace HO2:=lh (HO2.out.below hb n_R);replace HO3:=lh (HO3.out.below hb n_R);clear hb;have HT4:=lh hma;clear hma;gi_upto_region 13 with fail
    obtain ⟨V22,hV⟩:∃ V,(W21.alloc (.cells #[.int .i64 k1,.int .i64 k2] 54))=V:=⟨_,rfl⟩
    rw [hV];have hb:=cK hV;have hnew:=cO hV;have hge:=Ly.out.bel.size;replace Ly:=lyb Ly hb;replace HO1:=lh (HO1.out.below hb n_R);replace HO2:=lh (HO2.out.below hb n_R);replace HO3:=lh (HO3.out.below hb n_R);replace Ly:=lh (Ly.out.add hge hnew);clear hnew hge hb hV
    obtain ⟨G23,hG⟩:∃ g,W21.heap.size=g:=⟨_,rfl⟩
    rw [hG] at Ly ⊢;clear hG;replace Ly:=lh (show Lay w V22 [(w.heap.size,26,#[.int .i64 m.fountains,.slice (some ⟨bv,off,none⟩) nv cv,.slice Aa na ca,.slice At nt ct]),(G9,26,#[.int .i64 X.fountains,.slice A1 n1 d1,.slice A2 n2 d2,.slice A3 n3 d3]),(G14,54,#[.int .i64 s1,.int .i64 s2]),(G17,54,#[.int .i64 u1,.int .i64 u2]),(G20,54,#[.int .i64 c1,.int .i64 c2]),(G23,54,#[.int .i64 k1,.int .i64 k2])] from Ly.out);have hlaw:=xq (g:=1+(r:Int)) HOK.out HOX.out HX.out.symm rfl (v:=x2.id) (t:=(t2:Nat)) (by rw [HI_x2.out];omega) (by have:=HL2.out;omega) HFB.out HT1.out HT2.out HT3.out HT4.out;obtain ⟨hw1,hw2,hw3,hw4⟩:=hlaw;obtain rfl:eh=ej:=hw1;obtain rfl:ei=ek:=hw2;have HW3:=lh hw3;have HW4:=lh hw4;clear hw3 hw4 HT1 HT2 HT3 HT4 HX;have ne1:(eh != eh)=false:=by simp
    have ne2:(ei != ei)=false:=by simp
    gi_upto_region 15 with fail
    by_cases hfg:f=1+(r:Int)
    ·
     have fb:(f != 1+(r:Int))=false:=by simpa using hfg
     have HFG:=lh hfg;clear hfg;gi_upto_region 17 with fail
     rcases HW4.out HFG.out with ⟨e1,e2,hin1,hin2⟩ | ⟨e1,e2⟩
     ·
      subst e1;subst e2;have HN1:=lh hin1;have HN2:=lh hin2;clear hin1 hin2;obtain ⟨x2_0,x2_1⟩:=lyc2 Ly 2 rfl;have l2_:=Ly.out.lt 2 rfl;obtain ⟨x3_0,x3_1⟩:=lyc2 Ly 3 rfl;have l3_:=Ly.out.lt 3 rfl;obtain ⟨x4_0,x4_1⟩:=lyc2 Ly 4 rfl;have l4_:=Ly.out.lt 4 rfl;obtain ⟨x5_0,x5_1⟩:=lyc2 Ly 5 rfl;have l5_:=Ly.out.lt 5 rfl;gi_wp2;clear x2_0 x2_1 l2_ x3_0 x3_1 l3_ x4_0 x4_1 l4_ x5_0 x5_1 l5_;refine ⟨trivial,(c_W (qK u1 u2 s1 s2 V22 HN1.out)).mono ?_⟩;rintro e W24 ⟨rfl,hb⟩;replace Ly:=lyb Ly hb;replace HO1:=lh (HO1.out.below hb n_R);replace HO2:=lh (HO2.out.below hb n_R);replace HO3:=lh (HO3.out.below hb n_R);clear hb;obtain ⟨x2_0,x2_1⟩:=lyc2 Ly 2 rfl;have l2_:=Ly.out.lt 2 rfl;obtain ⟨x3_0,x3_1⟩:=lyc2 Ly 3 rfl;have l3_:=Ly.out.lt 3 rfl;obtain ⟨x4_0,x4_1⟩:=lyc2 Ly 4 rfl;have l4_:=Ly.out.lt 4 rfl;obtain ⟨x5_0,x5_1⟩:=lyc2 Ly 5 rfl;have l5_:=Ly.out.lt 5 rfl;gi_wp2;clear x2_0 x2_1 l2_ x3_0 x3_1 l3_ x4_0 x4_1 l4_ x5_0 x5_1 l5_;refine ⟨trivial,(c_W (qK k1 k2 c1 c2 W24 HN2.out)).mono ?_⟩;rintro e W25 ⟨rfl,hb⟩;replace Ly:=lyb Ly hb;replace HO1:=lh (HO1.out.below hb n_R);replace HO2:=lh (HO2.out.below hb n_R);replace HO3:=lh (HO3.out.below hb n_R);clear hb;gi_wp2;refine bodyPost_ret (v:=.bool true) (by simp [results,Tryz.results10,go_sem]) rfl ?_;exact ⟨rfl,Ly.out.1⟩
     ·
      subst e1;rcases e2 with e2 | e2
      ·
       subst e2;obtain ⟨x2_0,x2_1⟩:=lyc2 Ly 2 rfl;have l2_:=Ly.out.lt 2 rfl;obtain ⟨x3_0,x3_1⟩:=lyc2 Ly 3 rfl;have l3_:=Ly.out.lt 3 rfl;obtain ⟨x4_0,x4_1⟩:=lyc2 Ly 4 rfl;have l4_:=Ly.out.lt 4 rfl;obtain ⟨x5_0,x5_1⟩:=lyc2 Ly 5 rfl;have l5_:=Ly.out.lt 5 rfl;gi_wp2;clear x2_0 x2_1 l2_ x3_0 x3_1 l3_ x4_0 x4_1 l4_ x5_0 x5_1 l5_;refine ⟨trivial,?_⟩;gi_wp2;refine ⟨trivial,?_⟩;gi_wp2;refine bodyPost_ret (v:=.bool true) (by simp [results,Tryz.results10,go_sem]) rfl ?_;exact ⟨rfl,Ly.out.1⟩
      ·
       subst e2;obtain ⟨x2_0,x2_1⟩:=lyc2 Ly 2 rfl;have l2_:=Ly.out.lt 2 rfl;obtain ⟨x3_0,x3_1⟩:=lyc2 Ly 3 rfl;have l3_:=Ly.out.lt 3 rfl;obtain ⟨x4_0,x4_1⟩:=lyc2 Ly 4 rfl;have l4_:=Ly.out.lt 4 rfl;obtain ⟨x5_0,x5_1⟩:=lyc2 Ly 5 rfl;have l5_:=Ly.out.lt 5 rfl;gi_wp2;clear x2_0 x2_1 l2_ x3_0 x3_1 l3_ x4_0 x4_1 l4_ x5_0 x5_1 l5_;refine ⟨trivial,?_⟩;gi_wp2;refine ⟨trivial,?_⟩;gi_wp2;refine bodyPost_ret (v:=.bool true) (by simp [results,Tryz.results10,go_sem]) rfl ?_;exact ⟨rfl,Ly.out.1⟩
    ·
     have fb:(f != 1+(r:Int))=true:=by simpa using hfg
     obtain ⟨e1,e2,e3⟩:=HW3.out hfg;obtain rfl:s1=u1:=congrArg Prod.fst e1;obtain rfl:s2=u2:=congrArg Prod.snd e1;obtain rfl:eh=ei:=e2;obtain rfl:c1=k1:=congrArg Prod.fst e3;obtain rfl:c2=k2:=congrArg Prod.snd e3;clear e1 e3 hfg;have eq1:(eh==eh)=true:=by simp
     have sq1:∀ z:World,(Op.equalIn 10000 54 (.agg #[.int .i64 s1,.int .i64 s2]) (.agg #[.int .i64 s1,.int .i64 s2])).run Tryz.prog z = .ok true z:=fun z=>du s1 s2 z;have sq2:∀ z:World,(Op.equalIn 10000 54 (.agg #[.int .i64 c1,.int .i64 c2]) (.agg #[.int .i64 c1,.int .i64 c2])).run Tryz.prog z = .ok true z:=fun z=>du c1 c2 z;obtain ⟨x2_0,x2_1⟩:=lyc2 Ly 2 rfl;have l2_:=Ly.out.lt 2 rfl;obtain ⟨x3_0,x3_1⟩:=lyc2 Ly 3 rfl;have l3_:=Ly.out.lt 3 rfl;obtain ⟨x4_0,x4_1⟩:=lyc2 Ly 4 rfl;have l4_:=Ly.out.lt 4 rfl;obtain ⟨x5_0,x5_1⟩:=lyc2 Ly 5 rfl;have l5_:=Ly.out.lt 5 rfl;gi_wp2;clear x2_0 x2_1 l2_ x3_0 x3_1 l3_ x4_0 x4_1 l4_ x5_0 x5_1 l5_;refine bodyPost_ret (v:=.bool true) (by simp [results,Tryz.results10,go_sem]) rfl ?_;exact ⟨rfl,Ly.out.1⟩
end
section
open Go.ChangeShapes Go.WideShapes Go.ChangeAt Go.RowKit Go.Joins
theorem ownT:ownKnob Tryz.prog.godebug=none:=by kernel_rfl
theorem dx:laidOutB Tryz.prog=true:=by kernel_rfl
theorem mixMore_lifted (os:Os)(started:os.Started)(H:Type)(enc:TypeId × Value→H) :
  ReturnsInHanded {} Tryz.checked os 10 .any (Rows.mixMoreSpec.pre6 enc Tryz.prog Tryz.f10 Rows.mixMoreRow.domain false) (Rows.mixMoreSpec.post enc Tryz.prog Tryz.f10 false true false false):=by
 refine returnsInHanded_of_change (C:=Tryz.checked) ownT started (by kernel_rfl) Tryz.func10
  (ChangeSpec.witness6 (enc:=enc) (C:=Tryz.checked) false ⟨#[],#[.agg #[.int .i64 0,.slice none 0 0,.slice none 0 0,.slice none 0 0],.int .u8 0,.int .u8 0,.int .u8 0,.int .u8 0,.int .u8 0,.int .u8 0,.int .u8 0,.int .u8 0],[]⟩ 8 (by kernel_rfl) (by kernel_rfl) (by kernel_rfl) (by kernel_rfl)) ?_
 intro W base args ds gs before hval0 hW hcnd _;have hval:∀ (j:Nat) t v,Tryz.f10.params[j]? =some t→args[j]? =some v→Value.okWide Tryz.prog W .any base t v:=hval0;have hW':=hW;obtain ⟨p,q,hA0,hV,rfl,hfz,hnd⟩:=hW;have hA:DataW.TrodAll enc Tryz.prog W 0 (fun _=>true) true Tryz.f10.params.toList args.toList ds p:=hA0;rw [Tryz.params10] at hA hval;obtain ⟨v0,vs0,d0,ds0,p0,q0,hargs,rfl,rfl,h0,r0⟩:=trodAll_cons hA;obtain ⟨v1,vs1,d1,ds1,p1,q1,rfl,rfl,rfl,h1,r1⟩:=trodAll_cons r0;obtain ⟨v2,vs2,d2,ds2,p2,q2,rfl,rfl,rfl,h2,r2⟩:=trodAll_cons r1;obtain ⟨v3,vs3,d3,ds3,p3,q3,rfl,rfl,rfl,h3,r3⟩:=trodAll_cons r2;obtain ⟨v4,vs4,d4,ds4,p4,q4,rfl,rfl,rfl,h4,r4⟩:=trodAll_cons r3;obtain ⟨v5,vs5,d5,ds5,p5,q5,rfl,rfl,rfl,h5,r5⟩:=trodAll_cons r4;obtain ⟨v6,vs6,d6,ds6,p6,q6,rfl,rfl,rfl,h6,r6⟩:=trodAll_cons r5;obtain ⟨v7,vs7,d7,ds7,p7,q7,rfl,rfl,rfl,h7,r7⟩:=trodAll_cons r6;obtain ⟨v8,vs8,d8,ds8,p8,q8,rfl,rfl,rfl,h8,r8⟩:=trodAll_cons r7;obtain ⟨rfl,rfl,rfl⟩:=trodAll_nil r8;obtain rfl:args=#[v0,v1,v2,v3,v4,v5,v6,v7,v8]:=by cases args;simp_all
 obtain ⟨rfl,rfl⟩:=trodVars_none hV;have k0:=h0;have lt0:∀ x∈p0,x.block<W.heap.size:=by obtain ⟨m,hm⟩:=k0;exact DataW.trod_lt m _ _ _ hm
 have k1:=h1;have lt1:∀ x∈p1,x.block<W.heap.size:=by obtain ⟨m,hm⟩:=k1;exact DataW.trod_lt m _ _ _ hm
 have k2:=h2;have lt2:∀ x∈p2,x.block<W.heap.size:=by obtain ⟨m,hm⟩:=k2;exact DataW.trod_lt m _ _ _ hm
 have k3:=h3;have lt3:∀ x∈p3,x.block<W.heap.size:=by obtain ⟨m,hm⟩:=k3;exact DataW.trod_lt m _ _ _ hm
 have k4:=h4;have lt4:∀ x∈p4,x.block<W.heap.size:=by obtain ⟨m,hm⟩:=k4;exact DataW.trod_lt m _ _ _ hm
 have k5:=h5;have lt5:∀ x∈p5,x.block<W.heap.size:=by obtain ⟨m,hm⟩:=k5;exact DataW.trod_lt m _ _ _ hm
 have k6:=h6;have lt6:∀ x∈p6,x.block<W.heap.size:=by obtain ⟨m,hm⟩:=k6;exact DataW.trod_lt m _ _ _ hm
 have k7:=h7;have lt7:∀ x∈p7,x.block<W.heap.size:=by obtain ⟨m,hm⟩:=k7;exact DataW.trod_lt m _ _ _ hm
 have k8:=h8;have lt8:∀ x∈p8,x.block<W.heap.size:=by obtain ⟨m,hm⟩:=k8;exact DataW.trod_lt m _ _ _ hm
 obtain ⟨Av,nv,cv,Aa,na,ca,At,nt,ct,m,rfl,hca,hct,hm⟩:=m4 (hval 0 26 v0 rfl rfl) h0;obtain ⟨s1,e1,hb1⟩:=ev h1 (okWide_int Tryz.underlying5 (hval 1 5 v1 rfl rfl));subst e1;obtain ⟨s2,e2,hb2⟩:=ev h2 (okWide_int Tryz.underlying5 (hval 2 5 v2 rfl rfl));subst e2;obtain ⟨s3,e3,hb3⟩:=ev h3 (okWide_int Tryz.underlying5 (hval 3 5 v3 rfl rfl));subst e3;obtain ⟨s4,e4,hb4⟩:=ev h4 (okWide_int Tryz.underlying5 (hval 4 5 v4 rfl rfl));subst e4;obtain ⟨s5,e5,hb5⟩:=ev h5 (okWide_int Tryz.underlying5 (hval 5 5 v5 rfl rfl));subst e5;obtain ⟨s6,e6,hb6⟩:=ev h6 (okWide_int Tryz.underlying5 (hval 6 5 v6 rfl rfl));subst e6;obtain ⟨s7,e7,hb7⟩:=ev h7 (okWide_int Tryz.underlying5 (hval 7 5 v7 rfl rfl));subst e7;obtain ⟨s8,e8,hb8⟩:=ev h8 (okWide_int Tryz.underlying5 (hval 8 5 v8 rfl rfl));subst e8;clear hA0 hval0;refine (callsIn_wide.1 (ve Av nv cv Aa na ca At nt ct m s1 s2 s3 s4 s5 s6 s7 s8 W hm hb1 hb2 hb3 hb4 hb5 hb6 hb7 hb8)).mono fun e W' ⟨he,bel⟩=>?_;subst he;exact ⟨_,rfl,_,_,_,[],_,[],hW',trodAll_mk1 (shut_bool Tryz.underlying4 _),(trodAll_cons_mk (Below.trod dx (by kernel_rfl) (of_decide_eq_true (by kernel_rfl)) k0 bel lt0) (trodAll_cons_mk (Below.trod dx (by kernel_rfl) (of_decide_eq_true (by kernel_rfl)) k1 bel lt1) (trodAll_cons_mk (Below.trod dx (by kernel_rfl) (of_decide_eq_true (by kernel_rfl)) k2 bel lt2) (trodAll_cons_mk (Below.trod dx (by kernel_rfl) (of_decide_eq_true (by kernel_rfl)) k3 bel lt3) (trodAll_cons_mk (Below.trod dx (by kernel_rfl) (of_decide_eq_true (by kernel_rfl)) k4 bel lt4) (trodAll_cons_mk (Below.trod dx (by kernel_rfl) (of_decide_eq_true (by kernel_rfl)) k5 bel lt5) (trodAll_cons_mk (Below.trod dx (by kernel_rfl) (of_decide_eq_true (by kernel_rfl)) k6 bel lt6) (trodAll_cons_mk (Below.trod dx (by kernel_rfl) (of_decide_eq_true (by kernel_rfl)) k7 bel lt7) (trodAll_cons_mk (Below.trod dx (by kernel_rfl) (of_decide_eq_true (by kernel_rfl)) k8 bel lt8) (trodAll_mk0)))))))))),rfl,bel.frame _,fun h=>by cases h⟩
theorem mixMore_holds:Rows.MixMoreSaid :=
 OpenClaim.holds_of_wide 10 Tryz.f10 rfl rfl rfl rfl rfl rfl rfl ⟨rfl,rfl,rfl,rfl,rfl⟩ rfl rfl rfl rfl rfl (by kernel_rfl) Tryz.func10 (by kernel_rfl)
  (of_decide_eq_true (by kernel_rfl)) (by unfold Func.isWrapper;rw [if_neg (of_decide_eq_false (by kernel_rfl))];exact ⟨rfl,rfl⟩)
  (fun os started H enc _=>mixMore_lifted os started H enc)
#print axioms mixMore_holds
end
end Go.Proofs.YthofngceiecniaaGreat
