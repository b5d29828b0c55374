/- MixSafe: whatever the arguments, the law answers true. No conditions. -/
import Derived.Sort.CutIn
import Derived.Test.YthofngceiecniaaGreatRows
import Derived.OpenShut
import Derived.ShutString
import Derived.ChangeOld
import Derived.Lib.SmallJoins
import Derived.Test.YthofngceiecniaaGreatZxB14
set_option linter.unusedVariables false
/- MixSafe. -/
namespace Go.Proofs.YthofngceiecniaaGreat
set_option maxHeartbeats 32000000
set_option maxRecDepth 100000
section
open Go.RowKit Go.Shelf
attribute [local go_sem] Oper.semAt_some
theorem iF {W:World}{base n1 c1 n2 c2 n3 c3:Nat}{A1 A2 A3:Option Addr}{m:Mix}(h:dh W base A1 n1 c1 A2 n2 c2 A3 n3 c3 m):m.vessels.length=n1∧m.acts.length=n2∧m.tastes.length=n3 :=
 ⟨dL g9 (by omega) (h.v.reads n_R),dL jV (by omega) (h.a.reads n_R),dL eT (by omega) (h.t.reads n_R)⟩
theorem wu (Av:Option Addr)(nv cv:Nat)(Aa:Option Addr)(na ca:Nat)(At:Option Addr)(nt ct:Nat)(m:Mix)(fr_ to_ drops which:Nat)(w:World)(h:dD w w.heap.size Av nv Aa na At nt m)(h_fr_:fr_≤255)(h_to_:to_≤255)(h_drops:drops≤255)(h_which:which≤255) :
  CallsIn Fence.wide 9 Tryz.prog 12 #[.agg #[.int .i64 m.fountains,.slice Av nv cv,.slice Aa na ca,.slice At nt ct],.int .u8 fr_,.int .u8 to_,.int .u8 drops,.int .u8 which] w (pZ w):=by
 have HM:=lh h;clear h;refine callsIn_of_wp Tryz.func12 rfl trivial ?_ rfl;simp only [Tryz.ntmps12,es,Nat.reduceAdd,Nat.reduceSub];gi_upto_region 1 with fail
 have Ly:=lh (Lay.one w 26 #[.int .i64 m.fountains,.slice Av nv cv,.slice Aa na ca,.slice At nt ct]);generalize (w.alloc (.cells #[.int .i64 m.fountains,.slice Av nv cv,.slice Aa na ca,.slice At nt ct] 26))=w0 at *;gi_wp2;refine ⟨trivial,(c_W (m5 w0)).mono ?_⟩;rintro e W1 ⟨rfl,hb⟩;replace Ly:=lyb Ly hb;clear hb;obtain ⟨x0_0,x0_1,x0_2,x0_3⟩:=lyc4 Ly 0 rfl;have l0_:=Ly.out.lt 0 rfl;gi_wp2;clear x0_0 x0_1 x0_2 x0_3 l0_;refine ⟨trivial,(c_W (mM Av nv cv Aa na ca At nt ct m W1 (HM.out.up Ly.out.1))).mono ?_⟩;rintro e W2 ⟨rfl,hb⟩;replace Ly:=lyb Ly hb;clear hb
 cases hr:jC nv na nt m with
 | false =>
  clear hr;gi_wp2;refine bodyPost_ret (v:=.bool true) (by simp [results,Tryz.results12,go_sem]) rfl ?_;exact ⟨rfl,Ly.out.1⟩
 | true =>
  have hok:=(jz hr).2;have hvs:=cL hok;have hl1:=HM.out.lenV;have hl2:=HM.out.lenA;have hl3:=HM.out.lenT
  have hsx:MixS w Av nv Aa na At nt m:=⟨HM.out,by omega,by omega,by omega⟩
  have HMS:=lh hsx;have HOK:=lh hok;have HL1:=lh hl1;have HL2:=lh hl2;have HL3:=lh hl3;have hnv:nv≤4:=by omega
  have hna:na≤12:=by omega
  have hnt:nt≤8:=by omega
  have hF:1≤m.fountains∧m.fountains≤4:=by omega
  have HFF:=lh hF;clear hr hok hvs hsx hl1 hl2 hl3 hF;by_cases hv0:nv=0
  ·
   have hv0b:(((nv:Nat):Int)==0)=true:=by simp;omega
   obtain ⟨x0_0,x0_1,x0_2,x0_3⟩:=lyc4 Ly 0 rfl;have l0_:=Ly.out.lt 0 rfl;gi_wp2;clear x0_0 x0_1 x0_2 x0_3 l0_;refine bodyPost_ret (v:=.bool true) (by simp [results,Tryz.results12,go_sem]) rfl ?_;exact ⟨rfl,Ly.out.1⟩
  ·
   have hv0b:(((nv:Nat):Int)==0)=false:=by simp;omega
   have hv1:0<nv:=by omega
   by_cases hx0:na=12
   ·
    have hx0b:(((na:Nat):Int)==12)=true:=by simp;omega
    obtain ⟨x0_0,x0_1,x0_2,x0_3⟩:=lyc4 Ly 0 rfl;have l0_:=Ly.out.lt 0 rfl;gi_wp2;clear x0_0 x0_1 x0_2 x0_3 l0_;refine bodyPost_ret (v:=.bool true) (by simp [results,Tryz.results12,go_sem]) rfl ?_;exact ⟨rfl,Ly.out.1⟩
   ·
    have hx0b:(((na:Nat):Int)==12)=false:=by simp;omega
    have hx7:na≤11:=by omega
    obtain ⟨F,hFn⟩:∃ F:Nat,m.fountains=(F:Int):=⟨m.fountains.toNat,by have:=HFF.out;omega⟩
    have hF4:1≤F∧F≤4:=by have:=HFF.out;omega
    have HFn:=lh hFn;have dz_F:¬ m.fountains=0:=by omega
    have dy_F:(m.fountains==0)=false:=by simp;omega
    clear hFn;obtain ⟨x0_0,x0_1,x0_2,x0_3⟩:=lyc4 Ly 0 rfl;have l0_:=Ly.out.lt 0 rfl;gi_upto_region 4 with fail
    clear x0_0 x0_1 x0_2 x0_3 l0_;have hlt_i1:fr_ % nv<nv:=Nat.mod_lt _ (by omega);have tm_i1:Int.tmod (fr_:Int) ((nv:Nat):Int)=((fr_ % nv:Nat):Int):=by rw [Int.tmod_eq_emod_of_nonneg (by omega)];push_cast;rfl
    obtain ⟨i1,hq_i1⟩:∃ r,fr_ % nv=r:=⟨_,rfl⟩
    rw [hq_i1] at hlt_i1 tm_i1;clear hq_i1;have wx_i1:IntKind.i64.wrap (fr_:Int)=(fr_:Int):=IntWalk.i64_in _ (by omega);have dz_nv:¬ ((nv:Int):Int)=0:=by omega
    have dy_nv:(((nv:Int):Int)==0)=false:=by simp;omega
    have hlt_i2:to_ % nv<nv:=Nat.mod_lt _ (by omega);have tm_i2:Int.tmod (to_:Int) ((nv:Nat):Int)=((to_ % nv:Nat):Int):=by rw [Int.tmod_eq_emod_of_nonneg (by omega)];push_cast;rfl
    obtain ⟨i2,hq_i2⟩:∃ r,to_ % nv=r:=⟨_,rfl⟩
    rw [hq_i2] at hlt_i2 tm_i2;clear hq_i2;have wx_i2:IntKind.i64.wrap (to_:Int)=(to_:Int):=IntWalk.i64_in _ (by omega);have hlt_n1:drops % 14<14:=Nat.mod_lt _ (by omega);have tm_n1:Int.tmod (drops:Int) 14=((drops % 14:Nat):Int):=by rw [Int.tmod_eq_emod_of_nonneg (by omega)];push_cast;rfl
    obtain ⟨n1,hq_n1⟩:∃ r,drops % 14=r:=⟨_,rfl⟩
    rw [hq_n1] at hlt_n1 tm_n1;clear hq_n1;have wx_n1:IntKind.i64.wrap (drops:Int)=(drops:Int):=IntWalk.i64_in _ (by omega);have hlt_r:which % F<F:=Nat.mod_lt _ (by omega);have tm_r:Int.tmod (which:Int) m.fountains=((which % F:Nat):Int):=by rw [HFn.out,Int.tmod_eq_emod_of_nonneg (by omega)];push_cast;rfl
    obtain ⟨r,hq_r⟩:∃ r,which % F=r:=⟨_,rfl⟩
    rw [hq_r] at hlt_r tm_r;clear hq_r;have wx_r:IntKind.i64.wrap (which:Int)=(which:Int):=IntWalk.i64_in _ (by omega);obtain ⟨bv,off,x1,rfl,hbv,hx_x1,hc_x1,_⟩:=HM.out.vess hlt_i1;have HBV0:=lh hbv;have HX_x1:=lh hx_x1;have HC_x1:=lh hc_x1;have HI_x1:=lh (k9 HOK.out hx_x1);clear hx_x1 hc_x1;obtain ⟨b2,o2,x2,e2,_,hx_x2,hc_x2,_⟩:=HM.out.vess hlt_i2;obtain ⟨rfl,rfl⟩:bv=b2∧off=o2:=by cases e2;exact ⟨rfl,rfl⟩
    clear e2;have HX_x2:=lh hx_x2;have HC_x2:=lh hc_x2;have HI_x2:=lh (k9 HOK.out hx_x2);clear hx_x2 hc_x2;refine wpIn_flow_old [] [true,true,true,true,true,true,true,true,true,true,true,true,true,true,true,true,true,true,true,true,true,true,true,true,true,true,true,true,true,true,true,true,true,true,true] [] (by kernel_rfl) (by kernel_rfl) (by kernel_rfl) (av b_R 1) ?_;refine wpFlow_nil (A:=?AF1) ?hq1 ?_
    case hq1 =>
     rintro σ hσ of hof hcl;have HOF:=lh hof;clear hof hcl;obtain ⟨c0_,c1_,c2_,c3_⟩:=lyz4 Ly HOF 0 rfl;have hfw:=hfT;have hv_x1:∀ z,(of z).cell? ⟨bv,off+i1 * 2,none⟩=some (.int .i64 x1.id):=fun z=>((Ly.out.1.trans ((HOF.out z).mono Ly.out.1.size)).cell (p:=⟨bv,off+i1 * 2,none⟩) HBV0.out).trans HC_x1.out;have i0_i1:(0:Int)≤(i1:Int):=by omega
     have i1_i1:(i1:Int)<(nv:Int):=by omega
     have hv_x2:∀ z,(of z).cell? ⟨bv,off+i2 * 2,none⟩=some (.int .i64 x2.id):=fun z=>((Ly.out.1.trans ((HOF.out z).mono Ly.out.1.size)).cell (p:=⟨bv,off+i2 * 2,none⟩) HBV0.out).trans HC_x2.out;have i0_i2:(0:Int)≤(i2:Int):=by omega
     have i1_i2:(i2:Int)<(nv:Int):=by omega
     simp only [bu]
     repeat (gi_big_quiet_step (fail))
     refine wpQuietIn_nil ?_;exact rfl
    intro W3 hW;replace Ly:=lyb Ly hW;clear hW;simp only [bu];refine cr ?_
    obtain ⟨f,hf⟩:∃ f:Int,1+(r:Int)=f:=⟨_,rfl⟩
    rw [hf];have HFB:Hid (1≤f∧f≤m.fountains):=lh (by have:=HFn.out;omega);have HV1:Hid (0≤idxV m.vessels x1.id):=lh (by rw [HI_x1.out];omega);have HV2:Hid (0≤idxV m.vessels x2.id):=lh (by rw [HI_x2.out];omega);clear hf;obtain ⟨x0_0,x0_1,x0_2,x0_3⟩:=lyc4 Ly 0 rfl;have l0_:=Ly.out.lt 0 rfl;gi_wp2;clear x0_0 x0_1 x0_2 x0_3 l0_;refine ⟨trivial,(c_W (tn (some ⟨bv,off,none⟩) nv cv Aa na ca At nt ct m x1.id x2.id (n1:Nat) f W3 (HMS.out.up Ly.out.1))).mono ?_⟩;rintro e W4 ⟨kk,ee,rfl,hma,hb⟩;replace Ly:=lyb Ly hb;clear hb;have HSF:=lh hma;clear hma;gi_upto_region 6 with fail
    rcases yQ (m:=m) (z:=⟨2,x1.id,x2.id,(n1:Nat)⟩) HOK.out (by rw [HL2.out];omega) with hd | ⟨hd,hox⟩
    ·
     have HD:=lh hd;clear hd;obtain rfl:ee=41:=vT HOK.out HV1.out HV2.out HFB.out HD.out HSF.out;have HLay0:=lh Ly.out;refine dw [([true,true,true,true],4),([],5)] [false,false,false,false,false,false,true,true,true,false,false,true] [false,false,false,false,false,false,false,false,false,false,true] 9 (fun b=>.pointer (some ⟨b,0,none⟩)) 26 #[.int .i64 0,.slice none 0 0,.slice none 0 0,.slice none 0 0] (by kernel_rfl) (by kernel_rfl) (by kernel_rfl) (av b_R 1) rfl rfl rfl (fun _ _=>rfl) (fun _ _=>rfl) ?_;refine wpFlow_cons (A:=?AF2) rfl ?hq2 ?_
     case hq2 =>
      rintro σ hσ of hof hcl;have HOF:=lh hof;clear hof hcl;obtain ⟨c0_,c1_,c2_,c3_⟩:=lyz4 Ly HOF 0 rfl;have hfw:=hfT;simp only [bu]
      repeat (gi_big_quiet_step (fail))
      refine wpQuietIn_nil ?_;exact rfl
     intro W5 hW;replace Ly:=lyb Ly hW;clear hW;gi_wp2;refine ⟨trivial,(c_W (i5 2 x1.id x2.id (n1:Nat) W5)).mono ?_⟩;rintro e W6 ⟨rfl,hb⟩;replace Ly:=lyb Ly hb;gi_wp2;refine ⟨trivial,hb,?_⟩;clear hb;refine wpFlow_cons rfl Quietly.none ?_;intro W7 hW;replace Ly:=lyb Ly hW;clear hW;gi_wp2;refine ⟨trivial,(c_W (w7 (some ⟨bv,off,none⟩) nv cv Aa na ca At nt ct m ⟨2,x1.id,x2.id,(n1:Nat)⟩ W7 (HMS.out.up Ly.out.1))).mono ?_⟩;rintro e W8 ⟨A1,m1,d1,A2,m2,d2,A3,m3,d3,rfl,hmo,_,hb⟩;replace Ly:=lyb Ly hb;rw [HD.out] at hmo ⊢;have HO1:=lh hmo.v;have HO2:=lh hmo.a;have HO3:=lh hmo.t;clear hmo;gi_wp2;refine ⟨trivial,hb,?_⟩;clear hb;refine wpFlow_nil (A:=?AF3) ?hq3 ?_
     case hq3 =>
      rintro σ hσ of hof hcl;have HOF:=lh hof;clear hof hcl;obtain ⟨c0_,c1_,c2_,c3_⟩:=lyz4 Ly HOF 0 rfl;have hfw:=hfT;simp only [bu]
      repeat (gi_big_quiet_step (fail))
      refine wpQuietIn_nil ?_;exact rfl
     intro G9 W9 hW hbg hbb hbi;replace Ly:=lyb Ly hW;replace HO1:=lh (HO1.out.below hW n_R);replace HO2:=lh (HO2.out.below hW n_R);replace HO3:=lh (HO3.out.below hW n_R);have c0:=hbb.cell 0;have z0:=hbb.frozen 0;have c1:=hbb.cell 1;have z1:=hbb.frozen 1;have c2:=hbb.cell 2;have z2:=hbb.frozen 2;have c3:=hbb.cell 3;have z3:=hbb.frozen 3;have hbl:=hbb.lt;have hbw:w.heap.size≤G9:=Nat.le_trans HLay0.out.1.size hbg;simp only [bu];refine dB ?_;gi_wp2;refine cr ?_;have R2:=ret4' hbb (Below.refl G9 W9) n_R (.int .i64 dn.fountains) (.slice A1 m1 d1) (.slice A2 m2 d2) (.slice A3 m3 d3);replace HO1:=lh (eH HO1.out hbb (by decide) R2.2.2);replace HO2:=lh (eH HO2.out hbb (by decide) R2.2.2);replace HO3:=lh (eH HO3.out hbb (by decide) R2.2.2);replace Ly:=lh (Lay.add (w:=w) (bs:=[(w.heap.size,26,#[.int .i64 m.fountains,.slice (some ⟨bv,off,none⟩) nv cv,.slice Aa na ca,.slice At nt ct])]) ⟨Ly.out.1.trans (R2.2.1.mono hbw),fun p hp=>⟨(Ly.out.2 p hp).1,(Ly.out.2 p hp).2.below R2.2.1 (by have:=(HLay0.out.2 p hp).2.lt;omega)⟩⟩ hbw R2.1);generalize ((((W9.setCell ⟨G9,0,none⟩ (.int .i64 dn.fountains)).setCell ⟨G9,1,none⟩ (.slice A1 m1 d1)).setCell ⟨G9,2,none⟩ (.slice A2 m2 d2)).setCell ⟨G9,3,none⟩ (.slice A3 m3 d3))=W10 at *;clear c0 z0 c1 z1 c2 z2 c3 z3 hbl hbb hW hbg R2 hbw hbi HLay0;gi_wp2;refine bodyPost_ret (v:=.bool true) (by simp [results,Tryz.results12,go_sem]) rfl ?_;exact ⟨rfl,Ly.out.1⟩
    ·
     obtain ⟨X,hX⟩:∃ X,dm m (m.acts++[(⟨2,x1.id,x2.id,(n1:Nat)⟩:MAct)])=X:=⟨_,rfl⟩
     have hun:=tQ HOK.out hox;rw [hX] at hd hox hun;have HD:=lh hd;have HOX:=lh hox;have HUN:=lh hun;have HXV:Hid (X.vessels.length=nv∧X.acts.length=na+1∧X.tastes.length=nt):=lh (by rw [← hX,← HL1.out,← HL2.out,← HL3.out];exact ⟨rfl,by show (m.acts++[_]).length=_;simp,rfl⟩);have HX:=lh hX;clear hX hd hox hun;have HLay0:=lh Ly.out;refine dw [([true,true,true,true],4),([],5)] [false,false,false,false,false,false,true,true,true,false,false,true] [false,false,false,false,false,false,false,false,false,false,true] 9 (fun b=>.pointer (some ⟨b,0,none⟩)) 26 #[.int .i64 0,.slice none 0 0,.slice none 0 0,.slice none 0 0] (by kernel_rfl) (by kernel_rfl) (by kernel_rfl) (av b_R 1) rfl rfl rfl (fun _ _=>rfl) (fun _ _=>rfl) ?_;refine wpFlow_cons (A:=?AF4) rfl ?hq4 ?_
     case hq4 =>
      rintro σ hσ of hof hcl;have HOF:=lh hof;clear hof hcl;obtain ⟨c0_,c1_,c2_,c3_⟩:=lyz4 Ly HOF 0 rfl;have hfw:=hfT;simp only [bu]
      repeat (gi_big_quiet_step (fail))
      refine wpQuietIn_nil ?_;exact rfl
     intro W11 hW;replace Ly:=lyb Ly hW;clear hW;gi_wp2;refine ⟨trivial,(c_W (i5 2 x1.id x2.id (n1:Nat) W11)).mono ?_⟩;rintro e W12 ⟨rfl,hb⟩;replace Ly:=lyb Ly hb;gi_wp2;refine ⟨trivial,hb,?_⟩;clear hb;refine wpFlow_cons rfl Quietly.none ?_;intro W13 hW;replace Ly:=lyb Ly hW;clear hW;gi_wp2;refine ⟨trivial,(c_W (w7 (some ⟨bv,off,none⟩) nv cv Aa na ca At nt ct m ⟨2,x1.id,x2.id,(n1:Nat)⟩ W13 (HMS.out.up Ly.out.1))).mono ?_⟩;rintro e W14 ⟨A1,m1,d1,A2,m2,d2,A3,m3,d3,rfl,hmo,_,hb⟩;replace Ly:=lyb Ly hb;rw [HD.out] at hmo ⊢;have HSM:=lh (iL hmo HOX.out);have q1:nv=m1:=HXV.out.1.symm.trans (iF hmo).1;have q2:na+1=m2:=HXV.out.2.1.symm.trans (iF hmo).2.1;have q3:nt=m3:=HXV.out.2.2.symm.trans (iF hmo).2.2;subst q1;subst q2;subst q3;have HO1:=lh hmo.v;have HO2:=lh hmo.a;have HO3:=lh hmo.t;clear hmo;gi_wp2;refine ⟨trivial,hb,?_⟩;clear hb;refine wpFlow_nil (A:=?AF5) ?hq5 ?_
     case hq5 =>
      rintro σ hσ of hof hcl;have HOF:=lh hof;clear hof hcl;obtain ⟨c0_,c1_,c2_,c3_⟩:=lyz4 Ly HOF 0 rfl;have hfw:=hfT;simp only [bu]
      repeat (gi_big_quiet_step (fail))
      refine wpQuietIn_nil ?_;exact rfl
     intro G9 W15 hW hbg hbb hbi;replace Ly:=lyb Ly hW;replace HO1:=lh (HO1.out.below hW n_R);replace HO2:=lh (HO2.out.below hW n_R);replace HO3:=lh (HO3.out.below hW n_R);have c0:=hbb.cell 0;have z0:=hbb.frozen 0;have c1:=hbb.cell 1;have z1:=hbb.frozen 1;have c2:=hbb.cell 2;have z2:=hbb.frozen 2;have c3:=hbb.cell 3;have z3:=hbb.frozen 3;have hbl:=hbb.lt;have hbw:w.heap.size≤G9:=Nat.le_trans HLay0.out.1.size hbg;simp only [bu];refine dB ?_;gi_wp2;refine cr ?_;have R2:=ret4' hbb (Below.refl G9 W15) n_R (.int .i64 X.fountains) (.slice A1 nv d1) (.slice A2 (na+1) d2) (.slice A3 nt d3);replace HO1:=lh (eH HO1.out hbb (by decide) R2.2.2);replace HO2:=lh (eH HO2.out hbb (by decide) R2.2.2);replace HO3:=lh (eH HO3.out hbb (by decide) R2.2.2);replace Ly:=lh (Lay.add (w:=w) (bs:=[(w.heap.size,26,#[.int .i64 m.fountains,.slice (some ⟨bv,off,none⟩) nv cv,.slice Aa na ca,.slice At nt ct])]) ⟨Ly.out.1.trans (R2.2.1.mono hbw),fun p hp=>⟨(Ly.out.2 p hp).1,(Ly.out.2 p hp).2.below R2.2.1 (by have:=(HLay0.out.2 p hp).2.lt;omega)⟩⟩ hbw R2.1);generalize ((((W15.setCell ⟨G9,0,none⟩ (.int .i64 X.fountains)).setCell ⟨G9,1,none⟩ (.slice A1 nv d1)).setCell ⟨G9,2,none⟩ (.slice A2 (na+1) d2)).setCell ⟨G9,3,none⟩ (.slice A3 nt d3))=W16 at *;clear c0 z0 c1 z1 c2 z2 c3 z3 hbl hbb hW hbg R2 hbw hbi HLay0;obtain ⟨x1_0,x1_1,x1_2,x1_3⟩:=lyc4 Ly 1 rfl;have l1_:=Ly.out.lt 1 rfl;gi_wp2;clear x1_0 x1_1 x1_2 x1_3 l1_;refine ⟨trivial,(c_W (ym A1 nv d1 A2 (na+1) d2 A3 nt d3 X W16 ⟨⟨HO1.out.reads n_R,HO2.out.reads n_R,HO3.out.reads n_R⟩,HSM.out.1,HSM.out.2.1,HSM.out.2.2.1⟩)).mono ?_⟩;rintro e W17 ⟨B1,m1,b1_,B2,m2,b2_,B3,m3,b3_,rfl,hmo,_,hb⟩;replace Ly:=lyb Ly hb;replace HO1:=lh (HO1.out.below hb n_R);replace HO2:=lh (HO2.out.below hb n_R);replace HO3:=lh (HO3.out.below hb n_R);clear hb;rw [HUN.out] at hmo ⊢;have q1:nv=m1:=HL1.out.symm.trans (iF hmo).1;have q2:na=m2:=HL2.out.symm.trans (iF hmo).2.1;have q3:nt=m3:=HL3.out.symm.trans (iF hmo).2.2;subst q1;subst q2;subst q3;have HY:=lh hmo;clear hmo;gi_upto_region 10 with fail
     obtain ⟨V18,hV⟩:∃ V,(W17.alloc (.cells #[.int .i64 m.fountains,.slice B1 nv b1_,.slice B2 na b2_,.slice B3 nt b3_] 26))=V:=⟨_,rfl⟩
     rw [hV];have hb:=cK hV;have hnew:=cO hV;have hge:=Ly.out.bel.size;replace Ly:=lyb Ly hb;replace HO1:=lh (HO1.out.below hb n_R);replace HO2:=lh (HO2.out.below hb n_R);replace HO3:=lh (HO3.out.below hb n_R);replace HY:=lh (HY.out.below hb);replace Ly:=lh (Ly.out.add hge hnew);clear hnew hge hb hV
     obtain ⟨G19,hG⟩:∃ g,W17.heap.size=g:=⟨_,rfl⟩
     rw [hG] at Ly ⊢;clear hG;replace Ly:=lh (show Lay w V18 [(w.heap.size,26,#[.int .i64 m.fountains,.slice (some ⟨bv,off,none⟩) nv cv,.slice Aa na ca,.slice At nt ct]),(G9,26,#[.int .i64 X.fountains,.slice A1 nv d1,.slice A2 (na+1) d2,.slice A3 nt d3]),(G19,26,#[.int .i64 m.fountains,.slice B1 nv b1_,.slice B2 na b2_,.slice B3 nt b3_])] from Ly.out);obtain ⟨x0_0,x0_1,x0_2,x0_3⟩:=lyc4 Ly 0 rfl;have l0_:=Ly.out.lt 0 rfl;obtain ⟨x2_0,x2_1,x2_2,x2_3⟩:=lyc4 Ly 2 rfl;have l2_:=Ly.out.lt 2 rfl;gi_wp2;clear x0_0 x0_1 x0_2 x0_3 l0_ x2_0 x2_1 x2_2 x2_3 l2_;refine ⟨trivial,(callsIn_wide.2 (tO B1 nv b1_ B2 na b2_ B3 nt b3_ (some ⟨bv,off,none⟩) cv Aa ca At ct m V18 (HY.out.s (by omega) (by omega) (by omega)) (HMS.out.up Ly.out.1))).mono ?_⟩;rintro e W20 ⟨rfl,hb⟩;replace Ly:=lyb Ly hb;replace HO1:=lh (HO1.out.below hb n_R);replace HO2:=lh (HO2.out.below hb n_R);replace HO3:=lh (HO3.out.below hb n_R);replace HY:=lh (HY.out.below hb);clear hb;obtain ⟨x1_0,x1_1,x1_2,x1_3⟩:=lyc4 Ly 1 rfl;have l1_:=Ly.out.lt 1 rfl;gi_wp2;clear x1_0 x1_1 x1_2 x1_3 l1_;refine ⟨trivial,(callsIn_wide.2 (qF A1 nv d1 A2 (na+1) d2 A3 nt d3 X W20 ⟨⟨HO1.out.reads n_R,HO2.out.reads n_R,HO3.out.reads n_R⟩,HSM.out.1,HSM.out.2.1,HSM.out.2.2.1⟩)).mono ?_⟩;rintro e W21 ⟨rfl,hb⟩;replace Ly:=lyb Ly hb;replace HO1:=lh (HO1.out.below hb n_R);replace HO2:=lh (HO2.out.below hb n_R);replace HO3:=lh (HO3.out.below hb n_R);replace HY:=lh (HY.out.below hb);clear hb;rw [HOX.out];have hcl:((((na+1:Nat)):Int) != (na:Int)+1)=false:=by simp
     have hcl2:((na:Int)+1 != (na:Int)+1)=false:=by simp
     obtain ⟨x0_0,x0_1,x0_2,x0_3⟩:=lyc4 Ly 0 rfl;have l0_:=Ly.out.lt 0 rfl;obtain ⟨x1_0,x1_1,x1_2,x1_3⟩:=lyc4 Ly 1 rfl;have l1_:=Ly.out.lt 1 rfl;gi_upto_region 12 with fail
     clear x0_0 x0_1 x0_2 x0_3 l0_ x1_0 x1_1 x1_2 x1_3 l1_;clear hcl hcl2;obtain ⟨x1_0,x1_1,x1_2,x1_3⟩:=lyc4 Ly 1 rfl;have l1_:=Ly.out.lt 1 rfl;gi_wp2;clear x1_0 x1_1 x1_2 x1_3 l1_;refine ⟨trivial,(c_W ((jB A1 nv d1 A2 (na+1) d2 A3 nt d3 X x2.id (((na+1:Nat):Int)) f W21 ⟨⟨HO1.out.reads n_R,HO2.out.reads n_R,HO3.out.reads n_R⟩,HSM.out.1,HSM.out.2.1,HSM.out.2.2.1⟩).mono fun _ _ h=>iw h)).mono ?_⟩;rintro e W22 ⟨kp,ep,rfl,hma,hb⟩;replace Ly:=lyb Ly hb;replace HO1:=lh (HO1.out.below hb n_R);replace HO2:=lh (HO2.out.below hb n_R);replace HO3:=lh (HO3.out.below hb n_R);replace HY:=lh (HY.out.below hb);clear hb;have HP1:=lh hma;clear hma;obtain ⟨x0_0,x0_1,x0_2,x0_3⟩:=lyc4 Ly 0 rfl;have l0_:=Ly.out.lt 0 rfl;gi_wp2;clear x0_0 x0_1 x0_2 x0_3 l0_;refine ⟨trivial,(c_W ((jB (some ⟨bv,off,none⟩) nv cv Aa na ca At nt ct m x2.id ((na:Nat)) f W22 (HMS.out.up Ly.out.1)).mono fun _ _ h=>iw h)).mono ?_⟩;rintro e W23 ⟨kq,ej,rfl,hma,hb⟩;replace Ly:=lyb Ly hb;replace HO1:=lh (HO1.out.below hb n_R);replace HO2:=lh (HO2.out.below hb n_R);replace HO3:=lh (HO3.out.below hb n_R);replace HY:=lh (HY.out.below hb);clear hb;have HP2:=lh hma;clear hma;obtain ⟨x0_0,x0_1,x0_2,x0_3⟩:=lyc4 Ly 0 rfl;have l0_:=Ly.out.lt 0 rfl;gi_wp2;clear x0_0 x0_1 x0_2 x0_3 l0_;refine ⟨trivial,(c_W (oW (some ⟨bv,off,none⟩) nv cv Aa na ca At nt ct m x1.id (na:Nat) f W23 (HMS.out.up Ly.out.1))).mono ?_⟩;rintro e W24 ⟨lo,hi,el,rfl,hma,hb⟩;replace Ly:=lyb Ly hb;replace HO1:=lh (HO1.out.below hb n_R);replace HO2:=lh (HO2.out.below hb n_R);replace HO3:=lh (HO3.out.below hb n_R);replace HY:=lh (HY.out.below hb);clear hb;have HP3:=lh hma;clear hma
     obtain ⟨kr,hkr⟩:∃ k,fj (decide (0<lo)) (decide (0<hi))=k:=⟨_,rfl⟩
     rw [hkr];have HKR:=lh hkr;clear hkr;obtain ⟨x0_0,x0_1,x0_2,x0_3⟩:=lyc4 Ly 0 rfl;have l0_:=Ly.out.lt 0 rfl;gi_wp2;clear x0_0 x0_1 x0_2 x0_3 l0_;refine ⟨trivial,(c_W ((jB (some ⟨bv,off,none⟩) nv cv Aa na ca At nt ct m x1.id ((na:Nat)) f W24 (HMS.out.up Ly.out.1)).mono fun _ _ h=>iw h)).mono ?_⟩;rintro e W25 ⟨ks,eo,rfl,hma,hb⟩;replace Ly:=lyb Ly hb;replace HO1:=lh (HO1.out.below hb n_R);replace HO2:=lh (HO2.out.below hb n_R);replace HO3:=lh (HO3.out.below hb n_R);replace HY:=lh (HY.out.below hb);clear hb;have HP4:=lh hma;clear hma;have hlaw:=xy (r:=kr) HOK.out HOX.out HX.out.symm HV1.out HV2.out HFB.out HD.out HSF.out (by rw [HL2.out];exact HP1.out) (by rw [HL2.out];exact HP2.out) (by rw [HL2.out];exact HP3.out) (fun _=>HKR.out.symm) (by rw [HL2.out];exact HP4.out);obtain ⟨h1,h2,h3,h4,h5,h6⟩:=hlaw;obtain rfl:ee=ep:=h1;obtain rfl:ee=ej:=h2;obtain rfl:ee=el:=h3;obtain rfl:ee=eo:=h4;have H5:=lh h5;have H6:=lh h6;clear h5 h6 HP1 HP2 HP3 HP4 HSF HKR;have ne1:(ee != ee)=false:=by simp
     by_cases he:ee=0
     ·
      subst he;obtain ⟨e1,e2,e3,e4⟩:=H6.out rfl;obtain rfl:kk=kp:=e1;have E2:=lh e2;have E3:=lh e3;have E4:=lh e4;clear e2 e3 e4;gi_upto_region 20 with fail
      by_cases hk:kk=2
      ·
       have hq:=E2.out hk;subst hk;subst hq;have hr:¬ kr=0:=fun h=>by have:=E4.out h;omega
       have kr1:(kr != 0)=true:=by simpa using hr
       by_cases hs:ks=2
       ·
        subst hs;clear hr;gi_wp2;refine bodyPost_ret (v:=.bool true) (by simp [results,Tryz.results12,go_sem]) rfl ?_;exact ⟨rfl,Ly.out.1⟩
       ·
        have ks1:(ks != 2)=true:=by simpa using hs
        clear hr hs;gi_wp2;refine bodyPost_ret (v:=.bool true) (by simp [results,Tryz.results12,go_sem]) rfl ?_;exact ⟨rfl,Ly.out.1⟩
      ·
       have k1:(kk != 2)=true:=by simpa using hk
       have k2:(kk==2)=false:=by simpa using hk
       have k3:(kk==kk)=true:=by simp
       by_cases hr:kr=0
       ·
        have hk0:=E4.out hr;subst hk0;subst hr;by_cases hq:kq=2
        ·
         have hs:¬ ks=2:=fun h=>hk (E3.out hq h);have s1:(ks != 2)=true:=by simpa using hs
         subst hq;clear hs hk;gi_wp2;refine bodyPost_ret (v:=.bool true) (by simp [results,Tryz.results12,go_sem]) rfl ?_;exact ⟨rfl,Ly.out.1⟩
        ·
         have q1:(kq != 2)=true:=by simpa using hq
         clear hq hk;gi_wp2;refine bodyPost_ret (v:=.bool true) (by simp [results,Tryz.results12,go_sem]) rfl ?_;exact ⟨rfl,Ly.out.1⟩
       ·
        have r1:(kr != 0)=true:=by simpa using hr
        clear hr;by_cases hq:kq=2
        ·
         have hs:¬ ks=2:=fun h=>hk (E3.out hq h);have s1:(ks != 2)=true:=by simpa using hs
         subst hq;clear hs hk;gi_wp2;refine bodyPost_ret (v:=.bool true) (by simp [results,Tryz.results12,go_sem]) rfl ?_;exact ⟨rfl,Ly.out.1⟩
        ·
         have q1:(kq != 2)=true:=by simpa using hq
         clear hq hk;gi_wp2;refine bodyPost_ret (v:=.bool true) (by simp [results,Tryz.results12,go_sem]) rfl ?_;exact ⟨rfl,Ly.out.1⟩
     ·
      obtain rfl:ee=8:=H5.out he;clear he;gi_wp2;refine bodyPost_ret (v:=.bool true) (by simp [results,Tryz.results12,go_sem]) rfl ?_;exact ⟨rfl,Ly.out.1⟩
end
section
open Go.ChangeShapes Go.WideShapes Go.ChangeAt Go.RowKit Go.Joins
theorem ownT:ownKnob Tryz.prog.godebug=none:=by kernel_rfl
theorem dx:laidOutB Tryz.prog=true:=by kernel_rfl
theorem mixSafe_lifted (os:Os)(started:os.Started)(H:Type)(enc:TypeId × Value→H) :
  ReturnsInHanded {} Tryz.checked os 12 .any (Rows.mixSafeSpec.pre6 enc Tryz.prog Tryz.f12 Rows.mixSafeRow.domain false) (Rows.mixSafeSpec.post enc Tryz.prog Tryz.f12 false true false false):=by
 refine returnsInHanded_of_change (C:=Tryz.checked) ownT started (by kernel_rfl) Tryz.func12
  (ChangeSpec.witness6 (enc:=enc) (C:=Tryz.checked) false ⟨#[],#[.agg #[.int .i64 0,.slice none 0 0,.slice none 0 0,.slice none 0 0],.int .u8 0,.int .u8 0,.int .u8 0,.int .u8 0],[]⟩ 8 (by kernel_rfl) (by kernel_rfl) (by kernel_rfl) (by kernel_rfl)) ?_
 intro W base args ds gs before hval0 hW hcnd _;have hval:∀ (j:Nat) t v,Tryz.f12.params[j]? =some t→args[j]? =some v→Value.okWide Tryz.prog W .any base t v:=hval0;have hW':=hW;obtain ⟨p,q,hA0,hV,rfl,hfz,hnd⟩:=hW;have hA:DataW.TrodAll enc Tryz.prog W 0 (fun _=>true) true Tryz.f12.params.toList args.toList ds p:=hA0;rw [Tryz.params12] at hA hval;obtain ⟨v0,vs0,d0,ds0,p0,q0,hargs,rfl,rfl,h0,r0⟩:=trodAll_cons hA;obtain ⟨v1,vs1,d1,ds1,p1,q1,rfl,rfl,rfl,h1,r1⟩:=trodAll_cons r0;obtain ⟨v2,vs2,d2,ds2,p2,q2,rfl,rfl,rfl,h2,r2⟩:=trodAll_cons r1;obtain ⟨v3,vs3,d3,ds3,p3,q3,rfl,rfl,rfl,h3,r3⟩:=trodAll_cons r2;obtain ⟨v4,vs4,d4,ds4,p4,q4,rfl,rfl,rfl,h4,r4⟩:=trodAll_cons r3;obtain ⟨rfl,rfl,rfl⟩:=trodAll_nil r4;obtain rfl:args=#[v0,v1,v2,v3,v4]:=by cases args;simp_all
 obtain ⟨rfl,rfl⟩:=trodVars_none hV;have k0:=h0;have lt0:∀ x∈p0,x.block<W.heap.size:=by obtain ⟨m,hm⟩:=k0;exact DataW.trod_lt m _ _ _ hm
 have k1:=h1;have lt1:∀ x∈p1,x.block<W.heap.size:=by obtain ⟨m,hm⟩:=k1;exact DataW.trod_lt m _ _ _ hm
 have k2:=h2;have lt2:∀ x∈p2,x.block<W.heap.size:=by obtain ⟨m,hm⟩:=k2;exact DataW.trod_lt m _ _ _ hm
 have k3:=h3;have lt3:∀ x∈p3,x.block<W.heap.size:=by obtain ⟨m,hm⟩:=k3;exact DataW.trod_lt m _ _ _ hm
 have k4:=h4;have lt4:∀ x∈p4,x.block<W.heap.size:=by obtain ⟨m,hm⟩:=k4;exact DataW.trod_lt m _ _ _ hm
 obtain ⟨Av,nv,cv,Aa,na,ca,At,nt,ct,m,rfl,hca,hct,hm⟩:=m4 (hval 0 26 v0 rfl rfl) h0;obtain ⟨s1,e1,hb1⟩:=ev h1 (okWide_int Tryz.underlying5 (hval 1 5 v1 rfl rfl));subst e1;obtain ⟨s2,e2,hb2⟩:=ev h2 (okWide_int Tryz.underlying5 (hval 2 5 v2 rfl rfl));subst e2;obtain ⟨s3,e3,hb3⟩:=ev h3 (okWide_int Tryz.underlying5 (hval 3 5 v3 rfl rfl));subst e3;obtain ⟨s4,e4,hb4⟩:=ev h4 (okWide_int Tryz.underlying5 (hval 4 5 v4 rfl rfl));subst e4;clear hA0 hval0;refine (callsIn_wide.1 (wu Av nv cv Aa na ca At nt ct m s1 s2 s3 s4 W hm hb1 hb2 hb3 hb4)).mono fun e W' ⟨he,bel⟩=>?_;subst he;exact ⟨_,rfl,_,_,_,[],_,[],hW',trodAll_mk1 (shut_bool Tryz.underlying4 _),(trodAll_cons_mk (Below.trod dx (by kernel_rfl) (of_decide_eq_true (by kernel_rfl)) k0 bel lt0) (trodAll_cons_mk (Below.trod dx (by kernel_rfl) (of_decide_eq_true (by kernel_rfl)) k1 bel lt1) (trodAll_cons_mk (Below.trod dx (by kernel_rfl) (of_decide_eq_true (by kernel_rfl)) k2 bel lt2) (trodAll_cons_mk (Below.trod dx (by kernel_rfl) (of_decide_eq_true (by kernel_rfl)) k3 bel lt3) (trodAll_cons_mk (Below.trod dx (by kernel_rfl) (of_decide_eq_true (by kernel_rfl)) k4 bel lt4) (trodAll_mk0)))))),rfl,bel.frame _,fun h=>by cases h⟩
theorem mixSafe_holds:Rows.MixSafeSaid :=
 OpenClaim.holds_of_wide 12 Tryz.f12 rfl rfl rfl rfl rfl rfl rfl ⟨rfl,rfl,rfl,rfl,rfl⟩ rfl rfl rfl rfl rfl (by kernel_rfl) Tryz.func12 (by kernel_rfl)
  (of_decide_eq_true (by kernel_rfl)) (by unfold Func.isWrapper;rw [if_neg (of_decide_eq_false (by kernel_rfl))];exact ⟨rfl,rfl⟩)
  (fun os started H enc _=>mixSafe_lifted os started H enc)
#print axioms mixSafe_holds
end
end Go.Proofs.YthofngceiecniaaGreat
