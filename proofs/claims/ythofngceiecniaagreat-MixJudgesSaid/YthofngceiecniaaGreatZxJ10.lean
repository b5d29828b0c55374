/- Part 10 of the texts of this claim, joined. -/
import Derived.IntWalk
import Derived.Sort.CutIn
import Derived.Lib.SmallJoins
import Derived.Test.YthofngceiecniaaGreatZxJ9
set_option linter.unusedVariables false
/- The answer's done. -/
namespace Go.Proofs.YthofngceiecniaaGreat
set_option maxHeartbeats 16000000
set_option maxRecDepth 100000
section
open Go.RowKit
theorem gH {w W:World}{t0 t2 t3:TypeId}{c0 c2 c3:Array Value}{s:Held}(h:Lay w W [(w.heap.size,t0,c0),(w.heap.size+1,150,(dH s).toArray),(w.heap.size+1+1,t2,c2),(w.heap.size+1+1+1,t3,c3)])(q:Nat)(hs:s.length=4)(hq:q<4)(v:Int) :
  Lay w (W.setCell ⟨w.heap.size+1,q,none⟩ (.int .i64 v)) [(w.heap.size,t0,c0),(w.heap.size+1,150,(dH (s.set q v)).toArray),(w.heap.size+1+1,t2,c2),(w.heap.size+1+1+1,t3,c3)]:=by
 have hg:=cC (row:=some (w.heap.size+1)) (cR W _) (p:=⟨w.heap.size+1,q,none⟩) (.inl rfl) (.int .i64 v);refine ⟨h.1.setCell (p:=⟨w.heap.size+1,q,none⟩) (by simp) _,fun b hb=>?_⟩;simp only [List.mem_cons,List.not_mem_nil,or_false] at hb;rcases hb with rfl | rfl | rfl | rfl
 ·exact ⟨h.ge 0 rfl,(h.blk 0 rfl).grown hg (by simp)⟩
 ·refine ⟨h.ge 1 rfl,?_⟩
  have:=(h.blk 1 rfl).set_ q (.int .i64 v)
  rwa [jo hs hq] at this
 ·exact ⟨h.ge 2 rfl,(h.blk 2 rfl).grown hg (fun e=>by have:=Option.some.inj e;omega)⟩
 ·exact ⟨h.ge 3 rfl,(h.blk 3 rfl).grown hg (fun e=>by have:=Option.some.inj e;omega)⟩
theorem rB (Av:Option Addr)(nv cv:Nat)(Aa:Option Addr)(na ca:Nat)(At:Option Addr)(nt ct:Nat)(m:Mix)(s:Held)(x:MAct)(w:World)(h:MixS w Av nv Aa na At nt m)(hz:ec m)(hv4:nv≤4)(hsl:s.length=4)(hs:∀ q:Nat,0≤au s q∧au s q≤12) :
  CallsIn Fence.wide 9 Tryz.prog 117 #[.agg #[.int .i64 m.fountains,.slice Av nv cv,.slice Aa na ca,.slice At nt ct],.agg #[.int .i64 (au s 0),.int .i64 (au s 1),.int .i64 (au s 2),.int .i64 (au s 3)],.agg #[.int .i64 x.kind,.int .i64 x.fr,.int .i64 x.to,.int .i64 x.drops]] w (rV w m s x):=by
 have HV4:=lh hv4;clear hv4;have HM:=lh h;have HZ:=lh hz;have HS:=lh hs;have HSL:=lh hsl;clear h hz hs hsl;refine callsIn_of_wp Tryz.func117 rfl trivial ?_ rfl;simp only [Tryz.ntmps117,es,Nat.reduceAdd,Nat.reduceSub];gi_wp2;have Ly:=lh (Lay.four w 26 #[.int .i64 m.fountains,.slice Av nv cv,.slice Aa na ca,.slice At nt ct] 150 #[.int .i64 (au s 0),.int .i64 (au s 1),.int .i64 (au s 2),.int .i64 (au s 3)] 62 #[.int .i64 x.kind,.int .i64 x.fr,.int .i64 x.to,.int .i64 x.drops] 150 #[.int .i64 0,.int .i64 0,.int .i64 0,.int .i64 0]);generalize ((((w.alloc (.cells #[.int .i64 m.fountains,.slice Av nv cv,.slice Aa na ca,.slice At nt ct] 26)).alloc (.cells #[.int .i64 (au s 0),.int .i64 (au s 1),.int .i64 (au s 2),.int .i64 (au s 3)] 150)).alloc (.cells #[.int .i64 x.kind,.int .i64 x.fr,.int .i64 x.to,.int .i64 x.drops] 62)).alloc (.cells #[.int .i64 0,.int .i64 0,.int .i64 0,.int .i64 0] 150))=w0 at *;refine wpIn_flow_old [([true,true,true,false,true,true,true],3),([],7)] [false,false,false,false,false,false,false,false,true,true] [] (by kernel_rfl) (by kernel_rfl) (by kernel_rfl) (av b_R 1) ?_;refine wpFlow_cons (A:=?AF1) rfl ?hq1 ?_
 case hq1 =>
  rintro σ hσ of hof hcl;have HOF:=lh hof;clear hof hcl;obtain ⟨c0_,c1_,c2_,c3_⟩:=lyz4 Ly HOF 0 rfl;obtain ⟨c4_,c5_,c6_,c7_⟩:=lyz4 Ly HOF 2 rfl;have hfw:=hfT;simp only [bu]
  repeat (gi_big_quiet_step (fail))
  refine wpQuietIn_nil ?_;exact rfl
 intro W1 hW;replace Ly:=lyb Ly hW;clear hW;gi_wp2;refine ⟨trivial,(callsIn_wide.2 (dm Av nv cv Aa na ca At nt ct m x.fr W1 (HM.out.up Ly.out.1))).mono ?_⟩;rintro e W2 ⟨rfl,hb⟩;replace Ly:=lyb Ly hb;gi_wp2;refine ⟨trivial,hb,?_⟩;clear hb;refine wpFlow_cons rfl Quietly.none ?_;intro W3 hW;replace Ly:=lyb Ly hW;clear hW;gi_wp2;refine ⟨trivial,(callsIn_wide.2 (dm Av nv cv Aa na ca At nt ct m x.to W3 (HM.out.up Ly.out.1))).mono ?_⟩;rintro e W4 ⟨rfl,hb⟩;replace Ly:=lyb Ly hb;gi_wp2;refine ⟨trivial,hb,?_⟩;clear hb;refine wpFlow_nil (A:=?AF2) ?hq2 ?_
 case hq2 =>
  rintro σ hσ of hof hcl;have HOF:=lh hof;clear hof hcl;obtain ⟨c0_,c1_,c2_,c3_⟩:=lyz4 Ly HOF 0 rfl;obtain ⟨c4_,c5_,c6_,c7_⟩:=lyz4 Ly HOF 2 rfl;have hfw:=hfT;simp only [bu]
  repeat (gi_big_quiet_step (fail))
  refine wpQuietIn_nil ?_;exact rfl
 intro W5 hW;replace Ly:=lyb Ly hW;clear hW;simp only [bu];refine cA ?_
 obtain ⟨jf,hjf⟩:∃ jf,idxV m.vessels x.fr=jf:=⟨_,rfl⟩
 obtain ⟨jt,hjt⟩:∃ jt,idxV m.vessels x.to=jt:=⟨_,rfl⟩
 have hfl:0≤jf→jf<m.vessels.length:=fun h=>by rw [← hjf] at h ⊢;exact df h
 have htl:0≤jt→jt<m.vessels.length:=fun h=>by rw [← hjt] at h ⊢;exact df h
 rw [hjf,hjt];have HJF:=lh hjf;have HJT:=lh hjt;have HFL:=lh hfl;have HTL:=lh htl;clear hjf hjt hfl htl;by_cases hk1:x.kind=1
 ·
  have k1:(x.kind==1)=true:=by simpa using hk1
  obtain ⟨x2_0,x2_1,x2_2,x2_3⟩:=lyc4 Ly 2 rfl;have l2_:=Ly.out.lt 2 rfl;gi_wp2;clear x2_0 x2_1 x2_2 x2_3 l2_;by_cases hf:1≤x.fr∧x.fr≤m.fountains
  ·
   have HWI:Hid (wiB x.fr 1 m.fountains=true):=lh (decide_eq_true hf);by_cases hj:jt<0
   ·
    have hjn:decide (jt<0)=true:=decide_eq_true hj;have HD:Hid (cS m s x=none):=lh (by rw [dk1 hk1 HJT.out,if_neg (by omega)]);clear hf;refine wpIn_flow_old [([true,true,true,true],4),([false,false,false,false,false,true,true,true,true,true,true,true,true,true,true,true,true,true,true,true,true,true,true],23)] [false,false,false,false,false,false,false,false,false,false,false,false,false,false,false,false,false,false,false,false,false,false,false,false,true,true] [] (by kernel_rfl) (by kernel_rfl) (by kernel_rfl) (av b_R 1) ?_;refine wpFlow_cons (A:=?AF3) rfl ?hq3 ?_
    case hq3 =>
     rintro σ hσ of hof hcl;have HOF:=lh hof;clear hof hcl;obtain ⟨c0_,c1_,c2_,c3_⟩:=lyz4 Ly HOF 0 rfl;obtain ⟨c4_,c5_,c6_,c7_⟩:=lyz4 Ly HOF 2 rfl;have hfw:=hfT;simp only [bu]
     repeat (gi_big_quiet_step (fail))
     refine wpQuietIn_nil ?_;exact rfl
    intro W6 hW;replace Ly:=lyb Ly hW;clear hW;gi_wp2;refine ⟨trivial,(callsIn_wide.2 (cK x.fr 1 m.fountains W6)).mono ?_⟩;rintro e W7 ⟨rfl,rfl⟩;rw [HWI.out];gi_wp2;refine ⟨trivial,b_R,?_⟩;refine wpFlow_cons (A:=?AF4) rfl ?hq4 ?_
    case hq4 =>
     rintro σ hσ of hof hcl;have HOF:=lh hof;clear hof hcl;obtain ⟨c0_,c1_,c2_,c3_⟩:=lyz4 Ly HOF 0 rfl;obtain ⟨c4_,c5_,c6_,c7_⟩:=lyz4 Ly HOF 2 rfl;have hfw:=hfT;simp only [bu]
     repeat (gi_big_quiet_step (fail))
     refine wpQuietIn_nil ?_;exact rfl
    intro W8 hW;replace Ly:=lyb Ly hW;clear hW;gi_wp2;refine ⟨trivial,?_⟩;gi_wp2;refine ⟨trivial,b_R,?_⟩;refine wpFlow_nil (A:=?AF5) ?hq5 ?_
    case hq5 =>
     rintro σ hσ of hof hcl;have HOF:=lh hof;clear hof hcl;obtain ⟨c0_,c1_,c2_,c3_⟩:=lyz4 Ly HOF 0 rfl;obtain ⟨c4_,c5_,c6_,c7_⟩:=lyz4 Ly HOF 2 rfl;have hfw:=hfT;simp only [bu]
     repeat (gi_big_quiet_step (fail))
     refine wpQuietIn_nil ?_;exact rfl
    intro W9 hW;replace Ly:=lyb Ly hW;clear hW;simp only [bu];refine cA ?_;obtain ⟨x1_0,x1_1,x1_2,x1_3⟩:=lyc4 Ly 1 rfl;have l1_:=Ly.out.lt 1 rfl;have r0:=lyc Ly 3 rfl 0;have rz0:=lyf Ly 3 rfl 0;have r1:=lyc Ly 3 rfl 1;have rz1:=lyf Ly 3 rfl 1;have r2:=lyc Ly 3 rfl 2;have rz2:=lyf Ly 3 rfl 2;have r3:=lyc Ly 3 rfl 3;have rz3:=lyf Ly 3 rfl 3;have rl:=Ly.out.lt 3 rfl;gi_wp2;have R4:=ret4' (Ly.out.blk 3 rfl) Ly.out.1 (Ly.out.ge 3 rfl) (.int .i64 (au s 0)) (.int .i64 (au s 1)) (.int .i64 (au s 2)) (.int .i64 (au s 3));have v0:=R4.1.cell 0;have v1:=R4.1.cell 1;have v2:=R4.1.cell 2;have v3:=R4.1.cell 3;refine bodyPost_ret (v:=.tuple #[.agg #[.int .i64 (au s 0),.int .i64 (au s 1),.int .i64 (au s 2),.int .i64 (au s 3)],.bool false]) (by simp [results,Tryz.results117,go_sem,v0,v1,v2,v3]) rfl ?_;exact ⟨R4.2.1,s,false,rfl,.inr ⟨rfl,HD.out⟩⟩
   ·
    obtain ⟨q,rfl⟩:∃ q:Nat,jt=q:=⟨jt.toNat,by omega⟩
    have hlv:=HM.out.at_.lenV;have hql:=HTL.out (by omega);have hqn:q<nv:=by omega
    have hq4:q<4:=by have:=HV4.out;omega
    obtain ⟨bv,off,v,hAv,hbv,hv,_,hc1⟩:=HM.out.at_.vess hqn;have HVS:Hid (eG m.vessels (q:Int)=v.size):=lh (by unfold eG;rw [Int.toNat_natCast,hv];rfl);have hvs:=HZ.out v (fN hv);have hsq:=HS.out q;have hwr:IntKind.i64.wrap (v.size - au s (q:Int))=v.size - au s (q:Int):=IntWalk.i64_in _ (by omega);have HC1:=lh hc1;have HBV:=lh hbv;have HAV:=lh hAv;have HQN:=lh hqn;have HQ_q:=lh hq4;have hqd:decide ((q:Int)<0)=false:=decide_eq_false (by omega);clear hlv hql hv hc1 hbv hAv;by_cases hd:1≤x.drops∧x.drops≤v.size - au s (q:Int)
    ·
     have HWD:Hid (wiB x.drops 1 (v.size - au s (q:Int))=true):=lh (decide_eq_true hd);have HD:Hid (cS m s x=some (s.set q (au s (q:Int)+x.drops))):=lh (by rw [dk1 hk1 HJT.out,HVS.out,if_pos ⟨hf,by omega,hd.1,hd.2⟩,Int.toNat_natCast]);have HDB:=lh hd;clear hf hd hj;refine wpIn_flow_old [([true,true,true,true],4),([false,false,false,false,false,true,true,true,true,true,true,true,true,true,true,true,true,true,true,true,true,true,true],23)] [false,false,false,false,false,false,false,false,false,false,false,false,false,false,false,false,false,false,false,false,false,false,false,false,true,true] [] (by kernel_rfl) (by kernel_rfl) (by kernel_rfl) (av b_R 1) ?_;refine wpFlow_cons (A:=?AF6) rfl ?hq6 ?_
     case hq6 =>
      rintro σ hσ of hof hcl;have HOF:=lh hof;clear hof hcl;have c0_:∀ z,(of z).cell? ⟨w.heap.size,0,none⟩=some (.int .i64 m.fountains):=lyz Ly HOF 0 rfl 0;have c1_:∀ z,(of z).cell? ⟨w.heap.size,2,none⟩=some (.slice Aa na ca):=lyz Ly HOF 0 rfl 2;have c2_:∀ z,(of z).cell? ⟨w.heap.size,3,none⟩=some (.slice At nt ct):=lyz Ly HOF 0 rfl 3;obtain ⟨c3_,c4_,c5_,c6_⟩:=lyz4 Ly HOF 2 rfl;have hfw:=hfT;have e0:∀ z,(of z).cell? ⟨w.heap.size,1,none⟩=some (.slice (some ⟨bv,off,none⟩) nv cv):=fun z=>by rw [← HAV.out];exact ((Ly.out.below (HOF.out z)).blk 0 rfl).cell 1
      have e1:∀ z,(of z).cell? ⟨bv,off+q * 2+1,none⟩=some (.int .i64 v.size):=fun z=>((Ly.out.1.trans ((HOF.out z).mono Ly.out.1.size)).cell (p:=⟨bv,off+q * 2+1,none⟩) HBV.out).trans HC1.out;have e2:∀ z,(of z).cell? ⟨w.heap.size+1,q,none⟩=some (.int .i64 (au s (q:Int))):=fun z=>(((Ly.out.below (HOF.out z)).blk 1 rfl).cell q).trans (cF s HQ_q.out);simp only [bu]
      repeat (gi_big_quiet_step (fail))
      refine wpQuietIn_nil ?_;exact rfl
     intro W10 hW;replace Ly:=lyb Ly hW;clear hW;gi_wp2;refine ⟨trivial,(callsIn_wide.2 (cK x.fr 1 m.fountains W10)).mono ?_⟩;rintro e W11 ⟨rfl,rfl⟩;rw [HWI.out];gi_wp2;refine ⟨trivial,b_R,?_⟩;refine wpFlow_cons (A:=?AF7) rfl ?hq7 ?_
     case hq7 =>
      rintro σ hσ of hof hcl;have HOF:=lh hof;clear hof hcl;have c0_:∀ z,(of z).cell? ⟨w.heap.size,0,none⟩=some (.int .i64 m.fountains):=lyz Ly HOF 0 rfl 0;have c1_:∀ z,(of z).cell? ⟨w.heap.size,2,none⟩=some (.slice Aa na ca):=lyz Ly HOF 0 rfl 2;have c2_:∀ z,(of z).cell? ⟨w.heap.size,3,none⟩=some (.slice At nt ct):=lyz Ly HOF 0 rfl 3;obtain ⟨c3_,c4_,c5_,c6_⟩:=lyz4 Ly HOF 2 rfl;have hfw:=hfT;have e0:∀ z,(of z).cell? ⟨w.heap.size,1,none⟩=some (.slice (some ⟨bv,off,none⟩) nv cv):=fun z=>by rw [← HAV.out];exact ((Ly.out.below (HOF.out z)).blk 0 rfl).cell 1
      have e1:∀ z,(of z).cell? ⟨bv,off+q * 2+1,none⟩=some (.int .i64 v.size):=fun z=>((Ly.out.1.trans ((HOF.out z).mono Ly.out.1.size)).cell (p:=⟨bv,off+q * 2+1,none⟩) HBV.out).trans HC1.out;have e2:∀ z,(of z).cell? ⟨w.heap.size+1,q,none⟩=some (.int .i64 (au s (q:Int))):=fun z=>(((Ly.out.below (HOF.out z)).blk 1 rfl).cell q).trans (cF s HQ_q.out);simp only [bu]
      repeat (gi_big_quiet_step (fail))
      refine wpQuietIn_nil ?_;exact rfl
     intro W12 hW;replace Ly:=lyb Ly hW;clear hW;gi_wp2;refine ⟨trivial,(callsIn_wide.2 (cK x.drops 1 (v.size - au s (q:Int)) W12)).mono ?_⟩;rintro e W13 ⟨rfl,rfl⟩;rw [HWD.out];gi_wp2;refine ⟨trivial,b_R,?_⟩;refine wpFlow_nil (A:=?AF8) ?hq8 ?_
     case hq8 =>
      rintro σ hσ of hof hcl;have HOF:=lh hof;clear hof hcl;have c0_:∀ z,(of z).cell? ⟨w.heap.size,0,none⟩=some (.int .i64 m.fountains):=lyz Ly HOF 0 rfl 0;have c1_:∀ z,(of z).cell? ⟨w.heap.size,2,none⟩=some (.slice Aa na ca):=lyz Ly HOF 0 rfl 2;have c2_:∀ z,(of z).cell? ⟨w.heap.size,3,none⟩=some (.slice At nt ct):=lyz Ly HOF 0 rfl 3;obtain ⟨c3_,c4_,c5_,c6_⟩:=lyz4 Ly HOF 2 rfl;have hfw:=hfT;simp only [bu]
      repeat (gi_big_quiet_step (fail))
      refine wpQuietIn_nil ?_;exact rfl
     intro W14 hW;replace Ly:=lyb Ly hW;clear hW;simp only [bu];refine cA ?_;gi_wp2;clear hwr;have hdb:=HDB.out;have hwa:IntKind.i64.wrap (au s (q:Int)+x.drops)=au s (q:Int)+x.drops:=IntWalk.i64_in _ (by omega);refine wpIn_flow_old [] [true,true,true,true,true,true,true] [false,false,false,false,false,false,false,true] (by kernel_rfl) (by kernel_rfl) (by kernel_rfl) (av b_R 1) ?_;refine wpFlow_nil (A:=?AF9) ?hq9 ?_
     case hq9 =>
      rintro σ hσ of hof hcl;have HOF:=lh hof;clear hof hcl;have c0_:∀ z,(of z).cell? ⟨w.heap.size+1+1,3,none⟩=some (.int .i64 x.drops):=lyz Ly HOF 2 rfl 3;have hfw:=hfT;have e2:∀ z,(of z).cell? ⟨w.heap.size+1,q,none⟩=some (.int .i64 (au s (q:Int))):=fun z=>(((Ly.out.below (HOF.out z)).blk 1 rfl).cell q).trans (cF s HQ_q.out);simp only [bu]
      repeat (gi_big_quiet_step (fail))
      refine wpQuietIn_nil ?_;exact rfl
     intro W15 hW;replace Ly:=lyb Ly hW;clear hW;have cq:W15.cell? ⟨w.heap.size+1,q,none⟩=some (.int .i64 (au s (q:Int))):=((Ly.out.blk 1 rfl).cell q).trans (cF s HQ_q.out);have fq:=(Ly.out.blk 1 rfl).frozen q;have lq:=Ly.out.lt 1 rfl;simp only [bu];refine dg ?_;gi_wp2;refine cA ?_;have HLS:=lh (gH Ly.out q (HSL.out) HQ_q.out (au s (q:Int)+x.drops));generalize W15.setCell ⟨w.heap.size+1,q,none⟩ (.int .i64 (au s (q:Int)+x.drops))=V16 at *;replace Ly:=HLS;clear cq fq lq HLS hwa;replace Ly:=lh (show Lay w V16 [(w.heap.size,26,#[.int .i64 m.fountains,.slice Av nv cv,.slice Aa na ca,.slice At nt ct]),(w.heap.size+1,150,#[.int .i64 (au (s.set q (au s (q:Int)+x.drops)) 0),.int .i64 (au (s.set q (au s (q:Int)+x.drops)) 1),.int .i64 (au (s.set q (au s (q:Int)+x.drops)) 2),.int .i64 (au (s.set q (au s (q:Int)+x.drops)) 3)]),(w.heap.size+1+1,62,#[.int .i64 x.kind,.int .i64 x.fr,.int .i64 x.to,.int .i64 x.drops]),(w.heap.size+1+1+1,150,#[.int .i64 0,.int .i64 0,.int .i64 0,.int .i64 0])] from Ly.out);obtain ⟨x1_0,x1_1,x1_2,x1_3⟩:=lyc4 Ly 1 rfl;have l1_:=Ly.out.lt 1 rfl;have r0:=lyc Ly 3 rfl 0;have rz0:=lyf Ly 3 rfl 0;have r1:=lyc Ly 3 rfl 1;have rz1:=lyf Ly 3 rfl 1;have r2:=lyc Ly 3 rfl 2;have rz2:=lyf Ly 3 rfl 2;have r3:=lyc Ly 3 rfl 3;have rz3:=lyf Ly 3 rfl 3;have rl:=Ly.out.lt 3 rfl;gi_wp2;have R4:=ret4' (Ly.out.blk 3 rfl) Ly.out.1 (Ly.out.ge 3 rfl) (.int .i64 (au (s.set q (au s (q:Int)+x.drops)) 0)) (.int .i64 (au (s.set q (au s (q:Int)+x.drops)) 1)) (.int .i64 (au (s.set q (au s (q:Int)+x.drops)) 2)) (.int .i64 (au (s.set q (au s (q:Int)+x.drops)) 3));have v0:=R4.1.cell 0;have v1:=R4.1.cell 1;have v2:=R4.1.cell 2;have v3:=R4.1.cell 3;refine bodyPost_ret (v:=.tuple #[.agg #[.int .i64 (au (s.set q (au s (q:Int)+x.drops)) 0),.int .i64 (au (s.set q (au s (q:Int)+x.drops)) 1),.int .i64 (au (s.set q (au s (q:Int)+x.drops)) 2),.int .i64 (au (s.set q (au s (q:Int)+x.drops)) 3)],.bool true]) (by simp [results,Tryz.results117,go_sem,v0,v1,v2,v3]) rfl ?_;exact ⟨R4.2.1,(s.set q (au s (q:Int)+x.drops)),true,rfl,.inl ⟨rfl,HD.out⟩⟩
    ·
     have HWD:Hid (wiB x.drops 1 (v.size - au s (q:Int))=false):=lh (decide_eq_false hd);have HD:Hid (cS m s x=none):=lh (by rw [dk1 hk1 HJT.out,HVS.out,if_neg (fun h=>hd ⟨h.2.2.1,h.2.2.2⟩)]);have HDB:=lh hd;clear hf hd hj;refine wpIn_flow_old [([true,true,true,true],4),([false,false,false,false,false,true,true,true,true,true,true,true,true,true,true,true,true,true,true,true,true,true,true],23)] [false,false,false,false,false,false,false,false,false,false,false,false,false,false,false,false,false,false,false,false,false,false,false,false,true,true] [] (by kernel_rfl) (by kernel_rfl) (by kernel_rfl) (av b_R 1) ?_;refine wpFlow_cons (A:=?AF10) rfl ?hq10 ?_
     case hq10 =>
      rintro σ hσ of hof hcl;have HOF:=lh hof;clear hof hcl;have c0_:∀ z,(of z).cell? ⟨w.heap.size,0,none⟩=some (.int .i64 m.fountains):=lyz Ly HOF 0 rfl 0;have c1_:∀ z,(of z).cell? ⟨w.heap.size,2,none⟩=some (.slice Aa na ca):=lyz Ly HOF 0 rfl 2;have c2_:∀ z,(of z).cell? ⟨w.heap.size,3,none⟩=some (.slice At nt ct):=lyz Ly HOF 0 rfl 3;obtain ⟨c3_,c4_,c5_,c6_⟩:=lyz4 Ly HOF 2 rfl;have hfw:=hfT;have e0:∀ z,(of z).cell? ⟨w.heap.size,1,none⟩=some (.slice (some ⟨bv,off,none⟩) nv cv):=fun z=>by rw [← HAV.out];exact ((Ly.out.below (HOF.out z)).blk 0 rfl).cell 1
      have e1:∀ z,(of z).cell? ⟨bv,off+q * 2+1,none⟩=some (.int .i64 v.size):=fun z=>((Ly.out.1.trans ((HOF.out z).mono Ly.out.1.size)).cell (p:=⟨bv,off+q * 2+1,none⟩) HBV.out).trans HC1.out;have e2:∀ z,(of z).cell? ⟨w.heap.size+1,q,none⟩=some (.int .i64 (au s (q:Int))):=fun z=>(((Ly.out.below (HOF.out z)).blk 1 rfl).cell q).trans (cF s HQ_q.out);simp only [bu]
      repeat (gi_big_quiet_step (fail))
      refine wpQuietIn_nil ?_;exact rfl
     intro W17 hW;replace Ly:=lyb Ly hW;clear hW;gi_wp2;refine ⟨trivial,(callsIn_wide.2 (cK x.fr 1 m.fountains W17)).mono ?_⟩;rintro e W18 ⟨rfl,rfl⟩;rw [HWI.out];gi_wp2;refine ⟨trivial,b_R,?_⟩;refine wpFlow_cons (A:=?AF11) rfl ?hq11 ?_
     case hq11 =>
      rintro σ hσ of hof hcl;have HOF:=lh hof;clear hof hcl;have c0_:∀ z,(of z).cell? ⟨w.heap.size,0,none⟩=some (.int .i64 m.fountains):=lyz Ly HOF 0 rfl 0;have c1_:∀ z,(of z).cell? ⟨w.heap.size,2,none⟩=some (.slice Aa na ca):=lyz Ly HOF 0 rfl 2;have c2_:∀ z,(of z).cell? ⟨w.heap.size,3,none⟩=some (.slice At nt ct):=lyz Ly HOF 0 rfl 3;obtain ⟨c3_,c4_,c5_,c6_⟩:=lyz4 Ly HOF 2 rfl;have hfw:=hfT;have e0:∀ z,(of z).cell? ⟨w.heap.size,1,none⟩=some (.slice (some ⟨bv,off,none⟩) nv cv):=fun z=>by rw [← HAV.out];exact ((Ly.out.below (HOF.out z)).blk 0 rfl).cell 1
      have e1:∀ z,(of z).cell? ⟨bv,off+q * 2+1,none⟩=some (.int .i64 v.size):=fun z=>((Ly.out.1.trans ((HOF.out z).mono Ly.out.1.size)).cell (p:=⟨bv,off+q * 2+1,none⟩) HBV.out).trans HC1.out;have e2:∀ z,(of z).cell? ⟨w.heap.size+1,q,none⟩=some (.int .i64 (au s (q:Int))):=fun z=>(((Ly.out.below (HOF.out z)).blk 1 rfl).cell q).trans (cF s HQ_q.out);simp only [bu]
      repeat (gi_big_quiet_step (fail))
      refine wpQuietIn_nil ?_;exact rfl
     intro W19 hW;replace Ly:=lyb Ly hW;clear hW;gi_wp2;refine ⟨trivial,(callsIn_wide.2 (cK x.drops 1 (v.size - au s (q:Int)) W19)).mono ?_⟩;rintro e W20 ⟨rfl,rfl⟩;rw [HWD.out];gi_wp2;refine ⟨trivial,b_R,?_⟩;refine wpFlow_nil (A:=?AF12) ?hq12 ?_
     case hq12 =>
      rintro σ hσ of hof hcl;have HOF:=lh hof;clear hof hcl;have c0_:∀ z,(of z).cell? ⟨w.heap.size,0,none⟩=some (.int .i64 m.fountains):=lyz Ly HOF 0 rfl 0;have c1_:∀ z,(of z).cell? ⟨w.heap.size,2,none⟩=some (.slice Aa na ca):=lyz Ly HOF 0 rfl 2;have c2_:∀ z,(of z).cell? ⟨w.heap.size,3,none⟩=some (.slice At nt ct):=lyz Ly HOF 0 rfl 3;obtain ⟨c3_,c4_,c5_,c6_⟩:=lyz4 Ly HOF 2 rfl;have hfw:=hfT;simp only [bu]
      repeat (gi_big_quiet_step (fail))
      refine wpQuietIn_nil ?_;exact rfl
     intro W21 hW;replace Ly:=lyb Ly hW;clear hW;simp only [bu];refine cA ?_;obtain ⟨x1_0,x1_1,x1_2,x1_3⟩:=lyc4 Ly 1 rfl;have l1_:=Ly.out.lt 1 rfl;have r0:=lyc Ly 3 rfl 0;have rz0:=lyf Ly 3 rfl 0;have r1:=lyc Ly 3 rfl 1;have rz1:=lyf Ly 3 rfl 1;have r2:=lyc Ly 3 rfl 2;have rz2:=lyf Ly 3 rfl 2;have r3:=lyc Ly 3 rfl 3;have rz3:=lyf Ly 3 rfl 3;have rl:=Ly.out.lt 3 rfl;gi_wp2;have R4:=ret4' (Ly.out.blk 3 rfl) Ly.out.1 (Ly.out.ge 3 rfl) (.int .i64 (au s 0)) (.int .i64 (au s 1)) (.int .i64 (au s 2)) (.int .i64 (au s 3));have v0:=R4.1.cell 0;have v1:=R4.1.cell 1;have v2:=R4.1.cell 2;have v3:=R4.1.cell 3;refine bodyPost_ret (v:=.tuple #[.agg #[.int .i64 (au s 0),.int .i64 (au s 1),.int .i64 (au s 2),.int .i64 (au s 3)],.bool false]) (by simp [results,Tryz.results117,go_sem,v0,v1,v2,v3]) rfl ?_;exact ⟨R4.2.1,s,false,rfl,.inr ⟨rfl,HD.out⟩⟩
  ·
   have HWI:Hid (wiB x.fr 1 m.fountains=false):=lh (decide_eq_false hf);have HD:Hid (cS m s x=none):=lh (by rw [dk1 hk1 HJT.out,if_neg (fun h=>hf h.1)]);clear hf;refine wpIn_flow_old [([true,true,true,true],4),([false,false,false,false,false,true,true,true,true,true,true,true,true,true,true,true,true,true,true,true,true,true,true],23)] [false,false,false,false,false,false,false,false,false,false,false,false,false,false,false,false,false,false,false,false,false,false,false,false,true,true] [] (by kernel_rfl) (by kernel_rfl) (by kernel_rfl) (av b_R 1) ?_;refine wpFlow_cons (A:=?AF13) rfl ?hq13 ?_
   case hq13 =>
    rintro σ hσ of hof hcl;have HOF:=lh hof;clear hof hcl;obtain ⟨c0_,c1_,c2_,c3_⟩:=lyz4 Ly HOF 0 rfl;obtain ⟨c4_,c5_,c6_,c7_⟩:=lyz4 Ly HOF 2 rfl;have hfw:=hfT;simp only [bu]
    repeat (gi_big_quiet_step (fail))
    refine wpQuietIn_nil ?_;exact rfl
   intro W22 hW;replace Ly:=lyb Ly hW;clear hW;gi_wp2;refine ⟨trivial,(callsIn_wide.2 (cK x.fr 1 m.fountains W22)).mono ?_⟩;rintro e W23 ⟨rfl,rfl⟩;rw [HWI.out];gi_wp2;refine ⟨trivial,b_R,?_⟩;refine wpFlow_cons (A:=?AF14) rfl ?hq14 ?_
   case hq14 =>
    rintro σ hσ of hof hcl;have HOF:=lh hof;clear hof hcl;obtain ⟨c0_,c1_,c2_,c3_⟩:=lyz4 Ly HOF 0 rfl;obtain ⟨c4_,c5_,c6_,c7_⟩:=lyz4 Ly HOF 2 rfl;have hfw:=hfT;simp only [bu]
    repeat (gi_big_quiet_step (fail))
    refine wpQuietIn_nil ?_;exact rfl
   intro W24 hW;replace Ly:=lyb Ly hW;clear hW;gi_wp2;refine ⟨trivial,?_⟩;gi_wp2;refine ⟨trivial,b_R,?_⟩;refine wpFlow_nil (A:=?AF15) ?hq15 ?_
   case hq15 =>
    rintro σ hσ of hof hcl;have HOF:=lh hof;clear hof hcl;obtain ⟨c0_,c1_,c2_,c3_⟩:=lyz4 Ly HOF 0 rfl;obtain ⟨c4_,c5_,c6_,c7_⟩:=lyz4 Ly HOF 2 rfl;have hfw:=hfT;simp only [bu]
    repeat (gi_big_quiet_step (fail))
    refine wpQuietIn_nil ?_;exact rfl
   intro W25 hW;replace Ly:=lyb Ly hW;clear hW;simp only [bu];refine cA ?_;obtain ⟨x1_0,x1_1,x1_2,x1_3⟩:=lyc4 Ly 1 rfl;have l1_:=Ly.out.lt 1 rfl;have r0:=lyc Ly 3 rfl 0;have rz0:=lyf Ly 3 rfl 0;have r1:=lyc Ly 3 rfl 1;have rz1:=lyf Ly 3 rfl 1;have r2:=lyc Ly 3 rfl 2;have rz2:=lyf Ly 3 rfl 2;have r3:=lyc Ly 3 rfl 3;have rz3:=lyf Ly 3 rfl 3;have rl:=Ly.out.lt 3 rfl;gi_wp2;have R4:=ret4' (Ly.out.blk 3 rfl) Ly.out.1 (Ly.out.ge 3 rfl) (.int .i64 (au s 0)) (.int .i64 (au s 1)) (.int .i64 (au s 2)) (.int .i64 (au s 3));have v0:=R4.1.cell 0;have v1:=R4.1.cell 1;have v2:=R4.1.cell 2;have v3:=R4.1.cell 3;refine bodyPost_ret (v:=.tuple #[.agg #[.int .i64 (au s 0),.int .i64 (au s 1),.int .i64 (au s 2),.int .i64 (au s 3)],.bool false]) (by simp [results,Tryz.results117,go_sem,v0,v1,v2,v3]) rfl ?_;exact ⟨R4.2.1,s,false,rfl,.inr ⟨rfl,HD.out⟩⟩
 ·
  have k1:(x.kind==1)=false:=by simpa using hk1
  by_cases hj:jf<0
  ·
   have hjn:decide (jf<0)=true:=decide_eq_true hj;have HD:Hid (cS m s x=none):=lh (dk0 hk1 HJF.out hj);obtain ⟨x2_0,x2_1,x2_2,x2_3⟩:=lyc4 Ly 2 rfl;have l2_:=Ly.out.lt 2 rfl;obtain ⟨x1_0,x1_1,x1_2,x1_3⟩:=lyc4 Ly 1 rfl;have l1_:=Ly.out.lt 1 rfl;have r0:=lyc Ly 3 rfl 0;have rz0:=lyf Ly 3 rfl 0;have r1:=lyc Ly 3 rfl 1;have rz1:=lyf Ly 3 rfl 1;have r2:=lyc Ly 3 rfl 2;have rz2:=lyf Ly 3 rfl 2;have r3:=lyc Ly 3 rfl 3;have rz3:=lyf Ly 3 rfl 3;have rl:=Ly.out.lt 3 rfl;gi_wp2;have R4:=ret4' (Ly.out.blk 3 rfl) Ly.out.1 (Ly.out.ge 3 rfl) (.int .i64 (au s 0)) (.int .i64 (au s 1)) (.int .i64 (au s 2)) (.int .i64 (au s 3));have v0:=R4.1.cell 0;have v1:=R4.1.cell 1;have v2:=R4.1.cell 2;have v3:=R4.1.cell 3;refine bodyPost_ret (v:=.tuple #[.agg #[.int .i64 (au s 0),.int .i64 (au s 1),.int .i64 (au s 2),.int .i64 (au s 3)],.bool false]) (by simp [results,Tryz.results117,go_sem,v0,v1,v2,v3]) rfl ?_;exact ⟨R4.2.1,s,false,rfl,.inr ⟨rfl,HD.out⟩⟩
  ·
   obtain ⟨a,rfl⟩:∃ a:Nat,jf=a:=⟨jf.toNat,by omega⟩
   have hasl:=HFL.out (by omega);have hlv:=HM.out.at_.lenV;have ha4:a<4:=by have:=HV4.out;omega
   have hsa:=HS.out a;have HQ_a:=lh ha4;have had:decide ((a:Int)<0)=false:=decide_eq_false (by omega);clear hasl hlv;by_cases hk2:x.kind=2
   ·
    have k2:(x.kind==2)=true:=by simpa using hk2
    obtain ⟨x2_0,x2_1,x2_2,x2_3⟩:=lyc4 Ly 2 rfl;have l2_:=Ly.out.lt 2 rfl;gi_wp2;clear x2_0 x2_1 x2_2 x2_3 l2_;by_cases hj2:jt<0
    ·
     have hjn:decide (jt<0)=true:=decide_eq_true hj2;have HD:Hid (cS m s x=none):=lh (by rw [dk2 hk2 HJF.out HJT.out (by omega),if_neg (fun h=>by have:=h.2.2.1;omega)]);clear hk1 hk2;refine wpIn_flow_old [([true,true,true,true,true,true,true,true,true,true,true,true,true],13),([false,false,false,false,false,false,false,false,false,false,false,false,false,false,true,true,true,true,true,true,true,true,true,true,true,true,true,true,true],29)] [false,false,false,false,false,false,false,false,false,false,false,false,false,false,false,false,false,false,false,false,false,false,false,false,false,false,false,false,false,false,true,true] [] (by kernel_rfl) (by kernel_rfl) (by kernel_rfl) (av b_R 1) ?_;refine wpFlow_cons (A:=?AF16) rfl ?hq16 ?_
     case hq16 =>
      rintro σ hσ of hof hcl;have HOF:=lh hof;clear hof hcl;obtain ⟨c0_,c1_,c2_,c3_⟩:=lyz4 Ly HOF 0 rfl;obtain ⟨c4_,c5_,c6_,c7_⟩:=lyz4 Ly HOF 2 rfl;have hfw:=hfT;simp only [bu]
      repeat (gi_big_quiet_step (fail))
      refine wpQuietIn_nil ?_;exact rfl
     intro W26 hW;replace Ly:=lyb Ly hW;clear hW;gi_wp2;refine ⟨trivial,?_⟩;gi_wp2;refine ⟨trivial,b_R,?_⟩;refine wpFlow_cons (A:=?AF17) rfl ?hq17 ?_
     case hq17 =>
      rintro σ hσ of hof hcl;have HOF:=lh hof;clear hof hcl;obtain ⟨c0_,c1_,c2_,c3_⟩:=lyz4 Ly HOF 0 rfl;obtain ⟨c4_,c5_,c6_,c7_⟩:=lyz4 Ly HOF 2 rfl;have hfw:=hfT;simp only [bu]
      repeat (gi_big_quiet_step (fail))
      refine wpQuietIn_nil ?_;exact rfl
     intro W27 hW;replace Ly:=lyb Ly hW;clear hW;gi_wp2;refine ⟨trivial,?_⟩;gi_wp2;refine ⟨trivial,b_R,?_⟩;refine wpFlow_nil (A:=?AF18) ?hq18 ?_
     case hq18 =>
      rintro σ hσ of hof hcl;have HOF:=lh hof;clear hof hcl;obtain ⟨c0_,c1_,c2_,c3_⟩:=lyz4 Ly HOF 0 rfl;obtain ⟨c4_,c5_,c6_,c7_⟩:=lyz4 Ly HOF 2 rfl;have hfw:=hfT;simp only [bu]
      repeat (gi_big_quiet_step (fail))
      refine wpQuietIn_nil ?_;exact rfl
     intro W28 hW;replace Ly:=lyb Ly hW;clear hW;simp only [bu];refine cA ?_;obtain ⟨x1_0,x1_1,x1_2,x1_3⟩:=lyc4 Ly 1 rfl;have l1_:=Ly.out.lt 1 rfl;have r0:=lyc Ly 3 rfl 0;have rz0:=lyf Ly 3 rfl 0;have r1:=lyc Ly 3 rfl 1;have rz1:=lyf Ly 3 rfl 1;have r2:=lyc Ly 3 rfl 2;have rz2:=lyf Ly 3 rfl 2;have r3:=lyc Ly 3 rfl 3;have rz3:=lyf Ly 3 rfl 3;have rl:=Ly.out.lt 3 rfl;gi_wp2;have R4:=ret4' (Ly.out.blk 3 rfl) Ly.out.1 (Ly.out.ge 3 rfl) (.int .i64 (au s 0)) (.int .i64 (au s 1)) (.int .i64 (au s 2)) (.int .i64 (au s 3));have v0:=R4.1.cell 0;have v1:=R4.1.cell 1;have v2:=R4.1.cell 2;have v3:=R4.1.cell 3;refine bodyPost_ret (v:=.tuple #[.agg #[.int .i64 (au s 0),.int .i64 (au s 1),.int .i64 (au s 2),.int .i64 (au s 3)],.bool false]) (by simp [results,Tryz.results117,go_sem,v0,v1,v2,v3]) rfl ?_;exact ⟨R4.2.1,s,false,rfl,.inr ⟨rfl,HD.out⟩⟩
    ·
     obtain ⟨q,rfl⟩:∃ q:Nat,jt=q:=⟨jt.toNat,by omega⟩
     have hlv:=HM.out.at_.lenV;have hql:=HTL.out (by omega);have hqn:q<nv:=by omega
     have hq4:q<4:=by have:=HV4.out;omega
     obtain ⟨bv,off,v,hAv,hbv,hv,_,hc1⟩:=HM.out.at_.vess hqn;have HVS:Hid (eG m.vessels (q:Int)=v.size):=lh (by unfold eG;rw [Int.toNat_natCast,hv];rfl);have hvs:=HZ.out v (fN hv);have hsq:=HS.out q;have hwr:IntKind.i64.wrap (v.size - au s (q:Int))=v.size - au s (q:Int):=IntWalk.i64_in _ (by omega);have HC1:=lh hc1;have HBV:=lh hbv;have HAV:=lh hAv;have HQN:=lh hqn;have HQ_q:=lh hq4;have hqd:decide ((q:Int)<0)=false:=decide_eq_false (by omega);clear hlv hql hv hc1 hbv hAv;by_cases hqa:q=a
     ·
      have hqe:(((q:Nat):Int)==((a:Nat):Int))=true:=by simp [hqa]
      have HD:Hid (cS m s x=none):=lh (by rw [dk2 hk2 HJF.out HJT.out (by omega),if_neg (fun h=>h.1 (by rw [hqa]))]);have HQA:=lh hqa;clear hk1 hk2 hqa hwr;refine wpIn_flow_old [([true,true,true,true,true,true,true,true,true,true,true,true,true],13),([false,false,false,false,false,false,false,false,false,false,false,false,false,false,true,true,true,true,true,true,true,true,true,true,true,true,true,true,true],29)] [false,false,false,false,false,false,false,false,false,false,false,false,false,false,false,false,false,false,false,false,false,false,false,false,false,false,false,false,false,false,true,true] [] (by kernel_rfl) (by kernel_rfl) (by kernel_rfl) (av b_R 1) ?_;refine wpFlow_cons (A:=?AF19) rfl ?hq19 ?_
      case hq19 =>
       rintro σ hσ of hof hcl;have HOF:=lh hof;clear hof hcl;obtain ⟨c0_,c1_,c2_,c3_⟩:=lyz4 Ly HOF 0 rfl;obtain ⟨c4_,c5_,c6_,c7_⟩:=lyz4 Ly HOF 2 rfl;have hfw:=hfT;simp only [bu]
       repeat (gi_big_quiet_step (fail))
       refine wpQuietIn_nil ?_;exact rfl
      intro W29 hW;replace Ly:=lyb Ly hW;clear hW;gi_wp2;refine ⟨trivial,?_⟩;gi_wp2;refine ⟨trivial,b_R,?_⟩;refine wpFlow_cons (A:=?AF20) rfl ?hq20 ?_
      case hq20 =>
       rintro σ hσ of hof hcl;have HOF:=lh hof;clear hof hcl;obtain ⟨c0_,c1_,c2_,c3_⟩:=lyz4 Ly HOF 0 rfl;obtain ⟨c4_,c5_,c6_,c7_⟩:=lyz4 Ly HOF 2 rfl;have hfw:=hfT;simp only [bu]
       repeat (gi_big_quiet_step (fail))
       refine wpQuietIn_nil ?_;exact rfl
      intro W30 hW;replace Ly:=lyb Ly hW;clear hW;gi_wp2;refine ⟨trivial,?_⟩;gi_wp2;refine ⟨trivial,b_R,?_⟩;refine wpFlow_nil (A:=?AF21) ?hq21 ?_
      case hq21 =>
       rintro σ hσ of hof hcl;have HOF:=lh hof;clear hof hcl;obtain ⟨c0_,c1_,c2_,c3_⟩:=lyz4 Ly HOF 0 rfl;obtain ⟨c4_,c5_,c6_,c7_⟩:=lyz4 Ly HOF 2 rfl;have hfw:=hfT;simp only [bu]
       repeat (gi_big_quiet_step (fail))
       refine wpQuietIn_nil ?_;exact rfl
      intro W31 hW;replace Ly:=lyb Ly hW;clear hW;simp only [bu];refine cA ?_;obtain ⟨x1_0,x1_1,x1_2,x1_3⟩:=lyc4 Ly 1 rfl;have l1_:=Ly.out.lt 1 rfl;have r0:=lyc Ly 3 rfl 0;have rz0:=lyf Ly 3 rfl 0;have r1:=lyc Ly 3 rfl 1;have rz1:=lyf Ly 3 rfl 1;have r2:=lyc Ly 3 rfl 2;have rz2:=lyf Ly 3 rfl 2;have r3:=lyc Ly 3 rfl 3;have rz3:=lyf Ly 3 rfl 3;have rl:=Ly.out.lt 3 rfl;gi_wp2;have R4:=ret4' (Ly.out.blk 3 rfl) Ly.out.1 (Ly.out.ge 3 rfl) (.int .i64 (au s 0)) (.int .i64 (au s 1)) (.int .i64 (au s 2)) (.int .i64 (au s 3));have v0:=R4.1.cell 0;have v1:=R4.1.cell 1;have v2:=R4.1.cell 2;have v3:=R4.1.cell 3;refine bodyPost_ret (v:=.tuple #[.agg #[.int .i64 (au s 0),.int .i64 (au s 1),.int .i64 (au s 2),.int .i64 (au s 3)],.bool false]) (by simp [results,Tryz.results117,go_sem,v0,v1,v2,v3]) rfl ?_;exact ⟨R4.2.1,s,false,rfl,.inr ⟨rfl,HD.out⟩⟩
     ·
      have hqe:(((q:Nat):Int)==((a:Nat):Int))=false:=by simp;omega
      by_cases hd:1≤x.drops∧x.drops≤au s (a:Int)
      ·
       have HW1:Hid (wiB x.drops 1 (au s (a:Int))=true):=lh (decide_eq_true hd);by_cases he:1≤x.drops∧x.drops≤v.size - au s (q:Int)
       ·
        have HWD:Hid (wiB x.drops 1 (v.size - au s (q:Int))=true):=lh (decide_eq_true he);have HD:Hid (cS m s x=some ((s.set a (au s (a:Int) - x.drops)).set q (au s (q:Int)+x.drops))):=lh (by rw [dk2 hk2 HJF.out HJT.out (by omega),HVS.out,if_pos ⟨fun e=>hqa (by omega),hd,by omega,he.2⟩,Int.toNat_natCast,Int.toNat_natCast]);have HDB:=lh (ai hd he);have HQA:=lh hqa;clear hk1 hk2 hd he hj2 hqa;refine wpIn_flow_old [([true,true,true,true,true,true,true,true,true,true,true,true,true],13),([false,false,false,false,false,false,false,false,false,false,false,false,false,false,true,true,true,true,true,true,true,true,true,true,true,true,true,true,true],29)] [false,false,false,false,false,false,false,false,false,false,false,false,false,false,false,false,false,false,false,false,false,false,false,false,false,false,false,false,false,false,true,true] [] (by kernel_rfl) (by kernel_rfl) (by kernel_rfl) (av b_R 1) ?_;refine wpFlow_cons (A:=?AF22) rfl ?hq22 ?_
        case hq22 =>
         rintro σ hσ of hof hcl;have HOF:=lh hof;clear hof hcl;have c0_:∀ z,(of z).cell? ⟨w.heap.size,0,none⟩=some (.int .i64 m.fountains):=lyz Ly HOF 0 rfl 0;have c1_:∀ z,(of z).cell? ⟨w.heap.size,2,none⟩=some (.slice Aa na ca):=lyz Ly HOF 0 rfl 2;have c2_:∀ z,(of z).cell? ⟨w.heap.size,3,none⟩=some (.slice At nt ct):=lyz Ly HOF 0 rfl 3;obtain ⟨c3_,c4_,c5_,c6_⟩:=lyz4 Ly HOF 2 rfl;have hfw:=hfT;have e0:∀ z,(of z).cell? ⟨w.heap.size,1,none⟩=some (.slice (some ⟨bv,off,none⟩) nv cv):=fun z=>by rw [← HAV.out];exact ((Ly.out.below (HOF.out z)).blk 0 rfl).cell 1
         have e1:∀ z,(of z).cell? ⟨bv,off+q * 2+1,none⟩=some (.int .i64 v.size):=fun z=>((Ly.out.1.trans ((HOF.out z).mono Ly.out.1.size)).cell (p:=⟨bv,off+q * 2+1,none⟩) HBV.out).trans HC1.out;have e2:∀ z,(of z).cell? ⟨w.heap.size+1,q,none⟩=some (.int .i64 (au s (q:Int))):=fun z=>(((Ly.out.below (HOF.out z)).blk 1 rfl).cell q).trans (cF s HQ_q.out);have ea:∀ z,(of z).cell? ⟨w.heap.size+1,a,none⟩=some (.int .i64 (au s (a:Int))):=fun z=>(((Ly.out.below (HOF.out z)).blk 1 rfl).cell a).trans (cF s HQ_a.out);simp only [bu]
         repeat (gi_big_quiet_step (fail))
         refine wpQuietIn_nil ?_;exact rfl
        intro W32 hW;replace Ly:=lyb Ly hW;clear hW;gi_wp2;refine ⟨trivial,(callsIn_wide.2 (cK x.drops 1 (au s (a:Int)) W32)).mono ?_⟩;rintro e W33 ⟨rfl,rfl⟩;rw [HW1.out];gi_wp2;refine ⟨trivial,b_R,?_⟩;refine wpFlow_cons (A:=?AF23) rfl ?hq23 ?_
        case hq23 =>
         rintro σ hσ of hof hcl;have HOF:=lh hof;clear hof hcl;have c0_:∀ z,(of z).cell? ⟨w.heap.size,0,none⟩=some (.int .i64 m.fountains):=lyz Ly HOF 0 rfl 0;have c1_:∀ z,(of z).cell? ⟨w.heap.size,2,none⟩=some (.slice Aa na ca):=lyz Ly HOF 0 rfl 2;have c2_:∀ z,(of z).cell? ⟨w.heap.size,3,none⟩=some (.slice At nt ct):=lyz Ly HOF 0 rfl 3;obtain ⟨c3_,c4_,c5_,c6_⟩:=lyz4 Ly HOF 2 rfl;have hfw:=hfT;have e0:∀ z,(of z).cell? ⟨w.heap.size,1,none⟩=some (.slice (some ⟨bv,off,none⟩) nv cv):=fun z=>by rw [← HAV.out];exact ((Ly.out.below (HOF.out z)).blk 0 rfl).cell 1
         have e1:∀ z,(of z).cell? ⟨bv,off+q * 2+1,none⟩=some (.int .i64 v.size):=fun z=>((Ly.out.1.trans ((HOF.out z).mono Ly.out.1.size)).cell (p:=⟨bv,off+q * 2+1,none⟩) HBV.out).trans HC1.out;have e2:∀ z,(of z).cell? ⟨w.heap.size+1,q,none⟩=some (.int .i64 (au s (q:Int))):=fun z=>(((Ly.out.below (HOF.out z)).blk 1 rfl).cell q).trans (cF s HQ_q.out);have ea:∀ z,(of z).cell? ⟨w.heap.size+1,a,none⟩=some (.int .i64 (au s (a:Int))):=fun z=>(((Ly.out.below (HOF.out z)).blk 1 rfl).cell a).trans (cF s HQ_a.out);simp only [bu]
         repeat (gi_big_quiet_step (fail))
         refine wpQuietIn_nil ?_;exact rfl
        intro W34 hW;replace Ly:=lyb Ly hW;clear hW;gi_wp2;refine ⟨trivial,(callsIn_wide.2 (cK x.drops 1 (v.size - au s (q:Int)) W34)).mono ?_⟩;rintro e W35 ⟨rfl,rfl⟩;rw [HWD.out];gi_wp2;refine ⟨trivial,b_R,?_⟩;refine wpFlow_nil (A:=?AF24) ?hq24 ?_
        case hq24 =>
         rintro σ hσ of hof hcl;have HOF:=lh hof;clear hof hcl;have c0_:∀ z,(of z).cell? ⟨w.heap.size,0,none⟩=some (.int .i64 m.fountains):=lyz Ly HOF 0 rfl 0;have c1_:∀ z,(of z).cell? ⟨w.heap.size,2,none⟩=some (.slice Aa na ca):=lyz Ly HOF 0 rfl 2;have c2_:∀ z,(of z).cell? ⟨w.heap.size,3,none⟩=some (.slice At nt ct):=lyz Ly HOF 0 rfl 3;obtain ⟨c3_,c4_,c5_,c6_⟩:=lyz4 Ly HOF 2 rfl;have hfw:=hfT;simp only [bu]
         repeat (gi_big_quiet_step (fail))
         refine wpQuietIn_nil ?_;exact rfl
        intro W36 hW;replace Ly:=lyb Ly hW;clear hW;simp only [bu];refine cA ?_;gi_wp2;clear hwr;obtain ⟨hdb1,hdb2⟩:=HDB.out;have hwa:IntKind.i64.wrap (au s (a:Int) - x.drops)=au s (a:Int) - x.drops:=IntWalk.i64_in _ (by omega);refine wpIn_flow_old [] [true,true,true,true,true,true,true] [false,false,false,false,false,false,false,true] (by kernel_rfl) (by kernel_rfl) (by kernel_rfl) (av b_R 1) ?_;refine wpFlow_nil (A:=?AF25) ?hq25 ?_
        case hq25 =>
         rintro σ hσ of hof hcl;have HOF:=lh hof;clear hof hcl;have c0_:∀ z,(of z).cell? ⟨w.heap.size+1+1,3,none⟩=some (.int .i64 x.drops):=lyz Ly HOF 2 rfl 3;have hfw:=hfT;have e2:∀ z,(of z).cell? ⟨w.heap.size+1,a,none⟩=some (.int .i64 (au s (a:Int))):=fun z=>(((Ly.out.below (HOF.out z)).blk 1 rfl).cell a).trans (cF s HQ_a.out);simp only [bu]
         repeat (gi_big_quiet_step (fail))
         refine wpQuietIn_nil ?_;exact rfl
        intro W37 hW;replace Ly:=lyb Ly hW;clear hW;have cq:W37.cell? ⟨w.heap.size+1,a,none⟩=some (.int .i64 (au s (a:Int))):=((Ly.out.blk 1 rfl).cell a).trans (cF s HQ_a.out);have fq:=(Ly.out.blk 1 rfl).frozen a;have lq:=Ly.out.lt 1 rfl;simp only [bu];refine dg ?_;gi_wp2;refine cA ?_;have HLS:=lh (gH Ly.out a (HSL.out) HQ_a.out (au s (a:Int) - x.drops));generalize W37.setCell ⟨w.heap.size+1,a,none⟩ (.int .i64 (au s (a:Int) - x.drops))=V38 at *;replace Ly:=HLS;clear cq fq lq HLS hwa;replace Ly:=lh (show Lay w V38 [(w.heap.size,26,#[.int .i64 m.fountains,.slice Av nv cv,.slice Aa na ca,.slice At nt ct]),(w.heap.size+1,150,#[.int .i64 (au (s.set a (au s (a:Int) - x.drops)) 0),.int .i64 (au (s.set a (au s (a:Int) - x.drops)) 1),.int .i64 (au (s.set a (au s (a:Int) - x.drops)) 2),.int .i64 (au (s.set a (au s (a:Int) - x.drops)) 3)]),(w.heap.size+1+1,62,#[.int .i64 x.kind,.int .i64 x.fr,.int .i64 x.to,.int .i64 x.drops]),(w.heap.size+1+1+1,150,#[.int .i64 0,.int .i64 0,.int .i64 0,.int .i64 0])] from Ly.out);have HS1:Hid (au (s.set a (au s (a:Int) - x.drops)) (q:Int)=au s (q:Int)):=lh (by rw [show s.set a (au s (a:Int) - x.drops)=s.set ((a:Int)).toNat (au s (a:Int) - x.drops) from by rw [Int.toNat_natCast],eP (by omega) (by omega) (by have:=HSL.out;have:=HQ_a.out;omega),if_neg (by have:=HQA.out;omega)]);have HSL1:Hid ((s.set a (au s (a:Int) - x.drops)).length=4):=lh (by rw [List.length_set];exact HSL.out);gi_wp2;have hwa:IntKind.i64.wrap (au s (q:Int)+x.drops)=au s (q:Int)+x.drops:=IntWalk.i64_in _ (by omega);refine wpIn_flow_old [] [true,true,true,true,true,true,true] [false,false,false,false,false,false,false,true] (by kernel_rfl) (by kernel_rfl) (by kernel_rfl) (av b_R 1) ?_;refine wpFlow_nil (A:=?AF26) ?hq26 ?_
        case hq26 =>
         rintro σ hσ of hof hcl;have HOF:=lh hof;clear hof hcl;have c0_:∀ z,(of z).cell? ⟨w.heap.size+1+1,3,none⟩=some (.int .i64 x.drops):=lyz Ly HOF 2 rfl 3;have hfw:=hfT;have e2:∀ z,(of z).cell? ⟨w.heap.size+1,q,none⟩=some (.int .i64 (au s (q:Int))):=fun z=>by rw [← HS1.out];exact (((Ly.out.below (HOF.out z)).blk 1 rfl).cell q).trans (cF (s.set a (au s (a:Int) - x.drops)) HQ_q.out)
         simp only [bu]
         repeat (gi_big_quiet_step (fail))
         refine wpQuietIn_nil ?_;exact rfl
        intro W39 hW;replace Ly:=lyb Ly hW;clear hW;have cq:W39.cell? ⟨w.heap.size+1,q,none⟩=some (.int .i64 (au s (q:Int))):=by rw [← HS1.out];exact ((Ly.out.blk 1 rfl).cell q).trans (cF (s.set a (au s (a:Int) - x.drops)) HQ_q.out)
        have fq:=(Ly.out.blk 1 rfl).frozen q;have lq:=Ly.out.lt 1 rfl;simp only [bu];refine dg ?_;gi_wp2;refine cA ?_;have HLS:=lh (gH Ly.out q (HSL1.out) HQ_q.out (au s (q:Int)+x.drops));generalize W39.setCell ⟨w.heap.size+1,q,none⟩ (.int .i64 (au s (q:Int)+x.drops))=V40 at *;replace Ly:=HLS;clear cq fq lq HLS hwa;replace Ly:=lh (show Lay w V40 [(w.heap.size,26,#[.int .i64 m.fountains,.slice Av nv cv,.slice Aa na ca,.slice At nt ct]),(w.heap.size+1,150,#[.int .i64 (au ((s.set a (au s (a:Int) - x.drops)).set q (au s (q:Int)+x.drops)) 0),.int .i64 (au ((s.set a (au s (a:Int) - x.drops)).set q (au s (q:Int)+x.drops)) 1),.int .i64 (au ((s.set a (au s (a:Int) - x.drops)).set q (au s (q:Int)+x.drops)) 2),.int .i64 (au ((s.set a (au s (a:Int) - x.drops)).set q (au s (q:Int)+x.drops)) 3)]),(w.heap.size+1+1,62,#[.int .i64 x.kind,.int .i64 x.fr,.int .i64 x.to,.int .i64 x.drops]),(w.heap.size+1+1+1,150,#[.int .i64 0,.int .i64 0,.int .i64 0,.int .i64 0])] from Ly.out);obtain ⟨x1_0,x1_1,x1_2,x1_3⟩:=lyc4 Ly 1 rfl;have l1_:=Ly.out.lt 1 rfl;have r0:=lyc Ly 3 rfl 0;have rz0:=lyf Ly 3 rfl 0;have r1:=lyc Ly 3 rfl 1;have rz1:=lyf Ly 3 rfl 1;have r2:=lyc Ly 3 rfl 2;have rz2:=lyf Ly 3 rfl 2;have r3:=lyc Ly 3 rfl 3;have rz3:=lyf Ly 3 rfl 3;have rl:=Ly.out.lt 3 rfl;gi_wp2;have R4:=ret4' (Ly.out.blk 3 rfl) Ly.out.1 (Ly.out.ge 3 rfl) (.int .i64 (au ((s.set a (au s (a:Int) - x.drops)).set q (au s (q:Int)+x.drops)) 0)) (.int .i64 (au ((s.set a (au s (a:Int) - x.drops)).set q (au s (q:Int)+x.drops)) 1)) (.int .i64 (au ((s.set a (au s (a:Int) - x.drops)).set q (au s (q:Int)+x.drops)) 2)) (.int .i64 (au ((s.set a (au s (a:Int) - x.drops)).set q (au s (q:Int)+x.drops)) 3));have v0:=R4.1.cell 0;have v1:=R4.1.cell 1;have v2:=R4.1.cell 2;have v3:=R4.1.cell 3;refine bodyPost_ret (v:=.tuple #[.agg #[.int .i64 (au ((s.set a (au s (a:Int) - x.drops)).set q (au s (q:Int)+x.drops)) 0),.int .i64 (au ((s.set a (au s (a:Int) - x.drops)).set q (au s (q:Int)+x.drops)) 1),.int .i64 (au ((s.set a (au s (a:Int) - x.drops)).set q (au s (q:Int)+x.drops)) 2),.int .i64 (au ((s.set a (au s (a:Int) - x.drops)).set q (au s (q:Int)+x.drops)) 3)],.bool true]) (by simp [results,Tryz.results117,go_sem,v0,v1,v2,v3]) rfl ?_;exact ⟨R4.2.1,((s.set a (au s (a:Int) - x.drops)).set q (au s (q:Int)+x.drops)),true,rfl,.inl ⟨rfl,HD.out⟩⟩
       ·
        have HWD:Hid (wiB x.drops 1 (v.size - au s (q:Int))=false):=lh (decide_eq_false he);have HD:Hid (cS m s x=none):=lh (by rw [dk2 hk2 HJF.out HJT.out (by omega),HVS.out,if_neg (fun h=>he ⟨h.2.1.1,h.2.2.2⟩)]);have HDB:=lh (ai hd he);have HQA:=lh hqa;clear hk1 hk2 hd he hj2 hqa;refine wpIn_flow_old [([true,true,true,true,true,true,true,true,true,true,true,true,true],13),([false,false,false,false,false,false,false,false,false,false,false,false,false,false,true,true,true,true,true,true,true,true,true,true,true,true,true,true,true],29)] [false,false,false,false,false,false,false,false,false,false,false,false,false,false,false,false,false,false,false,false,false,false,false,false,false,false,false,false,false,false,true,true] [] (by kernel_rfl) (by kernel_rfl) (by kernel_rfl) (av b_R 1) ?_;refine wpFlow_cons (A:=?AF27) rfl ?hq27 ?_
        case hq27 =>
         rintro σ hσ of hof hcl;have HOF:=lh hof;clear hof hcl;have c0_:∀ z,(of z).cell? ⟨w.heap.size,0,none⟩=some (.int .i64 m.fountains):=lyz Ly HOF 0 rfl 0;have c1_:∀ z,(of z).cell? ⟨w.heap.size,2,none⟩=some (.slice Aa na ca):=lyz Ly HOF 0 rfl 2;have c2_:∀ z,(of z).cell? ⟨w.heap.size,3,none⟩=some (.slice At nt ct):=lyz Ly HOF 0 rfl 3;obtain ⟨c3_,c4_,c5_,c6_⟩:=lyz4 Ly HOF 2 rfl;have hfw:=hfT;have e0:∀ z,(of z).cell? ⟨w.heap.size,1,none⟩=some (.slice (some ⟨bv,off,none⟩) nv cv):=fun z=>by rw [← HAV.out];exact ((Ly.out.below (HOF.out z)).blk 0 rfl).cell 1
         have e1:∀ z,(of z).cell? ⟨bv,off+q * 2+1,none⟩=some (.int .i64 v.size):=fun z=>((Ly.out.1.trans ((HOF.out z).mono Ly.out.1.size)).cell (p:=⟨bv,off+q * 2+1,none⟩) HBV.out).trans HC1.out;have e2:∀ z,(of z).cell? ⟨w.heap.size+1,q,none⟩=some (.int .i64 (au s (q:Int))):=fun z=>(((Ly.out.below (HOF.out z)).blk 1 rfl).cell q).trans (cF s HQ_q.out);have ea:∀ z,(of z).cell? ⟨w.heap.size+1,a,none⟩=some (.int .i64 (au s (a:Int))):=fun z=>(((Ly.out.below (HOF.out z)).blk 1 rfl).cell a).trans (cF s HQ_a.out);simp only [bu]
         repeat (gi_big_quiet_step (fail))
         refine wpQuietIn_nil ?_;exact rfl
        intro W41 hW;replace Ly:=lyb Ly hW;clear hW;gi_wp2;refine ⟨trivial,(callsIn_wide.2 (cK x.drops 1 (au s (a:Int)) W41)).mono ?_⟩;rintro e W42 ⟨rfl,rfl⟩;rw [HW1.out];gi_wp2;refine ⟨trivial,b_R,?_⟩;refine wpFlow_cons (A:=?AF28) rfl ?hq28 ?_
        case hq28 =>
         rintro σ hσ of hof hcl;have HOF:=lh hof;clear hof hcl;have c0_:∀ z,(of z).cell? ⟨w.heap.size,0,none⟩=some (.int .i64 m.fountains):=lyz Ly HOF 0 rfl 0;have c1_:∀ z,(of z).cell? ⟨w.heap.size,2,none⟩=some (.slice Aa na ca):=lyz Ly HOF 0 rfl 2;have c2_:∀ z,(of z).cell? ⟨w.heap.size,3,none⟩=some (.slice At nt ct):=lyz Ly HOF 0 rfl 3;obtain ⟨c3_,c4_,c5_,c6_⟩:=lyz4 Ly HOF 2 rfl;have hfw:=hfT;have e0:∀ z,(of z).cell? ⟨w.heap.size,1,none⟩=some (.slice (some ⟨bv,off,none⟩) nv cv):=fun z=>by rw [← HAV.out];exact ((Ly.out.below (HOF.out z)).blk 0 rfl).cell 1
         have e1:∀ z,(of z).cell? ⟨bv,off+q * 2+1,none⟩=some (.int .i64 v.size):=fun z=>((Ly.out.1.trans ((HOF.out z).mono Ly.out.1.size)).cell (p:=⟨bv,off+q * 2+1,none⟩) HBV.out).trans HC1.out;have e2:∀ z,(of z).cell? ⟨w.heap.size+1,q,none⟩=some (.int .i64 (au s (q:Int))):=fun z=>(((Ly.out.below (HOF.out z)).blk 1 rfl).cell q).trans (cF s HQ_q.out);have ea:∀ z,(of z).cell? ⟨w.heap.size+1,a,none⟩=some (.int .i64 (au s (a:Int))):=fun z=>(((Ly.out.below (HOF.out z)).blk 1 rfl).cell a).trans (cF s HQ_a.out);simp only [bu]
         repeat (gi_big_quiet_step (fail))
         refine wpQuietIn_nil ?_;exact rfl
        intro W43 hW;replace Ly:=lyb Ly hW;clear hW;gi_wp2;refine ⟨trivial,(callsIn_wide.2 (cK x.drops 1 (v.size - au s (q:Int)) W43)).mono ?_⟩;rintro e W44 ⟨rfl,rfl⟩;rw [HWD.out];gi_wp2;refine ⟨trivial,b_R,?_⟩;refine wpFlow_nil (A:=?AF29) ?hq29 ?_
        case hq29 =>
         rintro σ hσ of hof hcl;have HOF:=lh hof;clear hof hcl;have c0_:∀ z,(of z).cell? ⟨w.heap.size,0,none⟩=some (.int .i64 m.fountains):=lyz Ly HOF 0 rfl 0;have c1_:∀ z,(of z).cell? ⟨w.heap.size,2,none⟩=some (.slice Aa na ca):=lyz Ly HOF 0 rfl 2;have c2_:∀ z,(of z).cell? ⟨w.heap.size,3,none⟩=some (.slice At nt ct):=lyz Ly HOF 0 rfl 3;obtain ⟨c3_,c4_,c5_,c6_⟩:=lyz4 Ly HOF 2 rfl;have hfw:=hfT;simp only [bu]
         repeat (gi_big_quiet_step (fail))
         refine wpQuietIn_nil ?_;exact rfl
        intro W45 hW;replace Ly:=lyb Ly hW;clear hW;simp only [bu];refine cA ?_;obtain ⟨x1_0,x1_1,x1_2,x1_3⟩:=lyc4 Ly 1 rfl;have l1_:=Ly.out.lt 1 rfl;have r0:=lyc Ly 3 rfl 0;have rz0:=lyf Ly 3 rfl 0;have r1:=lyc Ly 3 rfl 1;have rz1:=lyf Ly 3 rfl 1;have r2:=lyc Ly 3 rfl 2;have rz2:=lyf Ly 3 rfl 2;have r3:=lyc Ly 3 rfl 3;have rz3:=lyf Ly 3 rfl 3;have rl:=Ly.out.lt 3 rfl;gi_wp2;have R4:=ret4' (Ly.out.blk 3 rfl) Ly.out.1 (Ly.out.ge 3 rfl) (.int .i64 (au s 0)) (.int .i64 (au s 1)) (.int .i64 (au s 2)) (.int .i64 (au s 3));have v0:=R4.1.cell 0;have v1:=R4.1.cell 1;have v2:=R4.1.cell 2;have v3:=R4.1.cell 3;refine bodyPost_ret (v:=.tuple #[.agg #[.int .i64 (au s 0),.int .i64 (au s 1),.int .i64 (au s 2),.int .i64 (au s 3)],.bool false]) (by simp [results,Tryz.results117,go_sem,v0,v1,v2,v3]) rfl ?_;exact ⟨R4.2.1,s,false,rfl,.inr ⟨rfl,HD.out⟩⟩
      ·
       have HW1:Hid (wiB x.drops 1 (au s (a:Int))=false):=lh (decide_eq_false hd);have HD:Hid (cS m s x=none):=lh (by rw [dk2 hk2 HJF.out HJT.out (by omega),if_neg (fun h=>hd h.2.1)]);have HQA:=lh hqa;clear hk1 hk2 hd hqa;refine wpIn_flow_old [([true,true,true,true,true,true,true,true,true,true,true,true,true],13),([false,false,false,false,false,false,false,false,false,false,false,false,false,false,true,true,true,true,true,true,true,true,true,true,true,true,true,true,true],29)] [false,false,false,false,false,false,false,false,false,false,false,false,false,false,false,false,false,false,false,false,false,false,false,false,false,false,false,false,false,false,true,true] [] (by kernel_rfl) (by kernel_rfl) (by kernel_rfl) (av b_R 1) ?_;refine wpFlow_cons (A:=?AF30) rfl ?hq30 ?_
       case hq30 =>
        rintro σ hσ of hof hcl;have HOF:=lh hof;clear hof hcl;have c0_:∀ z,(of z).cell? ⟨w.heap.size,0,none⟩=some (.int .i64 m.fountains):=lyz Ly HOF 0 rfl 0;have c1_:∀ z,(of z).cell? ⟨w.heap.size,2,none⟩=some (.slice Aa na ca):=lyz Ly HOF 0 rfl 2;have c2_:∀ z,(of z).cell? ⟨w.heap.size,3,none⟩=some (.slice At nt ct):=lyz Ly HOF 0 rfl 3;obtain ⟨c3_,c4_,c5_,c6_⟩:=lyz4 Ly HOF 2 rfl;have hfw:=hfT;have e0:∀ z,(of z).cell? ⟨w.heap.size,1,none⟩=some (.slice (some ⟨bv,off,none⟩) nv cv):=fun z=>by rw [← HAV.out];exact ((Ly.out.below (HOF.out z)).blk 0 rfl).cell 1
        have e1:∀ z,(of z).cell? ⟨bv,off+q * 2+1,none⟩=some (.int .i64 v.size):=fun z=>((Ly.out.1.trans ((HOF.out z).mono Ly.out.1.size)).cell (p:=⟨bv,off+q * 2+1,none⟩) HBV.out).trans HC1.out;have e2:∀ z,(of z).cell? ⟨w.heap.size+1,q,none⟩=some (.int .i64 (au s (q:Int))):=fun z=>(((Ly.out.below (HOF.out z)).blk 1 rfl).cell q).trans (cF s HQ_q.out);have ea:∀ z,(of z).cell? ⟨w.heap.size+1,a,none⟩=some (.int .i64 (au s (a:Int))):=fun z=>(((Ly.out.below (HOF.out z)).blk 1 rfl).cell a).trans (cF s HQ_a.out);simp only [bu]
        repeat (gi_big_quiet_step (fail))
        refine wpQuietIn_nil ?_;exact rfl
       intro W46 hW;replace Ly:=lyb Ly hW;clear hW;gi_wp2;refine ⟨trivial,(callsIn_wide.2 (cK x.drops 1 (au s (a:Int)) W46)).mono ?_⟩;rintro e W47 ⟨rfl,rfl⟩;rw [HW1.out];gi_wp2;refine ⟨trivial,b_R,?_⟩;refine wpFlow_cons (A:=?AF31) rfl ?hq31 ?_
       case hq31 =>
        rintro σ hσ of hof hcl;have HOF:=lh hof;clear hof hcl;have c0_:∀ z,(of z).cell? ⟨w.heap.size,0,none⟩=some (.int .i64 m.fountains):=lyz Ly HOF 0 rfl 0;have c1_:∀ z,(of z).cell? ⟨w.heap.size,2,none⟩=some (.slice Aa na ca):=lyz Ly HOF 0 rfl 2;have c2_:∀ z,(of z).cell? ⟨w.heap.size,3,none⟩=some (.slice At nt ct):=lyz Ly HOF 0 rfl 3;obtain ⟨c3_,c4_,c5_,c6_⟩:=lyz4 Ly HOF 2 rfl;have hfw:=hfT;have e0:∀ z,(of z).cell? ⟨w.heap.size,1,none⟩=some (.slice (some ⟨bv,off,none⟩) nv cv):=fun z=>by rw [← HAV.out];exact ((Ly.out.below (HOF.out z)).blk 0 rfl).cell 1
        have e1:∀ z,(of z).cell? ⟨bv,off+q * 2+1,none⟩=some (.int .i64 v.size):=fun z=>((Ly.out.1.trans ((HOF.out z).mono Ly.out.1.size)).cell (p:=⟨bv,off+q * 2+1,none⟩) HBV.out).trans HC1.out;have e2:∀ z,(of z).cell? ⟨w.heap.size+1,q,none⟩=some (.int .i64 (au s (q:Int))):=fun z=>(((Ly.out.below (HOF.out z)).blk 1 rfl).cell q).trans (cF s HQ_q.out);have ea:∀ z,(of z).cell? ⟨w.heap.size+1,a,none⟩=some (.int .i64 (au s (a:Int))):=fun z=>(((Ly.out.below (HOF.out z)).blk 1 rfl).cell a).trans (cF s HQ_a.out);simp only [bu]
        repeat (gi_big_quiet_step (fail))
        refine wpQuietIn_nil ?_;exact rfl
       intro W48 hW;replace Ly:=lyb Ly hW;clear hW;gi_wp2;refine ⟨trivial,?_⟩;gi_wp2;refine ⟨trivial,b_R,?_⟩;refine wpFlow_nil (A:=?AF32) ?hq32 ?_
       case hq32 =>
        rintro σ hσ of hof hcl;have HOF:=lh hof;clear hof hcl;have c0_:∀ z,(of z).cell? ⟨w.heap.size,0,none⟩=some (.int .i64 m.fountains):=lyz Ly HOF 0 rfl 0;have c1_:∀ z,(of z).cell? ⟨w.heap.size,2,none⟩=some (.slice Aa na ca):=lyz Ly HOF 0 rfl 2;have c2_:∀ z,(of z).cell? ⟨w.heap.size,3,none⟩=some (.slice At nt ct):=lyz Ly HOF 0 rfl 3;obtain ⟨c3_,c4_,c5_,c6_⟩:=lyz4 Ly HOF 2 rfl;have hfw:=hfT;simp only [bu]
        repeat (gi_big_quiet_step (fail))
        refine wpQuietIn_nil ?_;exact rfl
       intro W49 hW;replace Ly:=lyb Ly hW;clear hW;simp only [bu];refine cA ?_;obtain ⟨x1_0,x1_1,x1_2,x1_3⟩:=lyc4 Ly 1 rfl;have l1_:=Ly.out.lt 1 rfl;have r0:=lyc Ly 3 rfl 0;have rz0:=lyf Ly 3 rfl 0;have r1:=lyc Ly 3 rfl 1;have rz1:=lyf Ly 3 rfl 1;have r2:=lyc Ly 3 rfl 2;have rz2:=lyf Ly 3 rfl 2;have r3:=lyc Ly 3 rfl 3;have rz3:=lyf Ly 3 rfl 3;have rl:=Ly.out.lt 3 rfl;gi_wp2;have R4:=ret4' (Ly.out.blk 3 rfl) Ly.out.1 (Ly.out.ge 3 rfl) (.int .i64 (au s 0)) (.int .i64 (au s 1)) (.int .i64 (au s 2)) (.int .i64 (au s 3));have v0:=R4.1.cell 0;have v1:=R4.1.cell 1;have v2:=R4.1.cell 2;have v3:=R4.1.cell 3;refine bodyPost_ret (v:=.tuple #[.agg #[.int .i64 (au s 0),.int .i64 (au s 1),.int .i64 (au s 2),.int .i64 (au s 3)],.bool false]) (by simp [results,Tryz.results117,go_sem,v0,v1,v2,v3]) rfl ?_;exact ⟨R4.2.1,s,false,rfl,.inr ⟨rfl,HD.out⟩⟩
   ·
    have k2:(x.kind==2)=false:=by simpa using hk2
    by_cases hk3:x.kind=3
    ·
     have k3:(x.kind==3)=true:=by simpa using hk3
     obtain ⟨x2_0,x2_1,x2_2,x2_3⟩:=lyc4 Ly 2 rfl;have l2_:=Ly.out.lt 2 rfl;gi_wp2;clear x2_0 x2_1 x2_2 x2_3 l2_;by_cases ht:x.to=0
     ·
      have htn:(x.to != 0)=false:=by simpa using ht
      by_cases hd:1≤x.drops∧x.drops≤au s (a:Int)
      ·
       have HWD:Hid (wiB x.drops 1 (au s (a:Int))=true):=lh (decide_eq_true hd);have HD:Hid (cS m s x=some (s.set a (au s (a:Int) - x.drops))):=lh (by rw [dk3 hk3 HJF.out (by omega),if_pos ⟨ht,hd⟩,Int.toNat_natCast]);have HDB:=lh hd;clear hk1 hk2 hk3 hd ht;refine wpIn_flow_old [([true,true,true,true,true,true,true,true,true],9)] [false,false,false,false,false,false,false,false,false,false,true,true] [] (by kernel_rfl) (by kernel_rfl) (by kernel_rfl) (av b_R 1) ?_;refine wpFlow_cons (A:=?AF33) rfl ?hq33 ?_
       case hq33 =>
        rintro σ hσ of hof hcl;have HOF:=lh hof;clear hof hcl;obtain ⟨c0_,c1_,c2_,c3_⟩:=lyz4 Ly HOF 0 rfl;obtain ⟨c4_,c5_,c6_,c7_⟩:=lyz4 Ly HOF 2 rfl;have hfw:=hfT;have ea:∀ z,(of z).cell? ⟨w.heap.size+1,a,none⟩=some (.int .i64 (au s (a:Int))):=fun z=>(((Ly.out.below (HOF.out z)).blk 1 rfl).cell a).trans (cF s HQ_a.out);simp only [bu]
        repeat (gi_big_quiet_step (fail))
        refine wpQuietIn_nil ?_;exact rfl
       intro W50 hW;replace Ly:=lyb Ly hW;clear hW;gi_wp2;refine ⟨trivial,(callsIn_wide.2 (cK x.drops 1 (au s (a:Int)) W50)).mono ?_⟩;rintro e W51 ⟨rfl,rfl⟩;rw [HWD.out];gi_wp2;refine ⟨trivial,b_R,?_⟩;refine wpFlow_nil (A:=?AF34) ?hq34 ?_
       case hq34 =>
        rintro σ hσ of hof hcl;have HOF:=lh hof;clear hof hcl;obtain ⟨c0_,c1_,c2_,c3_⟩:=lyz4 Ly HOF 0 rfl;obtain ⟨c4_,c5_,c6_,c7_⟩:=lyz4 Ly HOF 2 rfl;have hfw:=hfT;simp only [bu]
        repeat (gi_big_quiet_step (fail))
        refine wpQuietIn_nil ?_;exact rfl
       intro W52 hW;replace Ly:=lyb Ly hW;clear hW;simp only [bu];refine cA ?_;gi_wp2;obtain ⟨hdb1,hdb2⟩:=HDB.out;have hwa:IntKind.i64.wrap (au s (a:Int) - x.drops)=au s (a:Int) - x.drops:=IntWalk.i64_in _ (by omega);refine wpIn_flow_old [] [true,true,true,true,true,true,true] [false,false,false,false,false,false,false,true] (by kernel_rfl) (by kernel_rfl) (by kernel_rfl) (av b_R 1) ?_;refine wpFlow_nil (A:=?AF35) ?hq35 ?_
       case hq35 =>
        rintro σ hσ of hof hcl;have HOF:=lh hof;clear hof hcl;have c0_:∀ z,(of z).cell? ⟨w.heap.size+1+1,3,none⟩=some (.int .i64 x.drops):=lyz Ly HOF 2 rfl 3;have hfw:=hfT;have e2:∀ z,(of z).cell? ⟨w.heap.size+1,a,none⟩=some (.int .i64 (au s (a:Int))):=fun z=>(((Ly.out.below (HOF.out z)).blk 1 rfl).cell a).trans (cF s HQ_a.out);simp only [bu]
        repeat (gi_big_quiet_step (fail))
        refine wpQuietIn_nil ?_;exact rfl
       intro W53 hW;replace Ly:=lyb Ly hW;clear hW;have cq:W53.cell? ⟨w.heap.size+1,a,none⟩=some (.int .i64 (au s (a:Int))):=((Ly.out.blk 1 rfl).cell a).trans (cF s HQ_a.out);have fq:=(Ly.out.blk 1 rfl).frozen a;have lq:=Ly.out.lt 1 rfl;simp only [bu];refine dg ?_;gi_wp2;refine cA ?_;have HLS:=lh (gH Ly.out a (HSL.out) HQ_a.out (au s (a:Int) - x.drops));generalize W53.setCell ⟨w.heap.size+1,a,none⟩ (.int .i64 (au s (a:Int) - x.drops))=V54 at *;replace Ly:=HLS;clear cq fq lq HLS hwa;replace Ly:=lh (show Lay w V54 [(w.heap.size,26,#[.int .i64 m.fountains,.slice Av nv cv,.slice Aa na ca,.slice At nt ct]),(w.heap.size+1,150,#[.int .i64 (au (s.set a (au s (a:Int) - x.drops)) 0),.int .i64 (au (s.set a (au s (a:Int) - x.drops)) 1),.int .i64 (au (s.set a (au s (a:Int) - x.drops)) 2),.int .i64 (au (s.set a (au s (a:Int) - x.drops)) 3)]),(w.heap.size+1+1,62,#[.int .i64 x.kind,.int .i64 x.fr,.int .i64 x.to,.int .i64 x.drops]),(w.heap.size+1+1+1,150,#[.int .i64 0,.int .i64 0,.int .i64 0,.int .i64 0])] from Ly.out);obtain ⟨x1_0,x1_1,x1_2,x1_3⟩:=lyc4 Ly 1 rfl;have l1_:=Ly.out.lt 1 rfl;have r0:=lyc Ly 3 rfl 0;have rz0:=lyf Ly 3 rfl 0;have r1:=lyc Ly 3 rfl 1;have rz1:=lyf Ly 3 rfl 1;have r2:=lyc Ly 3 rfl 2;have rz2:=lyf Ly 3 rfl 2;have r3:=lyc Ly 3 rfl 3;have rz3:=lyf Ly 3 rfl 3;have rl:=Ly.out.lt 3 rfl;gi_wp2;have R4:=ret4' (Ly.out.blk 3 rfl) Ly.out.1 (Ly.out.ge 3 rfl) (.int .i64 (au (s.set a (au s (a:Int) - x.drops)) 0)) (.int .i64 (au (s.set a (au s (a:Int) - x.drops)) 1)) (.int .i64 (au (s.set a (au s (a:Int) - x.drops)) 2)) (.int .i64 (au (s.set a (au s (a:Int) - x.drops)) 3));have v0:=R4.1.cell 0;have v1:=R4.1.cell 1;have v2:=R4.1.cell 2;have v3:=R4.1.cell 3;refine bodyPost_ret (v:=.tuple #[.agg #[.int .i64 (au (s.set a (au s (a:Int) - x.drops)) 0),.int .i64 (au (s.set a (au s (a:Int) - x.drops)) 1),.int .i64 (au (s.set a (au s (a:Int) - x.drops)) 2),.int .i64 (au (s.set a (au s (a:Int) - x.drops)) 3)],.bool true]) (by simp [results,Tryz.results117,go_sem,v0,v1,v2,v3]) rfl ?_;exact ⟨R4.2.1,(s.set a (au s (a:Int) - x.drops)),true,rfl,.inl ⟨rfl,HD.out⟩⟩
      ·
       have HWD:Hid (wiB x.drops 1 (au s (a:Int))=false):=lh (decide_eq_false hd);have HD:Hid (cS m s x=none):=lh (by rw [dk3 hk3 HJF.out (by omega),if_neg (fun h=>hd h.2)]);have HDB:=lh hd;clear hk1 hk2 hk3 hd ht;refine wpIn_flow_old [([true,true,true,true,true,true,true,true,true],9)] [false,false,false,false,false,false,false,false,false,false,true,true] [] (by kernel_rfl) (by kernel_rfl) (by kernel_rfl) (av b_R 1) ?_;refine wpFlow_cons (A:=?AF36) rfl ?hq36 ?_
       case hq36 =>
        rintro σ hσ of hof hcl;have HOF:=lh hof;clear hof hcl;obtain ⟨c0_,c1_,c2_,c3_⟩:=lyz4 Ly HOF 0 rfl;obtain ⟨c4_,c5_,c6_,c7_⟩:=lyz4 Ly HOF 2 rfl;have hfw:=hfT;have ea:∀ z,(of z).cell? ⟨w.heap.size+1,a,none⟩=some (.int .i64 (au s (a:Int))):=fun z=>(((Ly.out.below (HOF.out z)).blk 1 rfl).cell a).trans (cF s HQ_a.out);simp only [bu]
        repeat (gi_big_quiet_step (fail))
        refine wpQuietIn_nil ?_;exact rfl
       intro W55 hW;replace Ly:=lyb Ly hW;clear hW;gi_wp2;refine ⟨trivial,(callsIn_wide.2 (cK x.drops 1 (au s (a:Int)) W55)).mono ?_⟩;rintro e W56 ⟨rfl,rfl⟩;rw [HWD.out];gi_wp2;refine ⟨trivial,b_R,?_⟩;refine wpFlow_nil (A:=?AF37) ?hq37 ?_
       case hq37 =>
        rintro σ hσ of hof hcl;have HOF:=lh hof;clear hof hcl;obtain ⟨c0_,c1_,c2_,c3_⟩:=lyz4 Ly HOF 0 rfl;obtain ⟨c4_,c5_,c6_,c7_⟩:=lyz4 Ly HOF 2 rfl;have hfw:=hfT;simp only [bu]
        repeat (gi_big_quiet_step (fail))
        refine wpQuietIn_nil ?_;exact rfl
       intro W57 hW;replace Ly:=lyb Ly hW;clear hW;simp only [bu];refine cA ?_;obtain ⟨x1_0,x1_1,x1_2,x1_3⟩:=lyc4 Ly 1 rfl;have l1_:=Ly.out.lt 1 rfl;have r0:=lyc Ly 3 rfl 0;have rz0:=lyf Ly 3 rfl 0;have r1:=lyc Ly 3 rfl 1;have rz1:=lyf Ly 3 rfl 1;have r2:=lyc Ly 3 rfl 2;have rz2:=lyf Ly 3 rfl 2;have r3:=lyc Ly 3 rfl 3;have rz3:=lyf Ly 3 rfl 3;have rl:=Ly.out.lt 3 rfl;gi_wp2;have R4:=ret4' (Ly.out.blk 3 rfl) Ly.out.1 (Ly.out.ge 3 rfl) (.int .i64 (au s 0)) (.int .i64 (au s 1)) (.int .i64 (au s 2)) (.int .i64 (au s 3));have v0:=R4.1.cell 0;have v1:=R4.1.cell 1;have v2:=R4.1.cell 2;have v3:=R4.1.cell 3;refine bodyPost_ret (v:=.tuple #[.agg #[.int .i64 (au s 0),.int .i64 (au s 1),.int .i64 (au s 2),.int .i64 (au s 3)],.bool false]) (by simp [results,Tryz.results117,go_sem,v0,v1,v2,v3]) rfl ?_;exact ⟨R4.2.1,s,false,rfl,.inr ⟨rfl,HD.out⟩⟩
     ·
      have htn:(x.to != 0)=true:=by simpa using ht
      have HD:Hid (cS m s x=none):=lh (by rw [dk3 hk3 HJF.out (by omega),if_neg (fun h=>ht h.1)]);clear hk1 hk2 hk3 ht;refine wpIn_flow_old [([true,true,true,true,true,true,true,true,true],9)] [false,false,false,false,false,false,false,false,false,false,true,true] [] (by kernel_rfl) (by kernel_rfl) (by kernel_rfl) (av b_R 1) ?_;refine wpFlow_cons (A:=?AF38) rfl ?hq38 ?_
      case hq38 =>
       rintro σ hσ of hof hcl;have HOF:=lh hof;clear hof hcl;obtain ⟨c0_,c1_,c2_,c3_⟩:=lyz4 Ly HOF 0 rfl;obtain ⟨c4_,c5_,c6_,c7_⟩:=lyz4 Ly HOF 2 rfl;have hfw:=hfT;simp only [bu]
       repeat (gi_big_quiet_step (fail))
       refine wpQuietIn_nil ?_;exact rfl
      intro W58 hW;replace Ly:=lyb Ly hW;clear hW;gi_wp2;refine ⟨trivial,?_⟩;gi_wp2;refine ⟨trivial,b_R,?_⟩;refine wpFlow_nil (A:=?AF39) ?hq39 ?_
      case hq39 =>
       rintro σ hσ of hof hcl;have HOF:=lh hof;clear hof hcl;obtain ⟨c0_,c1_,c2_,c3_⟩:=lyz4 Ly HOF 0 rfl;obtain ⟨c4_,c5_,c6_,c7_⟩:=lyz4 Ly HOF 2 rfl;have hfw:=hfT;simp only [bu]
       repeat (gi_big_quiet_step (fail))
       refine wpQuietIn_nil ?_;exact rfl
      intro W59 hW;replace Ly:=lyb Ly hW;clear hW;simp only [bu];refine cA ?_;obtain ⟨x1_0,x1_1,x1_2,x1_3⟩:=lyc4 Ly 1 rfl;have l1_:=Ly.out.lt 1 rfl;have r0:=lyc Ly 3 rfl 0;have rz0:=lyf Ly 3 rfl 0;have r1:=lyc Ly 3 rfl 1;have rz1:=lyf Ly 3 rfl 1;have r2:=lyc Ly 3 rfl 2;have rz2:=lyf Ly 3 rfl 2;have r3:=lyc Ly 3 rfl 3;have rz3:=lyf Ly 3 rfl 3;have rl:=Ly.out.lt 3 rfl;gi_wp2;have R4:=ret4' (Ly.out.blk 3 rfl) Ly.out.1 (Ly.out.ge 3 rfl) (.int .i64 (au s 0)) (.int .i64 (au s 1)) (.int .i64 (au s 2)) (.int .i64 (au s 3));have v0:=R4.1.cell 0;have v1:=R4.1.cell 1;have v2:=R4.1.cell 2;have v3:=R4.1.cell 3;refine bodyPost_ret (v:=.tuple #[.agg #[.int .i64 (au s 0),.int .i64 (au s 1),.int .i64 (au s 2),.int .i64 (au s 3)],.bool false]) (by simp [results,Tryz.results117,go_sem,v0,v1,v2,v3]) rfl ?_;exact ⟨R4.2.1,s,false,rfl,.inr ⟨rfl,HD.out⟩⟩
    ·
     have k3:(x.kind==3)=false:=by simpa using hk3
     by_cases hk4:x.kind=4
     ·
      have k4:(x.kind==4)=true:=by simpa using hk4
      by_cases ht:x.to=0∧x.drops=0
      ·
       have ht1:(x.to != 0)=false:=by simpa using ht.1
       have ht2:(x.drops != 0)=false:=by simpa using ht.2
       have HD:Hid (cS m s x=some (s.set a 0)):=lh (by rw [dk4 hk4 HJF.out (by omega),if_pos ht,Int.toNat_natCast]);clear hk1 hk2 hk3 hk4 ht;obtain ⟨x2_0,x2_1,x2_2,x2_3⟩:=lyc4 Ly 2 rfl;have l2_:=Ly.out.lt 2 rfl;gi_upto_region 24 with fail
       clear x2_0 x2_1 x2_2 x2_3 l2_;have cq:W5.cell? ⟨w.heap.size+1,a,none⟩=some (.int .i64 (au s (a:Int))):=((Ly.out.blk 1 rfl).cell a).trans (cF s HQ_a.out);have fq:=(Ly.out.blk 1 rfl).frozen a;have lq:=Ly.out.lt 1 rfl;gi_upto_region 25 with fail
       have HLS:=lh (gH Ly.out a HSL.out HQ_a.out 0);generalize W5.setCell ⟨w.heap.size+1,a,none⟩ (.int .i64 0)=W99 at *;replace Ly:=HLS;clear cq fq lq HLS;replace Ly:=lh (show Lay w W99 [(w.heap.size,26,#[.int .i64 m.fountains,.slice Av nv cv,.slice Aa na ca,.slice At nt ct]),(w.heap.size+1,150,#[.int .i64 (au (s.set a 0) 0),.int .i64 (au (s.set a 0) 1),.int .i64 (au (s.set a 0) 2),.int .i64 (au (s.set a 0) 3)]),(w.heap.size+1+1,62,#[.int .i64 x.kind,.int .i64 x.fr,.int .i64 x.to,.int .i64 x.drops]),(w.heap.size+1+1+1,150,#[.int .i64 0,.int .i64 0,.int .i64 0,.int .i64 0])] from Ly.out);obtain ⟨x1_0,x1_1,x1_2,x1_3⟩:=lyc4 Ly 1 rfl;have l1_:=Ly.out.lt 1 rfl;have r0:=lyc Ly 3 rfl 0;have rz0:=lyf Ly 3 rfl 0;have r1:=lyc Ly 3 rfl 1;have rz1:=lyf Ly 3 rfl 1;have r2:=lyc Ly 3 rfl 2;have rz2:=lyf Ly 3 rfl 2;have r3:=lyc Ly 3 rfl 3;have rz3:=lyf Ly 3 rfl 3;have rl:=Ly.out.lt 3 rfl;gi_wp2;have R4:=ret4' (Ly.out.blk 3 rfl) Ly.out.1 (Ly.out.ge 3 rfl) (.int .i64 (au (s.set a 0) 0)) (.int .i64 (au (s.set a 0) 1)) (.int .i64 (au (s.set a 0) 2)) (.int .i64 (au (s.set a 0) 3));have v0:=R4.1.cell 0;have v1:=R4.1.cell 1;have v2:=R4.1.cell 2;have v3:=R4.1.cell 3;refine bodyPost_ret (v:=.tuple #[.agg #[.int .i64 (au (s.set a 0) 0),.int .i64 (au (s.set a 0) 1),.int .i64 (au (s.set a 0) 2),.int .i64 (au (s.set a 0) 3)],.bool true]) (by simp [results,Tryz.results117,go_sem,v0,v1,v2,v3]) rfl ?_;exact ⟨R4.2.1,(s.set a 0),true,rfl,.inl ⟨rfl,HD.out⟩⟩
      ·
       have HD:Hid (cS m s x=none):=lh (by rw [dk4 hk4 HJF.out (by omega),if_neg ht])
       rcases (show (x.to != 0)=true∨((x.to != 0)=false∧(x.drops != 0)=true) by
        by_cases q:x.to=0
        ·right;exact ⟨by simpa using q,by simpa using fun r=>ht ⟨q,r⟩⟩
        ·left;simpa using q) with ht1 | ⟨ht1,ht2⟩
       all_goals
        clear ht hk1 hk2 hk3 hk4;obtain ⟨x2_0,x2_1,x2_2,x2_3⟩:=lyc4 Ly 2 rfl;have l2_:=Ly.out.lt 2 rfl;obtain ⟨x1_0,x1_1,x1_2,x1_3⟩:=lyc4 Ly 1 rfl;have l1_:=Ly.out.lt 1 rfl;have r0:=lyc Ly 3 rfl 0;have rz0:=lyf Ly 3 rfl 0;have r1:=lyc Ly 3 rfl 1;have rz1:=lyf Ly 3 rfl 1;have r2:=lyc Ly 3 rfl 2;have rz2:=lyf Ly 3 rfl 2;have r3:=lyc Ly 3 rfl 3;have rz3:=lyf Ly 3 rfl 3;have rl:=Ly.out.lt 3 rfl;gi_wp2;have R4:=ret4' (Ly.out.blk 3 rfl) Ly.out.1 (Ly.out.ge 3 rfl) (.int .i64 (au s 0)) (.int .i64 (au s 1)) (.int .i64 (au s 2)) (.int .i64 (au s 3));have v0:=R4.1.cell 0;have v1:=R4.1.cell 1;have v2:=R4.1.cell 2;have v3:=R4.1.cell 3;refine bodyPost_ret (v:=.tuple #[.agg #[.int .i64 (au s 0),.int .i64 (au s 1),.int .i64 (au s 2),.int .i64 (au s 3)],.bool false]) (by simp [results,Tryz.results117,go_sem,v0,v1,v2,v3]) rfl ?_;exact ⟨R4.2.1,s,false,rfl,.inr ⟨rfl,HD.out⟩⟩
     ·
      have k4:(x.kind==4)=false:=by simpa using hk4
      have HD:Hid (cS m s x=none):=lh (dk5 hk1 hk2 hk3 hk4);clear hk1 hk2 hk3 hk4;obtain ⟨x2_0,x2_1,x2_2,x2_3⟩:=lyc4 Ly 2 rfl;have l2_:=Ly.out.lt 2 rfl;obtain ⟨x1_0,x1_1,x1_2,x1_3⟩:=lyc4 Ly 1 rfl;have l1_:=Ly.out.lt 1 rfl;have r0:=lyc Ly 3 rfl 0;have rz0:=lyf Ly 3 rfl 0;have r1:=lyc Ly 3 rfl 1;have rz1:=lyf Ly 3 rfl 1;have r2:=lyc Ly 3 rfl 2;have rz2:=lyf Ly 3 rfl 2;have r3:=lyc Ly 3 rfl 3;have rz3:=lyf Ly 3 rfl 3;have rl:=Ly.out.lt 3 rfl;gi_wp2;have R4:=ret4' (Ly.out.blk 3 rfl) Ly.out.1 (Ly.out.ge 3 rfl) (.int .i64 (au s 0)) (.int .i64 (au s 1)) (.int .i64 (au s 2)) (.int .i64 (au s 3));have v0:=R4.1.cell 0;have v1:=R4.1.cell 1;have v2:=R4.1.cell 2;have v3:=R4.1.cell 3;refine bodyPost_ret (v:=.tuple #[.agg #[.int .i64 (au s 0),.int .i64 (au s 1),.int .i64 (au s 2),.int .i64 (au s 3)],.bool false]) (by simp [results,Tryz.results117,go_sem,v0,v1,v2,v3]) rfl ?_;exact ⟨R4.2.1,s,false,rfl,.inr ⟨rfl,HD.out⟩⟩
end
section
open Go.RowKit
theorem o8:(Tryz.prog.info? 150).map (fun i=>(i.zero,i.size,i.bytes))=some (some (.agg #[.int .i64 0,.int .i64 0,.int .i64 0,.int .i64 0]),4,32):=by kernel_rfl
theorem od:eX Tryz.prog 147 150 (.agg #[.int .i64 0,.int .i64 0,.int .i64 0,.int .i64 0]) 4 32:=by
 obtain ⟨i0,hi,hz0,hz1,hz2⟩:=info_parts o8;exact ⟨i0,Tryz.underlying147,hi,hz0,hz1,hz2,rfl,by decide⟩
def PlA (w W:World)(mc:Array Value)(A4:Option Addr)(k c4:Nat)(L:List Held)(m:Mix):Prop :=
 Lay w W [(w.heap.size,26,mc)]∧Own W (w.heap.size+1) 150 4 A4 (k+1) c4 (L.flatMap dH)∧allM m (m.acts.take k)=some L∧∀ (j:Nat) (s:Held),L[j]? =some s→s.length=4∧∀ q:Nat,0≤au s q∧au s q≤12
theorem qd {w W:World}{mc:Array Value}{m:Mix}(h:Lay w W [(w.heap.size,26,mc),(w.heap.size+1,150,#[.int .i64 0,.int .i64 0,.int .i64 0,.int .i64 0])]):PlA w W mc (some ⟨w.heap.size+1,0,none⟩) 0 1 [cQ] m:=by
 refine ⟨⟨h.1,fun b hb=>h.2 b (by simp only [List.mem_cons,List.not_mem_nil,or_false] at hb;simp [hb])⟩,⟨rfl,.inr ⟨w.heap.size+1,1,_,rfl,n_R,h.blk 1 rfl,n_R,by unfold maxLen;omega,rfl,rfl⟩⟩,rfl,?_⟩;intro j u hu
 match j,hu with
 | 0,hu =>
  have e:cQ=u:=by simpa using hu
  rw [← e];exact jV
theorem rA {w W W':World}{mc:Array Value}{A4 A9:Option Addr}{k c4 c9:Nat}{L:List Held}{m:Mix}{x:MAct}{s s2:Held}(HLAP:mc=mc)(h:PlA w W mc A4 k c4 L m)(hx:m.acts[k]? =some x)(hs:L[k]? =some s)(hd:cS m s x=some s2)(hz:ec m)(hv:m.vessels.length≤4)
  (hl:Lay w W' [(w.heap.size,26,mc)]) (ho:Own W' (w.heap.size+1) 150 4 A9 (k+1+1) c9 (L.flatMap dH++dH s2)):PlA w W' mc A9 (k+1) c9 (L++[s2]) m:=by
 refine ⟨hl,by rw [List.flatMap_append];simpa using ho,by rw [ib hx h.2.2.1 hs,hd];rfl,fun j u hu=>?_⟩;by_cases hj:j<L.length
 ·rw [List.getElem?_append_left hj] at hu
  exact h.2.2.2 j u hu
 ·rw [List.getElem?_append_right (by omega)] at hu
  have hj0:j - L.length=0:=by
   have:=(g_E hu).1;simp at this;omega
  rw [hj0] at hu;have e:s2=u:=by simpa using hu
  rw [← e];have:=h.2.2.2 k s hs;exact iH hv hz this.1 this.2 hd
def qF (w:World)(m:Mix)(e:Ending)(w':World):Prop :=
 Below w.heap.size w w'∧∃ A n c b L,e = .returned (.tuple #[.slice A n c,.bool b])∧((b=true∧allM m m.acts=some L∧cB w' w'.heap.size 4 A n (L.flatMap dH))∨(b=false∧A=none∧allM m m.acts=none))
theorem iE (Av:Option Addr)(nv cv:Nat)(Aa:Option Addr)(na ca:Nat)(At:Option Addr)(nt ct:Nat)(m:Mix)(w:World)(h:MixS w Av nv Aa na At nt m)(hz:ec m)(hn4:nv≤4)(hna:na≤1000) :
  CallsIn Fence.wide 9 Tryz.prog 81 #[.agg #[.int .i64 m.fountains,.slice Av nv cv,.slice Aa na ca,.slice At nt ct]] w (qF w m):=by
 have HM:=lh h;have HZ:=lh hz;have HLA:=lh h.at_.lenA;clear h hz;refine callsIn_of_wp Tryz.func81 rfl trivial ?_ rfl;simp only [Tryz.ntmps81,es,Nat.reduceAdd,Nat.reduceSub];gi_wp2;have Ly:=lh (Lay.two w 26 #[.int .i64 m.fountains,.slice Av nv cv,.slice Aa na ca,.slice At nt ct] 150 #[.int .i64 0,.int .i64 0,.int .i64 0,.int .i64 0]);generalize ((w.alloc (.cells #[.int .i64 m.fountains,.slice Av nv cv,.slice Aa na ca,.slice At nt ct] 26)).alloc (.cells #[.int .i64 0,.int .i64 0,.int .i64 0,.int .i64 0] 150))=w0 at *
 gi_loopw [4,14] (fun v4 i wr=>∃ (k:Nat) (A4:Option Addr) (c4:Nat) (L:List Held),k≤na∧i = .int .i64 k∧v4 = .slice A4 (k+1) c4∧Hid (PlA w wr #[.int .i64 m.fountains,.slice Av nv cv,.slice Aa na ca,.slice At nt ct] A4 k c4 L m))
  (fun _ i _=>na - (intOf i).toNat)
 case atStart=>exact ⟨0,_,_,_,by omega,rfl,rfl,lh (qd Ly.out)⟩
 case round =>
  clear Ly;obtain ⟨k,A4,c4,L,hk,rfl,rfl,HS⟩:=hrel;have Ly:=lh HS.out.1;by_cases hlt:k<na
  ·
   obtain ⟨b,off,x,rfl,hbB,hx,hc0,hc1,hc2,hc3⟩:=(HM.out.at_.below Ly.out.1).act hlt
   have hlen:L.length=k+1:=by
    have:=dC m _ L HS.out.2.2.1;rw [List.length_take,Nat.min_eq_left (by have:=HLA.out;omega)] at this;exact this
   have hs:L[k]? =some (L[k]'(by omega)):=List.getElem?_eq_getElem (by omega)
   obtain ⟨s,hs'⟩:∃ s,L[k]'(by omega)=s:=⟨_,rfl⟩
   rw [hs'] at hs;have HX:=lh hx;have HSS:=lh hs;have HR:=lh (HS.out.2.2.2 k s hs);obtain ⟨b4,o4,s',hA4,hb4,hs2,hcl⟩:=dp dF (by omega) (HS.out.2.1.reads n_R) (show k<k+1 by omega);rw [hs] at hs2;obtain rfl:s=s':=Option.some.inj hs2;subst hA4;have HB4:=lh hb4;have HOW:=lh HS.out.2.1;clear hx hs hs' hlen hs2 hcl hb4;gi_upto_region 5 with fail
   clear hc0 hc1 hc2 hc3;have HWR:Hid (wr=wr):=lh rfl
   obtain ⟨V1,hV⟩:∃ V,(wr.alloc (.cells #[.int .i64 x.kind,.int .i64 x.fr,.int .i64 x.to,.int .i64 x.drops] 62))=V:=⟨_,rfl⟩
   rw [hV];have hb:=de hV;have hnew:=dc hV;have hge:=Ly.out.bel.size;replace Ly:=lyb Ly hb;replace HOW:=lh (HOW.out.below hb n_R);replace Ly:=lh (Ly.out.add hge hnew);clear hnew hge hb hV
   obtain ⟨G2,hG⟩:∃ g,wr.heap.size=g:=⟨_,rfl⟩
   rw [hG] at Ly ⊢;clear hG;have HLay0:=lh Ly.out;have HOW0:=lh HOW.out
   have HB5:Hid (b4<V1.heap.size∧∀ (j:Nat) (u:Value),(dH s)[j]? =some u→V1.cell? ⟨b4,o4+k * 4+j,none⟩=some u):=lh ⟨(HOW0.out.lt rfl).2,fun j u hu=>by
    obtain ⟨b',o',s',e1,e2,e3,e4⟩:=dp dF (by omega) (HOW0.out.reads n_R) (show k<k+1 by omega);rw [HSS.out] at e3;obtain rfl:s=s':=Option.some.inj e3;cases e1
    exact e4 j u hu⟩
   refine dy [([true,true,true,true,true,true],6)] [false,false,false,false,false,false,false,true,true,true,false,false,true] [false,false,false,false,false,false,false,false,false,false,false,true] 10 (fun b=>.pointer (some ⟨b,0,none⟩)) 150 #[.int .i64 0,.int .i64 0,.int .i64 0,.int .i64 0] (by kernel_rfl) (by kernel_rfl) (by kernel_rfl) (av b_R 1) rfl rfl rfl (fun _ _=>rfl) (fun _ _=>rfl) ?_;refine wpFlow_cons (A:=?AF1) rfl ?hq1 ?_
   case hq1 =>
    rintro σ hσ of hof hcl;have HOF:=lh hof;clear hof hcl;obtain ⟨c0_,c1_,c2_,c3_⟩:=lyz4 Ly HOF 0 rfl;obtain ⟨c4_,c5_,c6_,c7_⟩:=lyz4 Ly HOF 1 rfl;have hfw:=hfT;have r0:∀ z,(of z).cell? ⟨b4,o4+k * 4,none⟩=some (.int .i64 (au s 0)):=fun z=>((HOF.out z).cell (p:=⟨b4,o4+k * 4,none⟩) HB5.out.1).trans (HB5.out.2 0 _ rfl);have r1:∀ z,(of z).cell? ⟨b4,o4+k * 4+1,none⟩=some (.int .i64 (au s 1)):=fun z=>((HOF.out z).cell (p:=⟨b4,o4+k * 4+1,none⟩) HB5.out.1).trans (HB5.out.2 1 _ rfl);have r2:∀ z,(of z).cell? ⟨b4,o4+k * 4+2,none⟩=some (.int .i64 (au s 2)):=fun z=>((HOF.out z).cell (p:=⟨b4,o4+k * 4+2,none⟩) HB5.out.1).trans (HB5.out.2 2 _ rfl);have r3:∀ z,(of z).cell? ⟨b4,o4+k * 4+3,none⟩=some (.int .i64 (au s 3)):=fun z=>((HOF.out z).cell (p:=⟨b4,o4+k * 4+3,none⟩) HB5.out.1).trans (HB5.out.2 3 _ rfl);have hkk:k<k+1:=by omega
    simp only [bu]
    repeat (gi_big_quiet_step (fail))
    refine wpQuietIn_nil ?_;exact rfl
   intro W3 hW;replace Ly:=lyb Ly hW;replace HOW:=lh (HOW.out.below hW n_R);clear hW;gi_wp2;refine ⟨trivial,(c_W (rB Av nv cv (some ⟨b,off,none⟩) na ca At nt ct m s x W3 (HM.out.up Ly.out.1) HZ.out hn4 HR.out.1 HR.out.2)).mono ?_⟩;rintro e W4 ⟨hb,s2,bb,rfl,hd⟩;replace Ly:=lyb Ly hb;replace HOW:=lh (HOW.out.below hb n_R);have HD:=lh hd;clear hd;gi_wp2;refine ⟨trivial,hb,?_⟩;clear hb;refine wpFlow_nil (A:=?AF2) ?hq2 ?_
   case hq2 =>
    rintro σ hσ of hof hcl;have HOF:=lh hof;clear hof hcl;obtain ⟨c0_,c1_,c2_,c3_⟩:=lyz4 Ly HOF 0 rfl;obtain ⟨c4_,c5_,c6_,c7_⟩:=lyz4 Ly HOF 1 rfl;have hfw:=hfT;simp only [bu]
    repeat (gi_big_quiet_step (fail))
    refine wpQuietIn_nil ?_;exact rfl
   intro bN W5 hW hbg hbb hbi;replace Ly:=lyb Ly hW;replace HOW:=lh (HOW.out.below hW n_R);have c0:=hbb.cell 0;have z0:=hbb.frozen 0;have c1:=hbb.cell 1;have z1:=hbb.frozen 1;have c2:=hbb.cell 2;have z2:=hbb.frozen 2;have c3:=hbb.cell 3;have z3:=hbb.frozen 3;have hbl:=hbb.lt;have hbw:w.heap.size≤bN:=Nat.le_trans (HLay0.out.1.size) hbg;simp only [bu];refine dg ?_;gi_wp2;refine cA ?_;have R3:=ret4' hbb (Below.refl bN W5) n_R (.int .i64 (au s2 0)) (.int .i64 (au s2 1)) (.int .i64 (au s2 2)) (.int .i64 (au s2 3));have HLay9:=lh (Lay.add (w:=w) (bs:=[(w.heap.size,26,#[.int .i64 m.fountains,.slice Av nv cv,.slice (some ⟨b,off,none⟩) na ca,.slice At nt ct]),(G2,62,#[.int .i64 x.kind,.int .i64 x.fr,.int .i64 x.to,.int .i64 x.drops])]) ⟨Ly.out.1.trans (R3.2.1.mono hbw),fun p hp=>⟨(Ly.out.2 p hp).1,(Ly.out.2 p hp).2.below R3.2.1 (by have:=(HLay0.out.2 p hp).2.lt;omega)⟩⟩ hbw R3.1);replace HOW:=lh (HOW.out.grown (row:=some bN) R3.2.2 (fun a ha e=>by have:=(HOW0.out.lt ha).2;have:=Option.some.inj e;omega));generalize ((((W5.setCell ⟨bN,0,none⟩ (.int .i64 (au s2 0))).setCell ⟨bN,1,none⟩ (.int .i64 (au s2 1))).setCell ⟨bN,2,none⟩ (.int .i64 (au s2 2))).setCell ⟨bN,3,none⟩ (.int .i64 (au s2 3)))=W99 at *;clear c0 z0 c1 z1 c2 z2 c3 z3 hbl hbb hW hbg R3;replace Ly:=HLay9
   rcases HD.out with ⟨rfl,hd⟩ | ⟨rfl,hd⟩
   ·
    have HD2:=lh hd;clear HD hd;obtain ⟨x2_0,x2_1,x2_2,x2_3⟩:=lyc4 Ly 2 rfl;have l2_:=Ly.out.lt 2 rfl;have HBZ:Hid (w.heap.size+1≤W99.heap.size):=lh (Ly.out.lt 0 rfl)
    gi_wp2_with (first | (gi_at_builtin;refine cG rfl (.tmp 31) (.tmp 33) (by rfl) od rfl (HOW.out.alloc (.cells #[.int .i64 (au s2 0),.int .i64 (au s2 1),.int .i64 (au s2 2),.int .i64 (au s2 3)] 150)) rfl (fg W99 150 (dH s2) rfl) (nE s2) (by unfold maxLen;omega) (by omega) (by have:=HBZ.out;simp;omega) ?_) | fail)
    clear x2_0 x2_1 x2_2 x2_3 l2_;rintro A9 c9 V6 hown hg hA;have hrow:=dB HOW.out
    have hla:=(show Lay w W99 [(w.heap.size,26,#[.int .i64 m.fountains,.slice Av nv cv,.slice (some ⟨b,off,none⟩) na ca,.slice At nt ct])] from ⟨Ly.out.1,fun q hq=>Ly.out.2 q (by simp only [List.mem_cons,List.not_mem_nil,or_false] at hq;simp [hq])⟩)
    have hla2:=(hla.below (b_R.alloc n_R (.cells #[.int .i64 (au s2 0),.int .i64 (au s2 1),.int .i64 (au s2 2),.int .i64 (au s2 3)] 150))).row hg (fun r e=>⟨by have:=(hrow r e).1;omega,fun q hq=>by have:=(hrow r e).1;simp only [List.mem_cons,List.not_mem_nil,or_false] at hq;rw [hq];dsimp only;omega⟩);have HNEW:Hid (PlA w V6 #[.int .i64 m.fountains,.slice Av nv cv,.slice (some ⟨b,off,none⟩) na ca,.slice At nt ct] A9 (k+1) c9 (L++[s2]) m):=lh (rA (HLAP:=rfl) HS.out HX.out HSS.out HD2.out HZ.out (by have:=HM.out.at_.lenV;omega) hla2 (by simpa using hown));clear hown hg hA hrow hla hla2;gi_wp2
    go_roundw
    case rel=>exact ⟨k+1,A9,c9,L++[s2],by omega,by go_num,rfl,HNEW⟩
    case measure=>simp [intOf];omega
   ·
    have HD2:=lh hd;clear HD hd;gi_wp2;refine bodyPost_ret (v:=.tuple #[.slice none 0 0,.bool false]) (by simp [results,Tryz.results81,go_sem]) rfl ?_;refine ⟨Ly.out.1,none,0,0,false,[],rfl,.inr ⟨rfl,rfl,lr (k:=k+1) ?_⟩⟩;rw [ib HX.out HS.out.2.2.1 HSS.out,HD2.out];rfl
  ·
   obtain rfl:na=k:=by omega
   gi_wp2;refine bodyPost_ret (v:=.tuple #[.slice A4 (na+1) c4,.bool true]) (by simp [results,Tryz.results81,go_sem]) rfl ?_
   have hL:allM m m.acts=some L:=by
    have:=HS.out.2.2.1
    rwa [List.take_of_length_le (by have:=HLA.out;omega)] at this
   exact ⟨Ly.out.1,A4,_,c4,true,L,rfl,.inl ⟨rfl,hL,HS.out.2.1.reads n_R⟩⟩
end
end Go.Proofs.YthofngceiecniaaGreat
