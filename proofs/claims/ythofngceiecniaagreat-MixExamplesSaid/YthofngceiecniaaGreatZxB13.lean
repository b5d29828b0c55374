/- Part 13 of the texts of this claim, joined. -/
import Derived.Sort.CutIn
import Derived.Test.YthofngceiecniaaGreatZxB12
set_option linter.unusedVariables false
/- alive. -/
namespace Go.Proofs.YthofngceiecniaaGreat
set_option maxHeartbeats 32000000
set_option maxRecDepth 100000
section
open Go.RowKit Go.Shelf
attribute [local go_sem] Oper.semAt_some
theorem xa (d:Nat)(a b:Int)(w:World):(Op.equalIn (d+1) 3 (.int .i64 a) (.int .i64 b)).run Tryz.prog w = .ok (a==b) w:=by
 simp [Op.equalIn,run_underlying Tryz.underlying3]
theorem eQ (a0 a1:Int)(w:World):(Op.equalIn 10000 54 (.agg #[.int .i64 a0,.int .i64 a1]) (.agg #[.int .i64 a0,.int .i64 a1])).run Tryz.prog w = .ok true w:=by
 rw [Op.equalIn];simp [go_sem,run_underlying Tryz.underlying54,xa,Std.Legacy.Range.forIn_eq_forIn_range',part]
theorem vl (w:World):CallsIn Fence.wide 9 Tryz.prog 22 #[] w (wy w):=by
 refine callsIn_of_wp Tryz.func22 rfl trivial ?_ rfl;simp only [Tryz.ntmps22,es,Nat.reduceSub];gi_upto_region 1 with fail
 have Ly:=lh (Lay.nil w);gi_wp2;refine ⟨trivial,(c_W (fb none 0 0 [] w (dv.none_ (w:=w) (B:=w.heap.size)) (by decide))).mono ?_⟩;rintro e W1 ⟨g1,g2,rfl,hg1,hg2,hms,hb⟩;replace Ly:=lyb Ly hb;clear hb;have HMS:=lh hms;clear hms hg1 hg2;gi_wp2;refine ⟨trivial,(c_W (lX (some ⟨g1,0,none⟩) 3 3 (some ⟨g2,0,none⟩) 5 5 none 0 0 (eM []) 2 3 W1 HMS.out)).mono ?_⟩;rintro e W2 ⟨n,en,rfl,hma,hb⟩;replace Ly:=lyb Ly hb;clear hb;obtain ⟨rfl,rfl⟩:=fF.same hma al_holds;clear hma;clear HMS;gi_wp2;refine ⟨trivial,(c_W (fb none 0 0 [] W2 (dv.none_ (w:=W2) (B:=W2.heap.size)) (by decide))).mono ?_⟩;rintro e W3 ⟨g1,g2,rfl,hg1,hg2,hms,hb⟩;replace Ly:=lyb Ly hb;clear hb;have HMS:=lh hms;clear hms hg1 hg2;gi_wp2;refine ⟨trivial,(c_W (jP (some ⟨g1,0,none⟩) 3 3 (some ⟨g2,0,none⟩) 5 5 none 0 0 (eM []) 3 4 1 W3 HMS.out)).mono ?_⟩;rintro e W4 ⟨lo,hi,ea,rfl,hma,hb⟩;replace Ly:=lyb Ly hb;clear hb;obtain ⟨e1,rfl⟩:=OfIs.same hma al_of
 obtain ⟨rfl,rfl⟩:lo=0∧hi=2:=⟨congrArg Prod.fst e1,congrArg Prod.snd e1⟩
 clear hma e1;clear HMS;gi_upto_region 3 with fail
 obtain ⟨V5,hV⟩:∃ V,(W4.alloc (.cells #[.int .i64 0,.int .i64 2] 54))=V:=⟨_,rfl⟩
 rw [hV];have hb:=eS hV;have hnew:=eT hV;have hge:=Ly.out.bel.size;replace Ly:=lyb Ly hb;replace Ly:=lh (Ly.out.add hge hnew);clear hnew hge hb hV
 obtain ⟨G6,hG⟩:∃ g,W4.heap.size=g:=⟨_,rfl⟩
 rw [hG] at Ly ⊢;clear hG;gi_wp2;refine ⟨trivial,(c_W (fb none 0 0 [] V5 (dv.none_ (w:=V5) (B:=V5.heap.size)) (by decide))).mono ?_⟩;rintro e W7 ⟨g1,g2,rfl,hg1,hg2,hms,hb⟩;replace Ly:=lyb Ly hb;clear hb;have HMS:=lh hms;clear hms hg1 hg2;gi_wp2;refine ⟨trivial,(c_W (tD (some ⟨g1,0,none⟩) 3 3 (some ⟨g2,0,none⟩) 5 5 none 0 0 (eM []) 3 5 1 W7 HMS.out)).mono ?_⟩;rintro e W8 ⟨lo,hi,eb,rfl,hma,hb⟩;replace Ly:=lyb Ly hb;clear hb;obtain ⟨e1,rfl⟩:=OfIs.same hma qD
 obtain ⟨rfl,rfl⟩:lo=0∧hi=2:=⟨congrArg Prod.fst e1,congrArg Prod.snd e1⟩
 clear hma e1;rw [show kt (decide ((0:Int)<0)) (decide ((0:Int)<2))=1 from by decide];clear HMS;gi_wp2;refine ⟨trivial,(c_W (fb none 0 0 [] W8 (dv.none_ (w:=W8) (B:=W8.heap.size)) (by decide))).mono ?_⟩;rintro e W9 ⟨g1,g2,rfl,hg1,hg2,hms,hb⟩;replace Ly:=lyb Ly hb;clear hb;have HMS:=lh hms;clear hms hg1 hg2;gi_wp2;refine ⟨trivial,(c_W ((nd (some ⟨g1,0,none⟩) 3 3 (some ⟨g2,0,none⟩) 5 5 none 0 0 (eM []) 1 5 1 W9 HMS.out).mono fun _ _ h=>mC h)).mono ?_⟩;rintro e W10 ⟨kp,ep,rfl,hma,hb⟩;replace Ly:=lyb Ly hb;clear hb;obtain ⟨rfl,rfl⟩:=jk.same hma wX;clear hma HMS;gi_wp2;refine ⟨trivial,(c_W (fb none 0 0 [] W10 (dv.none_ (w:=W10) (B:=W10.heap.size)) (by decide))).mono ?_⟩;rintro e W11 ⟨g1,g2,rfl,hg1,hg2,hms,hb⟩;replace Ly:=lyb Ly hb;clear hb;have HMS:=lh hms;clear hms hg1 hg2;gi_wp2;refine ⟨trivial,(c_W (lZ (some ⟨g1,0,none⟩) 3 3 (some ⟨g2,0,none⟩) 5 5 none 0 0 (eM []) 5 1 W11 HMS.out)).mono ?_⟩;rintro e W12 ⟨lo,hi,ec,rfl,hma,hb⟩;replace Ly:=lyb Ly hb;clear hb;obtain ⟨e1,rfl⟩:=fR.same hma vu
 obtain ⟨rfl,rfl⟩:lo=0∧hi=1:=⟨congrArg Prod.fst e1,congrArg Prod.snd e1⟩
 clear hma e1;clear HMS;gi_upto_region 6 with fail
 obtain ⟨V13,hV⟩:∃ V,(W12.alloc (.cells #[.int .i64 0,.int .i64 1] 54))=V:=⟨_,rfl⟩
 rw [hV];have hb:=eS hV;have hnew:=eT hV;have hge:=Ly.out.bel.size;replace Ly:=lyb Ly hb;replace Ly:=lh (Ly.out.add hge hnew);clear hnew hge hb hV
 obtain ⟨G14,hG⟩:∃ g,W12.heap.size=g:=⟨_,rfl⟩
 rw [hG] at Ly ⊢;clear hG;gi_wp2;refine ⟨trivial,(c_W (fb none 0 0 [] V13 (dv.none_ (w:=V13) (B:=V13.heap.size)) (by decide))).mono ?_⟩;rintro e W15 ⟨g1,g2,rfl,hg1,hg2,hms,hb⟩;replace Ly:=lyb Ly hb;clear hb;have HMS:=lh hms;clear hms hg1 hg2;gi_wp2;refine ⟨trivial,(c_W (vI (some ⟨g1,0,none⟩) 3 3 (some ⟨g2,0,none⟩) 5 5 none 0 0 (eM []) 1 W15 HMS.out)).mono ?_⟩;rintro e W16 ⟨lo,hi,ed,rfl,hma,hb⟩;replace Ly:=lyb Ly hb;clear hb;obtain ⟨e1,rfl⟩:=iZ.same hma wV
 obtain ⟨rfl,rfl⟩:lo=0∧hi=1:=⟨congrArg Prod.fst e1,congrArg Prod.snd e1⟩
 clear hma e1;clear HMS;gi_upto_region 7 with fail
 obtain ⟨V17,hV⟩:∃ V,(W16.alloc (.cells #[.int .i64 0,.int .i64 1] 54))=V:=⟨_,rfl⟩
 rw [hV];have hb:=eS hV;have hnew:=eT hV;have hge:=Ly.out.bel.size;replace Ly:=lyb Ly hb;replace Ly:=lh (Ly.out.add hge hnew);clear hnew hge hb hV
 obtain ⟨G18,hG⟩:∃ g,W16.heap.size=g:=⟨_,rfl⟩
 rw [hG] at Ly ⊢;clear hG;gi_wp2;refine ⟨trivial,(c_W (fb none 0 0 [] V17 (dv.none_ (w:=V17) (B:=V17.heap.size)) (by decide))).mono ?_⟩;rintro e W19 ⟨g1,g2,rfl,hg1,hg2,hms,hb⟩;replace Ly:=lyb Ly hb;clear hb;have HMS:=lh hms;clear hms hg1 hg2;gi_wp2;refine ⟨trivial,(c_W (sx (some ⟨g1,0,none⟩) 3 3 (some ⟨g2,0,none⟩) 5 5 none 0 0 (eM []) 3 5 1 2 W19 HMS.out ⟨by decide,by decide⟩)).mono ?_⟩;rintro e W20 ⟨mb,me,rfl,hma,hb⟩;replace Ly:=lyb Ly hb;clear hb;obtain ⟨rfl,rfl⟩:=ki.same hma xW;clear hma;clear HMS;gi_wp2;refine ⟨trivial,(c_W (fb none 0 0 [] W20 (dv.none_ (w:=W20) (B:=W20.heap.size)) (by decide))).mono ?_⟩;rintro e W21 ⟨g1,g2,rfl,hg1,hg2,hms,hb⟩;replace Ly:=lyb Ly hb;clear hb;have HMS:=lh hms;clear hms hg1 hg2;gi_wp2;refine ⟨trivial,(c_W (sP (some ⟨g1,0,none⟩) 3 3 (some ⟨g2,0,none⟩) 5 5 none 0 0 (eM []) 3 5 1 W21 HMS.out ⟨by decide,by decide⟩)).mono ?_⟩;rintro e W22 ⟨pl,pA,pn,pc,pe,rfl,hma,hpi,hp13,hb,hpx⟩;replace Ly:=lyb Ly hb;clear hb;obtain ⟨rfl,rfl⟩:=jL.same hma wN;have HIP:=lh hpi;have HIP9:=lh hp13;clear hma hpi hp13 hpx;clear HMS;gi_wp2;refine ⟨trivial,(c_W (fb none 0 0 [] W22 (dv.none_ (w:=W22) (B:=W22.heap.size)) (by decide))).mono ?_⟩;rintro e W23 ⟨g1,g2,rfl,hg1,hg2,hms,hb⟩;replace Ly:=lyb Ly hb;replace HIP:=lh ((HIP.out.below hb).more hb.size);clear hb;have HMS:=lh hms;clear hms hg1 hg2;gi_wp2;refine ⟨trivial,(c_W (qV (some ⟨g1,0,none⟩) 3 3 (some ⟨g2,0,none⟩) 5 5 none 0 0 (eM []) 3 5 1 W23 HMS.out ⟨by decide,by decide⟩)).mono ?_⟩;rintro e W24 ⟨wl,wA,wn,wc,we,rfl,hma,hpi,hp13,hb,hpx⟩;replace Ly:=lyb Ly hb;replace HIP:=lh ((HIP.out.below hb).more hb.size);clear hb;obtain ⟨rfl,rfl⟩:=iQ.same hma vk;have HIW:=lh hpi;have HIW9:=lh hp13;clear hma hpi hp13 hpx;clear HMS;gi_upto_region 10 with fail
 refine wpIn_flow_old [([true,true,true,true,true,true,true,true,true,true,true,true],12),([false,false,false,false,false,false,false,false,false,false,false,false,false,true,true,true,true,true,true,true,true,true,true,true,true,true,true,true,true,true,true,true,true,true,true,true,true],37),([false,false,false,false,false,false,false,false,false,false,false,false,false,false,false,false,false,false,false,false,false,false,false,false,false,false,false,false,false,false,false,false,false,false,false,false,false,false,true,true,true,true,true,true,true,true],46),([false,false,false,false,false,false,false,false,false,false,false,false,false,false,false,false,false,false,false,false,false,false,false,false,false,false,false,false,false,false,false,false,false,false,false,false,false,false,false,false,false,false,false,false,false,false,false,true,true,true,true,true,true,true,true,true,true,true,true,true,true,true,true],63),([],64),([false,false,false,false,false,false,false,false,false,false,false,false,false,false,false,false,false,false,false,false,false,false,false,false,false,false,false,false,false,false,false,false,false,false,false,false,false,false,false,false,false,false,false,false,false,false,false,false,false,false,false,false,false,false,false,false,false,false,false,false,false,false,false,false,false,true,true,true,true,true,true,true,true],73),([],74)] [false,false,false,false,false,false,false,false,false,false,false,false,false,false,false,false,false,false,false,false,false,false,false,false,false,false,false,false,false,false,false,false,false,false,false,false,false,false,false,false,false,false,false,false,false,false,false,false,false,false,false,false,false,false,false,false,false,false,false,false,false,false,false,false,false,false,false,false,false,false,false,false,false,false,false,true,true] [] (by kernel_rfl) (by kernel_rfl) (by kernel_rfl) (av b_R 1) ?_;refine wpFlow_cons (A:=?AF1) rfl ?hq1 ?_
 case hq1 =>
  rintro σ hσ of hof hcl;have HOF:=lh hof;clear hof hcl;obtain ⟨c0_,c1_⟩:=lyz2 Ly HOF 0 rfl;obtain ⟨c2_,c3_⟩:=lyz2 Ly HOF 1 rfl;obtain ⟨c4_,c5_⟩:=lyz2 Ly HOF 2 rfl;have hfw:=hfT;have hs02:∀ z:World,(Op.equalIn 10000 54 (.agg #[.int .i64 0,.int .i64 2]) (.agg #[.int .i64 0,.int .i64 2])).run Tryz.prog z = .ok true z:=fun z=>eQ 0 2 z;have hs01:∀ z:World,(Op.equalIn 10000 54 (.agg #[.int .i64 0,.int .i64 1]) (.agg #[.int .i64 0,.int .i64 1])).run Tryz.prog z = .ok true z:=fun z=>eQ 0 1 z;simp only [List.append_eq,List.cons_append,List.nil_append,bu]
  repeat (gi_big_quiet_step (fail))
  refine wpQuietIn_nil ?_;exact rfl
 intro W25 hW;replace Ly:=lyb Ly hW;replace HIP:=lh ((HIP.out.below hW).more hW.size);replace HIW:=lh ((HIW.out.below hW).more hW.size);clear hW;gi_wp2;refine ⟨trivial,(c_W (iI 0 2 W25)).mono ?_⟩;rintro e W26 ⟨rfl,hb⟩;replace Ly:=lyb Ly hb;replace HIP:=lh ((HIP.out.below hb).more hb.size);replace HIW:=lh ((HIW.out.below hb).more hb.size);gi_wp2;refine ⟨trivial,hb,?_⟩;clear hb;refine wpFlow_cons (A:=?AF2) rfl ?hq2 ?_
 case hq2 =>
  rintro σ hσ of hof hcl;have HOF:=lh hof;clear hof hcl;obtain ⟨c0_,c1_⟩:=lyz2 Ly HOF 0 rfl;obtain ⟨c2_,c3_⟩:=lyz2 Ly HOF 1 rfl;obtain ⟨c4_,c5_⟩:=lyz2 Ly HOF 2 rfl;have hfw:=hfT;have hs02:∀ z:World,(Op.equalIn 10000 54 (.agg #[.int .i64 0,.int .i64 2]) (.agg #[.int .i64 0,.int .i64 2])).run Tryz.prog z = .ok true z:=fun z=>eQ 0 2 z;have hs01:∀ z:World,(Op.equalIn 10000 54 (.agg #[.int .i64 0,.int .i64 1]) (.agg #[.int .i64 0,.int .i64 1])).run Tryz.prog z = .ok true z:=fun z=>eQ 0 1 z;simp only [List.append_eq,List.cons_append,List.nil_append,bu]
  repeat (gi_big_quiet_step (fail))
  refine wpQuietIn_nil ?_;exact rfl
 intro W27 hW;replace Ly:=lyb Ly hW;replace HIP:=lh ((HIP.out.below hW).more hW.size);replace HIW:=lh ((HIW.out.below hW).more hW.size);clear hW;gi_wp2;refine ⟨trivial,(c_W (iI 0 1 W27)).mono ?_⟩;rintro e W28 ⟨rfl,hb⟩;replace Ly:=lyb Ly hb;replace HIP:=lh ((HIP.out.below hb).more hb.size);replace HIW:=lh ((HIW.out.below hb).more hb.size);gi_wp2;refine ⟨trivial,hb,?_⟩;clear hb;refine wpFlow_cons (A:=?AF3) rfl ?hq3 ?_
 case hq3 =>
  rintro σ hσ of hof hcl;have HOF:=lh hof;clear hof hcl;obtain ⟨c0_,c1_⟩:=lyz2 Ly HOF 0 rfl;obtain ⟨c2_,c3_⟩:=lyz2 Ly HOF 1 rfl;obtain ⟨c4_,c5_⟩:=lyz2 Ly HOF 2 rfl;have hfw:=hfT;have hs02:∀ z:World,(Op.equalIn 10000 54 (.agg #[.int .i64 0,.int .i64 2]) (.agg #[.int .i64 0,.int .i64 2])).run Tryz.prog z = .ok true z:=fun z=>eQ 0 2 z;have hs01:∀ z:World,(Op.equalIn 10000 54 (.agg #[.int .i64 0,.int .i64 1]) (.agg #[.int .i64 0,.int .i64 1])).run Tryz.prog z = .ok true z:=fun z=>eQ 0 1 z;simp only [List.append_eq,List.cons_append,List.nil_append,bu]
  repeat (gi_big_quiet_step (fail))
  refine wpQuietIn_nil ?_;exact rfl
 intro W29 hW;replace Ly:=lyb Ly hW;replace HIP:=lh ((HIP.out.below hW).more hW.size);replace HIW:=lh ((HIW.out.below hW).more hW.size);clear hW;gi_wp2;refine ⟨trivial,(c_W (iI 0 1 W29)).mono ?_⟩;rintro e W30 ⟨rfl,hb⟩;replace Ly:=lyb Ly hb;replace HIP:=lh ((HIP.out.below hb).more hb.size);replace HIW:=lh ((HIW.out.below hb).more hb.size);gi_wp2;refine ⟨trivial,hb,?_⟩;clear hb;refine wpFlow_cons (A:=?AF4) rfl ?hq4 ?_
 case hq4 =>
  rintro σ hσ of hof hcl;have HOF:=lh hof;clear hof hcl;obtain ⟨c0_,c1_⟩:=lyz2 Ly HOF 0 rfl;obtain ⟨c2_,c3_⟩:=lyz2 Ly HOF 1 rfl;obtain ⟨c4_,c5_⟩:=lyz2 Ly HOF 2 rfl;have hfw:=hfT;have hs02:∀ z:World,(Op.equalIn 10000 54 (.agg #[.int .i64 0,.int .i64 2]) (.agg #[.int .i64 0,.int .i64 2])).run Tryz.prog z = .ok true z:=fun z=>eQ 0 2 z;have hs01:∀ z:World,(Op.equalIn 10000 54 (.agg #[.int .i64 0,.int .i64 1]) (.agg #[.int .i64 0,.int .i64 1])).run Tryz.prog z = .ok true z:=fun z=>eQ 0 1 z;simp only [List.append_eq,List.cons_append,List.nil_append,bu]
  repeat (gi_big_quiet_step (fail))
  refine wpQuietIn_nil ?_;exact rfl
 intro W31 hW;replace Ly:=lyb Ly hW;replace HIP:=lh ((HIP.out.below hW).more hW.size);replace HIW:=lh ((HIW.out.below hW).more hW.size);clear hW;gi_wp2;refine ⟨trivial,b_R.alloc n_R _,?_⟩;have hb:Below W31.heap.size W31 (W31.alloc (.cells #[.int .i64 1,.int .i64 3,.int .i64 4] 3)):=b_R.alloc n_R _;replace Ly:=lyb Ly hb;replace HIP:=lh ((HIP.out.below hb).more hb.size);replace HIW:=lh ((HIW.out.below hb).more hb.size);have HPl:=lh (show du (W31.alloc (.cells #[.int .i64 1,.int .i64 3,.int .i64 4] 3)) (W31.alloc (.cells #[.int .i64 1,.int .i64 3,.int .i64 4] 3)).heap.size (some ⟨W31.heap.size,0,none⟩) 3 [1,3,4] from du.new W31 3 [1,3,4] _ (by simp))
 obtain ⟨P33,hP⟩:∃ P,W31.heap.size=P:=⟨_,rfl⟩
 rw [hP] at HPl ⊢;generalize (W31.alloc (.cells #[.int .i64 1,.int .i64 3,.int .i64 4] 3))=V32 at *;clear hb hP;refine wpFlow_cons rfl Quietly.none ?_;intro W34 hW;replace Ly:=lyb Ly hW;replace HIP:=lh ((HIP.out.below hW).more hW.size);replace HIW:=lh ((HIW.out.below hW).more hW.size);replace HPl:=lh ((HPl.out.below hW).more hW.size);clear hW;gi_wp2;refine ⟨trivial,(callsIn_wide.2 (jN pA pn pc [1,3,4] (some ⟨P33,0,none⟩) 3 3 [1,3,4] W34 (by have:=HIP9.out;unfold maxLen;omega) (by decide) HIP.out HPl.out)).mono ?_⟩;rintro e W35 ⟨rfl,hb⟩;replace Ly:=lyb Ly hb;replace HIP:=lh ((HIP.out.below hb).more hb.size);replace HIW:=lh ((HIW.out.below hb).more hb.size);replace HPl:=lh ((HPl.out.below hb).more hb.size);rw [show kC [1,3,4] [1,3,4]=true from by decide];gi_wp2;refine ⟨trivial,hb,?_⟩;clear hb;clear HPl;refine wpFlow_cons (A:=?AF5) rfl ?hq5 ?_
 case hq5 =>
  rintro σ hσ of hof hcl;have HOF:=lh hof;clear hof hcl;obtain ⟨c0_,c1_⟩:=lyz2 Ly HOF 0 rfl;obtain ⟨c2_,c3_⟩:=lyz2 Ly HOF 1 rfl;obtain ⟨c4_,c5_⟩:=lyz2 Ly HOF 2 rfl;have hfw:=hfT;have hs02:∀ z:World,(Op.equalIn 10000 54 (.agg #[.int .i64 0,.int .i64 2]) (.agg #[.int .i64 0,.int .i64 2])).run Tryz.prog z = .ok true z:=fun z=>eQ 0 2 z;have hs01:∀ z:World,(Op.equalIn 10000 54 (.agg #[.int .i64 0,.int .i64 1]) (.agg #[.int .i64 0,.int .i64 1])).run Tryz.prog z = .ok true z:=fun z=>eQ 0 1 z;simp only [List.append_eq,List.cons_append,List.nil_append,bu]
  repeat (gi_big_quiet_step (fail))
  refine wpQuietIn_nil ?_;exact rfl
 intro W36 hW;replace Ly:=lyb Ly hW;replace HIP:=lh ((HIP.out.below hW).more hW.size);replace HIW:=lh ((HIW.out.below hW).more hW.size);clear hW;gi_wp2;refine ⟨trivial,b_R.alloc n_R _,?_⟩;have hb:Below W36.heap.size W36 (W36.alloc (.cells #[.int .i64 1] 3)):=b_R.alloc n_R _;replace Ly:=lyb Ly hb;replace HIP:=lh ((HIP.out.below hb).more hb.size);replace HIW:=lh ((HIW.out.below hb).more hb.size);have HPl:=lh (show du (W36.alloc (.cells #[.int .i64 1] 3)) (W36.alloc (.cells #[.int .i64 1] 3)).heap.size (some ⟨W36.heap.size,0,none⟩) 1 [1] from du.new W36 3 [1] _ (by simp))
 obtain ⟨P38,hP⟩:∃ P,W36.heap.size=P:=⟨_,rfl⟩
 rw [hP] at HPl ⊢;generalize (W36.alloc (.cells #[.int .i64 1] 3))=V37 at *;clear hb hP;refine wpFlow_cons rfl Quietly.none ?_;intro W39 hW;replace Ly:=lyb Ly hW;replace HIP:=lh ((HIP.out.below hW).more hW.size);replace HIW:=lh ((HIW.out.below hW).more hW.size);replace HPl:=lh ((HPl.out.below hW).more hW.size);clear hW;gi_wp2;refine ⟨trivial,(callsIn_wide.2 (jN wA wn wc [1] (some ⟨P38,0,none⟩) 1 1 [1] W39 (by have:=HIW9.out;unfold maxLen;omega) (by decide) HIW.out HPl.out)).mono ?_⟩;rintro e W40 ⟨rfl,hb⟩;replace Ly:=lyb Ly hb;replace HIP:=lh ((HIP.out.below hb).more hb.size);replace HIW:=lh ((HIW.out.below hb).more hb.size);replace HPl:=lh ((HPl.out.below hb).more hb.size);rw [show kC [1] [1]=true from by decide];gi_wp2;refine ⟨trivial,hb,?_⟩;clear hb;clear HPl;refine wpFlow_nil (A:=?AF6) ?hq6 ?_
 case hq6 =>
  rintro σ hσ of hof hcl;have HOF:=lh hof;clear hof hcl;obtain ⟨c0_,c1_⟩:=lyz2 Ly HOF 0 rfl;obtain ⟨c2_,c3_⟩:=lyz2 Ly HOF 1 rfl;obtain ⟨c4_,c5_⟩:=lyz2 Ly HOF 2 rfl;have hfw:=hfT;have hs02:∀ z:World,(Op.equalIn 10000 54 (.agg #[.int .i64 0,.int .i64 2]) (.agg #[.int .i64 0,.int .i64 2])).run Tryz.prog z = .ok true z:=fun z=>eQ 0 2 z;have hs01:∀ z:World,(Op.equalIn 10000 54 (.agg #[.int .i64 0,.int .i64 1]) (.agg #[.int .i64 0,.int .i64 1])).run Tryz.prog z = .ok true z:=fun z=>eQ 0 1 z;simp only [List.append_eq,List.cons_append,List.nil_append,bu]
  repeat (gi_big_quiet_step (fail))
  refine wpQuietIn_nil ?_;exact rfl
 intro W41 hW;replace Ly:=lyb Ly hW;replace HIP:=lh ((HIP.out.below hW).more hW.size);replace HIW:=lh ((HIW.out.below hW).more hW.size);clear hW;simp only [List.append_eq,List.cons_append,List.nil_append,bu];refine eK ?_;gi_wp2;refine ⟨trivial,(c_W (fb none 0 0 [] W41 (dv.none_ (w:=W41) (B:=W41.heap.size)) (by decide))).mono ?_⟩;rintro e W42 ⟨g1,g2,rfl,hg1,hg2,hms,hb⟩;replace Ly:=lyb Ly hb;replace HIP:=lh ((HIP.out.below hb).more hb.size);replace HIW:=lh ((HIW.out.below hb).more hb.size);clear hb;have HMS:=lh hms;clear hms hg1 hg2;gi_wp2;refine ⟨trivial,(c_W (pJ (some ⟨g1,0,none⟩) 3 3 (some ⟨g2,0,none⟩) 5 5 none 0 0 (eM []) 3 1 1 1 W42 HMS.out)).mono ?_⟩;rintro e W43 ⟨k,ee,rfl,hma,hb⟩;replace Ly:=lyb Ly hb;replace HIP:=lh ((HIP.out.below hb).more hb.size);replace HIW:=lh ((HIW.out.below hb).more hb.size);clear hb;obtain ⟨rfl,rfl⟩:=ji.same hma xq;clear hma;clear HMS;gi_wp2;refine ⟨trivial,(c_W (iT 1 2 4 1 2 2 W43)).mono ?_⟩;rintro e W44 ⟨rfl,hb⟩;replace Ly:=lyb Ly hb;replace HIP:=lh ((HIP.out.below hb).more hb.size);replace HIW:=lh ((HIW.out.below hb).more hb.size);clear hb;gi_wp2;have hb:Below W44.heap.size W44 (W44.alloc (.cells #[.int .i64 1,.int .i64 2,.int .i64 4,.int .i64 1,.int .i64 2,.int .i64 2] 69)):=b_R.alloc n_R _;have HTS:=lh (fP W44 69 (k:=6) (n:=1) [.int .i64 1,.int .i64 2,.int .i64 4,.int .i64 1,.int .i64 2,.int .i64 2] rfl);change Hid (dv (W44.alloc (.cells #[.int .i64 1,.int .i64 2,.int .i64 4,.int .i64 1,.int .i64 2,.int .i64 2] 69)) (W44.alloc (.cells #[.int .i64 1,.int .i64 2,.int .i64 4,.int .i64 1,.int .i64 2,.int .i64 2] 69)).heap.size 6 (some ⟨W44.heap.size,0,none⟩) 1 ([alT1].flatMap Tast.vals)) at HTS
 obtain ⟨V0,hV⟩:∃ V,(W44.alloc (.cells #[.int .i64 1,.int .i64 2,.int .i64 4,.int .i64 1,.int .i64 2,.int .i64 2] 69))=V:=⟨_,rfl⟩
 rw [hV] at hb HTS ⊢
 obtain ⟨gt,hgt⟩:∃ g,W44.heap.size=g:=⟨_,rfl⟩
 rw [hgt] at HTS ⊢;replace Ly:=lyb Ly hb;replace HIP:=lh ((HIP.out.below hb).more hb.size);replace HIW:=lh ((HIW.out.below hb).more hb.size);clear hb hV hgt;refine ⟨trivial,(c_W (fb (some ⟨gt,0,none⟩) 1 1 [alT1] V0 HTS.out (by decide))).mono ?_⟩;rintro e W45 ⟨g1,g2,rfl,hg1,hg2,hms,hb⟩;replace Ly:=lyb Ly hb;replace HIP:=lh ((HIP.out.below hb).more hb.size);replace HIW:=lh ((HIW.out.below hb).more hb.size);clear hb;have HMS:=lh hms;clear hms hg1 hg2 HTS;gi_wp2;refine ⟨trivial,(c_W (iT 2 3 5 1 1 2 W45)).mono ?_⟩;rintro e W46 ⟨rfl,hb⟩;replace Ly:=lyb Ly hb;replace HIP:=lh ((HIP.out.below hb).more hb.size);replace HIW:=lh ((HIW.out.below hb).more hb.size);replace HMS:=lh (HMS.out.up hb);clear hb;gi_wp2;refine ⟨trivial,(c_W (uP (some ⟨g1,0,none⟩) 3 3 (some ⟨g2,0,none⟩) 5 5 (some ⟨gt,0,none⟩) 1 1 (eM [alT1]) alT2 W46 HMS.out)).mono ?_⟩;rintro e W47 ⟨A1,n1,c1,A2,n2,c2,A3,n3,c3,rfl,hmo,hn3,hb⟩;replace Ly:=lyb Ly hb;replace HIP:=lh ((HIP.out.below hb).more hb.size);replace HIW:=lh ((HIW.out.below hb).more hb.size);replace HMS:=lh (HMS.out.up hb);clear hb;rw [xD] at hmo ⊢;have HMO:=lh hmo;have HN3:=lh (pt hmo (by kernel_rfl));clear hmo hn3;clear HMS;gi_upto_region 14 with fail
 obtain ⟨V48,hV⟩:∃ V,(W47.alloc (.cells #[.int .i64 (eM [alT1,alT2]).fountains,.slice A1 n1 c1,.slice A2 n2 c2,.slice A3 n3 c3] 26))=V:=⟨_,rfl⟩
 rw [hV];have hb:=eS hV;have hnew:=eT hV;have hge:=Ly.out.bel.size;replace Ly:=lyb Ly hb;replace HIP:=lh ((HIP.out.below hb).more hb.size);replace HIW:=lh ((HIW.out.below hb).more hb.size);replace HMO:=lh (HMO.out.below hb);replace Ly:=lh (Ly.out.add hge hnew);clear hnew hge hb hV
 obtain ⟨G49,hG⟩:∃ g,W47.heap.size=g:=⟨_,rfl⟩
 rw [hG] at Ly ⊢;clear hG;obtain ⟨x3_0,x3_1,x3_2,x3_3⟩:=lyc4 Ly 3 rfl;have l3_:=Ly.out.lt 3 rfl;gi_wp2;clear x3_0 x3_1 x3_2 x3_3 l3_;refine ⟨trivial,(c_W (tL A1 n1 c1 A2 n2 c2 A3 n3 c3 (eM [alT1,alT2]) V48 (HMO.out.s HN3.out.1 HN3.out.2.1 HN3.out.2.2.1))).mono ?_⟩;rintro e W50 ⟨rl,rA,rn,rc,re,rfl,hma,hpi,hp3,hb,hpx⟩;replace Ly:=lyb Ly hb;replace HIP:=lh ((HIP.out.below hb).more hb.size);replace HIW:=lh ((HIW.out.below hb).more hb.size);replace HMO:=lh (HMO.out.below hb);clear hb;obtain ⟨rfl,rfl⟩:=jI.same hma wk;have HIR:=lh hpi;have HIR9:=lh hp3;clear hma hpi hp3 hpx;gi_wp2;have hb1:Below W50.heap.size W50 (W50.alloc (.cells #[.int .i64 1] 3)):=b_R.alloc n_R _;have HP1:=du.new W50 3 [1] (W50.alloc (.cells #[.int .i64 1] 3)).heap.size (by simp);refine ⟨trivial,(callsIn_wide.2 (jN rA rn rc [1] (some ⟨W50.heap.size,0,none⟩) 1 1 [1] _ (by have:=HIR9.out;unfold maxLen;omega) (by decide) ((HIR.out.below hb1).more hb1.size) HP1)).mono ?_⟩;rintro e W99 ⟨rfl,hb⟩;have hb9:=Ly.out.1.trans ((hb1.trans (hb.mono hb1.size)).mono Ly.out.1.size);clear hb hb1 HP1;rw [show kC [1] [1]=true from by decide];gi_wp2;refine bodyPost_ret (v:=.bool true) (by simp [results,Tryz.results22,go_sem]) rfl ?_;exact ⟨rfl,hb9⟩
end
section
set_option linter.unusedSectionVars false
abbrev j3:=List (List Int)
def hpAt (H:j3)(i:Int):List Int:=(H[i.toNat]?).getD []
def qG (H:j3)(fr to:Int)(left drops:List Int):j3 :=
 let H1:=if 0≤fr then H.set fr.toNat left else H
 if 0≤to then H1.set to.toNat (hpAt H1 to++drops) else H1
def SentP (m:Mix)(x:MAct)(H:j3)(drops:List Int)(H':j3):Prop :=
 ∃ left,(x.kind=1→drops=List.replicate x.drops.toNat x.fr)∧(x.kind≠1→(drops++left).Perm (hpAt H (cu m x)))∧(x.kind=4→left=[])∧(x.kind≠4→drops.length=x.drops.toNat)∧H'=qG H (cu m x) (toI m x) left drops
structure Went (m:Mix)(n:Nat)(H:Nat→j3)(Dr:Nat→List Int):Prop where
 zero:H 0=[[],[],[],[]]
 step:∀ {t:Nat} {x:MAct},t<n→m.acts[t]? =some x→SentP m x (H t) (Dr t) (H (t+1))
section
variable {m:Mix} {A:List Held} {f:Int} {H:Nat→j3} {Dr:Nat→List Int} {n:Nat}
theorem wj (H:j3)(fr to:Int)(l d:List Int):(qG H fr to l d).length=H.length:=by
 unfold qG;dsimp only
 split<;>split<;>simp
theorem kr {H:j3}{i j:Int}{l:List Int}(hi:0≤i)(hj:0≤j)(hl:i<H.length):hpAt (H.set i.toNat l) j=if j=i then l else hpAt H j:=by
 unfold hpAt;rw [List.getElem?_set];by_cases e:j=i
 ·subst e
  rw [if_pos rfl,if_pos rfl,if_pos (by omega)];rfl
 ·rw [if_neg (by omega),if_neg e]
theorem sQ {H:j3}{fr to:Int}{l d:List Int}(hH:H.length=4)(hf:fr<4)(ht:to<4)(hne:fr≠to∨fr<0){i:Nat}(hi:i<4) :
  hpAt (qG H fr to l d) i=if (i:Int)=fr then l else if (i:Int)=to then hpAt H i++d else hpAt H i:=by
 unfold qG;dsimp only;by_cases h1:0≤fr
 ·rw [if_pos h1]
  have hne':to≠fr:=by omega
  by_cases h2:0≤to
  ·rw [if_pos h2,kr h2 (by omega) (by rw [List.length_set];omega),kr h1 h2 (by omega),kr h1 (by omega) (by omega),if_neg hne']
   by_cases p:(i:Int)=to
   ·rw [if_pos p,if_neg (by omega),if_pos p,p]
   ·rw [if_neg p]
    by_cases q:(i:Int)=fr
    ·rw [if_pos q,if_pos q]
    ·rw [if_neg q,if_neg q,if_neg p]
  ·rw [if_neg h2,kr h1 (by omega) (by omega)]
   by_cases q:(i:Int)=fr
   ·rw [if_pos q,if_pos q]
   ·rw [if_neg q,if_neg q,if_neg (by omega)]
 ·rw [if_neg h1]
  by_cases h2:0≤to
  ·rw [if_pos h2,kr h2 (by omega) (by omega)]
   by_cases p:(i:Int)=to
   ·rw [if_pos p,if_neg (by omega),if_pos p,p]
   ·rw [if_neg p,if_neg (by omega),if_neg p]
  ·rw [if_neg h2,if_neg (by omega),if_neg (by omega)]
theorem lf {all:Held}{x:MAct}(h:qQ m all x):cu m x≠toI m x∨cu m x<0:=by
 unfold cu toI;by_cases e1:x.kind=1
 ·right;rw [if_pos e1];decide
 ·by_cases e2:x.kind=2
  ·left
   have:=h.apart e2;simp only [e2];simpa using this
  ·left
   have:=h.from_ e1;rw [if_neg e1,if_neg (by omega)];omega
theorem Went.len (h:Went m n H Dr)(hn:n≤m.acts.length):∀ {t:Nat},t≤n→(H t).length=4
 | 0,_=>by rw [h.zero];rfl
 | t+1,ht=>by
  have hx:m.acts[t]? =some (m.acts[t]'(by omega)):=List.getElem?_eq_getElem (by omega);obtain ⟨left,_,_,_,_,e⟩:=h.step (by omega) hx;rw [e,wj];exact h.len hn (by omega)
theorem Went.holds (hA:allM m m.acts=some A)(hv:m.vessels.length≤4)(h:Went m n H Dr)(hn:n≤m.acts.length):∀ {t:Nat} {a:Held} {i:Nat},t≤n→A[t]? =some a→i<4→((hpAt (H t) i).length:Int)=au a i
 | 0,a,i,_,ha,hi=>by
  rw [kO hA] at ha;cases ha;rw [h.zero]
  match i,hi with
  | 0,_=>rfl
  | 1,_=>rfl
  | 2,_=>rfl
  | 3,_=>rfl
 | t+1,a',i,ht,ha,hi=>by
  have hl:=fX m m.acts A hA;have hx:m.acts[t]? =some (m.acts[t]'(by omega)):=List.getElem?_eq_getElem (by omega);have h0:A[t]? =some (A[t]'(by omega)):=List.getElem?_eq_getElem (by omega);obtain ⟨hok,hnext⟩:=lq hA hv hx h0;rw [ha] at hnext;have e:=Option.some.inj hnext;rw [e,kP hv _ (oR hA hv h0) _ hi];have hih:=fun (j:Nat) (hj:j<4)=>h.holds hA hv hn (i:=j) (Nat.le_of_succ_le ht) h0 hj;obtain ⟨left,k1,k2,k3,k4,k5⟩:=h.step (by omega) hx;rw [k5,sQ (h.len hn (by omega)) (fp hv _) (gZ hv _) (lf hok) hi];generalize m.acts[t]'(by omega)=x at *;have hsz:=hok.size;by_cases e1:x.kind=1
  ·have hd:=k1 e1
   have hf:cu m x = -1:=by unfold cu;rw [if_pos e1]
   have hs:eV m (A[t]'(by omega)) x=x.drops:=by unfold eV;rw [if_neg (by omega)]
   have h1:=hsz.1 e1;rw [hf,hs,if_neg (by omega)];have h2:=hih i hi;have h3:(Dr t).length=x.drops.toNat:=by rw [hd];simp
   by_cases p:(i:Int)=toI m x
   ·rw [if_pos p,if_pos p.symm,if_neg (by omega),List.length_append]
    omega
   ·rw [if_neg p,if_neg (fun q=>p q.symm),if_neg (by omega)]
    omega
  ·have hp:=(k2 e1).length_eq
   rw [List.length_append] at hp;have hf0:0≤cu m x:=by unfold cu;rw [if_neg e1];exact hok.from_ e1
   have hf4:=fp hv x;have hfi:cu m x=((cu m x).toNat:Int):=by omega
   have h4:=hih (cu m x).toNat (by omega);rw [← hfi] at h4;have h2:=hih i hi
   have hsd:((Dr t).length:Int)=eV m (A[t]'(by omega)) x:=by
    unfold eV;by_cases e4:x.kind=4
    ·rw [if_pos e4,← h4]
     rw [k3 e4] at hp;simp at hp;omega
    ·rw [if_neg e4,k4 e4]
     have:=hsz.2 (by have:=hok.kind;omega);omega
   have hap:=lf hok;by_cases q:(i:Int)=cu m x
   ·rw [if_pos q,if_neg (by omega),if_pos q.symm]
    rw [← q] at h4 hp;omega
   ·rw [if_neg q]
    by_cases p:(i:Int)=toI m x
    ·rw [if_pos p,if_pos p.symm,if_neg (fun r=>q r.symm),List.length_append]
     omega
    ·rw [if_neg p,if_neg (fun r=>p r.symm),if_neg (fun r=>q r.symm)]
     omega
def cntH (f:Int)(H:j3):Held:=H.map fun l=>(l.count f:Int)
theorem pQ (f:Int)(H:j3)(i:Int):au (cntH f H) i=((hpAt H i).count f:Int):=by
 unfold au cntH hpAt;rw [List.getElem?_map];cases H[i.toNat]?<;>rfl
theorem tX (f g:Int)(k:Nat):(List.replicate k g).count f=if g=f then k else 0:=by
 rw [List.count_replicate];by_cases e:g=f<;>simp [e]
theorem Went.run (hA:allM m m.acts=some A)(hv:m.vessels.length≤4)(h:Went m m.acts.length H Dr)(ht:∀ {t:Nat},t≤m.acts.length→fx m f t (cntH f (H t))=true) :
  Run m f A (fun t=>cntH f (H t)) (fun t=>((Dr t).count f:Int)):=by
 refine ⟨by show cntH f (H 0)=fh;rw [h.zero];rfl,?_,ht⟩;intro t x all hx ha;have htl:=(g_E hx).1;obtain ⟨hok,hnext⟩:=lq hA hv hx ha;obtain ⟨left,k1,k2,k3,k4,k5⟩:=h.step htl hx;have hl4:=h.len n_R (Nat.le_of_lt htl);have hl5:(cntH f (H t)).length=4:=by unfold cntH;rw [List.length_map];exact hl4
 have hap:=lf hok
 have hs3:cntH f (H (t+1))=eI (cntH f (H t)) (cu m x) (toI m x) ((Dr t).count f:Int):=by
  refine vc (by unfold cntH;rw [List.length_map];exact h.len n_R htl) (by rw [oN];exact hl5) fun i hi=>?_;rw [kP hv x hl5 _ hi,pQ,pQ,k5,sQ hl4 (fp hv _) (gZ hv _) hap hi];by_cases e1:x.kind=1
  ·have hf:cu m x = -1:=by unfold cu;rw [if_pos e1]
   rw [hf,if_neg (by omega),if_neg (show ¬ ((-1:Int)=(i:Int)) by omega)];by_cases p:(i:Int)=toI m x
   ·rw [if_pos p,if_pos p.symm,List.count_append];omega
   ·rw [if_neg p,if_neg (fun q=>p q.symm)];omega
  ·have hp:=(k2 e1).count_eq f
   rw [List.count_append] at hp;by_cases q:(i:Int)=cu m x
   ·rw [if_pos q,if_neg (by omega),if_pos q.symm]
    rw [← q] at hp;omega
   ·rw [if_neg q]
    by_cases p:(i:Int)=toI m x
    ·rw [if_pos p,if_pos p.symm,if_neg (fun r=>q r.symm),List.count_append];omega
    ·rw [if_neg p,if_neg (fun r=>p r.symm),if_neg (fun r=>q r.symm)];omega
 have hbd:(fi m x f all (cntH f (H t))).1≤((Dr t).count f:Int)∧((Dr t).count f:Int)≤(fi m x f all (cntH f (H t))).2:=by
  have hcl:(Dr t).count f≤(Dr t).length:=List.count_le_length;unfold fi;by_cases e1:x.kind=1
  ·have hf:cu m x = -1:=by unfold cu;rw [if_pos e1]
   have hs:eV m all x=x.drops:=by unfold eV;rw [if_neg (by omega)]
   have h1:=hok.size.1 e1;rw [hf,if_neg (by omega),hs,k1 e1,tX];by_cases e:x.fr=f
   ·rw [if_pos e,if_pos e];dsimp only;omega
   ·rw [if_neg e,if_neg e];dsimp only;omega
  ·have hf0:0≤cu m x:=by unfold cu;rw [if_neg e1];exact hok.from_ e1
   have hf4:=fp hv x;have hfi:cu m x=((cu m x).toNat:Int):=by omega
   have hp:=(k2 e1).count_eq f;rw [List.count_append] at hp;have hp':=(k2 e1).length_eq;rw [List.length_append] at hp';have h4:=h.holds hA hv n_R (Nat.le_of_lt htl) ha (i:=(cu m x).toNat) (by omega);rw [← hfi] at h4;have hcl2:left.count f≤left.length:=List.count_le_length
   have hsd:((Dr t).length:Int)=eV m all x:=by
    unfold eV;by_cases e4:x.kind=4
    ·rw [if_pos e4,← h4]
     rw [k3 e4] at hp';simp at hp';omega
    ·rw [if_neg e4,k4 e4]
     have:=hok.size.2 (by have:=hok.kind;omega);omega
   rw [if_pos hf0,pQ];dsimp only;omega
 exact ⟨hbd.1,hbd.2,hs3⟩
end
end
end Go.Proofs.YthofngceiecniaaGreat
