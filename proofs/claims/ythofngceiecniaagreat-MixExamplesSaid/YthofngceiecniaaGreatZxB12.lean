/- Part 12 of the texts of this claim, joined. -/
import Derived.Sort.CutIn
import Derived.Scope
import Derived.Laws.StructEq
import Derived.Test.YthofngceiecniaaGreatZxB11
set_option linter.unusedVariables false
/- The function that mix.table.ways hands back: it yields all ways, one after the other. -/
namespace Go.Proofs.YthofngceiecniaaGreat
set_option maxHeartbeats 16000000
set_option maxRecDepth 100000
section
open Go.RowKit Go.Shelf
attribute [local go_sem] Oper.semAt_some
structure Ew1 {α:Type}(P:α→Prop):Prop where
 ex:∃ a,P a
def kT (m:Mix)(A:List Held)(f s:Int)(n:Nat)(i:Nat):List (List Int):=match m.acts[i]? with
 | some x=>if x.kind=1∧x.fr=f then folP m A s (n - (i+1)) (i+1) (idxV m.vessels x.to) [(i:Int)+1] else []
 | none=>[]
theorem wS (m:Mix)(A:List Held)(f s:Int)(n:Nat):im m A f s n=(List.range n).flatMap (kT m A f s n):=rfl
theorem pF {α:Type}(g:Nat→List α){i n:Nat}(h:i≤n):((List.range i).flatMap g).length≤((List.range n).flatMap g).length:=by
 induction n with
 | zero =>
  obtain rfl:i=0:=by omega
  exact n_R
 | succ n ih =>
  by_cases h':i=n+1
  ·subst h'
   exact n_R
  ·have h2:=ih (by omega)
   rw [List.range_succ,List.flatMap_append,List.length_append];omega
inductive wm (v0 v1 v2 v3 v4 v5 v16 v17 v18:Value):Act→Prop
 | mk (a b c d e f g h i j k l m n o p q r s t w x y z A B C D E F G H I J K L M N O:Value):wm v0 v1 v2 v3 v4 v5 v16 v17 v18 ⟨#[v0,v1,v2,v3,v4,v5,a,b,c,d,e,f,g,h,i,j,v16,v17,v18,k,l,m,n,o,p,q,r,s,t,w,x,y,z,A,B,C,D,E,F,G,H,I,J,K,L,M,N,O],[]⟩
theorem pi (gs gt gf q k:Nat)(f:Int)(T:Tb)(w w0:World)(hb:Below w.heap.size w w0)(hok:TbOk T)(hk12:k≤T.m.acts.length)(hca:T.na≤T.ca∧T.ca≤maxLen)
  (ht:TbAt w T) (hs:Blk w gs 109 #[.int .i64 (q:Int),.int .i64 (k:Int)]) (hgt:Blk w gt 92 #[.pointer (some ⟨T.g,0,none⟩)]) (hgf:Blk w gf 3 #[.int .i64 f]) :
  ld Fence.wide 8 Tryz.prog 113 #[.pointer (some ⟨gs,0,none⟩),.pointer (some ⟨gt,0,none⟩),.pointer (some ⟨gf,0,none⟩)] (fun x:Wy=>#[x.val]) (AtW w.heap.size w0.heap.size) (KpR w.heap.size w0.heap.size)
   (fun xs=>xs.map Wy.l=im T.m T.L f q k) (im T.m T.L f q k).length w0:=by
 intro l' J W hW hJ hY h0;have hbW:Below w.heap.size w W:=hb.trans (hW.mono hb.size);have HTL:=lh ((TbAt.low ht).kp (n1:=w0.heap.size) (show KpR w.heap.size w0.heap.size w W from KpR.of_below hbW));have HSP:=lh (hs.below hbW hs.lt);have hgs:=hs.lt;have HGT:=lh (hgt.below hbW hgt.lt);have hgt_:=hgt.lt;have HGF:=lh (hgf.below hbW hgf.lt);have hgf_:=hgf.lt;have HY:=lh hY;have HJ:=lh hJ;have H0:=lh h0;have hsz:w.heap.size≤w0.heap.size:=hb.size;have hsW:w0.heap.size≤W.heap.size:=hW.size;have HOK:=lh hok;have HK12:=lh hk12;have HCA:=lh hca;clear hs hgt hgf hY hJ h0 hb hW hbW hok ht hca;refine callsIn_of_wp Tryz.func113 rfl trivial ?_ rfl;simp only [Tryz.ntmps113,es,Nat.reduceAdd,Nat.reduceSub];gi_upto_region 3 with fail
 have L0:=Lay.two W 181 #[.func (.yield l') #[] #[]] 182 #[.func (.func 114) #[] #[.pointer (some ⟨gs,0,none⟩),.pointer (some ⟨W.heap.size,0,none⟩),.pointer (some ⟨gt,0,none⟩),.pointer (some ⟨(W.heap.size+1),0,none⟩)]];generalize ((W.alloc (.cells #[.func (.yield l') #[] #[]] 181)).alloc (.cells #[.func (.func 114) #[] #[.pointer (some ⟨gs,0,none⟩),.pointer (some ⟨W.heap.size,0,none⟩),.pointer (some ⟨gt,0,none⟩),.pointer (some ⟨(W.heap.size+1),0,none⟩)]] 182))=W1 at *;have HB1:Hid (Below W.heap.size W W1):=lh L0.1;have hky:=L0.blk 0 rfl;have hke:=L0.blk 1 rfl;clear L0
 obtain ⟨gy,hgy⟩:∃ g,W.heap.size=g:=⟨_,rfl⟩
 rw [hgy] at hky hke ⊢
 obtain ⟨ge,hge⟩:∃ g,gy+1=g:=⟨_,rfl⟩
 rw [hge] at hke ⊢;have HP:Hid (WyPl w.heap.size w0.heap.size gs gy gt ge):=lh ⟨hgs,hgt_,by omega,by omega⟩;have HBX:=lh (show qE w.heap.size l' gs gy gt ge q k T W1 from ⟨HTL.out.kp (n1:=w0.heap.size) (KpR.of_below HB1.out),HSP.out.below HB1.out HSP.out.lt,HGT.out.below HB1.out HGT.out.lt,hky,hke⟩);have HGF1:=lh (HGF.out.below HB1.out HGF.out.lt);have HJ1:=lh (HJ.out _ _ _ H0.out HB1.out);have HSZ:Hid (w0.heap.size≤W1.heap.size):=lh (by have:=HB1.out.size;omega);have HGY:Hid (w0.heap.size≤gy):=lh (by omega);clear hky hke hgy hge HTL HSP HGT HGF H0 hgs hgt_ HB1 hsW;refine wpIn_flow_old [] [true,true,true,true,true,true,true,true,true,true] [] (by kernel_rfl) (by kernel_rfl) (by kernel_rfl) (av b_R 1) ?_;refine wpFlow_nil (A:=?AW1)  ?hw1 ?_
 case hw1 =>
  rintro σ hσ of hof hcl;have HOF:=lh hof;clear hof hcl;have c0:∀ z,(of z).cell? ⟨gt,0,none⟩=some (.pointer (some ⟨T.g,0,none⟩)):=fun z=>(HBX.out.kp HP.out (KpR.of_below (HOF.out z))).bt.cell 0;have c1:∀ z,(of z).cell? ⟨T.g,2,none⟩=some (.slice T.Aa T.na T.ca):=fun z=>(HBX.out.kp HP.out (KpR.of_below (HOF.out z))).tb.blk.cell 2;have c5:∀ z,(of z).cell? ⟨gs,1,none⟩=some (.int .i64 (k:Int)):=fun z=>(HBX.out.kp HP.out (KpR.of_below (HOF.out z))).bs.cell 1;have hkc:k≤T.ca:=by have h1:=HCA.out;have h2:=(HBX.out.tb.at_ (by have:=HSZ.out;omega)).mix.lenA;omega
  have hcm:=HCA.out.2;have hfw:=hfT;simp only [bu]
  iterate 10 (gi_big_quiet_step (fail))
  refine wpQuietIn_nil ?_;exact rfl
 intro W2 hW;replace HBX:=lh (HBX.out.kp HP.out (KpR.of_below hW));replace HGF1:=lh (HGF1.out.below hW HGF1.out.lt);replace HJ1:=lh (HJ.out _ _ _ HJ1.out hW);replace HSZ:=lh (Nat.le_trans HSZ.out hW.size);clear hW;simp only [bu];refine eK ?_;gi_wp2;refine wpIn_loop (fun a W=>∃ (i:Nat),Hid (Ew1 fun (xs:List Wy)=>i≤k∧xs.map Wy.l=(List.range i).flatMap (kT T.m T.L f q k)∧J xs W∧KpR w.heap.size w0.heap.size W2 W)∧wm (.func (.yield l') #[] #[]) (.pointer (some ⟨gs,0,none⟩)) (.pointer (some ⟨gt,0,none⟩)) (.pointer (some ⟨gf,0,none⟩)) (.pointer (some ⟨gy,0,none⟩)) (.pointer (some ⟨ge,0,none⟩)) (.slice T.Aa k T.ca) (.int .i64 (k:Int)) (.int .i64 (i:Int)) a) (fun a _=>k - (intOf (a.tmps.getD 18 undef)).toNat) ?_ ?_
 ·exact ⟨0,lh ⟨[],by omega,rfl,HJ1.out,KpR.of_below b_R⟩,by constructor⟩
 clear HJ1;rintro a V0 ⟨i,HS,ha⟩;cases ha;obtain ⟨xs,hs9⟩:=HS.out;replace HS:=lh hs9;clear hs9;by_cases hlt:i<k
 ·
  have HBV:=lh (HBX.out.kp HP.out HS.out.2.2.2);have HSV:Hid (w0.heap.size≤V0.heap.size):=lh (Nat.le_trans HSZ.out HS.out.2.2.2.1);have HTA:=lh (HBV.out.tb.at_ (by have:=HSV.out;omega));have hac:T.m.acts.length≤12:=HOK.out.acts;obtain ⟨ba,oa,x,e1,e2,e3,e4⟩:=ft nA (by omega) HTA.out.mix.acts (i:=i) (by have h1:=HTA.out.mix.lenA;omega);have HAA:=lh e1;have HX:=lh e3;obtain ⟨all,hA⟩:=HOK.out.at_ e3;have HAT:=lh hA;have k0:V0.cell? ⟨ba,oa+i * 4,none⟩=some (.int .i64 x.kind):=e4 0 _ rfl;have k1:V0.cell? ⟨ba,oa+i * 4+1,none⟩=some (.int .i64 x.fr):=e4 1 _ rfl;have k2:V0.cell? ⟨ba,oa+i * 4+2,none⟩=some (.int .i64 x.to):=e4 2 _ rfl;have k3:V0.cell? ⟨ba,oa+i * 4+3,none⟩=some (.int .i64 x.drops):=e4 3 _ rfl;have hk12':k≤12:=by have:=HK12.out;omega
  rw [e1];clear e1 e2 e3 e4 hA;gi_upto_region 6 with fail
  clear k0 k1 k2 k3;rw [← HAA.out];have HGX:=lh (Blk.new V0 62 #[.int .i64 x.kind,.int .i64 x.fr,.int .i64 x.to,.int .i64 x.drops]);have hbx:Below V0.heap.size V0 (V0.alloc (.cells #[.int .i64 x.kind,.int .i64 x.fr,.int .i64 x.to,.int .i64 x.drops] 62)):=b_R.alloc n_R _;have HBN:=lh hbx;clear hbx;generalize (V0.alloc (.cells #[.int .i64 x.kind,.int .i64 x.fr,.int .i64 x.to,.int .i64 x.drops] 62))=W3 at *
  obtain ⟨gx,hgx⟩:∃ g,V0.heap.size=g:=⟨_,rfl⟩
  have HGXN:Hid (w0.heap.size≤gx):=lh (by have:=HSV.out;omega);have hK3:KpR w.heap.size w0.heap.size W2 W3:=HS.out.2.2.2.trans (KpR.of_below HBN.out);rw [hgx] at HGX ⊢;have HK:=lh hK3;have HJ3:=lh (HJ.out _ _ _ HS.out.2.2.1 HBN.out);have HB3:=lh (HBX.out.kp HP.out hK3);have HS3:Hid (w0.heap.size≤W3.heap.size):=lh (Nat.le_trans HSZ.out hK3.1);have HG3:=lh (hK3.blk (.inl hgf_) HGF1.out);have HXS:=lh HS.out.2.1;clear hgx hK3 HBN HBV HSV HTA
  have hstep:(List.range (i+1)).flatMap (kT T.m T.L f q k)=(List.range i).flatMap (kT T.m T.L f q k)++(if x.kind=1∧x.fr=f then folP T.m T.L q (k - (i+1)) (i+1) (idxV T.m.vessels x.to) [(i:Int)+1] else []):=by
   rw [List.range_succ,List.flatMap_append]
   congr 1
   simp only [List.flatMap_cons,List.flatMap_nil,List.append_nil];unfold kT;rw [HX.out]
  have HST:=lh hstep;clear hstep;by_cases hkd:x.kind=1
  ·
   by_cases hfr:x.fr=f
   ·
    have hkb:(x.kind==1)=true:=by simpa using hkd
    have hfb:(x.fr==f)=true:=by simpa using hfr
    have HKB:=lh hkb;have HFB:=lh hfb;have HKD:=lh hkd;have HFR:=lh hfr;clear hkb hfb hkd hfr;refine Tr.wpIn_region_tree (G:=KpB w.heap.size w0.heap.size W3.heap.size) (V0:=W3) [([],[true,true,true,true,true,true,true,true,true,true,true,true,true,true,false,true,true,false,true,true],[14,20]),([14],[],[17,20]),([20],[],[14]),([14,17],[],[20]),([14,20],[],[17]),([14,17,20],[],[21]),([14,17,20,21],[false,false,false,false,false,false,false,false,false,false,false,false,false,false,false,false,false,false,false,false,false,false,true,true],[])] 5 [] (by kernel_rfl) (by kernel_rfl) (by kernel_rfl) (av b_R 1) ?_;refine Tr.wpTree_two (A:=?AW2) rfl rfl rfl ?hw2 ?_ ?_
    case hw2 =>
     rintro σ hσ of hof hcl;have HOF:=lh hof;clear hof hcl;have x0:∀ z,(of z).cell? ⟨gx,0,none⟩=some (.int .i64 x.kind):=fun z=>((KpB.kp (HOF.out z)).blk (.inr HGXN.out) HGX.out).cell 0;have x1:∀ z,(of z).cell? ⟨gx,1,none⟩=some (.int .i64 x.fr):=fun z=>((KpB.kp (HOF.out z)).blk (.inr HGXN.out) HGX.out).cell 1;have x2:∀ z,(of z).cell? ⟨gx,2,none⟩=some (.int .i64 x.to):=fun z=>((KpB.kp (HOF.out z)).blk (.inr HGXN.out) HGX.out).cell 2;have c3:∀ z,(of z).cell? ⟨gf,0,none⟩=some (.int .i64 f):=fun z=>((KpB.kp (HOF.out z)).blk (.inl hgf_) HG3.out).cell 0;have c4:∀ z,(of z).cell? ⟨gt,0,none⟩=some (.pointer (some ⟨T.g,0,none⟩)):=fun z=>(HB3.out.kp HP.out (KpB.kp (HOF.out z))).bt.cell 0;have c5:∀ z,(of z).cell? ⟨ge,0,none⟩=some (.func (.func 114) #[] #[.pointer (some ⟨gs,0,none⟩),.pointer (some ⟨gy,0,none⟩),.pointer (some ⟨gt,0,none⟩),.pointer (some ⟨ge,0,none⟩)]):=fun z=>(HB3.out.kp HP.out (KpB.kp (HOF.out z))).be.cell 0;have hk12':k≤12:=by have:=HK12.out;omega
     have hkb:=HKB.out;have hfb:=HFB.out;have hfw:=hfT;simp only [bu]
     iterate 18 (gi_big_quiet_step (fail))
     refine wpQuietIn_nil ?_;exact rfl
    ·
     intro W4 hW;have HB_W4:=lh (show Below W3.heap.size W3 W4 from hW);clear hW;gi_wp2;refine ⟨trivial,(callsIn_wide.2 (fD T x.to W4 ((HB3.out.kp HP.out (KpR.of_below HB_W4.out)).tb.at_ (by have h1:=HS3.out;have h2:=HB_W4.out.size;omega)))).mono ?_⟩;rintro e W5 ⟨rfl,hb⟩;have HBc:=lh hb;clear hb;gi_wp2
     first | refine ⟨rfl,KpB.of_below HBc.out,?_⟩ | refine ⟨trivial,KpB.of_below HBc.out,?_⟩ | refine ⟨KpB.of_below HBc.out,?_⟩
     refine Tr.wpTree_two (m:=[]) rfl rfl rfl Gr.Quietly.none ?_ ?_
     ·
      intro Wp hW;have HB_Wp:=lh (show Below W3.heap.size W3 Wp from HB_W4.out.trans ((HBc.out.trans (hW.mono HBc.out.size)).mono HB_W4.out.size));clear hW HBc;gi_wp2
      first | refine ⟨rfl,KpB.of_below b_R,?_⟩ | refine ⟨trivial,KpB.of_below b_R,?_⟩ | refine ⟨KpB.of_below b_R,?_⟩
      refine Tr.wpTree_one (m:=[]) rfl rfl Gr.Quietly.none ?_;intro W6 hW;have HB_W6:=lh (show Below W3.heap.size W3 W6 from HB_Wp.out.trans (hW.mono HB_Wp.out.size));clear hW;gi_wp2;have hbs:Below W6.heap.size W6 (W6.alloc (.cells #[.int .i64 ((i:Int)+1)] 3)):=b_R.alloc n_R _
      first | refine ⟨rfl,KpB.of_below hbs,?_⟩ | refine ⟨trivial,KpB.of_below hbs,?_⟩ | refine ⟨KpB.of_below hbs,?_⟩
      have HSL:=lh (show du (W6.alloc (.cells #[.int .i64 ((i:Int)+1)] 3)) (W6.alloc (.cells #[.int .i64 ((i:Int)+1)] 3)).heap.size (some ⟨W6.heap.size,0,none⟩) 1 [(i:Int)+1] from du.new W6 3 [(i:Int)+1] _ (by simp));have HBs:=lh hbs;have HBK:=lh (Blk.new W6 3 #[.int .i64 ((i:Int)+1)]);clear hbs;generalize (W6.alloc (.cells #[.int .i64 ((i:Int)+1)] 3))=W7 at *
      obtain ⟨gb,hgb⟩:∃ g,W6.heap.size=g:=⟨_,rfl⟩
      rw [hgb] at HSL HBK ⊢;have HGB:Hid (w0.heap.size≤gb):=lh (by have h1:=HS3.out;have h2:=HB_W6.out.size;omega);clear hgb;refine Tr.wpTree_one (m:=[]) rfl rfl Gr.Quietly.none ?_;intro W8 hW;have HB_W8:=lh (show Below W3.heap.size W3 W8 from HB_W6.out.trans ((HBs.out.trans (hW.mono HBs.out.size)).mono HB_W6.out.size));replace HSL:=lh ((HSL.out.below hW).more hW.size);replace HBK:=lh (HBK.out.below hW HBK.out.lt);clear hW HBs;have HB10:=lh (HB3.out.kp HP.out (KpR.of_below HB_W8.out));have HSZ10:Hid (w0.heap.size≤W8.heap.size):=lh (Nat.le_trans HS3.out HB_W8.out.size);have HJ10:=lh (HJ.out _ _ _ HJ3.out HB_W8.out);have hto0:0≤idxV T.m.vessels x.to:=HAT.out.ok.to_ (.inl HKD.out);have hto4:idxV T.m.vessels x.to<4:=i4 HOK.out.vess
      have hfol:=mz ((im T.m T.L f q k).length) w.heap.size w0.heap.size l' gs gy gt ge q k T J HJ.out HP.out hsz HOK.out HK12.out (fun m pre x V hj hlt9 hat=>YieldAt.deep m (HY.out pre x V hj hlt9 hat))
       (k - (i+1)) (i+1) (idxV T.m.vessels x.to) (some ⟨gb,0,none⟩) 1 1 [(i:Int)+1] xs W8 HB10.out HJ10.out HSL.out (fun a ha=>by cases ha;exact ⟨HGB.out,_,HBK.out⟩) (by omega) (by omega) HSZ10.out ⟨hto0,hto4⟩
       (by have h9:=pF (kT T.m T.L f q k) (show i+1≤k by omega);rw [HST.out,if_pos ⟨HKD.out,HFR.out⟩,List.length_append,← HXS.out,List.length_map] at h9;exact h9)
      rw [show ((i+1:Nat):Int)=(i:Int)+1 from by omega] at hfol;clear hto0 hto4
      obtain ⟨vt,hvt⟩:∃ vt,idxV T.m.vessels x.to=vt:=⟨_,rfl⟩
      rw [hvt] at hfol ⊢;have HVT:=lh hvt;have HFOL:=lh hfol;clear hvt hfol;gi_wp2;refine ⟨trivial,(c_W HFOL.out).mono ?_⟩;rintro e W11 ⟨rfl,ys,hys,hJ11,hk11⟩;have HYS:=lh hys;have HK11:=lh (show KpB w.heap.size w0.heap.size W3.heap.size W8 W11 from KpB.of_kp hk11);have HK12':=lh (show KpR w.heap.size w0.heap.size W3 W11 from (KpR.of_below HB_W8.out).trans hk11);have HJ11:=lh hJ11;clear hys hJ11 hk11 HFOL HB10 HJ10 HSZ10;gi_wp2
      first | refine ⟨rfl,HK11.out,?_⟩ | refine ⟨trivial,HK11.out,?_⟩ | refine ⟨HK11.out,?_⟩
      clear HK11;refine Tr.wpTree_end (A:=?AW3) rfl ?hw3 ?_
      case hw3 =>
       rintro σ hσ of hof hcl;have HOF:=lh hof;clear hof hcl;have hkb:=HKB.out;have hfw:=hfT;simp only [bu]
       iterate 2 (gi_big_quiet_step (fail))
       refine wpQuietIn_nil ?_;exact rfl
      intro W12 hW;have HKE:=lh (show KpR w.heap.size w0.heap.size W2 W12 from HK.out.trans (HK12'.out.trans (KpR.of_below hW)));have HJE:=lh (HJ.out _ _ _ HJ11.out hW);clear hW HK12' HJ11;simp only [bu];refine eK ?_;gi_wp2;refine ⟨⟨i+1,lh ⟨xs++ys,hlt,by rw [HST.out,if_pos ⟨HKD.out,HFR.out⟩,List.map_append,HXS.out,HVT.out,HYS.out],by have h:=HJE.out;simpa using h,HKE.out⟩,by rw [show ((i+1:Nat):Int)=(i:Int)+1 from by omega];first | constructor | (rw [HAA.out];constructor)⟩,?_⟩;simp [intOf]<;>omega
     ·
      intro W6 hW;have HB_W6:=lh (show Below W3.heap.size W3 W6 from HB_W4.out.trans ((HBc.out.trans (hW.mono HBc.out.size)).mono HB_W4.out.size));clear hW HBc;gi_wp2;have hbs:Below W6.heap.size W6 (W6.alloc (.cells #[.int .i64 ((i:Int)+1)] 3)):=b_R.alloc n_R _
      first | refine ⟨rfl,KpB.of_below hbs,?_⟩ | refine ⟨trivial,KpB.of_below hbs,?_⟩ | refine ⟨KpB.of_below hbs,?_⟩
      have HSL:=lh (show du (W6.alloc (.cells #[.int .i64 ((i:Int)+1)] 3)) (W6.alloc (.cells #[.int .i64 ((i:Int)+1)] 3)).heap.size (some ⟨W6.heap.size,0,none⟩) 1 [(i:Int)+1] from du.new W6 3 [(i:Int)+1] _ (by simp));have HBs:=lh hbs;have HBK:=lh (Blk.new W6 3 #[.int .i64 ((i:Int)+1)]);clear hbs;generalize (W6.alloc (.cells #[.int .i64 ((i:Int)+1)] 3))=W7 at *
      obtain ⟨gb,hgb⟩:∃ g,W6.heap.size=g:=⟨_,rfl⟩
      rw [hgb] at HSL HBK ⊢;have HGB:Hid (w0.heap.size≤gb):=lh (by have h1:=HS3.out;have h2:=HB_W6.out.size;omega);clear hgb;refine Tr.wpTree_one (m:=[]) rfl rfl Gr.Quietly.none ?_;intro Wp hW;have HB_Wp:=lh (show Below W3.heap.size W3 Wp from HB_W6.out.trans ((HBs.out.trans (hW.mono HBs.out.size)).mono HB_W6.out.size));replace HSL:=lh ((HSL.out.below hW).more hW.size);replace HBK:=lh (HBK.out.below hW HBK.out.lt);clear hW HBs;gi_wp2
      first | refine ⟨rfl,KpB.of_below b_R,?_⟩ | refine ⟨trivial,KpB.of_below b_R,?_⟩ | refine ⟨KpB.of_below b_R,?_⟩
      refine Tr.wpTree_one (m:=[]) rfl rfl Gr.Quietly.none ?_;intro W8 hW;have HB_W8:=lh (show Below W3.heap.size W3 W8 from HB_Wp.out.trans (hW.mono HB_Wp.out.size));replace HSL:=lh ((HSL.out.below hW).more hW.size);replace HBK:=lh (HBK.out.below hW HBK.out.lt);clear hW;have HB10:=lh (HB3.out.kp HP.out (KpR.of_below HB_W8.out));have HSZ10:Hid (w0.heap.size≤W8.heap.size):=lh (Nat.le_trans HS3.out HB_W8.out.size);have HJ10:=lh (HJ.out _ _ _ HJ3.out HB_W8.out);have hto0:0≤idxV T.m.vessels x.to:=HAT.out.ok.to_ (.inl HKD.out);have hto4:idxV T.m.vessels x.to<4:=i4 HOK.out.vess
      have hfol:=mz ((im T.m T.L f q k).length) w.heap.size w0.heap.size l' gs gy gt ge q k T J HJ.out HP.out hsz HOK.out HK12.out (fun m pre x V hj hlt9 hat=>YieldAt.deep m (HY.out pre x V hj hlt9 hat))
       (k - (i+1)) (i+1) (idxV T.m.vessels x.to) (some ⟨gb,0,none⟩) 1 1 [(i:Int)+1] xs W8 HB10.out HJ10.out HSL.out (fun a ha=>by cases ha;exact ⟨HGB.out,_,HBK.out⟩) (by omega) (by omega) HSZ10.out ⟨hto0,hto4⟩
       (by have h9:=pF (kT T.m T.L f q k) (show i+1≤k by omega);rw [HST.out,if_pos ⟨HKD.out,HFR.out⟩,List.length_append,← HXS.out,List.length_map] at h9;exact h9)
      rw [show ((i+1:Nat):Int)=(i:Int)+1 from by omega] at hfol;clear hto0 hto4
      obtain ⟨vt,hvt⟩:∃ vt,idxV T.m.vessels x.to=vt:=⟨_,rfl⟩
      rw [hvt] at hfol ⊢;have HVT:=lh hvt;have HFOL:=lh hfol;clear hvt hfol;gi_wp2;refine ⟨trivial,(c_W HFOL.out).mono ?_⟩;rintro e W11 ⟨rfl,ys,hys,hJ11,hk11⟩;have HYS:=lh hys;have HK11:=lh (show KpB w.heap.size w0.heap.size W3.heap.size W8 W11 from KpB.of_kp hk11);have HK12':=lh (show KpR w.heap.size w0.heap.size W3 W11 from (KpR.of_below HB_W8.out).trans hk11);have HJ11:=lh hJ11;clear hys hJ11 hk11 HFOL HB10 HJ10 HSZ10;gi_wp2
      first | refine ⟨rfl,HK11.out,?_⟩ | refine ⟨trivial,HK11.out,?_⟩ | refine ⟨HK11.out,?_⟩
      clear HK11;refine Tr.wpTree_end (A:=?AW4) rfl ?hw4 ?_
      case hw4 =>
       rintro σ hσ of hof hcl;have HOF:=lh hof;clear hof hcl;have hkb:=HKB.out;have hfw:=hfT;simp only [bu]
       iterate 2 (gi_big_quiet_step (fail))
       refine wpQuietIn_nil ?_;exact rfl
      intro W12 hW;have HKE:=lh (show KpR w.heap.size w0.heap.size W2 W12 from HK.out.trans (HK12'.out.trans (KpR.of_below hW)));have HJE:=lh (HJ.out _ _ _ HJ11.out hW);clear hW HK12' HJ11;simp only [bu];refine eK ?_;gi_wp2;refine ⟨⟨i+1,lh ⟨xs++ys,hlt,by rw [HST.out,if_pos ⟨HKD.out,HFR.out⟩,List.map_append,HXS.out,HVT.out,HYS.out],by have h:=HJE.out;simpa using h,HKE.out⟩,by rw [show ((i+1:Nat):Int)=(i:Int)+1 from by omega];first | constructor | (rw [HAA.out];constructor)⟩,?_⟩;simp [intOf]<;>omega
    ·
     intro W4 hW;have HB_W4:=lh (show Below W3.heap.size W3 W4 from hW);clear hW;gi_wp2;have hbs:Below W4.heap.size W4 (W4.alloc (.cells #[.int .i64 ((i:Int)+1)] 3)):=b_R.alloc n_R _
     first | refine ⟨rfl,KpB.of_below hbs,?_⟩ | refine ⟨trivial,KpB.of_below hbs,?_⟩ | refine ⟨KpB.of_below hbs,?_⟩
     have HSL:=lh (show du (W4.alloc (.cells #[.int .i64 ((i:Int)+1)] 3)) (W4.alloc (.cells #[.int .i64 ((i:Int)+1)] 3)).heap.size (some ⟨W4.heap.size,0,none⟩) 1 [(i:Int)+1] from du.new W4 3 [(i:Int)+1] _ (by simp));have HBs:=lh hbs;have HBK:=lh (Blk.new W4 3 #[.int .i64 ((i:Int)+1)]);clear hbs;generalize (W4.alloc (.cells #[.int .i64 ((i:Int)+1)] 3))=W5 at *
     obtain ⟨gb,hgb⟩:∃ g,W4.heap.size=g:=⟨_,rfl⟩
     rw [hgb] at HSL HBK ⊢;have HGB:Hid (w0.heap.size≤gb):=lh (by have h1:=HS3.out;have h2:=HB_W4.out.size;omega);clear hgb;refine Tr.wpTree_one (m:=[]) rfl rfl Gr.Quietly.none ?_;intro W6 hW;have HB_W6:=lh (show Below W3.heap.size W3 W6 from HB_W4.out.trans ((HBs.out.trans (hW.mono HBs.out.size)).mono HB_W4.out.size));replace HSL:=lh ((HSL.out.below hW).more hW.size);replace HBK:=lh (HBK.out.below hW HBK.out.lt);clear hW HBs;gi_wp2;refine ⟨trivial,(callsIn_wide.2 (fD T x.to W6 ((HB3.out.kp HP.out (KpR.of_below HB_W6.out)).tb.at_ (by have h1:=HS3.out;have h2:=HB_W6.out.size;omega)))).mono ?_⟩;rintro e W7 ⟨rfl,hb⟩;have HBc:=lh hb;clear hb;gi_wp2
     first | refine ⟨rfl,KpB.of_below HBc.out,?_⟩ | refine ⟨trivial,KpB.of_below HBc.out,?_⟩ | refine ⟨KpB.of_below HBc.out,?_⟩
     refine Tr.wpTree_one (m:=[]) rfl rfl Gr.Quietly.none ?_;intro Wp hW;have HB_Wp:=lh (show Below W3.heap.size W3 Wp from HB_W6.out.trans ((HBc.out.trans (hW.mono HBc.out.size)).mono HB_W6.out.size));replace HSL:=lh (((HSL.out.below HBc.out).more HBc.out.size).below hW |>.more hW.size);have hbk8:=HBK.out.below HBc.out HBK.out.lt;replace HBK:=lh (hbk8.below hW hbk8.lt);clear hbk8;clear hW HBc;gi_wp2
     first | refine ⟨rfl,KpB.of_below b_R,?_⟩ | refine ⟨trivial,KpB.of_below b_R,?_⟩ | refine ⟨KpB.of_below b_R,?_⟩
     refine Tr.wpTree_one (m:=[]) rfl rfl Gr.Quietly.none ?_;intro W8 hW;have HB_W8:=lh (show Below W3.heap.size W3 W8 from HB_Wp.out.trans (hW.mono HB_Wp.out.size));replace HSL:=lh ((HSL.out.below hW).more hW.size);replace HBK:=lh (HBK.out.below hW HBK.out.lt);clear hW;have HB10:=lh (HB3.out.kp HP.out (KpR.of_below HB_W8.out));have HSZ10:Hid (w0.heap.size≤W8.heap.size):=lh (Nat.le_trans HS3.out HB_W8.out.size);have HJ10:=lh (HJ.out _ _ _ HJ3.out HB_W8.out);have hto0:0≤idxV T.m.vessels x.to:=HAT.out.ok.to_ (.inl HKD.out);have hto4:idxV T.m.vessels x.to<4:=i4 HOK.out.vess
     have hfol:=mz ((im T.m T.L f q k).length) w.heap.size w0.heap.size l' gs gy gt ge q k T J HJ.out HP.out hsz HOK.out HK12.out (fun m pre x V hj hlt9 hat=>YieldAt.deep m (HY.out pre x V hj hlt9 hat))
      (k - (i+1)) (i+1) (idxV T.m.vessels x.to) (some ⟨gb,0,none⟩) 1 1 [(i:Int)+1] xs W8 HB10.out HJ10.out HSL.out (fun a ha=>by cases ha;exact ⟨HGB.out,_,HBK.out⟩) (by omega) (by omega) HSZ10.out ⟨hto0,hto4⟩
      (by have h9:=pF (kT T.m T.L f q k) (show i+1≤k by omega);rw [HST.out,if_pos ⟨HKD.out,HFR.out⟩,List.length_append,← HXS.out,List.length_map] at h9;exact h9)
     rw [show ((i+1:Nat):Int)=(i:Int)+1 from by omega] at hfol;clear hto0 hto4
     obtain ⟨vt,hvt⟩:∃ vt,idxV T.m.vessels x.to=vt:=⟨_,rfl⟩
     rw [hvt] at hfol ⊢;have HVT:=lh hvt;have HFOL:=lh hfol;clear hvt hfol;gi_wp2;refine ⟨trivial,(c_W HFOL.out).mono ?_⟩;rintro e W11 ⟨rfl,ys,hys,hJ11,hk11⟩;have HYS:=lh hys;have HK11:=lh (show KpB w.heap.size w0.heap.size W3.heap.size W8 W11 from KpB.of_kp hk11);have HK12':=lh (show KpR w.heap.size w0.heap.size W3 W11 from (KpR.of_below HB_W8.out).trans hk11);have HJ11:=lh hJ11;clear hys hJ11 hk11 HFOL HB10 HJ10 HSZ10;gi_wp2
     first | refine ⟨rfl,HK11.out,?_⟩ | refine ⟨trivial,HK11.out,?_⟩ | refine ⟨HK11.out,?_⟩
     clear HK11;refine Tr.wpTree_end (A:=?AW5) rfl ?hw5 ?_
     case hw5 =>
      rintro σ hσ of hof hcl;have HOF:=lh hof;clear hof hcl;have hkb:=HKB.out;have hfw:=hfT;simp only [bu]
      iterate 2 (gi_big_quiet_step (fail))
      refine wpQuietIn_nil ?_;exact rfl
     intro W12 hW;have HKE:=lh (show KpR w.heap.size w0.heap.size W2 W12 from HK.out.trans (HK12'.out.trans (KpR.of_below hW)));have HJE:=lh (HJ.out _ _ _ HJ11.out hW);clear hW HK12' HJ11;simp only [bu];refine eK ?_;gi_wp2;refine ⟨⟨i+1,lh ⟨xs++ys,hlt,by rw [HST.out,if_pos ⟨HKD.out,HFR.out⟩,List.map_append,HXS.out,HVT.out,HYS.out],by have h:=HJE.out;simpa using h,HKE.out⟩,by rw [show ((i+1:Nat):Int)=(i:Int)+1 from by omega];first | constructor | (rw [HAA.out];constructor)⟩,?_⟩;simp [intOf]<;>omega
   ·
    have hkb:(x.kind==1)=true:=by simpa using hkd
    have hfb:(x.fr==f)=false:=by simpa using hfr
    have HKB:=lh hkb;have HFB:=lh hfb;have HFR:=lh hfr;clear hkb hfb hkd hfr;refine Tr.wpIn_region_tree (G:=KpB w.heap.size w0.heap.size W3.heap.size) (V0:=W3) [([],[true,true,true,true,true,true,true,true,true,true,true,true,true,true,false,true,true,false,true,true],[14,20]),([14],[],[17,20]),([20],[],[14]),([14,17],[],[20]),([14,20],[],[17]),([14,17,20],[],[21]),([14,17,20,21],[false,false,false,false,false,false,false,false,false,false,false,false,false,false,false,false,false,false,false,false,false,false,true,true],[])] 5 [] (by kernel_rfl) (by kernel_rfl) (by kernel_rfl) (av b_R 1) ?_;refine Tr.wpTree_two (A:=?AW6) rfl rfl rfl ?hw6 ?_ ?_
    case hw6 =>
     rintro σ hσ of hof hcl;have HOF:=lh hof;clear hof hcl;have x0:∀ z,(of z).cell? ⟨gx,0,none⟩=some (.int .i64 x.kind):=fun z=>((KpB.kp (HOF.out z)).blk (.inr HGXN.out) HGX.out).cell 0;have x1:∀ z,(of z).cell? ⟨gx,1,none⟩=some (.int .i64 x.fr):=fun z=>((KpB.kp (HOF.out z)).blk (.inr HGXN.out) HGX.out).cell 1;have x2:∀ z,(of z).cell? ⟨gx,2,none⟩=some (.int .i64 x.to):=fun z=>((KpB.kp (HOF.out z)).blk (.inr HGXN.out) HGX.out).cell 2;have c3:∀ z,(of z).cell? ⟨gf,0,none⟩=some (.int .i64 f):=fun z=>((KpB.kp (HOF.out z)).blk (.inl hgf_) HG3.out).cell 0;have c4:∀ z,(of z).cell? ⟨gt,0,none⟩=some (.pointer (some ⟨T.g,0,none⟩)):=fun z=>(HB3.out.kp HP.out (KpB.kp (HOF.out z))).bt.cell 0;have c5:∀ z,(of z).cell? ⟨ge,0,none⟩=some (.func (.func 114) #[] #[.pointer (some ⟨gs,0,none⟩),.pointer (some ⟨gy,0,none⟩),.pointer (some ⟨gt,0,none⟩),.pointer (some ⟨ge,0,none⟩)]):=fun z=>(HB3.out.kp HP.out (KpB.kp (HOF.out z))).be.cell 0;have hk12':k≤12:=by have:=HK12.out;omega
     have hkb:=HKB.out;have hfb:=HFB.out;have hfw:=hfT;simp only [bu]
     iterate 18 (gi_big_quiet_step (fail))
     refine wpQuietIn_nil ?_;exact rfl
    ·
     intro W4 hW;have HB_W4:=lh (show Below W3.heap.size W3 W4 from hW);clear hW;gi_wp2
     first | refine ⟨rfl,KpB.of_below b_R,?_⟩ | refine ⟨trivial,KpB.of_below b_R,?_⟩ | refine ⟨KpB.of_below b_R,?_⟩ | ((first | refine ⟨trivial,?_⟩ | refine ⟨fun _ h=>(by cases h),?_⟩);gi_wp2;first | refine ⟨rfl,KpB.of_below b_R,?_⟩ | refine ⟨trivial,KpB.of_below b_R,?_⟩ | refine ⟨KpB.of_below b_R,?_⟩)
     refine Tr.wpTree_two (m:=[]) rfl rfl rfl Gr.Quietly.none ?_ ?_
     ·
      intro W5 hW;have HB_W5:=lh (show Below W3.heap.size W3 W5 from HB_W4.out.trans (hW.mono HB_W4.out.size));clear hW;gi_wp2
      first | refine ⟨rfl,KpB.of_below b_R,?_⟩ | refine ⟨trivial,KpB.of_below b_R,?_⟩ | refine ⟨KpB.of_below b_R,?_⟩ | ((first | refine ⟨trivial,?_⟩ | refine ⟨fun _ h=>(by cases h),?_⟩);gi_wp2;first | refine ⟨rfl,KpB.of_below b_R,?_⟩ | refine ⟨trivial,KpB.of_below b_R,?_⟩ | refine ⟨KpB.of_below b_R,?_⟩)
      refine Tr.wpTree_one (m:=[]) rfl rfl Gr.Quietly.none ?_;intro W6 hW;have HB_W6:=lh (show Below W3.heap.size W3 W6 from HB_W5.out.trans (hW.mono HB_W5.out.size));clear hW;gi_wp2
      first | refine ⟨rfl,KpB.of_below b_R,?_⟩ | refine ⟨trivial,KpB.of_below b_R,?_⟩ | refine ⟨KpB.of_below b_R,?_⟩ | ((first | refine ⟨trivial,?_⟩ | refine ⟨fun _ h=>(by cases h),?_⟩);gi_wp2;first | refine ⟨rfl,KpB.of_below b_R,?_⟩ | refine ⟨trivial,KpB.of_below b_R,?_⟩ | refine ⟨KpB.of_below b_R,?_⟩)
      refine Tr.wpTree_one (m:=[]) rfl rfl Gr.Quietly.none ?_;intro W8 hW;have HB_W8:=lh (show Below W3.heap.size W3 W8 from HB_W6.out.trans (hW.mono HB_W6.out.size));clear hW;gi_wp2
      first | refine ⟨rfl,KpB.of_below b_R,?_⟩ | refine ⟨trivial,KpB.of_below b_R,?_⟩ | refine ⟨KpB.of_below b_R,?_⟩ | ((first | refine ⟨trivial,?_⟩ | refine ⟨fun _ h=>(by cases h),?_⟩);gi_wp2;first | refine ⟨rfl,KpB.of_below b_R,?_⟩ | refine ⟨trivial,KpB.of_below b_R,?_⟩ | refine ⟨KpB.of_below b_R,?_⟩)
      refine Tr.wpTree_end (A:=?AW7) rfl ?hw7 ?_
      case hw7 =>
       rintro σ hσ of hof hcl;have HOF:=lh hof;clear hof hcl;have hkb:=HKB.out;have hfw:=hfT;simp only [bu]
       iterate 2 (gi_big_quiet_step (fail))
       refine wpQuietIn_nil ?_;exact rfl
      intro W12 hW;have hb12:Below W3.heap.size W3 W12:=HB_W8.out.trans (hW.mono HB_W8.out.size);have HJE:=lh (HJ.out _ _ _ HJ3.out hb12);have HKE:=lh (HK.out.trans (KpR.of_below hb12));clear hW hb12 HB_W4 HB_W5 HB_W6 HB_W8;simp only [bu];refine eK ?_;gi_wp2;refine ⟨⟨i+1,lh ⟨xs++[],hlt,by rw [HST.out,if_neg (fun h=>HFR.out h.2),List.append_nil,List.append_nil];exact HXS.out,by have h:=HJE.out;simpa using h,HKE.out⟩,by rw [show ((i+1:Nat):Int)=(i:Int)+1 from by omega];first | constructor | (rw [HAA.out];constructor)⟩,?_⟩;simp [intOf]<;>omega
     ·
      intro W5 hW;have HB_W5:=lh (show Below W3.heap.size W3 W5 from HB_W4.out.trans (hW.mono HB_W4.out.size));clear hW;gi_wp2
      first | refine ⟨rfl,KpB.of_below b_R,?_⟩ | refine ⟨trivial,KpB.of_below b_R,?_⟩ | refine ⟨KpB.of_below b_R,?_⟩ | ((first | refine ⟨trivial,?_⟩ | refine ⟨fun _ h=>(by cases h),?_⟩);gi_wp2;first | refine ⟨rfl,KpB.of_below b_R,?_⟩ | refine ⟨trivial,KpB.of_below b_R,?_⟩ | refine ⟨KpB.of_below b_R,?_⟩)
      refine Tr.wpTree_one (m:=[]) rfl rfl Gr.Quietly.none ?_;intro W6 hW;have HB_W6:=lh (show Below W3.heap.size W3 W6 from HB_W5.out.trans (hW.mono HB_W5.out.size));clear hW;gi_wp2
      first | refine ⟨rfl,KpB.of_below b_R,?_⟩ | refine ⟨trivial,KpB.of_below b_R,?_⟩ | refine ⟨KpB.of_below b_R,?_⟩ | ((first | refine ⟨trivial,?_⟩ | refine ⟨fun _ h=>(by cases h),?_⟩);gi_wp2;first | refine ⟨rfl,KpB.of_below b_R,?_⟩ | refine ⟨trivial,KpB.of_below b_R,?_⟩ | refine ⟨KpB.of_below b_R,?_⟩)
      refine Tr.wpTree_one (m:=[]) rfl rfl Gr.Quietly.none ?_;intro W8 hW;have HB_W8:=lh (show Below W3.heap.size W3 W8 from HB_W6.out.trans (hW.mono HB_W6.out.size));clear hW;gi_wp2
      first | refine ⟨rfl,KpB.of_below b_R,?_⟩ | refine ⟨trivial,KpB.of_below b_R,?_⟩ | refine ⟨KpB.of_below b_R,?_⟩ | ((first | refine ⟨trivial,?_⟩ | refine ⟨fun _ h=>(by cases h),?_⟩);gi_wp2;first | refine ⟨rfl,KpB.of_below b_R,?_⟩ | refine ⟨trivial,KpB.of_below b_R,?_⟩ | refine ⟨KpB.of_below b_R,?_⟩)
      refine Tr.wpTree_end (A:=?AW8) rfl ?hw8 ?_
      case hw8 =>
       rintro σ hσ of hof hcl;have HOF:=lh hof;clear hof hcl;have hkb:=HKB.out;have hfw:=hfT;simp only [bu]
       iterate 2 (gi_big_quiet_step (fail))
       refine wpQuietIn_nil ?_;exact rfl
      intro W12 hW;have hb12:Below W3.heap.size W3 W12:=HB_W8.out.trans (hW.mono HB_W8.out.size);have HJE:=lh (HJ.out _ _ _ HJ3.out hb12);have HKE:=lh (HK.out.trans (KpR.of_below hb12));clear hW hb12 HB_W4 HB_W5 HB_W6 HB_W8;simp only [bu];refine eK ?_;gi_wp2;refine ⟨⟨i+1,lh ⟨xs++[],hlt,by rw [HST.out,if_neg (fun h=>HFR.out h.2),List.append_nil,List.append_nil];exact HXS.out,by have h:=HJE.out;simpa using h,HKE.out⟩,by rw [show ((i+1:Nat):Int)=(i:Int)+1 from by omega];first | constructor | (rw [HAA.out];constructor)⟩,?_⟩;simp [intOf]<;>omega
    ·
     intro W4 hW;have HB_W4:=lh (show Below W3.heap.size W3 W4 from hW);clear hW;gi_wp2
     first | refine ⟨rfl,KpB.of_below b_R,?_⟩ | refine ⟨trivial,KpB.of_below b_R,?_⟩ | refine ⟨KpB.of_below b_R,?_⟩ | ((first | refine ⟨trivial,?_⟩ | refine ⟨fun _ h=>(by cases h),?_⟩);gi_wp2;first | refine ⟨rfl,KpB.of_below b_R,?_⟩ | refine ⟨trivial,KpB.of_below b_R,?_⟩ | refine ⟨KpB.of_below b_R,?_⟩)
     refine Tr.wpTree_one (m:=[]) rfl rfl Gr.Quietly.none ?_;intro W5 hW;have HB_W5:=lh (show Below W3.heap.size W3 W5 from HB_W4.out.trans (hW.mono HB_W4.out.size));clear hW;gi_wp2
     first | refine ⟨rfl,KpB.of_below b_R,?_⟩ | refine ⟨trivial,KpB.of_below b_R,?_⟩ | refine ⟨KpB.of_below b_R,?_⟩ | ((first | refine ⟨trivial,?_⟩ | refine ⟨fun _ h=>(by cases h),?_⟩);gi_wp2;first | refine ⟨rfl,KpB.of_below b_R,?_⟩ | refine ⟨trivial,KpB.of_below b_R,?_⟩ | refine ⟨KpB.of_below b_R,?_⟩)
     refine Tr.wpTree_one (m:=[]) rfl rfl Gr.Quietly.none ?_;intro W6 hW;have HB_W6:=lh (show Below W3.heap.size W3 W6 from HB_W5.out.trans (hW.mono HB_W5.out.size));clear hW;gi_wp2
     first | refine ⟨rfl,KpB.of_below b_R,?_⟩ | refine ⟨trivial,KpB.of_below b_R,?_⟩ | refine ⟨KpB.of_below b_R,?_⟩ | ((first | refine ⟨trivial,?_⟩ | refine ⟨fun _ h=>(by cases h),?_⟩);gi_wp2;first | refine ⟨rfl,KpB.of_below b_R,?_⟩ | refine ⟨trivial,KpB.of_below b_R,?_⟩ | refine ⟨KpB.of_below b_R,?_⟩)
     refine Tr.wpTree_one (m:=[]) rfl rfl Gr.Quietly.none ?_;intro W8 hW;have HB_W8:=lh (show Below W3.heap.size W3 W8 from HB_W6.out.trans (hW.mono HB_W6.out.size));clear hW;gi_wp2
     first | refine ⟨rfl,KpB.of_below b_R,?_⟩ | refine ⟨trivial,KpB.of_below b_R,?_⟩ | refine ⟨KpB.of_below b_R,?_⟩ | ((first | refine ⟨trivial,?_⟩ | refine ⟨fun _ h=>(by cases h),?_⟩);gi_wp2;first | refine ⟨rfl,KpB.of_below b_R,?_⟩ | refine ⟨trivial,KpB.of_below b_R,?_⟩ | refine ⟨KpB.of_below b_R,?_⟩)
     refine Tr.wpTree_end (A:=?AW9) rfl ?hw9 ?_
     case hw9 =>
      rintro σ hσ of hof hcl;have HOF:=lh hof;clear hof hcl;have hkb:=HKB.out;have hfw:=hfT;simp only [bu]
      iterate 2 (gi_big_quiet_step (fail))
      refine wpQuietIn_nil ?_;exact rfl
     intro W12 hW;have hb12:Below W3.heap.size W3 W12:=HB_W8.out.trans (hW.mono HB_W8.out.size);have HJE:=lh (HJ.out _ _ _ HJ3.out hb12);have HKE:=lh (HK.out.trans (KpR.of_below hb12));clear hW hb12 HB_W4 HB_W5 HB_W6 HB_W8;simp only [bu];refine eK ?_;gi_wp2;refine ⟨⟨i+1,lh ⟨xs++[],hlt,by rw [HST.out,if_neg (fun h=>HFR.out h.2),List.append_nil,List.append_nil];exact HXS.out,by have h:=HJE.out;simpa using h,HKE.out⟩,by rw [show ((i+1:Nat):Int)=(i:Int)+1 from by omega];first | constructor | (rw [HAA.out];constructor)⟩,?_⟩;simp [intOf]<;>omega
  ·
   have hkb:(x.kind==1)=false:=by simpa using hkd
   have HKB:=lh hkb;have HKD:=lh hkd;clear hkb hkd;refine Tr.wpIn_region_tree (G:=KpB w.heap.size w0.heap.size W3.heap.size) (V0:=W3) [([],[true,true,true,true,true,true,true,true,true,true,true,true,true,true,false,true,true,false,true,true],[14,20]),([14],[],[17,20]),([20],[],[14]),([14,17],[],[20]),([14,20],[],[17]),([14,17,20],[],[21]),([14,17,20,21],[false,false,false,false,false,false,false,false,false,false,false,false,false,false,false,false,false,false,false,false,false,false,true,true],[])] 5 [] (by kernel_rfl) (by kernel_rfl) (by kernel_rfl) (av b_R 1) ?_;refine Tr.wpTree_two (A:=?AW10) rfl rfl rfl ?hw10 ?_ ?_
   case hw10 =>
    rintro σ hσ of hof hcl;have HOF:=lh hof;clear hof hcl;have x0:∀ z,(of z).cell? ⟨gx,0,none⟩=some (.int .i64 x.kind):=fun z=>((KpB.kp (HOF.out z)).blk (.inr HGXN.out) HGX.out).cell 0;have x1:∀ z,(of z).cell? ⟨gx,1,none⟩=some (.int .i64 x.fr):=fun z=>((KpB.kp (HOF.out z)).blk (.inr HGXN.out) HGX.out).cell 1;have x2:∀ z,(of z).cell? ⟨gx,2,none⟩=some (.int .i64 x.to):=fun z=>((KpB.kp (HOF.out z)).blk (.inr HGXN.out) HGX.out).cell 2;have c3:∀ z,(of z).cell? ⟨gf,0,none⟩=some (.int .i64 f):=fun z=>((KpB.kp (HOF.out z)).blk (.inl hgf_) HG3.out).cell 0;have c4:∀ z,(of z).cell? ⟨gt,0,none⟩=some (.pointer (some ⟨T.g,0,none⟩)):=fun z=>(HB3.out.kp HP.out (KpB.kp (HOF.out z))).bt.cell 0;have c5:∀ z,(of z).cell? ⟨ge,0,none⟩=some (.func (.func 114) #[] #[.pointer (some ⟨gs,0,none⟩),.pointer (some ⟨gy,0,none⟩),.pointer (some ⟨gt,0,none⟩),.pointer (some ⟨ge,0,none⟩)]):=fun z=>(HB3.out.kp HP.out (KpB.kp (HOF.out z))).be.cell 0;have hk12':k≤12:=by have:=HK12.out;omega
    have hkb:=HKB.out;have hfw:=hfT;simp only [bu]
    iterate 18 (gi_big_quiet_step (fail))
    refine wpQuietIn_nil ?_;exact rfl
   ·
    intro W4 hW;have HB_W4:=lh (show Below W3.heap.size W3 W4 from hW);clear hW;gi_wp2
    first | refine ⟨rfl,KpB.of_below b_R,?_⟩ | refine ⟨trivial,KpB.of_below b_R,?_⟩ | refine ⟨KpB.of_below b_R,?_⟩ | ((first | refine ⟨trivial,?_⟩ | refine ⟨fun _ h=>(by cases h),?_⟩);gi_wp2;first | refine ⟨rfl,KpB.of_below b_R,?_⟩ | refine ⟨trivial,KpB.of_below b_R,?_⟩ | refine ⟨KpB.of_below b_R,?_⟩)
    refine Tr.wpTree_two (m:=[]) rfl rfl rfl Gr.Quietly.none ?_ ?_
    ·
     intro W5 hW;have HB_W5:=lh (show Below W3.heap.size W3 W5 from HB_W4.out.trans (hW.mono HB_W4.out.size));clear hW;gi_wp2
     first | refine ⟨rfl,KpB.of_below b_R,?_⟩ | refine ⟨trivial,KpB.of_below b_R,?_⟩ | refine ⟨KpB.of_below b_R,?_⟩ | ((first | refine ⟨trivial,?_⟩ | refine ⟨fun _ h=>(by cases h),?_⟩);gi_wp2;first | refine ⟨rfl,KpB.of_below b_R,?_⟩ | refine ⟨trivial,KpB.of_below b_R,?_⟩ | refine ⟨KpB.of_below b_R,?_⟩)
     refine Tr.wpTree_one (m:=[]) rfl rfl Gr.Quietly.none ?_;intro W6 hW;have HB_W6:=lh (show Below W3.heap.size W3 W6 from HB_W5.out.trans (hW.mono HB_W5.out.size));clear hW;gi_wp2
     first | refine ⟨rfl,KpB.of_below b_R,?_⟩ | refine ⟨trivial,KpB.of_below b_R,?_⟩ | refine ⟨KpB.of_below b_R,?_⟩ | ((first | refine ⟨trivial,?_⟩ | refine ⟨fun _ h=>(by cases h),?_⟩);gi_wp2;first | refine ⟨rfl,KpB.of_below b_R,?_⟩ | refine ⟨trivial,KpB.of_below b_R,?_⟩ | refine ⟨KpB.of_below b_R,?_⟩)
     refine Tr.wpTree_one (m:=[]) rfl rfl Gr.Quietly.none ?_;intro W8 hW;have HB_W8:=lh (show Below W3.heap.size W3 W8 from HB_W6.out.trans (hW.mono HB_W6.out.size));clear hW;gi_wp2
     first | refine ⟨rfl,KpB.of_below b_R,?_⟩ | refine ⟨trivial,KpB.of_below b_R,?_⟩ | refine ⟨KpB.of_below b_R,?_⟩ | ((first | refine ⟨trivial,?_⟩ | refine ⟨fun _ h=>(by cases h),?_⟩);gi_wp2;first | refine ⟨rfl,KpB.of_below b_R,?_⟩ | refine ⟨trivial,KpB.of_below b_R,?_⟩ | refine ⟨KpB.of_below b_R,?_⟩)
     refine Tr.wpTree_end (A:=?AW11) rfl ?hw11 ?_
     case hw11 =>
      rintro σ hσ of hof hcl;have HOF:=lh hof;clear hof hcl;have hkb:=HKB.out;have hfw:=hfT;simp only [bu]
      iterate 2 (gi_big_quiet_step (fail))
      refine wpQuietIn_nil ?_;exact rfl
     intro W12 hW;have hb12:Below W3.heap.size W3 W12:=HB_W8.out.trans (hW.mono HB_W8.out.size);have HJE:=lh (HJ.out _ _ _ HJ3.out hb12);have HKE:=lh (HK.out.trans (KpR.of_below hb12));clear hW hb12 HB_W4 HB_W5 HB_W6 HB_W8;simp only [bu];refine eK ?_;gi_wp2;refine ⟨⟨i+1,lh ⟨xs++[],hlt,by rw [HST.out,if_neg (fun h=>HKD.out h.1),List.append_nil,List.append_nil];exact HXS.out,by have h:=HJE.out;simpa using h,HKE.out⟩,by rw [show ((i+1:Nat):Int)=(i:Int)+1 from by omega];first | constructor | (rw [HAA.out];constructor)⟩,?_⟩;simp [intOf]<;>omega
    ·
     intro W5 hW;have HB_W5:=lh (show Below W3.heap.size W3 W5 from HB_W4.out.trans (hW.mono HB_W4.out.size));clear hW;gi_wp2
     first | refine ⟨rfl,KpB.of_below b_R,?_⟩ | refine ⟨trivial,KpB.of_below b_R,?_⟩ | refine ⟨KpB.of_below b_R,?_⟩ | ((first | refine ⟨trivial,?_⟩ | refine ⟨fun _ h=>(by cases h),?_⟩);gi_wp2;first | refine ⟨rfl,KpB.of_below b_R,?_⟩ | refine ⟨trivial,KpB.of_below b_R,?_⟩ | refine ⟨KpB.of_below b_R,?_⟩)
     refine Tr.wpTree_one (m:=[]) rfl rfl Gr.Quietly.none ?_;intro W6 hW;have HB_W6:=lh (show Below W3.heap.size W3 W6 from HB_W5.out.trans (hW.mono HB_W5.out.size));clear hW;gi_wp2
     first | refine ⟨rfl,KpB.of_below b_R,?_⟩ | refine ⟨trivial,KpB.of_below b_R,?_⟩ | refine ⟨KpB.of_below b_R,?_⟩ | ((first | refine ⟨trivial,?_⟩ | refine ⟨fun _ h=>(by cases h),?_⟩);gi_wp2;first | refine ⟨rfl,KpB.of_below b_R,?_⟩ | refine ⟨trivial,KpB.of_below b_R,?_⟩ | refine ⟨KpB.of_below b_R,?_⟩)
     refine Tr.wpTree_one (m:=[]) rfl rfl Gr.Quietly.none ?_;intro W8 hW;have HB_W8:=lh (show Below W3.heap.size W3 W8 from HB_W6.out.trans (hW.mono HB_W6.out.size));clear hW;gi_wp2
     first | refine ⟨rfl,KpB.of_below b_R,?_⟩ | refine ⟨trivial,KpB.of_below b_R,?_⟩ | refine ⟨KpB.of_below b_R,?_⟩ | ((first | refine ⟨trivial,?_⟩ | refine ⟨fun _ h=>(by cases h),?_⟩);gi_wp2;first | refine ⟨rfl,KpB.of_below b_R,?_⟩ | refine ⟨trivial,KpB.of_below b_R,?_⟩ | refine ⟨KpB.of_below b_R,?_⟩)
     refine Tr.wpTree_end (A:=?AW12) rfl ?hw12 ?_
     case hw12 =>
      rintro σ hσ of hof hcl;have HOF:=lh hof;clear hof hcl;have hkb:=HKB.out;have hfw:=hfT;simp only [bu]
      iterate 2 (gi_big_quiet_step (fail))
      refine wpQuietIn_nil ?_;exact rfl
     intro W12 hW;have hb12:Below W3.heap.size W3 W12:=HB_W8.out.trans (hW.mono HB_W8.out.size);have HJE:=lh (HJ.out _ _ _ HJ3.out hb12);have HKE:=lh (HK.out.trans (KpR.of_below hb12));clear hW hb12 HB_W4 HB_W5 HB_W6 HB_W8;simp only [bu];refine eK ?_;gi_wp2;refine ⟨⟨i+1,lh ⟨xs++[],hlt,by rw [HST.out,if_neg (fun h=>HKD.out h.1),List.append_nil,List.append_nil];exact HXS.out,by have h:=HJE.out;simpa using h,HKE.out⟩,by rw [show ((i+1:Nat):Int)=(i:Int)+1 from by omega];first | constructor | (rw [HAA.out];constructor)⟩,?_⟩;simp [intOf]<;>omega
   ·
    intro W4 hW;have HB_W4:=lh (show Below W3.heap.size W3 W4 from hW);clear hW;gi_wp2
    first | refine ⟨rfl,KpB.of_below b_R,?_⟩ | refine ⟨trivial,KpB.of_below b_R,?_⟩ | refine ⟨KpB.of_below b_R,?_⟩ | ((first | refine ⟨trivial,?_⟩ | refine ⟨fun _ h=>(by cases h),?_⟩);gi_wp2;first | refine ⟨rfl,KpB.of_below b_R,?_⟩ | refine ⟨trivial,KpB.of_below b_R,?_⟩ | refine ⟨KpB.of_below b_R,?_⟩)
    refine Tr.wpTree_one (m:=[]) rfl rfl Gr.Quietly.none ?_;intro W5 hW;have HB_W5:=lh (show Below W3.heap.size W3 W5 from HB_W4.out.trans (hW.mono HB_W4.out.size));clear hW;gi_wp2
    first | refine ⟨rfl,KpB.of_below b_R,?_⟩ | refine ⟨trivial,KpB.of_below b_R,?_⟩ | refine ⟨KpB.of_below b_R,?_⟩ | ((first | refine ⟨trivial,?_⟩ | refine ⟨fun _ h=>(by cases h),?_⟩);gi_wp2;first | refine ⟨rfl,KpB.of_below b_R,?_⟩ | refine ⟨trivial,KpB.of_below b_R,?_⟩ | refine ⟨KpB.of_below b_R,?_⟩)
    refine Tr.wpTree_one (m:=[]) rfl rfl Gr.Quietly.none ?_;intro W6 hW;have HB_W6:=lh (show Below W3.heap.size W3 W6 from HB_W5.out.trans (hW.mono HB_W5.out.size));clear hW;gi_wp2
    first | refine ⟨rfl,KpB.of_below b_R,?_⟩ | refine ⟨trivial,KpB.of_below b_R,?_⟩ | refine ⟨KpB.of_below b_R,?_⟩ | ((first | refine ⟨trivial,?_⟩ | refine ⟨fun _ h=>(by cases h),?_⟩);gi_wp2;first | refine ⟨rfl,KpB.of_below b_R,?_⟩ | refine ⟨trivial,KpB.of_below b_R,?_⟩ | refine ⟨KpB.of_below b_R,?_⟩)
    refine Tr.wpTree_one (m:=[]) rfl rfl Gr.Quietly.none ?_;intro W8 hW;have HB_W8:=lh (show Below W3.heap.size W3 W8 from HB_W6.out.trans (hW.mono HB_W6.out.size));clear hW;gi_wp2
    first | refine ⟨rfl,KpB.of_below b_R,?_⟩ | refine ⟨trivial,KpB.of_below b_R,?_⟩ | refine ⟨KpB.of_below b_R,?_⟩ | ((first | refine ⟨trivial,?_⟩ | refine ⟨fun _ h=>(by cases h),?_⟩);gi_wp2;first | refine ⟨rfl,KpB.of_below b_R,?_⟩ | refine ⟨trivial,KpB.of_below b_R,?_⟩ | refine ⟨KpB.of_below b_R,?_⟩)
    refine Tr.wpTree_end (A:=?AW13) rfl ?hw13 ?_
    case hw13 =>
     rintro σ hσ of hof hcl;have HOF:=lh hof;clear hof hcl;have hkb:=HKB.out;have hfw:=hfT;simp only [bu]
     iterate 2 (gi_big_quiet_step (fail))
     refine wpQuietIn_nil ?_;exact rfl
    intro W12 hW;have hb12:Below W3.heap.size W3 W12:=HB_W8.out.trans (hW.mono HB_W8.out.size);have HJE:=lh (HJ.out _ _ _ HJ3.out hb12);have HKE:=lh (HK.out.trans (KpR.of_below hb12));clear hW hb12 HB_W4 HB_W5 HB_W6 HB_W8;simp only [bu];refine eK ?_;gi_wp2;refine ⟨⟨i+1,lh ⟨xs++[],hlt,by rw [HST.out,if_neg (fun h=>HKD.out h.1),List.append_nil,List.append_nil];exact HXS.out,by have h:=HJE.out;simpa using h,HKE.out⟩,by rw [show ((i+1:Nat):Int)=(i:Int)+1 from by omega];first | constructor | (rw [HAA.out];constructor)⟩,?_⟩;simp [intOf]<;>omega
 ·
  obtain rfl:i=k:=by have:=HS.out.1;omega
  gi_wp2
  go_end0
  exact ⟨⟨_,rfl⟩,xs,HS.out.2.1,HS.out.2.2.1⟩
end
section
open Go.RowKit Go.Shelf
attribute [local go_sem] Oper.semAt_some
theorem rI (g:Nat)(q k f:Int)(w:World) :
  Calls Tryz.prog 79 #[.pointer (some ⟨g,0,none⟩),.agg #[.int .i64 q,.int .i64 k],.int .i64 f] w fun e w' =>
   e = .returned (.func (.func 113) #[] #[.pointer (some ⟨w.heap.size+1,0,none⟩),.pointer (some ⟨w.heap.size,0,none⟩),.pointer (some ⟨w.heap.size+1+1,0,none⟩)]) ∧
   Lay w w' [(w.heap.size,92,#[.pointer (some ⟨g,0,none⟩)]),(w.heap.size+1,109,#[.int .i64 q,.int .i64 k]),(w.heap.size+1+1,3,#[.int .i64 f])]:=by
 have hmf:∀ (fn:Fn) (first cap:Array Value) (w:World),(Instr.makeFunc fn first cap).run Tryz.prog w = .ok (.func fn first cap) w:=fun _ _ _ _=>rfl
 go_enter Tryz.func79,Tryz.ntmps79
 go_wp2_with fail
 go_ret
 exact ⟨rfl,Lay.three w _ _ _ _ _ _⟩
def xh (w:World)(m:Mix)(v a f:Int)(e:Ending)(w':World):Prop :=
 ∃ l A n c x,e = .returned (.tuple #[.slice A n c,.int .i64 x])∧jL m v a f l x∧du w' w'.heap.size A n l∧n≤13∧Below w.heap.size w w'∧∀ ad,A=some ad→w.heap.size≤ad.block
theorem sP (Av:Option Addr)(nv cv:Nat)(Aa:Option Addr)(na ca:Nat)(At:Option Addr)(nt ct:Nat)(m:Mix)(vessel after fountain:Int)(w:World)(h:MixS w Av nv Aa na At nt m)(hca:na≤ca∧ca≤maxLen) :
  CallsIn Fence.wide 9 Tryz.prog 38 #[.agg #[.int .i64 m.fountains,.slice Av nv cv,.slice Aa na ca,.slice At nt ct],.int .i64 vessel,.int .i64 after,.int .i64 fountain] w (xh w m vessel after fountain):=by
 have HM:=lh h;have HCA:=lh hca;clear h hca;refine callsIn_of_wp Tryz.func38 rfl trivial ?_ rfl;simp only [Tryz.ntmps38,es,Nat.reduceAdd,Nat.reduceSub];gi_upto_region 1 with fail
 have Ly:=lh (Lay.one w 26 #[.int .i64 m.fountains,.slice Av nv cv,.slice Aa na ca,.slice At nt ct]);generalize (w.alloc (.cells #[.int .i64 m.fountains,.slice Av nv cv,.slice Aa na ca,.slice At nt ct] 26))=w0 at *;obtain ⟨x0_0,x0_1,x0_2,x0_3⟩:=lyc4 Ly 0 rfl;have l0_:=Ly.out.lt 0 rfl;gi_wp2;clear x0_0 x0_1 x0_2 x0_3 l0_;have Y:=du.new w0 3 [fountain] (w0.heap.size+1) (by omega);have hb1:Below w0.heap.size w0 (w0.alloc (.cells #[.int .i64 fountain] 3)):=b_R.alloc n_R _;have hc:=jC Av nv cv Aa na ca At nt ct m vessel after (some ⟨w0.heap.size,0,none⟩) 1 1 [fountain] _ (HM.out.up (Ly.out.1.trans (hb1.mono Ly.out.1.size))) (Y.more (by simp)) (by decide);refine ⟨trivial,(c_W hc).mono ?_⟩;clear hc Y;generalize (w0.alloc (.cells #[.int .i64 fountain] 3))=W00 at *;rintro e W8 ⟨pp,s1,s2,rfl,hb,hp⟩;have HP:=lh hp;have hbb:=hb1.trans (hb.mono hb1.size);clear hb hb1 hp;have HB8:=lh (Ly.out.1.trans (hbb.mono Ly.out.1.size));clear hbb Ly
 obtain ⟨ee,hee⟩:∃ ee,askM m vessel after [fountain]=ee:=⟨_,rfl⟩
 rw [hee] at HP ⊢;have HEE:=lh hee;clear hee;gi_upto_region 2 with fail
 have HS1:=lh (Blk.new W8 109 #[.int .i64 s1,.int .i64 s2]);have hb9:Below W8.heap.size W8 (W8.alloc (.cells #[.int .i64 s1,.int .i64 s2] 109)):=b_R.alloc n_R _;have HB9:=lh hb9;clear hb9;generalize (W8.alloc (.cells #[.int .i64 s1,.int .i64 s2] 109))=V1 at *
 obtain ⟨G2,hG⟩:∃ g,W8.heap.size=g:=⟨_,rfl⟩
 have HBE:=lh (HB8.out.trans (HB9.out.mono HB8.out.size));rw [hG] at HS1 ⊢;clear hG;by_cases h0:ee=0
 ·obtain ⟨hk,h1,h2,h3,h4,T,rfl,hTm,hTL,hTg,hT,hMA,hTc⟩:=HP.out h0
  subst h0;subst h2
  obtain ⟨q,hq⟩:∃ q:Nat,s1=q:=⟨s1.toNat,by omega⟩
  subst hq
  obtain ⟨k,hkk⟩:∃ k:Nat,s2=k:=⟨s2.toNat,by omega⟩
  subst hkk;have HQ:Hid ((q:Int)=idxV m.vessels vessel∧k≤m.acts.length∧m.acts.length≤12∧m.vessels.length≤4):=lh ⟨h1,by omega,(fj hk).2.1,(fj hk).1⟩;have HOK:Hid (TbOk T):=lh ⟨by rw [hTm];exact hk,by rw [hTm];exact hTL⟩;have HTM:=lh hTm;have HTL:=lh hTL;have HT:=lh (hT.at_.below HB9.out)
  have HTC:Hid (T.na≤T.ca∧T.ca≤maxLen):=lh (by
   have h5:=hT.at_.mix.lenA;have h6:=HM.out.at_.lenA;rw [hTm] at h5;rw [hTc];have h7:=HCA.out
   omega)
  clear HP hk h1 h3 h4 hTm hTL hTg hT hMA hTc HB9;have d0:=HS1.out.cell 0;have d1:=HS1.out.cell 1;have dl:=HS1.out.lt;gi_wp2;clear d0 d1 dl;refine ⟨trivial,(callsIn_wide.2 (rI T.g q k fountain V1)).mono ?_⟩;rintro e V2 ⟨rfl,hL⟩;have HL:=lh hL;have HT2:=lh (HT.out.below hL.1);clear hL;have HSQ:=lh (fun v hv=>ld.plain (pi (V1.heap.size+1) V1.heap.size (V1.heap.size+1+1) q k fountain T V2 v hv HOK.out (by rw [HTM.out];exact HQ.out.2.1) HTC.out HT2.out (HL.out.blk 1 rfl) (HL.out.blk 0 rfl) (HL.out.blk 2 rfl)));have HFR:=lh (tQ 113 #[.pointer (some ⟨V1.heap.size+1,0,none⟩),.pointer (some ⟨V1.heap.size,0,none⟩),.pointer (some ⟨V1.heap.size+1+1,0,none⟩)] _ V2 (enters_of Tryz.func113 (by kernel_rfl) rfl) HSQ.out);have HB2:=lh (HBE.out.trans (HL.out.1.mono HBE.out.size));gi_wp2;refine ⟨trivial,(c_W HFR.out).mono ?_⟩;clear HFR HSQ;unfold pf;rintro e V3 ⟨xs,hxs,hb3,b,hfold,rfl,hat⟩
  have hmem:∀ l,l∈im T.m T.L fountain q k↔fZ m T.L fountain (k:Int).toNat (idxV m.vessels vessel) l:=fun l=>by
   rw [← HQ.out.1,Int.toNat_natCast,HTM.out];exact mc HTL.out HQ.out.2.2.2 HQ.out.2.1
  rw [hxs] at hfold;have HMEM:=lh hmem;have HFOLD:=lh hfold;have HAT:=lh hat;have HB3:=lh (HB2.out.trans (hb3.mono HB2.out.size));clear hmem hfold hat hb3 hxs
  cases b with
  | none =>
   gi_wp2;refine bodyPost_ret (v:=.tuple #[.slice none 0 0,.int .i64 6]) (by simp [results,Tryz.results38,go_sem]) rfl ?_;refine ⟨[],none,0,0,6,rfl,.inr ⟨HEE.out,T.L,HTL.out,.inl ⟨fun l hl=>?_,rfl,rfl⟩⟩,dv.none_,by omega,HB3.out,fun a h=>by cases h⟩;have h1:=(HMEM.out l).2 hl
   rcases n4 (l:=im T.m T.L fountain q k) with ⟨h2,_⟩ | ⟨r,h2,_⟩
   ·rw [h2] at h1;cases h1
   ·rw [HFOLD.out] at h2;cases h2
  | some x =>
   gi_wp2;refine bodyPost_ret (v:=.tuple #[.slice x.A x.n x.cap,.int .i64 0]) (by simp [results,Tryz.results38,go_sem]) rfl ?_;have hx:=HAT.out x rfl;refine ⟨x.l,x.A,x.n,x.cap,0,rfl,.inr ⟨HEE.out,T.L,HTL.out,.inr ?_⟩,hx.1.1,hx.1.2,HB3.out,fun a h=>by have h1:=hx.2 a h;have h2:=HB2.out.size;omega⟩
   rcases n4 (l:=im T.m T.L fountain q k) with ⟨_,h2⟩ | ⟨r,h2,h3⟩
   ·rw [HFOLD.out] at h2;cases h2
   ·rw [HFOLD.out] at h2
    obtain rfl:x.l=r:=Option.some.inj h2;exact ⟨⟨x.l,(HMEM.out _).1 h3.1⟩,rfl,h3.congr HMEM.out⟩
 ·have h0b:(ee != 0)=true:=by simpa using h0
  have H0:=lh h0;clear h0;gi_wp2;refine bodyPost_ret (v:=.tuple #[.slice none 0 0,.int .i64 ee]) (by simp [results,Tryz.results38,go_sem]) rfl ?_;exact ⟨[],none,0,0,ee,rfl,.inl ⟨by rw [HEE.out];exact H0.out,rfl,HEE.out.symm⟩,dv.none_,by omega,HBE.out,fun a h=>by cases h⟩
end
section
open Go.RowKit Go.Shelf
theorem rQ (g:Nat)(A:Option Addr)(n c:Nat)(l:List Int)(x:Int)(w:World)(hg:Blk w g 34 #[.slice A n c])(hr:du w w.heap.size A n l)(hn:n≤1000) :
  Calls Tryz.prog 84 (#[.int .i64 x]++#[.pointer (some ⟨g,0,none⟩)]) w fun e w'=>e = .returned (.bool (memI l x))∧Below w.heap.size w w':=by
 have c0:=hg.cell 0;have cl:=hg.lt;have H:=lh (lB A n c l x w hr (Nat.le_trans hn (by unfold maxLen;omega)));clear hg hr
 go_enter Tryz.func84,Tryz.ntmps84
 go_wp2_with fail
 refine H.out.mono ?_;rintro e w' ⟨rfl,hb⟩
 go_wp2_with fail
 go_ret
 exact ⟨rfl,hb⟩
def hitB (l way:List Int):Bool:=way.any (memI l)
theorem rx {l way:List Int}:hitB l way=true↔∃ n∈way,n∈l:=by
 unfold hitB;rw [List.any_eq_true];constructor
 ·rintro ⟨n,h1,h2⟩;exact ⟨n,h1,qM.1 h2⟩
 ·rintro ⟨n,h1,h2⟩;exact ⟨n,h1,qM.2 h2⟩
theorem wO (g:Nat)(A:Option Addr)(n c:Nat)(l:List Int)(B:Option Addr)(m d:Nat)(way:List Int)(w:World)(hg:Blk w g 34 #[.slice A n c])(hr:du w w.heap.size A n l)(hn:n≤1000)(hw:du w w.heap.size B m way)(hm:m≤1000) :
  Calls Tryz.prog 83 #[.slice B m d,.func (.func 84) #[] #[.pointer (some ⟨g,0,none⟩)]] w fun e w'=>e = .returned (.bool (hitB l way))∧Below w.heap.size w w' :=
 ju 84 #[.pointer (some ⟨g,0,none⟩)] (memI l) B m d way w hw (Nat.le_trans hm (by unfold maxLen;omega)) (enters_of Tryz.func84 (by kernel_rfl) rfl)
  (fun x _ W hb=>rQ g A n c l x W (hg.below hb hg.lt) ((hr.below hb).more hb.size) hn)
def LL (s b:Nat)(W:World)(A:Option Addr)(xs:List Wy):Prop :=
 dv W b 1 A xs.length (xs.map Wy.val)∧∀ x∈xs,du W b x.A x.n x.l∧x.n≤13∧∀ a,x.A=some a→s≤a.block
theorem LL.below {s b:Nat}{W W':World}{A:Option Addr}{xs:List Wy}(h:LL s b W A xs)(hb:Below b W W'):LL s b W' A xs:=⟨h.1.below hb,fun x hx=>⟨(h.2 x hx).1.below hb,(h.2 x hx).2⟩⟩
theorem LL.more {s b b':Nat}{W:World}{A:Option Addr}{xs:List Wy}(h:LL s b W A xs)(hb:b≤b'):LL s b' W A xs:=⟨h.1.more hb,fun x hx=>⟨(h.2 x hx).1.more hb,(h.2 x hx).2⟩⟩
theorem LL.cell {s b:Nat}{W:World}{A:Option Addr}{xs:List Wy}(h:LL s b W A xs){i:Nat}(hi:i<xs.length) :
  ∃ g off x,A=some ⟨g,off,none⟩∧g<b∧xs[i]? =some x∧W.cell? ⟨g,off+i,none⟩=some x.val∧du W b x.A x.n x.l∧x.n≤13∧∀ a,x.A=some a→s≤a.block:=by
 obtain ⟨g,off,e,hb,hc⟩:=dv.plain h.1 (by simp;omega);have hx:xs[i]? =some xs[i]:=List.getElem?_eq_getElem hi;exact ⟨g,off,_,e,hb,hx,hc i _ (by rw [List.getElem?_map,hx];rfl),h.2 _ (List.mem_of_getElem? hx)⟩
theorem LL.own {s b base q:Nat}{W:World}{A:Option Addr}{xs:List Wy}(h:Own W base 34 1 A xs.length q (xs.map Wy.val))(hx:∀ x∈xs,x.own s W)(hb:W.heap.size≤b):LL s b W A xs :=
 ⟨h.reads hb,fun x h'=>⟨(hx x h').1.1.more hb,(hx x h').1.2,fun a e=>((hx x h').2 a e).1⟩⟩
theorem LL.one (s:Nat)(W:World)(x:Wy)(h:x.A=none)(hl:x.l=[])(hn:x.n=0):LL s (W.heap.size+1) (W.alloc (.cells #[x.val] 34)) (some ⟨W.heap.size,0,none⟩) [x]:=by
 have hB:=Blk.new W 34 #[x.val];refine ⟨mX (by omega) (hB.cell 0),fun y hy=>?_⟩;rw [List.mem_singleton.1 hy,h,hl,hn];exact ⟨dv.none_,by omega,fun a e=>by cases e⟩
def sH (a:Act)(W:World):Nat:=match a.tmps.getD 14 undef with
 | .slice (some ad) _ _=>(match W.cell? ad with | some (.slice _ k _)=>k | _=>0)
 | _=>0
theorem xS {a k:Nat}(hk:k≤a):lvlI a k≠[]:=by
 intro h;have h1:=(gS a k ((List.range k).map fun i:Nat=>(i:Int)+1)).2 ⟨by simp,?_,?_⟩
 ·rw [h] at h1;cases h1
 ·rw [List.pairwise_map]
  exact List.pairwise_lt_range.imp fun h=>by omega
 ·intro n hn
  obtain ⟨i,hi,rfl⟩:=List.mem_map.1 hn;have:=List.mem_range.1 hi;omega
theorem vO {a:Nat}{ws:List (List Int)}(h:∀ w∈ws,w≠[]∧∀ n∈w,1≤n∧n≤(a:Int))(hno:∀ y∈lvlI a a,¬ Hits ws y):False:=by
 refine hno _ ((gS a a ((List.range a).map fun i:Nat=>(i:Int)+1)).2 ⟨by simp,?_,?_⟩) (uh h)
 ·rw [List.pairwise_map]
  exact List.pairwise_lt_range.imp fun h=>by omega
 ·intro n hn
  obtain ⟨i,hi,rfl⟩:=List.mem_map.1 hn;have:=List.mem_range.1 hi;omega
theorem qt {s b a k n c:Nat}{W:World}{A:Option Addr}{xs:List Wy}{t:Act}(h:LL s b W A xs)(hl:xs.map Wy.l=lvlI a k)(hk:k≤a)(ht:t.tmps.getD 14 undef = .slice A n c):sH t W=k:=by
 have h0:0<xs.length:=by
  cases xs with
  | nil=>exact absurd hl.symm (xS hk)
  | cons x xs=>simp
 obtain ⟨g,off,x,rfl,_,hx,hc,hi,_⟩:=h.cell h0;have h1:x.l∈lvlI a k:=by rw [← hl];exact List.mem_map.2 ⟨x,List.mem_of_getElem? hx,rfl⟩
 have h2:=((gS a k x.l).1 h1).1;have h3:=hi.len;unfold sH;rw [ht];have hc':W.cell? ⟨g,off,none⟩=some x.val:=hc;simp only [hc'];omega
def extI (a:Nat)(l:List Int):List (List Int):=(iJ a l).map fun n=>l++[n]
theorem qu {a k i:Nat}{l:List Int}(h:(lvlI a k)[i]? =some l):((lvlI a k).take (i+1)).flatMap (extI a)=((lvlI a k).take i).flatMap (extI a)++extI a l:=by
 obtain ⟨hi,e⟩:=g_E h;rw [List.take_succ_eq_append_getElem hi,e,List.flatMap_append];simp
theorem uO {a k n:Nat}(h:(lvlI a k).length=n):((lvlI a k).take n).flatMap (extI a)=lvlI a (k+1):=by
 rw [← h,List.take_length];rfl
theorem oX {a:Nat}{l:List Int}{d:Nat}(h:d<a - (gM l).toNat):((iJ a l).take (d+1)).map (fun n=>l++[n])=((iJ a l).take d).map (fun n=>l++[n])++[l++[gM l+1+(d:Int)]]:=by
 have h1:d<(iJ a l).length:=by unfold iJ;simpa using h
 rw [List.take_succ_eq_append_getElem h1,List.map_append]
 congr 2
 simp [iJ]
theorem py {a:Nat}{l:List Int}{d:Nat}(h:a - (gM l).toNat≤d):((iJ a l).take d).map (fun n=>l++[n])=extI a l:=by
 unfold extI;rw [List.take_of_length_le (by unfold iJ;simpa using h)]
theorem ue {l:List Int}{n:Nat}{x:Int}(hn:l.length=n)(h0:0<n)(h:l[n - 1]? =some x):gM l=x:=by
 unfold gM;rw [List.getLast?_eq_getElem?,hn,h];rfl
structure Kp2 (b:Nat)(W W':World):Prop where
 bel:Below b W W'
 kp:KpR b b W W'
theorem Kp2.refl {b:Nat}{W:World}:Kp2 b W W:=⟨b_R,KpR.of_below b_R⟩
theorem Kp2.trans {b:Nat}{A B C:World}(h:Kp2 b A B)(k:Kp2 b B C):Kp2 b A C:=⟨h.bel.trans k.bel,h.kp.trans k.kp⟩
theorem Kp2.of_below {b:Nat}{A B:World}(h:Below A.heap.size A B)(hb:b≤A.heap.size):Kp2 b A B:=⟨h.mono hb,KpR.of_below h⟩
structure NL (s b:Nat)(W:World)(A:Option Addr)(c:Nat)(ys:List Wy):Prop where
 own:Own W b 34 1 A ys.length c (ys.map Wy.val)
 all:∀ y∈ys,y.own b W
theorem NL.below {s b c:Nat}{W W':World}{A:Option Addr}{ys:List Wy}(h:NL s b W A c ys)(hb:Below W.heap.size W W'):NL s b W' A c ys:=⟨h.own.below hb n_R,fun y hy=>(h.all y hy).below hb⟩
end
section
open Go.RowKit
section
variable {F:Fence} {n:Nat} {P:Program} {b:Frame} {a:Act} {k:List Item} {cs:List Frame} {w:World} {Q:Exit→Act→World→Prop}
theorem g9 {c:Code}:step P (lone (b.atR a (.code (.scope c)::k)) cs w) = .next (lone (b.atR a (.code c::.inScope c::k)) cs w) :=
 step_lone_go (by simp [stepG,stepG.exec,Frame.atR])
theorem oH {c:Code}:step P (lone (b.atR a (.inScope c::k)) cs w) = .next (lone (b.atR a k) cs w) :=
 step_lone_go (by simp [stepG,stepG.exec,Frame.atR])
theorem kS {c:Code}(h:c.wpIn F n P (Exit.noGoto Q) a w):(Code.scope c).wpIn F n P Q a w:=by
 intro b k cs hro hb hr;have h0:(lone (b.atR a (.code (.scope c)::k)) cs w).fenced P F:=fenced_calm hb hr rfl;obtain ⟨e,a₁,w₁,hq,harr⟩:=h b (.inScope c::k) cs hro hb hr
 cases e with
 | normal=>exact ⟨.normal,a₁,w₁,hq,.head h0 g9 (StepsIn.trans harr (.one (fenced_calm hb hr rfl) oH))⟩
 | exit id =>
  have hx:exitTo id (.inScope c::k)=exitTo id k:=by simp [exitTo]
  exact ⟨.exit id,a₁,w₁,hq,fun k' hk=>.head h0 g9 (harr.1 k' (by rw [hx];exact hk)),
   fun hr' hk=>let ⟨k₁,h1,h2⟩:=harr.2 hr' (by rw [hx];exact hk);⟨k₁,h1,.head h0 g9 h2⟩⟩
 | goto l=>exact hq.elim
 | ret=>exact ⟨_,a₁,w₁,hq,.of_steps (.one h0 g9) harr⟩
 | panic ch=>exact ⟨_,a₁,w₁,hq,.of_steps (.one h0 g9) harr⟩
 | outgrown=>exact ⟨_,a₁,w₁,hq,.of_steps (.one h0 g9) harr⟩
end
end
section
open Go.RowKit Go.Shelf
attribute [local go_sem] Oper.semAt_some
structure Ew2 {α β:Type}(P:α→β→Prop):Prop where
 ex:∃ a b,P a b
theorem kR {m:Mix}{A:List Held}{s:Int}:∀ (d t:Nat) (v:Int) (w:List Int),(folP m A s d t v w).length≤2 ^ d
 | 0,t,v,w=>by
  unfold folP
  split<;>simp
 | d+1,t,v,w=>by
  have h2:2 ^ (d+1)=2 ^ d+2 ^ d:=by rw [Nat.pow_succ];omega
  unfold folP
  split
  ·split
   ·have:=kR (m:=m) (A:=A) (s:=s) d (t+1) v w
    omega
   ·rename_i x all _ _ _
    rw [List.length_append];have h3:=kR (m:=m) (A:=A) (s:=s) d (t+1) v w;have h4:=kR (m:=m) (A:=A) (s:=s) d (t+1) (toI m x) (w++[(t:Int)+1])
    split<;>split<;>(try simp only [List.length_nil])<;>omega
  ·simp
theorem nz {α:Type}{g:Nat→List α}{K:Nat}:∀ n:Nat,(∀ i<n,(g i).length≤K)→((List.range n).flatMap g).length≤n * K
 | 0,_=>by simp
 | n+1,h=>by
  have h1:=nz n fun i hi=>h i (by omega);have h2:=h n (by omega);have h3:(n+1) * K=n * K+K:=Nat.succ_mul n K;rw [List.range_succ,List.flatMap_append,List.length_append];simp only [List.flatMap_cons,List.flatMap_nil,List.append_nil];omega
theorem sd {m:Mix}{A:List Held}{f s:Int}{n:Nat}(hn:n≤m.acts.length)(ha:m.acts.length≤12):(im m A f s n).length≤1000000:=by
 have h1:((List.range n).flatMap (kT m A f s n)).length≤n * 4096:=nz n fun i hi=>by
  unfold kT
  split
  ·split
   ·rename_i x _ _
    have h2:=kR (m:=m) (A:=A) (s:=s) (n - (i+1)) (i+1) (idxV m.vessels x.to) [(i:Int)+1];have h3:2 ^ (n - (i+1))≤2 ^ 12:=Nat.pow_le_pow_right (by omega) (by omega);omega
   ·simp
  ·simp
 rw [wS];omega
theorem t5 (a:Nat)(l:List Int):(iJ a l).length≤a:=by
 unfold iJ;simp
theorem nu {a:Nat}(ha:a≤12):∀ L:List (List Int),(L.flatMap (extI a)).length≤12 * L.length
 | []=>by simp
 | x::L=>by
  have h1:=nu ha L;have h2:=t5 a x;rw [List.flatMap_cons,List.length_append,List.length_cons];have h3:(extI a x).length=(iJ a x).length:=by unfold extI;simp
  omega
theorem w7:((List.range 13).all fun a=>(List.range (a+1)).all fun k=>decide ((lvlI a k).length≤1000000))=true:=by kernel_rfl
theorem th {a k:Nat}(ha:a≤12)(hk:k≤a):(lvlI a k).length≤1000000 :=
 of_decide_eq_true (List.all_eq_true.1 (List.all_eq_true.1 w7 a (List.mem_range.2 (by omega))) k (List.mem_range.2 (by omega)))
inductive uq (v2 v13 v14:Value):Act→Prop
 | mk (a b c d e f g h i j k l m n o p q r s t w x y z A B C D E F G H I J K L M N O P Q R S T U V W X Y Z aa ab ac ad ae af ag ah ai aj ak al am an ao ap aq ar aw ax ay az aA aB aC aD aE aF aG aH aI aJ aK aL:Value):uq v2 v13 v14 ⟨#[a,b,v2,c,d,e,f,g,h,i,j,k,l,v13,v14,m,n,o,p,q,r,s,t,w,x,y,z,A,B,C,D,E,F,G,H,I,J,K,L,M,N,O,P,Q,R,S,T,U,V,W,X,Y,Z,aa,ab,ac,ad,ae,af,ag,ah,ai,aj,ak,al,am,an,ao,ap,aq,ar,aw,ax,ay,az,aA,aB,aC,aD,aE,aF,aG,aH,aI,aJ,aK,aL],[]⟩
inductive vE (v2 v13 v14 v15 v44 v45 v46:Value):Act→Prop
 | mk (a b c d e f g h i j k l m n o p q r s t w x y z A B C D E F G H I J K L M N O P Q R S T U V W X Y Z aa ab ac ad ae af ag ah ai aj ak al am an ao ap aq ar aw ax ay az aA aB aC aD aE aF aG aH:Value):vE v2 v13 v14 v15 v44 v45 v46 ⟨#[a,b,v2,c,d,e,f,g,h,i,j,k,l,v13,v14,v15,m,n,o,p,q,r,s,t,w,x,y,z,A,B,C,D,E,F,G,H,I,J,K,L,M,N,O,P,v44,v45,v46,Q,R,S,T,U,V,W,X,Y,Z,aa,ab,ac,ad,ae,af,ag,ah,ai,aj,ak,al,am,an,ao,ap,aq,ar,aw,ax,ay,az,aA,aB,aC,aD,aE,aF,aG,aH],[]⟩
inductive vy (v2 v13 v14 v15 v17 v44 v45 v46 v50 v51 v52:Value):Act→Prop
 | mk (a b c d e f g h i j k l m n o p q r s t w x y z A B C D E F G H I J K L M N O P Q R S T U V W X Y Z aa ab ac ad ae af ag ah ai aj ak al am an ao ap aq ar aw ax ay az aA aB aC aD:Value):vy v2 v13 v14 v15 v17 v44 v45 v46 v50 v51 v52 ⟨#[a,b,v2,c,d,e,f,g,h,i,j,k,l,v13,v14,v15,m,v17,n,o,p,q,r,s,t,w,x,y,z,A,B,C,D,E,F,G,H,I,J,K,L,M,N,O,v44,v45,v46,P,Q,R,v50,v51,v52,S,T,U,V,W,X,Y,Z,aa,ab,ac,ad,ae,af,ag,ah,ai,aj,ak,al,am,an,ao,ap,aq,ar,aw,ax,ay,az,aA,aB,aC,aD],[]⟩
inductive sb (v2 v13 v14 v15 v17 v21 v44 v45 v46:Value):Act→Prop
 | mk (a b c d e f g h i j k l m n o p q r s t w x y z A B C D E F G H I J K L M N O P Q R S T U V W X Y Z aa ab ac ad ae af ag ah ai aj ak al am an ao ap aq ar aw ax ay az aA aB aC aD aE aF:Value):sb v2 v13 v14 v15 v17 v21 v44 v45 v46 ⟨#[a,b,v2,c,d,e,f,g,h,i,j,k,l,v13,v14,v15,m,v17,n,o,p,v21,q,r,s,t,w,x,y,z,A,B,C,D,E,F,G,H,I,J,K,L,M,N,v44,v45,v46,O,P,Q,R,S,T,U,V,W,X,Y,Z,aa,ab,ac,ad,ae,af,ag,ah,ai,aj,ak,al,am,an,ao,ap,aq,ar,aw,ax,ay,az,aA,aB,aC,aD,aE,aF],[]⟩
def uu (w:World)(m:Mix)(v a f:Int)(e:Ending)(w':World):Prop :=
 ∃ l A n c x,e = .returned (.tuple #[.slice A n c,.int .i64 x])∧iQ m v a f l x∧du w' w'.heap.size A n l∧n≤13∧Below w.heap.size w w'∧∀ ad,A=some ad→w.heap.size≤ad.block
theorem qV (Av:Option Addr)(nv cv:Nat)(Aa:Option Addr)(na ca:Nat)(At:Option Addr)(nt ct:Nat)(m:Mix)(vessel after fountain:Int)(w:World)(h:MixS w Av nv Aa na At nt m)(hca:na≤ca∧ca≤maxLen) :
  CallsIn Fence.wide 9 Tryz.prog 41 #[.agg #[.int .i64 m.fountains,.slice Av nv cv,.slice Aa na ca,.slice At nt ct],.int .i64 vessel,.int .i64 after,.int .i64 fountain] w (uu w m vessel after fountain):=by
 have HM:=lh h;have HCA:=lh hca;clear h hca;refine callsIn_of_wp Tryz.func41 rfl trivial ?_ rfl;simp only [Tryz.ntmps41,es,Nat.reduceAdd,Nat.reduceSub];gi_upto_region 1 with fail
 have Ly:=lh (Lay.one w 26 #[.int .i64 m.fountains,.slice Av nv cv,.slice Aa na ca,.slice At nt ct]);generalize (w.alloc (.cells #[.int .i64 m.fountains,.slice Av nv cv,.slice Aa na ca,.slice At nt ct] 26))=w0 at *;obtain ⟨x0_0,x0_1,x0_2,x0_3⟩:=lyc4 Ly 0 rfl;have l0_:=Ly.out.lt 0 rfl;gi_wp2;clear x0_0 x0_1 x0_2 x0_3 l0_;have Y:=du.new w0 3 [fountain] (w0.heap.size+1) (by omega);have hb1:Below w0.heap.size w0 (w0.alloc (.cells #[.int .i64 fountain] 3)):=b_R.alloc n_R _;have hc:=jC Av nv cv Aa na ca At nt ct m vessel after (some ⟨w0.heap.size,0,none⟩) 1 1 [fountain] _ (HM.out.up (Ly.out.1.trans (hb1.mono Ly.out.1.size))) (Y.more (by simp)) (by decide);refine ⟨trivial,(c_W hc).mono ?_⟩;clear hc Y;generalize (w0.alloc (.cells #[.int .i64 fountain] 3))=W00 at *;rintro e W8 ⟨pp,s1,s2,rfl,hb,hp⟩;have HP:=lh hp;have hbb:=hb1.trans (hb.mono hb1.size);clear hb hb1 hp;have HB8:=lh (Ly.out.1.trans (hbb.mono Ly.out.1.size));clear hbb Ly
 obtain ⟨ee,hee⟩:∃ ee,askM m vessel after [fountain]=ee:=⟨_,rfl⟩
 rw [hee] at HP ⊢;have HEE:=lh hee;clear hee;gi_upto_region 2 with fail
 have HS1:=lh (Blk.new W8 109 #[.int .i64 s1,.int .i64 s2]);have hb9:Below W8.heap.size W8 (W8.alloc (.cells #[.int .i64 s1,.int .i64 s2] 109)):=b_R.alloc n_R _;have HB9:=lh hb9;clear hb9;generalize (W8.alloc (.cells #[.int .i64 s1,.int .i64 s2] 109))=V1 at *
 obtain ⟨G2,hG⟩:∃ g,W8.heap.size=g:=⟨_,rfl⟩
 have HBE:=lh (HB8.out.trans (HB9.out.mono HB8.out.size));rw [hG] at HS1 ⊢;clear hG;by_cases h0:ee=0
 ·obtain ⟨hk,h1,h2,h3,h4,T,rfl,hTm,hTL,hTg,hT,hMA,hTc⟩:=HP.out h0
  subst h0;subst h2
  obtain ⟨q,hq⟩:∃ q:Nat,s1=q:=⟨s1.toNat,by omega⟩
  subst hq
  obtain ⟨k,hkk⟩:∃ k:Nat,s2=k:=⟨s2.toNat,by omega⟩
  subst hkk;have HQ:Hid ((q:Int)=idxV m.vessels vessel∧k≤m.acts.length∧m.acts.length≤12∧m.vessels.length≤4):=lh ⟨h1,by omega,(fj hk).2.1,(fj hk).1⟩;have HOK:Hid (TbOk T):=lh ⟨by rw [hTm];exact hk,by rw [hTm];exact hTL⟩;have HTM:=lh hTm;have HTL:=lh hTL;have HT:=lh (hT.at_.below HB9.out)
  have HTC:Hid (T.na≤T.ca∧T.ca≤maxLen):=lh (by
   have h5:=hT.at_.mix.lenA;have h6:=HM.out.at_.lenA;rw [hTm] at h5;rw [hTc];have h7:=HCA.out
   omega)
  clear HP hk h1 h3 h4 hTm hTL hTg hT hMA hTc HB9;have d0:=HS1.out.cell 0;have d1:=HS1.out.cell 1;have dl:=HS1.out.lt;gi_wp2;clear d0 d1 dl;refine ⟨trivial,(callsIn_wide.2 (rI T.g q k fountain V1)).mono ?_⟩;rintro e V2 ⟨rfl,hL⟩;have HL:=lh hL;have HT2:=lh (HT.out.below hL.1);clear hL;have HWL:Hid ((im T.m T.L fountain q k).length≤1000000):=lh (sd (by rw [HTM.out];exact HQ.out.2.1) (by rw [HTM.out];exact HQ.out.2.2.1));have HSQ:=lh (fun v hv=>pi (V1.heap.size+1) V1.heap.size (V1.heap.size+1+1) q k fountain T V2 v hv HOK.out (by rw [HTM.out];exact HQ.out.2.1) HTC.out HT2.out (HL.out.blk 1 rfl) (HL.out.blk 0 rfl) (HL.out.blk 2 rfl));have HFR:=lh (ry 113 #[.pointer (some ⟨V1.heap.size+1,0,none⟩),.pointer (some ⟨V1.heap.size,0,none⟩),.pointer (some ⟨V1.heap.size+1+1,0,none⟩)] _ _ V2 HWL.out (enters_of Tryz.func113 (by kernel_rfl) rfl) HSQ.out);have HB2:=lh (HBE.out.trans (HL.out.1.mono HBE.out.size));gi_wp2;refine ⟨trivial,(callsIn_wide.2 HFR.out).mono ?_⟩;clear HFR HSQ;unfold ll;rintro e V3 ⟨xs,Bw,qw,hxs,hlen,rfl,hown,hall,hb3⟩
  have hmem:∀ l,l∈im T.m T.L fountain q k↔fZ m T.L fountain (k:Int).toNat (idxV m.vessels vessel) l:=fun l=>by
   rw [← HQ.out.1,Int.toNat_natCast,HTM.out];exact mc HTL.out HQ.out.2.2.2 HQ.out.2.1
  rw [← hxs] at hmem
  obtain ⟨ws,hws⟩:∃ ws,xs.map Wy.l=ws:=⟨_,rfl⟩
  rw [hws] at hmem;have HWS:=lh hws;have HMEM:=lh hmem;have HB3:=lh (HB2.out.trans (hb3.mono HB2.out.size));have HLW:=lh (LL.own hown hall n_R);have hlw:xs.length≤1000000:=by have:=HWL.out;omega
  obtain ⟨nw,hnw⟩:∃ nw,xs.length=nw:=⟨_,rfl⟩
  rw [hnw] at hlw ⊢;have HNW:=lh hnw;clear hmem hown hall hb3 hxs hlen hws hnw HL HT HT2 HWL;by_cases h0:nw=0
  ·
   subst h0;gi_wp2;refine bodyPost_ret (v:=.tuple #[.slice none 0 0,.int .i64 6]) (by simp [results,Tryz.results41,go_sem]) rfl ?_;refine ⟨[],none,0,0,6,rfl,.inr ⟨HEE.out,T.L,HTL.out,.inl ⟨fun l hl=>?_,rfl,rfl⟩⟩,dv.none_,by omega,HB3.out,fun a h=>by cases h⟩;have h1:=(HMEM.out l).2 hl;rw [← HWS.out,List.eq_nil_of_length_eq_zero HNW.out] at h1;cases h1
  ·
   have h0b:(nw==0)=false:=by simpa using h0
   have h0c:¬ (nw:Int)=0:=by omega
   gi_upto_region 8 with fail
   have HL0:=lh (LL.one w.heap.size V3 ⟨[],none,0,0⟩ rfl rfl rfl);have hb4:Below V3.heap.size V3 (V3.alloc (.cells #[.slice none 0 0] 34)):=b_R.alloc n_R _;have HB4:=lh (HB3.out.trans (hb4.mono HB3.out.size));have HLW4:=lh (HLW.out.below hb4);have hz4:(V3.alloc (.cells #[.slice none 0 0] 34)).heap.size=V3.heap.size+1:=by simp
   have HZ4:=lh hz4;have HV3:Hid (w.heap.size≤V3.heap.size):=lh HB3.out.size;clear hb4 hz4 HLW
   obtain ⟨b0,hb0⟩:∃ b,V3.heap.size=b:=⟨_,rfl⟩
   rw [hb0] at HL0 HLW4 HZ4 HV3 ⊢;generalize (V3.alloc (.cells #[.slice none 0 0] 34))=V4 at *;clear hb0 HB3 HB2 HBE
   have HWB:Hid (∀ y∈ws,y≠[]∧∀ n∈y,1≤n∧n≤(k:Int)):=lh fun y hy=>by
    have h1:=(HMEM.out y).1 hy;rw [Int.toNat_natCast] at h1;exact ⟨h1.ne,h1.le⟩
   have hk12:k≤12:=by have:=HQ.out;omega
   refine wpIn_loop (fun a W=>∃ (A:Option Addr) (n c:Nat),Hid (Ew2 fun (lv:Nat) (L:List Wy)=>lv≤k∧L.map Wy.l=lvlI k lv∧L.length=n∧LL w.heap.size W.heap.size W A L∧Below b0 V4 W∧∀ k'<lv,∀ y∈lvlI k k',¬ Hits ws y)∧uq (.int .i64 (k:Int)) (.slice Bw nw qw) (.slice A n c) a) (fun a W=>k - sH a W) ?_ ?_
   ·exact ⟨some ⟨b0,0,none⟩,1,1,lh ⟨0,_,Nat.zero_le _,rfl,rfl,by rw [HZ4.out];exact HL0.out,b_R,fun k' h=>absurd h (Nat.not_lt_zero _)⟩,by constructor⟩
   clear HL0;rintro a W ⟨A,n,c,HS,ha⟩;have hlv9:∀ lv L,lv≤k→L.map Wy.l=lvlI k lv→LL w.heap.size W.heap.size W A L→sH a W=lv:=fun lv L h1 h2 h3=>qt (n:=n) (c:=c) h3 h2 h1 (by cases ha;rfl);cases ha;obtain ⟨lv,L,hs9⟩:=HS.out;replace HS:=lh hs9;rw [hlv9 lv L hs9.1 hs9.2.1 hs9.2.2.2.1];clear hs9 hlv9;have HN:Hid (n≤1000000):=lh (by have h1:=congrArg List.length HS.out.2.1;rw [List.length_map,HS.out.2.2.1] at h1;rw [h1];exact th hk12 HS.out.1);have HLB:=lh HS.out.2.2.2.1;have HWW:=lh (HLW4.out.below HS.out.2.2.2.2.1);have HSZ:Hid (b0+1≤W.heap.size):=lh (by rw [← HZ4.out];exact HS.out.2.2.2.2.1.size);have hn6:=HN.out;gi_wp2;refine kS ?_;gi_wp2;refine wpIn_label ?_;gi_wp2;refine wpIn_loop (fun a W1=>∃ (i:Nat) (A2:Option Addr) (n2 c2:Nat),Hid (Ew1 fun (ys:List Wy)=>i≤n∧ys.length=n2∧ys.map Wy.l=((lvlI k lv).take i).flatMap (extI k)∧(∀ j y,j<i→(lvlI k lv)[j]? =some y→¬ Hits ws y)∧NL w.heap.size W.heap.size W1 A2 c2 ys∧Kp2 W.heap.size W W1)∧vE (.int .i64 (k:Int)) (.slice Bw nw qw) (.slice A n c) (.slice A2 n2 c2) (.slice A n c) (.int .i64 (n:Int)) (.int .i64 (i:Int)) a) (fun a _=>n - (intOf (a.tmps.getD 46 undef)).toNat) ?_ ?_
   ·exact ⟨0,none,0,0,lh ⟨[],Nat.zero_le _,rfl,rfl,fun j y h=>absurd h (Nat.not_lt_zero _),⟨Own.none_ _ _ _ _,fun y hy=>by cases hy⟩,Kp2.refl⟩,by constructor⟩
   rintro a W1 ⟨i,A2,n2,c2,HI,ha⟩;cases ha;obtain ⟨ys,hs9⟩:=HI.out;replace HI:=lh hs9;clear hs9;by_cases hlt:i<n
   ·
    obtain ⟨ga,oa,x,hA,hga,hx,cx,hxi,hx13,hxs⟩:=(HLB.out.below HI.out.2.2.2.2.2.bel).cell (i:=i) (by rw [HS.out.2.2.1];exact hlt);have hxl:(lvlI k lv)[i]? =some x.l:=by rw [← HS.out.2.1,List.getElem?_map,hx];rfl
    have HXL:=lh hxl;have HXI:=lh hxi;have HXS:=lh hxs;have HAA:=lh hA;have hgl:ga<W1.heap.size:=Nat.lt_of_lt_of_le hga HI.out.2.2.2.2.2.bel.size;obtain ⟨xl,xA,xn,xc⟩:=x;dsimp only [Wy.val] at *;have hxn:xl.length=xn:=hxi.len;have HXN:=lh hxn;have HUP:=lh ((gS k lv xl).1 (List.mem_of_getElem? hxl));rw [hA];clear hA hga hx hxl hxi hxs hxn;gi_upto_region 12 with fail
    rw [← HAA.out];clear cx hgl;have hbk:Blk (W1.alloc (.cells #[.slice xA xn xc] 34)) W1.heap.size 34 #[.slice xA xn xc]:=Blk.new W1 34 _;have hb2:Below W1.heap.size W1 (W1.alloc (.cells #[.slice xA xn xc] 34)):=b_R.alloc n_R _;have HBK:=lh hbk;have HB2:=lh hb2
    have HGX:Hid (∀ r,A2.map (·.block)=some r→r≠W1.heap.size):=lh fun r hr e=>by
     have h1:=(gP HI.out.2.2.2.2.1.own r hr).2;obtain ⟨cs,h1⟩:=h1;have h2:=h1.lt;omega
    clear hbk hb2
    obtain ⟨gx,hgx⟩:∃ g,W1.heap.size=g:=⟨_,rfl⟩
    rw [hgx] at HBK HGX ⊢;have HGG:Hid (W.heap.size≤gx):=lh (by have:=HI.out.2.2.2.2.2.bel.size;omega);generalize (W1.alloc (.cells #[.slice xA xn xc] 34))=W2 at *;have HK2:=lh (show Kp2 W.heap.size W W2 from HI.out.2.2.2.2.2.trans (Kp2.of_below (by rw [hgx];rw [hgx] at HB2;exact HB2.out) HI.out.2.2.2.2.2.bel.size));have HN2:=lh (show NL w.heap.size W.heap.size W2 A2 c2 ys from HI.out.2.2.2.2.1.below (by rw [hgx];rw [hgx] at HB2;exact HB2.out));have HXI2:=lh (show du W2 W.heap.size xA xn xl from HXI.out.below (show Below W.heap.size W1 W2 from by rw [hgx] at HB2;exact HB2.out.mono (by have:=HI.out.2.2.2.2.2.bel.size;omega)));clear hgx HB2;gi_wp2;refine wpIn_loop (fun a W3=>∃ (j:Nat),Hid (j≤nw∧(∀ y∈ws.take j,∃ n∈y,n∈xl)∧Below W2.heap.size W2 W3)∧vy (.int .i64 (k:Int)) (.slice Bw nw qw) (.slice A n c) (.slice A2 n2 c2) (.pointer (some ⟨gx,0,none⟩)) (.slice A n c) (.int .i64 (n:Int)) (.int .i64 (i:Int)) (.slice Bw nw qw) (.int .i64 (nw:Int)) (.int .i64 (j:Int)) a) (fun a _=>nw - (intOf (a.tmps.getD 52 undef)).toNat) ?_ ?_
    ·exact ⟨0,lh ⟨Nat.zero_le _,(fun y hy=>by cases hy),b_R⟩,by constructor⟩
    rintro a W3 ⟨j,HJ,ha⟩;cases ha;have HK3:=lh (HK2.out.trans (Kp2.of_below HJ.out.2.2 HK2.out.bel.size));have HB3:=lh (HBK.out.below HJ.out.2.2 HBK.out.lt);by_cases hjt:j<nw
    ·
     obtain ⟨gb,ob,y,hB,hgb,hy,cy,hyi,hy13,_⟩:=((HWW.out.below (HK3.out.bel.mono (by have:=HSZ.out;omega)))).cell (i:=j) (by rw [HNW.out];exact hjt);have hyl:ws[j]? =some y.l:=by rw [← HWS.out,List.getElem?_map,hy];rfl
     have HYL:=lh hyl;have HBB:=lh hB;have hgl:gb<W3.heap.size:=by have h1:=HK3.out.bel.size;have h2:=HSZ.out;omega
     obtain ⟨yl,yA,yn,yc⟩:=y;dsimp only [Wy.val] at *;have HX3:=lh (HXI2.out.below (HJ.out.2.2.mono HK2.out.bel.size));have hh:=wO gx xA xn xc xl yA yn yc yl W3 HB3.out (HX3.out.more HK3.out.bel.size) (by omega) (hyi.more (by have h1:=HK3.out.bel.size;have h2:=HSZ.out;omega)) (by omega)
     obtain ⟨hb_,hhb⟩:∃ hb_,hitB xl yl=hb_:=⟨_,rfl⟩
     rw [hhb] at hh;have HH:=lh hh;have HHB:=lh hhb;rw [hB];have c17:=HB3.out.cell 0;have l17:=HB3.out.lt;clear hB hgb hy hyl hyi hh hhb;gi_wp2;refine ⟨trivial,(callsIn_wide.2 HH.out).mono ?_⟩;rintro e W5 ⟨rfl,hb5⟩;rw [← HBB.out];have HB5:=lh hb5;have HB53:=lh (HB3.out.below hb5 HB3.out.lt);have HK5:=lh (HK3.out.trans (Kp2.of_below hb5 HK3.out.bel.size));have HX5:=lh (HX3.out.below (hb5.mono HK3.out.bel.size));clear cy hgl c17 l17 hb5 HH
     cases hb_ with
     | true =>
      gi_wp2;refine ⟨⟨j+1,lh ⟨hjt,fun y hy=>?_,HJ.out.2.2.trans (HB5.out.mono HJ.out.2.2.size)⟩,by rw [show ((j+1:Nat):Int)=(j:Int)+1 from by omega];first | constructor | (rw [HBB.out];constructor)⟩,?_⟩
      ·obtain ⟨hj1,hj2⟩:=g_E HYL.out
       rw [List.take_succ_eq_append_getElem hj1,hj2] at hy;rcases List.mem_append.1 hy with hy | hy
       ·exact HJ.out.2.1 y hy
       ·rw [List.mem_singleton.1 hy]
        exact rx.1 HHB.out
      ·simp [intOf]<;>omega
     | false =>
      have HNH:Hid (¬ Hits ws xl):=lh fun h=>by
       have h1:=rx.2 (h yl (List.mem_of_getElem? HYL.out));rw [HHB.out] at h1;cases h1
      have HLA:=lh (nh HUP.out.2);have HN5:=lh (HN2.out.below (HJ.out.2.2.trans (HB5.out.mono HJ.out.2.2.size)))
      obtain ⟨la,hla⟩:∃ la,gM xl=la:=⟨_,rfl⟩
      rw [hla] at HLA;have HLI:=lh hla;clear hla;by_cases hx0:xn=0
      ·
       subst hx0;obtain rfl:xl=[]:=List.eq_nil_of_length_eq_zero HXN.out;obtain rfl:la=0:=HLI.out.symm;have c17:=HB53.out.cell 0;have l17:=HB53.out.lt;gi_wp2;clear c17 l17;refine wpIn_loop (fun a W6=>∃ (d:Nat) (t:Int) (A3:Option Addr) (n3 c3:Nat),Hid (Ew1 fun (zs:List Wy)=>t=(0:Int)+1+(d:Int)∧d≤k - ((0:Int)).toNat∧zs.length=n3∧zs.map Wy.l=((lvlI k lv).take i).flatMap (extI k)++((iJ k ([]:List Int)).take d).map (fun n=>([]:List Int)++[n])∧NL w.heap.size W.heap.size W6 A3 c3 zs∧Kp2 W.heap.size W W6∧Blk W6 gx 34 #[.slice xA 0 xc]∧(∀ r,A3.map (·.block)=some r→r≠gx)∧du W6 W.heap.size xA 0 ([]:List Int))∧sb (.int .i64 (k:Int)) (.slice Bw nw qw) (.slice A n c) (.slice A3 n3 c3) (.pointer (some ⟨gx,0,none⟩)) (.int .i64 (t:Int)) (.slice A n c) (.int .i64 (n:Int)) (.int .i64 (i:Int)) a) (fun a _=>((k:Int)+1 - intOf (a.tmps.getD 21 undef)).toNat) ?_ ?_
       ·exact ⟨0,(0:Int)+1,A2,n2,c2,lh ⟨ys,by omega,Nat.zero_le _,HI.out.2.1,by rw [List.take_zero,List.map_nil,List.append_nil];exact HI.out.2.2.1,HN5.out,HK5.out,HB53.out,HGX.out,HX5.out⟩,by constructor⟩
       rintro a W6 ⟨d,t,A3,n3,c3,HD,ha⟩;cases ha;obtain ⟨zs,hs9⟩:=HD.out;replace HD:=lh hs9;obtain ⟨rfl,hd9⟩:=hs9;clear hd9;have hla0:0≤(0:Int):=HLA.out.1;have hlak:(0:Int)≤(k:Int):=HLA.out.2;by_cases htk:(0:Int)+1+(d:Int)≤(k:Int)
       ·
        have c17:=HD.out.2.2.2.2.2.2.1.cell 0;have l17:=HD.out.2.2.2.2.2.2.1.lt;have HIW:=lh (HD.out.2.2.2.2.2.2.2.2.more HD.out.2.2.2.2.2.1.bel.size);have hxn12:0≤12:=by have h1:=HUP.out.1;have h2:=HXN.out;have h3:=HS.out.1;omega
        have HSW:Hid (W.heap.size≤W6.heap.size):=lh HD.out.2.2.2.2.2.1.bel.size
        have hzn:n3≤13000000:=by
         have h1:=congrArg List.length HD.out.2.2.2.1;have h2:=nu (a:=k) hk12 ((lvlI k lv).take i);have h3:=HD.out.2.2.1;have h4:=HD.out.2.1;simp only [List.length_map,List.length_append,List.length_take] at h1 h2;omega
        have HNL6:=lh (show Own W6 W.heap.size 34 1 A3 n3 c3 (zs.map Wy.val) from by have h1:=HD.out.2.2.2.2.1.own;rwa [HD.out.2.2.1] at h1);gi_wp2;refine ⟨trivial,(callsIn_wide.2 (iS xA (0) xc (([]:List Int)) W6 HIW.out (by unfold maxLen;omega) (by omega))).mono ?_⟩;rintro e W7 ⟨A9,c9,rfl,hO,hCn,hb7⟩;have HO7:=lh (hO.alloc (.cells #[.int .i64 ((0:Int)+1+(d:Int))] 3));have HOB:Hid (Blk (W7.alloc (.cells #[.int .i64 ((0:Int)+1+(d:Int))] 3)) W7.heap.size 3 #[.int .i64 ((0:Int)+1+(d:Int))]):=lh (Blk.new _ _ _);have hal:Below W6.heap.size W6 (W7.alloc (.cells #[.int .i64 ((0:Int)+1+(d:Int))] 3)):=hb7.trans ((b_R.alloc n_R _).mono hb7.size);have HAL:=lh hal;clear c17 l17 hO hCn hb7 hal
        gi_wp2_with (first | (gi_at_builtin;refine eJ rfl (.tmp 77) (.tmp 79) (by rfl) fW rfl HO7.out rfl (lI (x:=(0:Int)+1+(d:Int)) HOB.out.lt (HOB.out.cell 0)) (fY _) (by unfold maxLen;omega) (by omega) HAL.out.size ?_) | fail)
        rintro A10 c10 W10 hown hg hA;have hb10:Below W6.heap.size W6 W10:=HAL.out.grown hg HAL.out.size (fun r e=>(gP HO7.out r e).1);have HO10:=lh (show Own W10 W6.heap.size 3 1 A10 (0+1) c10 ((([]:List Int)++[(0:Int)+1+(d:Int)]).map (Value.int .i64)) from by rw [List.map_append];exact hown);have hb11:Below W6.heap.size W6 (W10.alloc (.cells #[.slice A10 (0+1) c10] 34)):=hb10.trans ((b_R.alloc n_R _).mono hb10.size);have HB11:=lh hb11;have HO11:=lh (HO10.out.alloc (.cells #[.slice A10 (0+1) c10] 34));have HNL:=lh (HNL6.out.below hb11 n_R);have HOB2:Hid (Blk (W10.alloc (.cells #[.slice A10 (0+1) c10] 34)) W10.heap.size 34 #[.slice A10 (0+1) c10]):=lh (Blk.new _ _ _);clear hown hg hA hb10 hb11 HAL HOB HO7 HO10
        gi_wp2_with (first | (gi_at_builtin;refine eJ rfl (.tmp 75) (.tmp 81) (by rfl) my rfl HNL.out rfl (mX (x:=.slice A10 (0+1) c10) HOB2.out.lt (HOB2.out.cell 0)) (fun u hu=>by rw [List.mem_singleton.1 hu];rfl) (by unfold maxLen;omega) (by omega) (Nat.le_trans HSW.out HB11.out.size) ?_) | fail)
        rintro A11 c11 W12 hown hg hA;have hkr:KpR W.heap.size W.heap.size (W10.alloc (.cells #[.slice A10 (0+1) c10] 34)) W12:=KpR.of_row hg (fun r e=>gP HNL.out r e)
        have hkp:Kp2 W.heap.size W6 W12:=⟨(HB11.out.mono HSW.out).grown hg (Nat.le_trans HSW.out HB11.out.size) (fun r e=>(gP HNL.out r e).1),(KpR.of_below HB11.out).trans hkr⟩
        have HKP:=lh hkp;have hgx0:=HD.out.2.2.2.2.2.2.1.below HB11.out HD.out.2.2.2.2.2.2.1.lt;have HGX9:=lh (hgx0.grown hg (fun e=>HD.out.2.2.2.2.2.2.2.1 gx e.symm rfl))
        have HGA:Hid (∀ r,A11.map (·.block)=some r→r≠gx):=lh fun r hr ee9=>by
         rcases hA with h1 | h1
         ·exact HD.out.2.2.2.2.2.2.2.1 r (by rw [← h1];exact hr) ee9
         ·rw [h1] at hr
          have h2:W10.heap.size+1=r:=Option.some.inj hr;have h3:=hgx0.lt;rw [World.size_alloc] at h3;omega
        have HNEW:Hid (Wy.own W.heap.size ⟨([]:List Int)++[(0:Int)+1+(d:Int)],A10,0+1,c10⟩ W12):=lh (Wy.own.kp ⟨⟨fG HO11.out n_R,by dsimp only;omega⟩,Safe.own HO11.out HSW.out⟩ hkr);have HOWN:=lh hown;clear hown hg hA hkr hkp hgx0 HO11 HNL HOB2 HB11;gi_wp2;refine ⟨⟨d+1,(0:Int)+1+(d:Int)+1,A11,n3+1,c11,lh ⟨zs++[⟨([]:List Int)++[(0:Int)+1+(d:Int)],A10,0+1,c10⟩],by omega,by omega,by rw [List.length_append,HD.out.2.2.1];rfl,?_,⟨?_,?_⟩,HD.out.2.2.2.2.2.1.trans HKP.out,HGX9.out,HGA.out,HD.out.2.2.2.2.2.2.2.2.below HKP.out.bel⟩,by constructor⟩,?_⟩
        ·rw [List.map_append,HD.out.2.2.2.1,oX (by rw [HLI.out];omega),HLI.out,List.append_assoc]
         rfl
        ·have h1:=HOWN.out
         rw [List.length_append,HD.out.2.2.1,List.map_append];exact h1
        ·intro y hy
         rcases List.mem_append.1 hy with hy | hy
         ·exact (HD.out.2.2.2.2.1.all y hy).kp HKP.out.kp
         ·rw [List.mem_singleton.1 hy]
          exact HNEW.out
        ·simp [intOf]
         omega
       ·
        have hmap:zs.map Wy.l=((lvlI k lv).take (i+1)).flatMap (extI k):=by rw [HD.out.2.2.2.1,qu HXL.out,py (by rw [HLI.out];omega)]
        have HMAP:=lh hmap;clear hmap;gi_wp2;refine ⟨⟨i+1,A3,n3,c3,lh ⟨zs,hlt,HD.out.2.2.1,HMAP.out,fun j y hj hy=>?_,HD.out.2.2.2.2.1,HD.out.2.2.2.2.2.1⟩,by rw [show ((i+1:Nat):Int)=(i:Int)+1 from by omega];first | constructor | (rw [HBB.out];constructor) | (rw [HAA.out];constructor)⟩,?_⟩
        ·by_cases e9:j=i
         ·subst e9
          rw [HXL.out] at hy;obtain rfl:=Option.some.inj hy;exact HNH.out
         ·exact HI.out.2.2.2.1 j y (by omega) hy
        ·simp [intOf]<;>omega
      ·
       obtain ⟨e,rfl⟩:∃ e,xn=e+1:=⟨xn - 1,by omega⟩
       obtain ⟨gz,oz,z,hzA,hzb,hz,cz⟩:=HX5.out.cell (k:=e) (by omega);obtain rfl:la=z:=by rw [← HLI.out];exact ue HXN.out (by omega) hz
       have c17:=HB53.out.cell 0;have l17:=HB53.out.lt;have hgz:gz<W5.heap.size:=by have:=HK5.out.bel.size;omega
       have HZA:=lh hzA;rw [hzA] at c17;clear hzA hz hx0;have la0_:0≤la:=HLA.out.1;have la1_:la≤12:=by have:=HLA.out.2;omega
       gi_wp2;rw [← HZA.out];clear c17 l17 cz hzb hgz la0_ la1_;refine wpIn_loop (fun a W6=>∃ (d:Nat) (t:Int) (A3:Option Addr) (n3 c3:Nat),Hid (Ew1 fun (zs:List Wy)=>t=la+1+(d:Int)∧d≤k - (la).toNat∧zs.length=n3∧zs.map Wy.l=((lvlI k lv).take i).flatMap (extI k)++((iJ k xl).take d).map (fun n=>xl++[n])∧NL w.heap.size W.heap.size W6 A3 c3 zs∧Kp2 W.heap.size W W6∧Blk W6 gx 34 #[.slice xA (e+1) xc]∧(∀ r,A3.map (·.block)=some r→r≠gx)∧du W6 W.heap.size xA (e+1) xl)∧sb (.int .i64 (k:Int)) (.slice Bw nw qw) (.slice A n c) (.slice A3 n3 c3) (.pointer (some ⟨gx,0,none⟩)) (.int .i64 (t:Int)) (.slice A n c) (.int .i64 (n:Int)) (.int .i64 (i:Int)) a) (fun a _=>((k:Int)+1 - intOf (a.tmps.getD 21 undef)).toNat) ?_ ?_
       ·exact ⟨0,la+1,A2,n2,c2,lh ⟨ys,by omega,Nat.zero_le _,HI.out.2.1,by rw [List.take_zero,List.map_nil,List.append_nil];exact HI.out.2.2.1,HN5.out,HK5.out,HB53.out,HGX.out,HX5.out⟩,by constructor⟩
       rintro a W6 ⟨d,t,A3,n3,c3,HD,ha⟩;cases ha;obtain ⟨zs,hs9⟩:=HD.out;replace HD:=lh hs9;obtain ⟨rfl,hd9⟩:=hs9;clear hd9;have hla0:0≤la:=HLA.out.1;have hlak:la≤(k:Int):=HLA.out.2;by_cases htk:la+1+(d:Int)≤(k:Int)
       ·
        have c17:=HD.out.2.2.2.2.2.2.1.cell 0;have l17:=HD.out.2.2.2.2.2.2.1.lt;have HIW:=lh (HD.out.2.2.2.2.2.2.2.2.more HD.out.2.2.2.2.2.1.bel.size);have hxn12:(e+1)≤12:=by have h1:=HUP.out.1;have h2:=HXN.out;have h3:=HS.out.1;omega
        have HSW:Hid (W.heap.size≤W6.heap.size):=lh HD.out.2.2.2.2.2.1.bel.size
        have hzn:n3≤13000000:=by
         have h1:=congrArg List.length HD.out.2.2.2.1;have h2:=nu (a:=k) hk12 ((lvlI k lv).take i);have h3:=HD.out.2.2.1;have h4:=HD.out.2.1;simp only [List.length_map,List.length_append,List.length_take] at h1 h2;omega
        have HNL6:=lh (show Own W6 W.heap.size 34 1 A3 n3 c3 (zs.map Wy.val) from by have h1:=HD.out.2.2.2.2.1.own;rwa [HD.out.2.2.1] at h1);gi_wp2;refine ⟨trivial,(callsIn_wide.2 (iS xA ((e+1)) xc (xl) W6 HIW.out (by unfold maxLen;omega) (by omega))).mono ?_⟩;rintro e W7 ⟨A9,c9,rfl,hO,hCn,hb7⟩;have HO7:=lh (hO.alloc (.cells #[.int .i64 (la+1+(d:Int))] 3));have HOB:Hid (Blk (W7.alloc (.cells #[.int .i64 (la+1+(d:Int))] 3)) W7.heap.size 3 #[.int .i64 (la+1+(d:Int))]):=lh (Blk.new _ _ _);have hal:Below W6.heap.size W6 (W7.alloc (.cells #[.int .i64 (la+1+(d:Int))] 3)):=hb7.trans ((b_R.alloc n_R _).mono hb7.size);have HAL:=lh hal;clear c17 l17 hO hCn hb7 hal
        gi_wp2_with (first | (gi_at_builtin;refine eJ rfl (.tmp 77) (.tmp 79) (by rfl) fW rfl HO7.out rfl (lI (x:=la+1+(d:Int)) HOB.out.lt (HOB.out.cell 0)) (fY _) (by unfold maxLen;omega) (by omega) HAL.out.size ?_) | fail)
        rintro A10 c10 W10 hown hg hA;have hb10:Below W6.heap.size W6 W10:=HAL.out.grown hg HAL.out.size (fun r e=>(gP HO7.out r e).1);have HO10:=lh (show Own W10 W6.heap.size 3 1 A10 ((e+1)+1) c10 ((xl++[la+1+(d:Int)]).map (Value.int .i64)) from by rw [List.map_append];exact hown);have hb11:Below W6.heap.size W6 (W10.alloc (.cells #[.slice A10 ((e+1)+1) c10] 34)):=hb10.trans ((b_R.alloc n_R _).mono hb10.size);have HB11:=lh hb11;have HO11:=lh (HO10.out.alloc (.cells #[.slice A10 ((e+1)+1) c10] 34));have HNL:=lh (HNL6.out.below hb11 n_R);have HOB2:Hid (Blk (W10.alloc (.cells #[.slice A10 ((e+1)+1) c10] 34)) W10.heap.size 34 #[.slice A10 ((e+1)+1) c10]):=lh (Blk.new _ _ _);clear hown hg hA hb10 hb11 HAL HOB HO7 HO10
        gi_wp2_with (first | (gi_at_builtin;refine eJ rfl (.tmp 75) (.tmp 81) (by rfl) my rfl HNL.out rfl (mX (x:=.slice A10 ((e+1)+1) c10) HOB2.out.lt (HOB2.out.cell 0)) (fun u hu=>by rw [List.mem_singleton.1 hu];rfl) (by unfold maxLen;omega) (by omega) (Nat.le_trans HSW.out HB11.out.size) ?_) | fail)
        rintro A11 c11 W12 hown hg hA;have hkr:KpR W.heap.size W.heap.size (W10.alloc (.cells #[.slice A10 ((e+1)+1) c10] 34)) W12:=KpR.of_row hg (fun r e=>gP HNL.out r e)
        have hkp:Kp2 W.heap.size W6 W12:=⟨(HB11.out.mono HSW.out).grown hg (Nat.le_trans HSW.out HB11.out.size) (fun r e=>(gP HNL.out r e).1),(KpR.of_below HB11.out).trans hkr⟩
        have HKP:=lh hkp;have hgx0:=HD.out.2.2.2.2.2.2.1.below HB11.out HD.out.2.2.2.2.2.2.1.lt;have HGX9:=lh (hgx0.grown hg (fun e=>HD.out.2.2.2.2.2.2.2.1 gx e.symm rfl))
        have HGA:Hid (∀ r,A11.map (·.block)=some r→r≠gx):=lh fun r hr ee9=>by
         rcases hA with h1 | h1
         ·exact HD.out.2.2.2.2.2.2.2.1 r (by rw [← h1];exact hr) ee9
         ·rw [h1] at hr
          have h2:W10.heap.size+1=r:=Option.some.inj hr;have h3:=hgx0.lt;rw [World.size_alloc] at h3;omega
        have HNEW:Hid (Wy.own W.heap.size ⟨xl++[la+1+(d:Int)],A10,(e+1)+1,c10⟩ W12):=lh (Wy.own.kp ⟨⟨fG HO11.out n_R,by dsimp only;omega⟩,Safe.own HO11.out HSW.out⟩ hkr);have HOWN:=lh hown;clear hown hg hA hkr hkp hgx0 HO11 HNL HOB2 HB11;gi_wp2;refine ⟨⟨d+1,la+1+(d:Int)+1,A11,n3+1,c11,lh ⟨zs++[⟨xl++[la+1+(d:Int)],A10,(e+1)+1,c10⟩],by omega,by omega,by rw [List.length_append,HD.out.2.2.1];rfl,?_,⟨?_,?_⟩,HD.out.2.2.2.2.2.1.trans HKP.out,HGX9.out,HGA.out,HD.out.2.2.2.2.2.2.2.2.below HKP.out.bel⟩,by constructor⟩,?_⟩
        ·rw [List.map_append,HD.out.2.2.2.1,oX (by rw [HLI.out];omega),HLI.out,List.append_assoc]
         rfl
        ·have h1:=HOWN.out
         rw [List.length_append,HD.out.2.2.1,List.map_append];exact h1
        ·intro y hy
         rcases List.mem_append.1 hy with hy | hy
         ·exact (HD.out.2.2.2.2.1.all y hy).kp HKP.out.kp
         ·rw [List.mem_singleton.1 hy]
          exact HNEW.out
        ·simp [intOf]
         omega
       ·
        have hmap:zs.map Wy.l=((lvlI k lv).take (i+1)).flatMap (extI k):=by rw [HD.out.2.2.2.1,qu HXL.out,py (by rw [HLI.out];omega)]
        have HMAP:=lh hmap;clear hmap;gi_wp2;refine ⟨⟨i+1,A3,n3,c3,lh ⟨zs,hlt,HD.out.2.2.1,HMAP.out,fun j y hj hy=>?_,HD.out.2.2.2.2.1,HD.out.2.2.2.2.2.1⟩,by rw [show ((i+1:Nat):Int)=(i:Int)+1 from by omega];first | constructor | (rw [HBB.out];constructor) | (rw [HAA.out];constructor)⟩,?_⟩
        ·by_cases e9:j=i
         ·subst e9
          rw [HXL.out] at hy;obtain rfl:=Option.some.inj hy;exact HNH.out
         ·exact HI.out.2.2.2.1 j y (by omega) hy
        ·simp [intOf]<;>omega
    ·
     obtain rfl:j=nw:=by have:=HJ.out.1;omega
     have c17:=HB3.out.cell 0;have l17:=HB3.out.lt;gi_wp2;clear c17 l17;refine bodyPost_ret (v:=.tuple #[.slice xA xn xc,.int .i64 0]) (by simp [results,Tryz.results41,go_sem]) rfl ?_;have hhit:Hits ws xl:=fun y hy=>HJ.out.2.1 y (by rw [List.take_of_length_le (by rw [← HWS.out,List.length_map,HNW.out];exact n_R)];exact hy);have hfl:=qi HXL.out hhit HI.out.2.2.2.1 HS.out.2.2.2.2.2;have hmem9:∀ l,l∈ws↔fZ m T.L fountain (k:Int).toNat (idxV m.vessels vessel) l:=HMEM.out;refine ⟨xl,xA,xn,xc,0,rfl,.inr ⟨HEE.out,T.L,HTL.out,.inr ⟨?_,rfl,?_⟩⟩,(HXI2.out.below (HJ.out.2.2.mono HK2.out.bel.size)).more HK3.out.bel.size,hx13,HB4.out.trans ((HS.out.2.2.2.2.1.mono HV3.out).trans (HK3.out.bel.mono (by have h1:=HSZ.out;have h2:=HV3.out;omega))),HXS.out⟩
     ·obtain ⟨y,hy⟩:=List.exists_mem_of_ne_nil ws (fun h=>h0 (by rw [← HNW.out,← List.length_map (f:=Wy.l),HWS.out,h];rfl))
      exact ⟨y,(hmem9 y).1 hy⟩
     ·refine fI.congr (P:=fun l=>UpTo k l∧Hits ws l) hfl fun l=>?_
      have h9:=pB (a:=(k:Int)) (l:=l) hmem9;rw [Int.toNat_natCast] at h9;exact h9
   ·
    obtain rfl:i=n:=by have:=HI.out.1;omega
    have hnl:(lvlI k lv).length=i:=by rw [← HS.out.2.1,List.length_map];exact HS.out.2.2.1
    have hmap:ys.map Wy.l=lvlI k (lv+1):=by rw [HI.out.2.2.1];exact uO hnl
    have hno:∀ k'<lv+1,∀ y∈lvlI k k',¬ Hits ws y:=fun k' hk' y hy=>by
     by_cases e:k'=lv
     ·subst e
      obtain ⟨j,hj,e2⟩:=List.mem_iff_getElem.1 hy;exact HI.out.2.2.2.1 j y (by omega) (by rw [← e2];exact List.getElem?_eq_getElem hj)
     ·exact HS.out.2.2.2.2.2 k' (by omega) y hy
    have hlk:lv+1≤k:=by
     by_cases e:lv=k
     ·exact (vO HWB.out fun y hy=>hno k (by omega) y hy).elim
     ·have:=HS.out.1
      omega
    have hLL:LL w.heap.size W1.heap.size W1 A2 ys:=LL.own HI.out.2.2.2.2.1.own (fun y hy=>⟨(HI.out.2.2.2.2.1.all y hy).1,fun a ha=>⟨by have h1:=((HI.out.2.2.2.2.1.all y hy).2 a ha).1;have h2:=HSZ.out;have h3:=HV3.out;omega,((HI.out.2.2.2.2.1.all y hy).2 a ha).2⟩⟩) n_R;have HE:=lh (ai hmap (ai hno (ai hlk hLL)));clear hnl hmap hno hlk hLL;gi_wp2;refine ⟨⟨A2,n2,c2,lh ⟨lv+1,ys,HE.out.2.2.1,HE.out.1,HI.out.2.1,HE.out.2.2.2,HS.out.2.2.2.2.1.trans (HI.out.2.2.2.2.2.bel.mono (by have h1:=HSZ.out;omega)),HE.out.2.1⟩,by constructor⟩,?_⟩;rw [qt (n:=n2) (c:=c2) HE.out.2.2.2 HE.out.1 HE.out.2.2.1 (by rfl)];have:=HE.out.2.2.1;omega
 ·have h0b:(ee != 0)=true:=by simpa using h0
  have H0:=lh h0;clear h0;gi_wp2;refine bodyPost_ret (v:=.tuple #[.slice none 0 0,.int .i64 ee]) (by simp [results,Tryz.results41,go_sem]) rfl ?_;exact ⟨[],none,0,0,ee,rfl,.inl ⟨by rw [HEE.out];exact H0.out,rfl,HEE.out.symm⟩,dv.none_,by omega,HBE.out,fun a h=>by cases h⟩
end
section
open Go.RowKit
structure gC (w:World)(base:Nat)(A1:Option Addr)(nv c1:Nat)(A2:Option Addr)(na c2:Nat)(A3:Option Addr)(nt c3:Nat)(m:Mix):Prop where
 v:Own w base 50 2 A1 nv c1 (m.vessels.flatMap Vess.vals)
 a:Own w base 62 4 A2 na c2 (m.acts.flatMap MAct.vals)
 t:Own w base 69 6 A3 nt c3 (m.tastes.flatMap Tast.vals)
end
section
open Go.RowKit
def kC (a b:List Int):Bool:=decide (a=b)
theorem tP {a b:List Int}(h:a.length≠b.length):kC a b=false:=by unfold kC;simp;intro e;exact h (by rw [e])
theorem vh {a b:List Int}{k:Nat}{x y:Int}(hx:a[k]? =some x)(hy:b[k]? =some y)(h:x≠y):kC a b=false:=by
 unfold kC;simp;intro e;subst e;rw [hx] at hy;cases hy;exact h rfl
theorem uX {a b:List Int}(hl:a.length=b.length)(h:∀ (k:Nat) x y,k<a.length→a[k]? =some x→b[k]? =some y→x=y):kC a b=true:=by
 unfold kC;simp
 apply List.ext_getElem?
 intro k;by_cases hk:k<a.length
 ·have h1:a[k]? =some a[k]:=List.getElem?_eq_getElem hk
  have h2:b[k]? =some (b[k]'(by omega)):=List.getElem?_eq_getElem _;rw [h1,h2,h k _ _ hk h1 h2]
 ·rw [List.getElem?_eq_none (by omega),List.getElem?_eq_none (by omega)]
theorem jN (A:Option Addr)(n c:Nat)(a:List Int)(B:Option Addr)(m d:Nat)(b:List Int)(w:World)(hn:n≤maxLen)(hm:m≤maxLen)(ha:du w w.heap.size A n a)(hb:du w w.heap.size B m b) :
  Calls Tryz.prog 20 #[.slice A n c,.slice B m d] w fun e w'=>e = .returned (.bool (kC a b))∧Below w.heap.size w w':=by
 unfold maxLen at hn hm;have HA:=lh ha.len;have HB:=lh hb.len;by_cases hnm:n=m
 ·subst hnm
  have hnn:((n:Int)==(n:Int))=true:=by simp
  go_enter Tryz.func20,Tryz.ntmps20
  go_wp2_with fail
  go_loopw [5] (fun i wr=>∃ k:Nat,k≤n∧i = .int .i64 k∧(∀ (j:Nat) x y,j<k→a[j]? =some x→b[j]? =some y→x=y)∧Below w.heap.size w wr)
   (fun i _=>n - (intOf i).toNat)
  case atStart=>exact ⟨0,by omega,rfl,fun _ _ _ h=>absurd h (by omega),b_R⟩
  case round =>
   obtain ⟨k,hk,rfl,hall,hbel⟩:=hrel;have HAll:=lh hall;clear hall;by_cases hlt:k<n
   ·obtain ⟨b1,o1,x,rfl,hb1,hx,cx⟩:=(ha.below hbel).cell hlt
    obtain ⟨b2,o2,y,rfl,hb2,hy,cy⟩:=(hb.below hbel).cell hlt;have HX:=lh hx;have HY:=lh hy;have kI:(k:Int)<(n:Int):=by omega
    have k0:(0:Int)≤(k:Int):=by omega
    clear hx hy;by_cases hxy:x=y
    ·have hxy':(x==y)=true:=by simpa using hxy
     have HXY:=lh hxy;clear hxy
     go_wp2_with fail
     go_quiet (fail)
     go_wp2_with fail
     go_roundw
     case rel=>exact ⟨k+1,by omega,by go_num,fun j u v hj hu hv=>by
      rcases Nat.lt_or_ge j k with h | h
      ·exact HAll.out j u v h hu hv
      ·obtain rfl:j=k:=by omega
       rw [HX.out] at hu;rw [HY.out] at hv
       cases hu;cases hv;exact HXY.out,av hbel _⟩
     case measure=>simp [intOf];omega
    ·have hxy':(x==y)=false:=by simpa using hxy
     have HXY:=lh hxy;clear hxy
     go_wp2_with fail
     go_quiet (fail)
     go_wp2_with fail
     go_ret
     exact ⟨il (vh HX.out HY.out HXY.out).symm,av hbel _⟩
   ·go_wp2_with fail
    go_ret
    exact ⟨il (uX (by rw [HA.out,HB.out]) (fun j x y hj hx hy=>HAll.out j x y (by have:=HA.out;omega) hx hy)).symm,hbel⟩
 ·have hnn:((n:Int)==(m:Int))=false:=by simp;omega
  have HF:Hid (kC a b=false):=tP (by rw [HA.out,HB.out];exact hnm)
  go_enter Tryz.func20,Tryz.ntmps20
  go_wp2_with fail
  go_ret
  exact ⟨il HF.out.symm,b_R⟩
end
section
open Go.RowKit
theorem oP {α:Type}{vals:α→List Value}{sz:Nat}(hk:∀ x,(vals x).length=sz):∀ (l:List α) (k:Nat),(l.take k).flatMap vals=(l.flatMap vals).take (k * sz)
 | [],k=>by simp
 | x::l,0=>by simp
 | x::l,k+1=>by
  rw [List.take_succ_cons,List.flatMap_cons,List.flatMap_cons,oP hk l k,List.take_append,hk,List.take_of_length_le (l:=vals x) (by rw [hk,Nat.succ_mul];exact Nat.le_add_left _ _),Nat.succ_mul,Nat.add_sub_cancel]
theorem Own.short {w:World}{base n cap size k:Nat}{e:TypeId}{A:Option Addr}{xs:List Value}(h:Own w base e size A n cap xs)(hk:k≤n)(hA:A≠none∨k=0∧n=0):Own w base e size A k cap (xs.take (k * size)):=by
 rcases h.form with ⟨rfl,rfl,rfl,rfl⟩ | ⟨g,cur,rfl,hb,hg,h1,h2,h3,h4,h5⟩
 ·obtain rfl:k=0:=by omega
  simpa using Own.none_ w base e size
 ·have hle:k * size≤n * size:=Nat.mul_le_mul_right _ hk
  refine ⟨by rw [List.length_take,h5,Nat.min_eq_left hle],.inr ⟨g,cap,cur,rfl,hb,hg,Nat.le_trans hk h1,h2,h3,?_⟩⟩;rw [← h4,List.take_take,Nat.min_eq_left hle]
theorem fe.fewer {W:World}{base:Nat}{A1 A2 A3:Option Addr}{nv c1 k c2 nt c3:Nat}{m:Mix}(h:fe W base A1 nv c1 A2 (k+1) c2 A3 nt c3 m)(hl:m.acts.length=k+1):fe W base A1 nv c1 A2 k c2 A3 nt c3 (gD m (m.acts.take (m.acts.length - 1))):=by
 refine ⟨h.v,?_,h.t,h.va,h.vt,h.at_⟩
 show Own W base _ 4 A2 k c2 ((m.acts.take (m.acts.length - 1)).flatMap MAct.vals)
 rw [hl,Nat.add_sub_cancel,oP nA];refine h.a.short (Nat.le_succ k) (.inl fun e=>?_)
 rcases h.a.form with ⟨_,h0,_⟩ | ⟨g,cur,e2,_⟩
 ·omega
 ·rw [e] at e2;cases e2
theorem sJ (Av:Option Addr)(nv cv:Nat)(Aa:Option Addr)(na ca:Nat)(At:Option Addr)(nt ct:Nat)(m:Mix)  (w:World)(h:MixS w Av nv Aa na At nt m) :
  CallsIn Fence.wide 9 Tryz.prog 48 #[.agg #[.int .i64 m.fountains,.slice Av nv cv,.slice Aa na ca,.slice At nt ct]] w (ni w (kj m)):=by
 have HM:=lh h;have HLV:=lh h.at_.lenV;have HLA:=lh h.at_.lenA;have HLT:=lh h.at_.lenT;have hnv:=h.hv;have hna:=h.ha;have hnt:=h.ht;clear h;refine callsIn_of_wp Tryz.func48 rfl trivial ?_ rfl;simp only [Tryz.ntmps48,es,Nat.reduceAdd,Nat.reduceSub];gi_upto_region 1 with fail
 have Ly:=lh (Lay.two w 26 #[.int .i64 m.fountains,.slice Av nv cv,.slice Aa na ca,.slice At nt ct] 26 #[.int .i64 0,.slice none 0 0,.slice none 0 0,.slice none 0 0]);generalize ((w.alloc (.cells #[.int .i64 m.fountains,.slice Av nv cv,.slice Aa na ca,.slice At nt ct] 26)).alloc (.cells #[.int .i64 0,.slice none 0 0,.slice none 0 0,.slice none 0 0] 26))=w0 at *;obtain ⟨x0_0,x0_1,x0_2,x0_3⟩:=lyc4 Ly 0 rfl;have l0_:=Ly.out.lt 0 rfl;gi_wp2;clear x0_0 x0_1 x0_2 x0_3 l0_;refine ⟨trivial,(callsIn_wide.2 (gF Av nv cv Aa na ca At nt ct m w0 (HM.out.up Ly.out.1))).mono ?_⟩;rintro e W1 ⟨rfl,hb⟩;have HBC:=lh hb;replace Ly:=lyb Ly hb;clear hb
 cases hk:eO m with
 | false =>
  have HF:Hid (kj m=(fd,40)):=lh (by unfold kj;rw [hk];rfl);rw [show fk m=40 from by unfold fk;rw [hk];rfl];clear hk;have x1_0:=lyc Ly 1 rfl 0;have z1_0:=lyf Ly 1 rfl 0;have x1_1:=lyc Ly 1 rfl 1;have z1_1:=lyf Ly 1 rfl 1;have x1_2:=lyc Ly 1 rfl 2;have z1_2:=lyf Ly 1 rfl 2;have x1_3:=lyc Ly 1 rfl 3;have z1_3:=lyf Ly 1 rfl 3;have l1_:=Ly.out.lt 1 rfl;gi_wp2;have R4:=ret4' (Ly.out.blk 1 rfl) Ly.out.1 (Ly.out.ge 1 rfl) (.int .i64 0) (.slice none 0 0) (.slice none 0 0) (.slice none 0 0);have v0:=R4.1.cell 0;have v1:=R4.1.cell 1;have v2:=R4.1.cell 2;have v3:=R4.1.cell 3;refine bodyPost_ret (v:=.tuple #[.agg #[.int .i64 0,.slice none 0 0,.slice none 0 0,.slice none 0 0],.int .i64 40]) (by simp [results,Tryz.results48,go_sem,v0,v1,v2,v3]) rfl ?_;rw [HF.out];exact ⟨none,0,0,none,0,0,none,0,0,rfl,fe.nothing _ _,⟨by omega,by omega,by omega⟩,R4.2.1⟩
 | true =>
  have HK:=lh hk;have hlim:=fj hk;have hv4:nv≤4:=by have:=HLV.out;omega
  have ha12:na≤12:=by have:=HLA.out;omega
  have ht8:nt≤8:=by have:=HLT.out;omega
  clear hlim;rw [show fk m=0 from by unfold fk;rw [hk];rfl];clear hk;by_cases h12:na=0
  ·
   have HF:Hid (kj m=(fd,6)):=lh (by unfold kj;rw [if_pos HK.out,if_pos (by rw [HLA.out];exact h12)]);have h12a:((na:Int)==0)=true:=by simp;omega
   have H12:=lh h12;clear h12;obtain ⟨x0_0,x0_1,x0_2,x0_3⟩:=lyc4 Ly 0 rfl;have l0_:=Ly.out.lt 0 rfl;have x1_0:=lyc Ly 1 rfl 0;have z1_0:=lyf Ly 1 rfl 0;have x1_1:=lyc Ly 1 rfl 1;have z1_1:=lyf Ly 1 rfl 1;have x1_2:=lyc Ly 1 rfl 2;have z1_2:=lyf Ly 1 rfl 2;have x1_3:=lyc Ly 1 rfl 3;have z1_3:=lyf Ly 1 rfl 3;have l1_:=Ly.out.lt 1 rfl;gi_wp2;have R4:=ret4' (Ly.out.blk 1 rfl) Ly.out.1 (Ly.out.ge 1 rfl) (.int .i64 0) (.slice none 0 0) (.slice none 0 0) (.slice none 0 0);have v0:=R4.1.cell 0;have v1:=R4.1.cell 1;have v2:=R4.1.cell 2;have v3:=R4.1.cell 3;refine bodyPost_ret (v:=.tuple #[.agg #[.int .i64 0,.slice none 0 0,.slice none 0 0,.slice none 0 0],.int .i64 6]) (by simp [results,Tryz.results48,go_sem,v0,v1,v2,v3]) rfl ?_;rw [HF.out];exact ⟨none,0,0,none,0,0,none,0,0,rfl,fe.nothing _ _,⟨by omega,by omega,by omega⟩,R4.2.1⟩
  ·
   obtain ⟨k,rfl⟩:∃ k,na=k+1:=⟨na - 1,by omega⟩
   have h12a:(((k+1:Nat):Int)==0)=false:=by simp;omega
   have HF:Hid (kj m=if eO (gD m (m.acts.take (m.acts.length - 1)))=true then ((gD m (m.acts.take (m.acts.length - 1))),0) else (fd,42)):=lh (by unfold kj;rw [if_pos HK.out,if_neg (by rw [HLA.out];exact h12)]);have H12:=lh h12;clear h12;obtain ⟨x0_0,x0_1,x0_2,x0_3⟩:=lyc4 Ly 0 rfl;have l0_:=Ly.out.lt 0 rfl;gi_wp2;clear x0_0 x0_1 x0_2 x0_3 l0_;have HBL:Hid (w.heap.size<W1.heap.size):=lh (Ly.out.lt 0 rfl);have HBS:=lh (Ly.out.1.size);have HBL1:=lh (Ly.out.lt 1 rfl);refine ⟨trivial,(c_W (kM Av nv cv Aa (k+1) ca At nt ct m W1 (HM.out.up Ly.out.1))).mono ?_⟩;rintro e W2 ⟨A1,c1,A2,c2,A3,c3,rfl,hmo,hb⟩;have HCB:=lh hb.size;replace Ly:=lyb Ly hb;clear hb;have HMO:=lh hmo;clear hmo;have x0_0:=lyc Ly 0 rfl 0;have z0_0:=lyf Ly 0 rfl 0;have x0_1:=lyc Ly 0 rfl 1;have z0_1:=lyf Ly 0 rfl 1;have x0_2:=lyc Ly 0 rfl 2;have z0_2:=lyf Ly 0 rfl 2;have x0_3:=lyc Ly 0 rfl 3;have z0_3:=lyf Ly 0 rfl 3;have l0_:=Ly.out.lt 0 rfl;gi_upto_region 7 with fail
   have R4:=ret4' (Ly.out.blk 0 rfl) (Below.refl w.heap.size W2) n_R (.int .i64 m.fountains) (.slice A1 nv c1) (.slice A2 (k+1) c2) (.slice A3 nt c3);have hl:=iF Ly.out (fun b hb=>by simp only [List.mem_cons,List.not_mem_nil,or_false] at hb;rcases hb with rfl<;>simp<;>omega) R4.2.2 R4.1;have HMO2:=lh (HMO.out.off R4.2.2 HBL.out);have HSZ:=lh (Nat.le_trans HCB.out R4.2.2.size);clear x0_0 z0_0 x0_1 z0_1 x0_2 z0_2 x0_3 z0_3 l0_;generalize ((((W2.setCell ⟨w.heap.size,0,none⟩ (.int .i64 m.fountains)).setCell ⟨w.heap.size,1,none⟩ (.slice A1 nv c1)).setCell ⟨w.heap.size,2,none⟩ (.slice A2 (k+1) c2)).setCell ⟨w.heap.size,3,none⟩ (.slice A3 nt c3))=V3 at *;replace Ly:=lh hl;replace HMO:=HMO2;clear R4 HMO2 hl;have x0_0:=lyc Ly 0 rfl 0;have z0_0:=lyf Ly 0 rfl 0;have x0_1:=lyc Ly 0 rfl 1;have z0_1:=lyf Ly 0 rfl 1;have x0_2:=lyc Ly 0 rfl 2;have z0_2:=lyf Ly 0 rfl 2;have x0_3:=lyc Ly 0 rfl 3;have z0_3:=lyf Ly 0 rfl 3;have l0_:=Ly.out.lt 0 rfl;have hkc:k≤c2:=by have:=HMO.out.a.cap_le;omega
   have hcm:c2≤9223372036854775807:=by have:=HMO.out.a.cap_le.2;unfold maxLen at this;omega
   gi_upto_region 8 with fail
   have HMO2:=lh (HMO.out.fewer (k:=k) HLA.out);have hgs:=eu (row:=some w.heap.size) (eY V3 _) (p:=⟨w.heap.size,2,none⟩) (.inl rfl) (.slice A2 k c2);have hl:=iF Ly.out (fun b hb=>by simp only [List.mem_cons,List.not_mem_nil,or_false] at hb;rcases hb with rfl<;>simp<;>omega) hgs ((Ly.out.blk 0 rfl).set_ 2 (.slice A2 k c2));have HMO3:=lh (HMO2.out.off hgs HBL.out);clear x0_0 z0_0 x0_1 z0_1 x0_2 z0_2 x0_3 z0_3 l0_;generalize V3.setCell ⟨w.heap.size,2,none⟩ (.slice A2 k c2)=V4 at *;replace Ly:=lh (show Lay w V4 [(w.heap.size,26,#[.int .i64 m.fountains,.slice A1 nv c1,.slice A2 k c2,.slice A3 nt c3]),(w.heap.size+1,26,#[.int .i64 0,.slice none 0 0,.slice none 0 0,.slice none 0 0])] from hl);replace HMO:=HMO3;clear hgs hl HMO2 HMO3;obtain ⟨x0_0,x0_1,x0_2,x0_3⟩:=lyc4 Ly 0 rfl;have l0_:=Ly.out.lt 0 rfl;gi_wp2;clear x0_0 x0_1 x0_2 x0_3 l0_;refine ⟨trivial,(callsIn_wide.2 (gF A1 nv c1 A2 k c2 A3 nt c3 (gD m (m.acts.take (m.acts.length - 1))) V4 (HMO.out.s hnv (by omega) hnt))).mono ?_⟩;rintro e W5 ⟨rfl,hb⟩;have HBC:=lh hb;replace Ly:=lyb Ly hb;clear hb
   cases hk:eO (gD m (m.acts.take (m.acts.length - 1))) with
   | false =>
    rw [show fk (gD m (m.acts.take (m.acts.length - 1)))=40 from by unfold fk;rw [hk];rfl];replace HF:Hid (kj m=(fd,42)):=lh (by rw [HF.out,hk];rfl);clear hk HMO;have x1_0:=lyc Ly 1 rfl 0;have z1_0:=lyf Ly 1 rfl 0;have x1_1:=lyc Ly 1 rfl 1;have z1_1:=lyf Ly 1 rfl 1;have x1_2:=lyc Ly 1 rfl 2;have z1_2:=lyf Ly 1 rfl 2;have x1_3:=lyc Ly 1 rfl 3;have z1_3:=lyf Ly 1 rfl 3;have l1_:=Ly.out.lt 1 rfl;gi_wp2;have R4:=ret4' (Ly.out.blk 1 rfl) Ly.out.1 (Ly.out.ge 1 rfl) (.int .i64 0) (.slice none 0 0) (.slice none 0 0) (.slice none 0 0);have v0:=R4.1.cell 0;have v1:=R4.1.cell 1;have v2:=R4.1.cell 2;have v3:=R4.1.cell 3;refine bodyPost_ret (v:=.tuple #[.agg #[.int .i64 0,.slice none 0 0,.slice none 0 0,.slice none 0 0],.int .i64 42]) (by simp [results,Tryz.results48,go_sem,v0,v1,v2,v3]) rfl ?_;rw [HF.out];exact ⟨none,0,0,none,0,0,none,0,0,rfl,fe.nothing _ _,⟨by omega,by omega,by omega⟩,R4.2.1⟩
   | true =>
    rw [show fk (gD m (m.acts.take (m.acts.length - 1)))=0 from by unfold fk;rw [hk];rfl];replace HF:Hid (kj m=((gD m (m.acts.take (m.acts.length - 1))),0)):=lh (by rw [HF.out,hk];rfl);replace HMO:=lh (HMO.out.below HBC.out);clear hk;obtain ⟨x0_0,x0_1,x0_2,x0_3⟩:=lyc4 Ly 0 rfl;have l0_:=Ly.out.lt 0 rfl;have r0:=lyc Ly 1 rfl 0;have rz0:=lyf Ly 1 rfl 0;have r1:=lyc Ly 1 rfl 1;have rz1:=lyf Ly 1 rfl 1;have r2:=lyc Ly 1 rfl 2;have rz2:=lyf Ly 1 rfl 2;have r3:=lyc Ly 1 rfl 3;have rz3:=lyf Ly 1 rfl 3;have rl:=Ly.out.lt 1 rfl;gi_wp2;have R4:=ret4' (Ly.out.blk 1 rfl) Ly.out.1 (Ly.out.ge 1 rfl) (.int .i64 m.fountains) (.slice A1 nv c1) (.slice A2 k c2) (.slice A3 nt c3);have v0:=R4.1.cell 0;have v1:=R4.1.cell 1;have v2:=R4.1.cell 2;have v3:=R4.1.cell 3;refine bodyPost_ret (v:=.tuple #[.agg #[.int .i64 m.fountains,.slice A1 nv c1,.slice A2 k c2,.slice A3 nt c3],.int .i64 0]) (by simp [results,Tryz.results48,go_sem,v0,v1,v2,v3]) rfl ?_;rw [HF.out];exact ⟨_,_,_,_,_,_,_,_,_,rfl,(HMO.out.off R4.2.2 HBL1.out).mono HBS.out,⟨by omega,by omega,by omega⟩,R4.2.1⟩
end
section
open Go.RowKit
section
variable {w W W':World} {base:Nat} {A1 A2 A3:Option Addr} {nv c1 na c2 nt c3:Nat} {m:Mix}
theorem gC.below (h:gC W base A1 nv c1 A2 na c2 A3 nt c3 m)(hb:Below W.heap.size W W'):gC W' base A1 nv c1 A2 na c2 A3 nt c3 m:=⟨h.v.below hb n_R,h.a.below hb n_R,h.t.below hb n_R⟩
theorem gC.mono {b':Nat}(h:gC W base A1 nv c1 A2 na c2 A3 nt c3 m)(hb:b'≤base):gC W b' A1 nv c1 A2 na c2 A3 nt c3 m:=⟨h.v.mono hb,h.a.mono hb,h.t.mono hb⟩
theorem gC.off {g:Nat}(h:gC W base A1 nv c1 A2 na c2 A3 nt c3 m)(hg:W.grownBy W' (some g))(hlt:g<base):gC W' base A1 nv c1 A2 na c2 A3 nt c3 m:=⟨kG h.v hg hlt,kG h.a hg hlt,kG h.t hg hlt⟩
theorem gC.s (h:gC W base A1 nv c1 A2 na c2 A3 nt c3 m)(hv:nv≤1000)(ha:na≤1000)(ht:nt≤1000):MixS W A1 nv A2 na A3 nt m:=⟨⟨h.v.reads n_R,h.a.reads n_R,h.t.reads n_R⟩,hv,ha,ht⟩
theorem gC.acts {A9:Option Addr}{n9 c9 b9:Nat}{l:List MAct}(h:gC W base A1 nv c1 A2 na c2 A3 nt c3 m)(hb:Below W.heap.size W W')(ho:Own W' b9 62 4 A9 n9 c9 (l.flatMap MAct.vals))(h9:base≤b9):gC W' base A1 nv c1 A9 n9 c9 A3 nt c3 (gD m l):=⟨(h.below hb).v,ho.mono h9,(h.below hb).t⟩
theorem gC.tasts {A9:Option Addr}{n9 c9 b9:Nat}{l:List Tast}(h:gC W base A1 nv c1 A2 na c2 A3 nt c3 m)(hb:Below W.heap.size W W')(ho:Own W' b9 69 6 A9 n9 c9 (l.flatMap Tast.vals))(h9:base≤b9):gC W' base A1 nv c1 A2 na c2 A9 n9 c9 (gK m l):=⟨(h.below hb).v,(h.below hb).a,ho.mono h9⟩
theorem MixS.nothing (W:World):MixS W none 0 none 0 none 0 fd:=⟨⟨dv.none_,dv.none_,dv.none_⟩,by omega,by omega,by omega⟩
end
end
section
open Go.RowKit
def wy (w:World)(e:Ending)(w':World):Prop:=e = .returned (.bool true)∧Below w.heap.size w w'
end
end Go.Proofs.YthofngceiecniaaGreat
