/- MixDrops: whatever the arguments, the law answers true. No conditions. -/
import Derived.Sort.CutIn
import Derived.Test.YthofngceiecniaaGreatRows
import Derived.OpenShut
import Derived.ShutString
import Derived.ChangeOld
import Derived.Lib.SmallJoins
import Derived.Test.YthofngceiecniaaGreatZxB14
set_option linter.unusedVariables false
/- walked, of the outright laws. -/
namespace Go.Proofs.YthofngceiecniaaGreat
set_option maxHeartbeats 32000000
set_option maxRecDepth 100000
section
open Go.RowKit Go.Shelf
attribute [local go_sem] Oper.semAt_some
theorem vU {b:Bool}{C:Prop}(h:some undef=some (Value.bool b)):C:=by cases h
end
section
open Go.RowKit Go.Shelf
attribute [local go_sem] Oper.semAt_some
theorem ng {w W:World}{bs bs':List (Nat × TypeId × Array Value)}{g:Nat}{t:TypeId}{a b u v:Value}(h:Lay w W bs)(hB:Blk W g t #[a,b])(hg:w.heap.size≤g)(hne:∀ p∈bs',p=(g,t,#[u,v])∨(p∈bs∧p.1≠g)):Lay w ((W.setCell ⟨g,0,none⟩ u).setCell ⟨g,1,none⟩ v) bs':=by
 refine ⟨(h.1.setCell (p:=⟨g,0,none⟩) hg u).setCell (p:=⟨g,1,none⟩) hg v,fun p hp=>?_⟩
 rcases hne p hp with rfl | ⟨h1,h2⟩
 ·exact ⟨hg,(hB.set_ 0 u).set_ 1 v⟩
 ·exact ⟨(h.2 p h1).1,((h.2 p h1).2.far (p:=⟨g,0,none⟩) h2 u).far (p:=⟨g,1,none⟩) h2 v⟩
theorem xC {m:Mix}{v t f:Int}{s:Int × Int}(hok:dc m=true)(hv:0≤idxV m.vessels v)(ht:0≤t∧t≤m.acts.length)(hf:1≤f∧f≤m.fountains)(h1:OfIs m v t f s 0):0≤s.1∧s.1≤s.2∧s.2≤12:=by
 obtain ⟨A,hA⟩:=jK hok;have hv4:=(dx hok).1;have hl:=ei m m.acts A hA
 obtain ⟨a,ha⟩:∃ a,A[t.toNat]? =some a:=⟨_,List.getElem?_eq_getElem (by omega)⟩
 have o1:=jS hA (jP hok hv ht hf h1) (jP hok hv ht hf h1)
 rcases o1.2 with ⟨c1,c2,c3,_⟩ | ⟨c1,_⟩
 ·obtain ⟨y,hy,ey⟩:=c3.1
  obtain ⟨z,hz,ez⟩:=c3.2.1;have hi4:(idxV m.vessels v).toNat<4:=by have:=fb (id:=v) hv4;omega
  have b1:=(hy.fits hA hv4 ha).le _ hi4;have b2:=(hz.fits hA hv4 ha).le _ hi4;have b3:=(eZ hA hv4 (fd hok) ha).2 (idxV m.vessels v).toNat;rw [show (((idxV m.vessels v).toNat:Nat):Int)=idxV m.vessels v by omega] at b1 b2 b3;have:=(c3.2.2 _ c3.1).2;exact ⟨by omega,this,by omega⟩
 ·omega
theorem pr {m:Mix}(hok:dc m=true)(f:Int){k:Nat}(hk:k≤m.acts.length):0≤eq m f k∧eq m f k≤2000 * k:=by
 obtain ⟨A,hA⟩:=jK hok;exact gK (T:=⟨0,none,0,0,none,0,0,none,0,0,none,0,0,m,A⟩) ⟨hok,hA⟩ hk
def ly (c:Int→Int)(k:Nat)(lo hi:Int):Prop:=lo≤sumF c k∧sumF c k≤hi∧0≤lo∧lo≤12 * k∧0≤hi∧hi≤12 * k
def lG (c d:Nat→Int)(k:Nat)(lo hi:Int):Prop:=lo≤sumV c k∧sumV d k≤hi∧0≤lo∧lo≤12 * k∧0≤hi∧hi≤12 * k
theorem ly.more {c:Int→Int}{k:Nat}{lo hi a b:Int}(h:ly c k lo hi)(h1:a≤c ((k:Int)+1)∧c ((k:Int)+1)≤b)(h2:0≤a∧a≤b∧b≤12):ly c (k+1) (lo+a) (hi+b):=by
 unfold ly at *;rw [sumF];omega
theorem lG.more {c d:Nat→Int}{k:Nat}{lo hi a b:Int}(h:lG c d k lo hi)(h1:a≤c k∧d k≤b)(h2:0≤a∧a≤b∧b≤12):lG c d (k+1) (lo+a) (hi+b):=by
 unfold lG at *;rw [sumV,sumV];omega
inductive FrDa (v3 v7 v8 v9 v10 v12 v13 v14:Value):Act→Prop
 | mk (a b c d e f g h i j k l m n o p q r s t w x y z A B C D E F G H I J K L M N O P Q R S T U V W X Y Z aa ab ac ad ae af ag ah ai aj ak al am an ao ap aq ar aw ax ay az aA aB aC aD aE aF aG aH aI aJ aK aL aM aN aO aP aQ aR aS aT aU aV aW aX aY aZ a0 a1 a2 a3 a4 a5 a6 a7 a8 a9 ba bb bc bd be bf bg bh bi bj bk bl bm bn bo bp bq br bs bt bw bx bz bA bB bC bD bE bF bG bH bI bJ bK bL bM bN bO bP bQ bR bS bT bU bV bW bX bY bZ b0 b1 b2 b3 b4 b5 b6 b7 b8 b9 ca cb cc cd ce cf cg ch ci cj ck cl cm cn co cp cq cr cs ct cw cx cy cz cA cB cC cD cE cF cG cH cI cJ cK cL cM cN cO cP cQ cR cS cT cU cV:Value):FrDa v3 v7 v8 v9 v10 v12 v13 v14 ⟨#[a,b,c,v3,d,e,f,v7,v8,v9,v10,g,v12,v13,v14,h,i,j,k,l,m,n,o,p,q,r,s,t,w,x,y,z,A,B,C,D,E,F,G,H,I,J,K,L,M,N,O,P,Q,R,S,T,U,V,W,X,Y,Z,aa,ab,ac,ad,ae,af,ag,ah,ai,aj,ak,al,am,an,ao,ap,aq,ar,aw,ax,ay,az,aA,aB,aC,aD,aE,aF,aG,aH,aI,aJ,aK,aL,aM,aN,aO,aP,aQ,aR,aS,aT,aU,aV,aW,aX,aY,aZ,a0,a1,a2,a3,a4,a5,a6,a7,a8,a9,ba,bb,bc,bd,be,bf,bg,bh,bi,bj,bk,bl,bm,bn,bo,bp,bq,br,bs,bt,bw,bx,bz,bA,bB,bC,bD,bE,bF,bG,bH,bI,bJ,bK,bL,bM,bN,bO,bP,bQ,bR,bS,bT,bU,bV,bW,bX,bY,bZ,b0,b1,b2,b3,b4,b5,b6,b7,b8,b9,ca,cb,cc,cd,ce,cf,cg,ch,ci,cj,ck,cl,cm,cn,co,cp,cq,cr,cs,ct,cw,cx,cy,cz,cA,cB,cC,cD,cE,cF,cG,cH,cI,cJ,cK,cL,cM,cN,cO,cP,cQ,cR,cS,cT,cU,cV],[]⟩
inductive FrDb (v3 v7 v8 v9 v10 v12 v13 v14 v15 v17 v19 v111 v112 v113:Value):Act→Prop
 | mk (a b c d e f g h i j k l m n o p q r s t w x y z A B C D E F G H I J K L M N O P Q R S T U V W X Y Z aa ab ac ad ae af ag ah ai aj ak al am an ao ap aq ar aw ax ay az aA aB aC aD aE aF aG aH aI aJ aK aL aM aN aO aP aQ aR aS aT aU aV aW aX aY aZ a0 a1 a2 a3 a4 a5 a6 a7 a8 a9 ba bb bc bd be bf bg bh bi bj bk bl bm bn bo bp bq br bs bt bw bx bz bA bB bC bD bE bF bG bH bI bJ bK bL bM bN bO bP bQ bR bS bT bU bV bW bX bY bZ b0 b1 b2 b3 b4 b5 b6 b7 b8 b9 ca cb cc cd ce cf cg ch ci cj ck cl cm cn co cp cq cr cs ct cw cx cy cz cA cB cC cD cE cF cG cH cI cJ cK cL cM cN cO cP:Value):FrDb v3 v7 v8 v9 v10 v12 v13 v14 v15 v17 v19 v111 v112 v113 ⟨#[a,b,c,v3,d,e,f,v7,v8,v9,v10,g,v12,v13,v14,v15,h,v17,i,v19,j,k,l,m,n,o,p,q,r,s,t,w,x,y,z,A,B,C,D,E,F,G,H,I,J,K,L,M,N,O,P,Q,R,S,T,U,V,W,X,Y,Z,aa,ab,ac,ad,ae,af,ag,ah,ai,aj,ak,al,am,an,ao,ap,aq,ar,aw,ax,ay,az,aA,aB,aC,aD,aE,aF,aG,aH,aI,aJ,aK,aL,aM,aN,aO,aP,aQ,aR,aS,aT,aU,aV,aW,aX,aY,aZ,a0,a1,v111,v112,v113,a2,a3,a4,a5,a6,a7,a8,a9,ba,bb,bc,bd,be,bf,bg,bh,bi,bj,bk,bl,bm,bn,bo,bp,bq,br,bs,bt,bw,bx,bz,bA,bB,bC,bD,bE,bF,bG,bH,bI,bJ,bK,bL,bM,bN,bO,bP,bQ,bR,bS,bT,bU,bV,bW,bX,bY,bZ,b0,b1,b2,b3,b4,b5,b6,b7,b8,b9,ca,cb,cc,cd,ce,cf,cg,ch,ci,cj,ck,cl,cm,cn,co,cp,cq,cr,cs,ct,cw,cx,cy,cz,cA,cB,cC,cD,cE,cF,cG,cH,cI,cJ,cK,cL,cM,cN,cO,cP],[]⟩
inductive FrDc (v3 v7 v8 v9 v10 v12 v13 v14 v15 v17 v19 v22 v133 v134 v135:Value):Act→Prop
 | mk (a b c d e f g h i j k l m n o p q r s t w x y z A B C D E F G H I J K L M N O P Q R S T U V W X Y Z aa ab ac ad ae af ag ah ai aj ak al am an ao ap aq ar aw ax ay az aA aB aC aD aE aF aG aH aI aJ aK aL aM aN aO aP aQ aR aS aT aU aV aW aX aY aZ a0 a1 a2 a3 a4 a5 a6 a7 a8 a9 ba bb bc bd be bf bg bh bi bj bk bl bm bn bo bp bq br bs bt bw bx bz bA bB bC bD bE bF bG bH bI bJ bK bL bM bN bO bP bQ bR bS bT bU bV bW bX bY bZ b0 b1 b2 b3 b4 b5 b6 b7 b8 b9 ca cb cc cd ce cf cg ch ci cj ck cl cm cn co cp cq cr cs ct cw cx cy cz cA cB cC cD cE cF cG cH cI cJ cK cL cM cN cO:Value):FrDc v3 v7 v8 v9 v10 v12 v13 v14 v15 v17 v19 v22 v133 v134 v135 ⟨#[a,b,c,v3,d,e,f,v7,v8,v9,v10,g,v12,v13,v14,v15,h,v17,i,v19,j,k,v22,l,m,n,o,p,q,r,s,t,w,x,y,z,A,B,C,D,E,F,G,H,I,J,K,L,M,N,O,P,Q,R,S,T,U,V,W,X,Y,Z,aa,ab,ac,ad,ae,af,ag,ah,ai,aj,ak,al,am,an,ao,ap,aq,ar,aw,ax,ay,az,aA,aB,aC,aD,aE,aF,aG,aH,aI,aJ,aK,aL,aM,aN,aO,aP,aQ,aR,aS,aT,aU,aV,aW,aX,aY,aZ,a0,a1,a2,a3,a4,a5,a6,a7,a8,a9,ba,bb,bc,bd,be,bf,bg,bh,bi,bj,bk,bl,bm,v133,v134,v135,bn,bo,bp,bq,br,bs,bt,bw,bx,bz,bA,bB,bC,bD,bE,bF,bG,bH,bI,bJ,bK,bL,bM,bN,bO,bP,bQ,bR,bS,bT,bU,bV,bW,bX,bY,bZ,b0,b1,b2,b3,b4,b5,b6,b7,b8,b9,ca,cb,cc,cd,ce,cf,cg,ch,ci,cj,ck,cl,cm,cn,co,cp,cq,cr,cs,ct,cw,cx,cy,cz,cA,cB,cC,cD,cE,cF,cG,cH,cI,cJ,cK,cL,cM,cN,cO],[]⟩
theorem tr (Av:Option Addr)(nv cv:Nat)(Aa:Option Addr)(na ca:Nat)(At:Option Addr)(nt ct:Nat)(m:Mix)(vessel after:Nat)(w:World)(h:dV w w.heap.size Av nv Aa na At nt m)(h_vessel:vessel≤255)(h_after:after≤255) :
  CallsIn Fence.wide 9 Tryz.prog 9 #[.agg #[.int .i64 m.fountains,.slice Av nv cv,.slice Aa na ca,.slice At nt ct],.int .u8 vessel,.int .u8 after] w (t9 w):=by
 have HM:=lh h;clear h;refine callsIn_of_wp Tryz.func9 rfl trivial ?_ rfl;simp only [Tryz.ntmps9,es,Nat.reduceAdd,Nat.reduceSub];gi_upto_region 1 with fail
 have Ly:=lh (Lay.one w 26 #[.int .i64 m.fountains,.slice Av nv cv,.slice Aa na ca,.slice At nt ct]);generalize (w.alloc (.cells #[.int .i64 m.fountains,.slice Av nv cv,.slice Aa na ca,.slice At nt ct] 26))=w0 at *;gi_wp2;refine ⟨trivial,(c_W (ub w0)).mono ?_⟩;rintro e W1 ⟨rfl,hb⟩;replace Ly:=lyb Ly hb;clear hb;obtain ⟨x0_0,x0_1,x0_2,x0_3⟩:=lyc4 Ly 0 rfl;have l0_:=Ly.out.lt 0 rfl;gi_wp2;clear x0_0 x0_1 x0_2 x0_3 l0_;refine ⟨trivial,(c_W (vN Av nv cv Aa na ca At nt ct m W1 (HM.out.up Ly.out.1))).mono ?_⟩;rintro e W2 ⟨rfl,hb⟩;replace Ly:=lyb Ly hb;clear hb
 cases hr:lj nv na nt m with
 | false =>
  clear hr;gi_wp2;refine bodyPost_ret (v:=.bool true) (by simp [results,Tryz.results9,go_sem]) rfl ?_;exact ⟨rfl,Ly.out.1⟩
 | true =>
  have hok:=(qN hr).2;have hvs:=dx hok;have hl1:=HM.out.lenV;have hl2:=HM.out.lenA;have hl3:=HM.out.lenT
  have hsx:MixS w Av nv Aa na At nt m:=⟨HM.out,by omega,by omega,by omega⟩
  have HMS:=lh hsx;have HOK:=lh hok;have HL1:=lh hl1;have HL2:=lh hl2;have HL3:=lh hl3;have hnv:nv≤4:=by omega
  have hna:na≤12:=by omega
  have hnt:nt≤8:=by omega
  have hF:1≤m.fountains∧m.fountains≤4:=by omega
  have HFF:=lh hF;clear hr hok hvs hsx hl1 hl2 hl3 hF;by_cases hv0:nv=0
  ·
   have hv0b:(((nv:Nat):Int)==0)=true:=by simp;omega
   obtain ⟨x0_0,x0_1,x0_2,x0_3⟩:=lyc4 Ly 0 rfl;have l0_:=Ly.out.lt 0 rfl;gi_wp2;clear x0_0 x0_1 x0_2 x0_3 l0_;refine bodyPost_ret (v:=.bool true) (by simp [results,Tryz.results9,go_sem]) rfl ?_;exact ⟨rfl,Ly.out.1⟩
  ·
   have hv0b:(((nv:Nat):Int)==0)=false:=by simp;omega
   have hv1:0<nv:=by omega
   obtain ⟨F,hFn⟩:∃ F:Nat,m.fountains=(F:Int):=⟨m.fountains.toNat,by have:=HFF.out;omega⟩
   have hF4:1≤F∧F≤4:=by have:=HFF.out;omega
   have HFn:=lh hFn;have dz_F:¬ m.fountains=0:=by omega
   have dy_F:(m.fountains==0)=false:=by simp;omega
   clear hFn;obtain ⟨x0_0,x0_1,x0_2,x0_3⟩:=lyc4 Ly 0 rfl;have l0_:=Ly.out.lt 0 rfl;gi_upto_region 4 with fail
   clear x0_0 x0_1 x0_2 x0_3 l0_;have hlt_i1:vessel % nv<nv:=Nat.mod_lt _ (by omega);have tm_i1:Int.tmod (vessel:Int) ((nv:Nat):Int)=((vessel % nv:Nat):Int):=by rw [Int.tmod_eq_emod_of_nonneg (by omega)];push_cast;rfl
   obtain ⟨i1,hq_i1⟩:∃ r,vessel % nv=r:=⟨_,rfl⟩
   rw [hq_i1] at hlt_i1 tm_i1;clear hq_i1;have wx_i1:IntKind.i64.wrap (vessel:Int)=(vessel:Int):=IntWalk.i64_in _ (by omega);have dz_nv:¬ ((nv:Int):Int)=0:=by omega
   have dy_nv:(((nv:Int):Int)==0)=false:=by simp;omega
   have hlt_t1:after % (na+1)<(na+1):=Nat.mod_lt _ (by omega);have tm_t1:Int.tmod (after:Int) ((na:Int)+1)=((after % (na+1):Nat):Int):=by rw [Int.tmod_eq_emod_of_nonneg (by omega)];push_cast;rfl
   obtain ⟨t1,hq_t1⟩:∃ r,after % (na+1)=r:=⟨_,rfl⟩
   rw [hq_t1] at hlt_t1 tm_t1;clear hq_t1;have wx_t1:IntKind.i64.wrap (after:Int)=(after:Int):=IntWalk.i64_in _ (by omega);have dz_na:¬ (((na:Int)+1):Int)=0:=by omega
   have dy_na:((((na:Int)+1):Int)==0)=false:=by simp;omega
   obtain ⟨bv,off,x1,rfl,hbv,hx_x1,hc_x1,_⟩:=HM.out.vess hlt_i1;have HBV0:=lh hbv;have HX_x1:=lh hx_x1;have HC_x1:=lh hc_x1;have HI_x1:=lh (py HOK.out hx_x1);clear hx_x1 hc_x1;refine wpIn_flow_old [] [true,true,true,true,true,true,true,true,true,true,true,true,true,true,true,true,true,true,true,true] [] (by kernel_rfl) (by kernel_rfl) (by kernel_rfl) (av b_R 1) ?_;refine wpFlow_nil (A:=?AF1) ?hq1 ?_
   case hq1 =>
    rintro σ hσ of hof hcl;have HOF:=lh hof;clear hof hcl;obtain ⟨c0_,c1_,c2_,c3_⟩:=lyz4 Ly HOF 0 rfl;have hfw:=hfT;have hv_x1:∀ z,(of z).cell? ⟨bv,off+i1 * 2,none⟩=some (.int .i64 x1.id):=fun z=>((Ly.out.1.trans ((HOF.out z).mono Ly.out.1.size)).cell (p:=⟨bv,off+i1 * 2,none⟩) HBV0.out).trans HC_x1.out;have i0_i1:(0:Int)≤(i1:Int):=by omega
    have i1_i1:(i1:Int)<(nv:Int):=by omega
    simp only [bu]
    repeat (gi_big_quiet_step (fail))
    refine wpQuietIn_nil ?_;exact rfl
   intro W3 hW;replace Ly:=lyb Ly hW;clear hW;simp only [bu];refine cX ?_;have HV0:Hid (0≤idxV m.vessels x1.id):=lh (by rw [HI_x1.out];omega);have HT0:Hid ((0:Int)≤(t1:Nat)∧((t1:Nat):Int)≤m.acts.length):=lh (by have:=HL2.out;omega);obtain ⟨x0_0,x0_1,x0_2,x0_3⟩:=lyc4 Ly 0 rfl;have l0_:=Ly.out.lt 0 rfl;gi_wp2;clear x0_0 x0_1 x0_2 x0_3 l0_;refine ⟨trivial,(c_W (p9 (some ⟨bv,off,none⟩) nv cv Aa na ca At nt ct m x1.id (t1:Nat) W3 (HMS.out.up Ly.out.1))).mono ?_⟩;rintro e W4 ⟨n,ee,rfl,hma,hb⟩;replace Ly:=lyb Ly hb;clear hb;obtain ⟨rfl,c,hc,hlaw⟩:=tU HOK.out HV0.out HT0.out hma;have HSUM:=lh hc;have HLAW:=lh hlaw;clear hma hc hlaw;obtain ⟨x0_0,x0_1,x0_2,x0_3⟩:=lyc4 Ly 0 rfl;have l0_:=Ly.out.lt 0 rfl;gi_wp2;clear x0_0 x0_1 x0_2 x0_3 l0_;refine ⟨trivial,(c_W (wY (some ⟨bv,off,none⟩) nv cv Aa na ca At nt ct m W4 (HMS.out.up Ly.out.1))).mono ?_⟩;rintro e W5 ⟨A1,c1,A2,c2,A3,c3,rfl,hmo,hb⟩;replace Ly:=lyb Ly hb;clear hb;have HTW:=lh hmo;clear hmo;have HW0:=lh (Ly.out.lt 0 rfl);gi_upto_region 7 with fail
   obtain ⟨V6,hV⟩:∃ V,(W5.alloc (.cells #[.int .i64 m.fountains,.slice A1 nv c1,.slice A2 na c2,.slice A3 nt c3] 26))=V:=⟨_,rfl⟩
   rw [hV];have hb:=dq hV;have hnew:=dt hV;have hge:=Ly.out.bel.size;replace Ly:=lyb Ly hb;replace HTW:=lh (HTW.out.below hb);replace Ly:=lh (Ly.out.add hge hnew);clear hnew hge hb hV
   obtain ⟨G7,hG⟩:∃ g,W5.heap.size=g:=⟨_,rfl⟩
   rw [hG] at Ly ⊢;have HG_:=lh hG;clear hG;replace Ly:=lh (show Lay w V6 [(w.heap.size,26,#[.int .i64 m.fountains,.slice (some ⟨bv,off,none⟩) nv cv,.slice Aa na ca,.slice At nt ct]),(G7,26,#[.int .i64 m.fountains,.slice A1 nv c1,.slice A2 na c2,.slice A3 nt c3])] from Ly.out);have x1_0:=lyc Ly 1 rfl 0;have z1_0:=lyf Ly 1 rfl 0;have x1_1:=lyc Ly 1 rfl 1;have z1_1:=lyf Ly 1 rfl 1;have x1_2:=lyc Ly 1 rfl 2;have z1_2:=lyf Ly 1 rfl 2;have x1_3:=lyc Ly 1 rfl 3;have z1_3:=lyf Ly 1 rfl 3;have l1_:=Ly.out.lt 1 rfl;gi_upto_region 8 with fail
   clear x1_0 z1_0 x1_1 z1_1 x1_2 z1_2 x1_3 z1_3 l1_;have hgs:=db (row:=some G7) (dC V6 _) (p:=⟨G7,3,none⟩) (.inl rfl) (.slice none 0 0);have HMO2:Hid (eu V6 _ A1 nv c1 A2 na c2 none 0 0 (dO m [])):=lh ⟨HTW.out.v,HTW.out.a,Own.none_ _ _ _ _⟩;have HMO3:=lh (HMO2.out.offB (Ly.out.blk 1 rfl) hgs)
   have hne:∀ p∈([(w.heap.size,26,#[.int .i64 m.fountains,.slice (some ⟨bv,off,none⟩) nv cv,.slice Aa na ca,.slice At nt ct])]:List (Nat × TypeId × Array Value)),p.1≠G7:=by
    intro p hp;simp only [List.mem_cons,List.not_mem_nil,or_false] at hp;have h1:=HW0.out;have h2:=HG_.out
    rcases hp with rfl<;>(intro e;dsimp only at e;omega)
   have hl:=Lay.setLast (bs:=[(w.heap.size,26,#[.int .i64 m.fountains,.slice (some ⟨bv,off,none⟩) nv cv,.slice Aa na ca,.slice At nt ct])]) Ly.out hne 3 (.slice none 0 0);have HLT1:Hid (w.heap.size<G7):=lh (by have h1:=HW0.out;have h2:=HG_.out;omega);generalize V6.setCell ⟨G7,3,none⟩ (.slice none 0 0)=V8 at *;replace Ly:=lh (show Lay w V8 [(w.heap.size,26,#[.int .i64 m.fountains,.slice (some ⟨bv,off,none⟩) nv cv,.slice Aa na ca,.slice At nt ct]),(G7,26,#[.int .i64 m.fountains,.slice A1 nv c1,.slice A2 na c2,.slice none 0 0])] from hl);replace HTW:=HMO3;clear hgs hl HMO2 HMO3 hne HW0 HG_;have HTS:=lh (HTW.out.s (by omega) (by omega) (by omega));have HOB:=lh (j5 HOK.out);have HBL:=lh (Below.refl V8.heap.size V8);clear HTW;have HLO:=lh (Ly.out.lt 1 rfl);have HZO:=lh HBL.out.size;gi_upto_region 11 with fail
   obtain ⟨V9,hV⟩:∃ V,(V8.alloc (.cells #[.int .i64 0,.int .i64 0] 54))=V:=⟨_,rfl⟩
   rw [hV];have hb:=dq hV;have hnew:=dt hV;have hge:=Ly.out.bel.size;replace Ly:=lyb Ly hb;replace HBL:=lh (HBL.out.trans (hb.mono HBL.out.size));replace Ly:=lh (Ly.out.add hge hnew);clear hnew hge hb hV
   obtain ⟨G10,hG⟩:∃ g,V8.heap.size=g:=⟨_,rfl⟩
   rw [hG] at Ly ⊢;have HG_:=lh hG;clear hG;replace Ly:=lh (show Lay w V9 [(w.heap.size,26,#[.int .i64 m.fountains,.slice (some ⟨bv,off,none⟩) nv cv,.slice Aa na ca,.slice At nt ct]),(G7,26,#[.int .i64 m.fountains,.slice A1 nv c1,.slice A2 na c2,.slice none 0 0]),(G10,54,#[.int .i64 0,.int .i64 0])] from Ly.out);have HLT2:Hid (G7<G10):=lh (by have h1:=HLO.out;have h2:=HG_.out;omega);have HGE2:Hid (V8.heap.size≤G10):=lh (by have h1:=HZO.out;have h2:=HG_.out;omega);clear HZO;clear HLO HG_;gi_wp2;refine wpIn_loop (fun a U=>∃ (k:Nat) (lo hi:Int),Hid (k≤F∧ly c k lo hi∧Lay w U [(w.heap.size,26,#[.int .i64 m.fountains,.slice (some ⟨bv,off,none⟩) nv cv,.slice Aa na ca,.slice At nt ct]),(G7,26,#[.int .i64 m.fountains,.slice A1 nv c1,.slice A2 na c2,.slice none 0 0]),(G10,54,#[.int .i64 (lo),.int .i64 (hi)])]∧Below V8.heap.size V8 U)∧FrDa (.pointer (some ⟨w.heap.size,0,none⟩)) (.bool true) (.int .i64 x1.id) (.int .i64 (t1:Nat)) (.int .i64 n) (.pointer (some ⟨G7,0,none⟩)) (.pointer (some ⟨G10,0,none⟩)) (.int .i64 ((k:Int)+1)) a) (fun a _=>F+1 - (intOf (a.tmps.getD 14 undef)).toNat) ?_ ?_
   ·exact ⟨0,0,0,lh ⟨Nat.zero_le _,by unfold ly;simp [sumF],Ly.out,HBL.out⟩,by constructor⟩
   clear Ly HBL;rintro a U ⟨k,lo,hi,HS,ha⟩;cases ha;have Ly:=lh HS.out.2.2.1;have HBL:=lh HS.out.2.2.2;have HAL:=lh HS.out.2.1;have hal:0≤lo∧lo≤12 * (k:Int)∧0≤hi∧hi≤12 * (k:Int):=HS.out.2.1.2.2;by_cases hlt:k<F
   ·
    have hk1:(k:Int)+1≤m.fountains:=by have:=HFn.out;omega
    have hkb:decide ((k:Int)+1≤m.fountains)=true:=by simp;omega
    have HK1:=lh hk1;obtain ⟨x0_0,x0_1,x0_2,x0_3⟩:=lyc4 Ly 0 rfl;have l0_:=Ly.out.lt 0 rfl;obtain ⟨x1_0,x1_1,x1_2,x1_3⟩:=lyc4 Ly 1 rfl;have l1_:=Ly.out.lt 1 rfl;gi_wp2;clear x0_0 x0_1 x0_2 x0_3 l0_ x1_0 x1_1 x1_2 x1_3 l1_;refine ⟨trivial,(c_W (pz A1 nv c1 A2 na c2 none 0 0 (dO m []) x1.id (t1:Nat) ((k:Int)+1) U (HTS.out.up HBL.out))).mono ?_⟩;rintro e W11 ⟨s1,s2,e1,rfl,hma,hb⟩;replace Ly:=lyb Ly hb;replace HBL:=lh (HBL.out.trans (hb.mono HBL.out.size));clear hb;obtain ⟨rfl,hof1,hof2⟩:=HLAW.out ((k:Int)+1) (by omega) HK1.out _ _ hma;have hbd:0≤s1∧s1≤s2∧s2≤12:=xC HOB.out HV0.out HT0.out ⟨by omega,HK1.out⟩ hma;have HOF1:=lh hof1;have HOF2:=lh hof2;have HBD:=lh hbd;clear hma hof1 hof2;have HLO:=lh (Ly.out.lt 2 rfl);gi_upto_region 15 with fail
    obtain ⟨V12,hV⟩:∃ V,(W11.alloc (.cells #[.int .i64 s1,.int .i64 s2] 54))=V:=⟨_,rfl⟩
    rw [hV];have hb:=dq hV;have hnew:=dt hV;have hge:=Ly.out.bel.size;replace Ly:=lyb Ly hb;replace HBL:=lh (HBL.out.trans (hb.mono HBL.out.size));replace Ly:=lh (Ly.out.add hge hnew);clear hnew hge hb hV
    obtain ⟨G13,hG⟩:∃ g,W11.heap.size=g:=⟨_,rfl⟩
    rw [hG] at Ly ⊢;have HG_:=lh hG;clear hG;replace Ly:=lh (show Lay w V12 [(w.heap.size,26,#[.int .i64 m.fountains,.slice (some ⟨bv,off,none⟩) nv cv,.slice Aa na ca,.slice At nt ct]),(G7,26,#[.int .i64 m.fountains,.slice A1 nv c1,.slice A2 na c2,.slice none 0 0]),(G10,54,#[.int .i64 (lo),.int .i64 (hi)]),(G13,54,#[.int .i64 s1,.int .i64 s2])] from Ly.out);have HLT3:Hid (G10<G13):=lh (by have h1:=HLO.out;have h2:=HG_.out;omega);clear HLO HG_;obtain ⟨x1_0,x1_1,x1_2,x1_3⟩:=lyc4 Ly 1 rfl;have l1_:=Ly.out.lt 1 rfl;gi_wp2;clear x1_0 x1_1 x1_2 x1_3 l1_;refine ⟨trivial,(c_W (qr A1 nv c1 A2 na c2 none 0 0 (dO m []) ((k:Int)+1) V12 (HTS.out.up HBL.out))).mono ?_⟩;rintro e W14 ⟨g1,g2,e2,rfl,hma,hb⟩;replace Ly:=lyb Ly hb;replace HBL:=lh (HBL.out.trans (hb.mono HBL.out.size));clear hb;obtain ⟨rfl,hg0,hg1,hg2,ce,de,hce,hde,hev⟩:=xo HOK.out ⟨by omega,HK1.out⟩ hma;have HG0:Hid (0≤g1∧g1≤g2∧g2≤d4 m ((k:Int)+1)):=lh ⟨hg0,hg1,hg2⟩;have HCE:=lh hce;have HDE:=lh hde;rw [HL2.out] at hev;have HEV:=lh hev;clear hma hg0 hg1 hg2 hce hde hev;have HLO:=lh (Ly.out.lt 3 rfl);gi_upto_region 16 with fail
    obtain ⟨V15,hV⟩:∃ V,(W14.alloc (.cells #[.int .i64 g1,.int .i64 g2] 54))=V:=⟨_,rfl⟩
    rw [hV];have hb:=dq hV;have hnew:=dt hV;have hge:=Ly.out.bel.size;replace Ly:=lyb Ly hb;replace HBL:=lh (HBL.out.trans (hb.mono HBL.out.size));replace Ly:=lh (Ly.out.add hge hnew);clear hnew hge hb hV
    obtain ⟨G16,hG⟩:∃ g,W14.heap.size=g:=⟨_,rfl⟩
    rw [hG] at Ly ⊢;have HG_:=lh hG;clear hG;replace Ly:=lh (show Lay w V15 [(w.heap.size,26,#[.int .i64 m.fountains,.slice (some ⟨bv,off,none⟩) nv cv,.slice Aa na ca,.slice At nt ct]),(G7,26,#[.int .i64 m.fountains,.slice A1 nv c1,.slice A2 na c2,.slice none 0 0]),(G10,54,#[.int .i64 (lo),.int .i64 (hi)]),(G13,54,#[.int .i64 s1,.int .i64 s2]),(G16,54,#[.int .i64 g1,.int .i64 g2])] from Ly.out);have HLT4:Hid (G13<G16):=lh (by have h1:=HLO.out;have h2:=HG_.out;omega);clear HLO HG_;obtain ⟨x2_0,x2_1⟩:=lyc2 Ly 2 rfl;have l2_:=Ly.out.lt 2 rfl;obtain ⟨x3_0,x3_1⟩:=lyc2 Ly 3 rfl;have l3_:=Ly.out.lt 3 rfl;gi_wp2;clear x2_0 x2_1 l2_ x3_0 x3_1 l3_;refine ⟨trivial,(c_W (gT (lo+s1) (hi+s2) V15)).mono ?_⟩;rintro e W17 ⟨rfl,hb⟩;replace Ly:=lyb Ly hb;replace HBL:=lh (HBL.out.trans (hb.mono HBL.out.size));clear hb;have x2_0:=lyc Ly 2 rfl 0;have z2_0:=lyf Ly 2 rfl 0;have x2_1:=lyc Ly 2 rfl 1;have z2_1:=lyf Ly 2 rfl 1;have l2_:=Ly.out.lt 2 rfl;gi_upto_region 19 with fail
    clear x2_0 z2_0 x2_1 z2_1 l2_
    have hl:Lay w ((W17.setCell ⟨G10,0,none⟩ (.int .i64 (lo+s1))).setCell ⟨G10,1,none⟩ (.int .i64 (hi+s2))) [(w.heap.size,26,#[.int .i64 m.fountains,.slice (some ⟨bv,off,none⟩) nv cv,.slice Aa na ca,.slice At nt ct]),(G7,26,#[.int .i64 m.fountains,.slice A1 nv c1,.slice A2 na c2,.slice none 0 0]),(G10,54,#[.int .i64 (lo+s1),.int .i64 (hi+s2)]),(G13,54,#[.int .i64 s1,.int .i64 s2]),(G16,54,#[.int .i64 g1,.int .i64 g2])]:=ng Ly.out (Ly.out.blk 2 rfl) (Ly.out.ge 2 rfl) (by
     intro p hp;simp only [List.mem_cons,List.not_mem_nil,or_false] at hp;have:=HLT1.out;have:=HLT2.out;have:=HLT3.out;have:=HLT4.out
     rcases hp with rfl | rfl | rfl | rfl | rfl<;>first | exact .inl rfl | exact .inr ⟨by simp,by dsimp only;omega⟩)
    replace HBL:=lh ((HBL.out.setCell (p:=⟨G10,0,none⟩) (by have:=HGE2.out;dsimp only;omega) (.int .i64 (lo+s1))).setCell (p:=⟨G10,1,none⟩) (by have:=HGE2.out;dsimp only;omega) (.int .i64 (hi+s2)));generalize ((W17.setCell ⟨G10,0,none⟩ (.int .i64 (lo+s1))).setCell ⟨G10,1,none⟩ (.int .i64 (hi+s2)))=V18 at *;replace Ly:=lh (show Lay w V18 [(w.heap.size,26,#[.int .i64 m.fountains,.slice (some ⟨bv,off,none⟩) nv cv,.slice Aa na ca,.slice At nt ct]),(G7,26,#[.int .i64 m.fountains,.slice A1 nv c1,.slice A2 na c2,.slice none 0 0]),(G10,54,#[.int .i64 (lo+s1),.int .i64 (hi+s2)]),(G13,54,#[.int .i64 s1,.int .i64 s2]),(G16,54,#[.int .i64 g1,.int .i64 g2])] from hl);clear hl;clear hal hbd;obtain ⟨x0_0,x0_1,x0_2,x0_3⟩:=lyc4 Ly 0 rfl;have l0_:=Ly.out.lt 0 rfl;gi_wp2;clear x0_0 x0_1 x0_2 x0_3 l0_;refine wpIn_loop (fun a U=>∃ q:Nat,Hid (q≤na∧Lay w U [(w.heap.size,26,#[.int .i64 m.fountains,.slice (some ⟨bv,off,none⟩) nv cv,.slice Aa na ca,.slice At nt ct]),(G7,26,#[.int .i64 m.fountains,.slice A1 nv c1,.slice A2 na c2,.slice none 0 0]),(G10,54,#[.int .i64 (lo+s1),.int .i64 (hi+s2)]),(G13,54,#[.int .i64 s1,.int .i64 s2]),(G16,54,#[.int .i64 g1,.int .i64 g2])]∧Below V8.heap.size V8 U)∧FrDb (.pointer (some ⟨w.heap.size,0,none⟩)) (.bool true) (.int .i64 x1.id) (.int .i64 (t1:Nat)) (.int .i64 n) (.pointer (some ⟨G7,0,none⟩)) (.pointer (some ⟨G10,0,none⟩)) (.int .i64 ((k:Int)+1)) (.pointer (some ⟨G13,0,none⟩)) (.pointer (some ⟨G16,0,none⟩)) (.int .i64 (eq m ((k:Int)+1) q)) (.slice Aa na ca) (.int .i64 (na:Nat)) (.int .i64 (q:Nat)) a) (fun a _=>na - (intOf (a.tmps.getD 113 undef)).toNat) ?_ ?_
    ·exact ⟨0,lh ⟨Nat.zero_le _,Ly.out,HBL.out⟩,by rw [show eq m ((k:Int)+1) 0=0 from by simp [eq]];constructor⟩
    clear Ly HBL;rintro a U2 ⟨q,HS2,ha⟩;cases ha;have Ly:=lh HS2.out.2.1;have HBL:=lh HS2.out.2.2;by_cases hlq:q<na
    ·
     obtain ⟨b,o,x,hAa,hba,hx,c0_,c1_,c2_,c3_⟩:=(HMS.out.at_.below Ly.out.1).act hlq;have HX:=lh hx;have HAA:=lh hAa;rw [hAa];gi_upto_region 23 with fail
     rw [← HAA.out];clear hx hAa hba c0_ c1_ c2_ c3_
     obtain ⟨V19,hV⟩:∃ V,(U2.alloc (.cells #[.int .i64 x.kind,.int .i64 x.fr,.int .i64 x.to,.int .i64 x.drops] 62))=V:=⟨_,rfl⟩
     rw [hV];have hb:=dq hV;have hnew:=dt hV;have hge:=Ly.out.bel.size;replace Ly:=lyb Ly hb;replace HBL:=lh (HBL.out.trans (hb.mono HBL.out.size));replace Ly:=lh (Ly.out.add hge hnew);clear hnew hge hb hV
     obtain ⟨G20,hG⟩:∃ g,U2.heap.size=g:=⟨_,rfl⟩
     rw [hG] at Ly ⊢;clear hG;replace Ly:=lh (show Lay w V19 [(w.heap.size,26,#[.int .i64 m.fountains,.slice (some ⟨bv,off,none⟩) nv cv,.slice Aa na ca,.slice At nt ct]),(G7,26,#[.int .i64 m.fountains,.slice A1 nv c1,.slice A2 na c2,.slice none 0 0]),(G10,54,#[.int .i64 (lo+s1),.int .i64 (hi+s2)]),(G13,54,#[.int .i64 s1,.int .i64 s2]),(G16,54,#[.int .i64 g1,.int .i64 g2]),(G20,62,#[.int .i64 x.kind,.int .i64 x.fr,.int .i64 x.to,.int .i64 x.drops])] from Ly.out);have hf1:=pr HOK.out ((k:Int)+1) (k:=q) (by have:=HL2.out;omega);have hf2:=pr HOK.out ((k:Int)+1) (k:=q+1) (by have:=HL2.out;omega);rw [gu HX.out] at hf2;have HFS:=lh (gu HX.out (f:=(k:Int)+1))
     obtain ⟨fq,hfq⟩:∃ fq,eq m ((k:Int)+1) q=fq:=⟨_,rfl⟩
     rw [hfq] at hf1 hf2 HFS ⊢;clear hfq;by_cases hc1:x.kind=1
     ·
      have hc1b:(x.kind==1)=true:=by simpa using hc1
      by_cases hc2:x.fr=(k:Int)+1
      ·
       have hc2b:(x.fr==(k:Int)+1)=true:=by simpa using hc2
       have HFT:=lh (HFS.out.trans (if_pos ⟨hc1,hc2⟩));rw [if_pos ⟨hc1,hc2⟩] at hf2;clear hc1 hc2 HFS;obtain ⟨x5_0,x5_1,x5_2,x5_3⟩:=lyc4 Ly 5 rfl;have l5_:=Ly.out.lt 5 rfl;gi_wp2;clear x5_0 x5_1 x5_2 x5_3 l5_;refine ⟨⟨q+1,lh ⟨hlq,Ly.out.sub (by intro b hb;simp only [List.mem_cons,List.not_mem_nil,or_false] at hb ⊢;rcases hb with rfl | rfl | rfl | rfl | rfl<;>simp [HAA.out]),HBL.out⟩,by rw [HFT.out,show ((q+1:Nat):Int)=(q:Int)+1 from by omega];first | constructor | (rw [HAA.out];constructor)⟩,?_⟩;simp [intOf]<;>omega
      ·
       have hc2b:(x.fr==(k:Int)+1)=false:=by simpa using hc2
       have HFT:=lh (HFS.out.trans (if_neg (fun h=>hc2 h.2)));clear hc1 hc2 hf1 hf2 HFS;obtain ⟨x5_0,x5_1,x5_2,x5_3⟩:=lyc4 Ly 5 rfl;have l5_:=Ly.out.lt 5 rfl;gi_wp2;clear x5_0 x5_1 x5_2 x5_3 l5_;refine ⟨⟨q+1,lh ⟨hlq,Ly.out.sub (by intro b hb;simp only [List.mem_cons,List.not_mem_nil,or_false] at hb ⊢;rcases hb with rfl | rfl | rfl | rfl | rfl<;>simp [HAA.out]),HBL.out⟩,by rw [HFT.out,show ((q+1:Nat):Int)=(q:Int)+1 from by omega];first | constructor | (rw [HAA.out];constructor)⟩,?_⟩;simp [intOf]<;>omega
     ·
      have hc1b:(x.kind==1)=false:=by simpa using hc1
      have HFT:=lh (HFS.out.trans (if_neg (fun h=>hc1 h.1)));clear hc1 hf1 hf2 HFS;obtain ⟨x5_0,x5_1,x5_2,x5_3⟩:=lyc4 Ly 5 rfl;have l5_:=Ly.out.lt 5 rfl;gi_wp2;clear x5_0 x5_1 x5_2 x5_3 l5_
      all_goals try (rename_i hA hB;exact vU hA)
      refine ⟨⟨q+1,lh ⟨hlq,Ly.out.sub (by intro b hb;simp only [List.mem_cons,List.not_mem_nil,or_false] at hb ⊢;rcases hb with rfl | rfl | rfl | rfl | rfl<;>simp [HAA.out]),HBL.out⟩,by rw [HFT.out,show ((q+1:Nat):Int)=(q:Int)+1 from by omega];first | constructor | (rw [HAA.out];constructor)⟩,?_⟩;simp [intOf]<;>omega
    ·
     obtain rfl:na=q:=by have:=HS2.out.1;omega
     rw [gX HL2.out];have hfm:=pr HOK.out ((k:Int)+1) (k:=na) (by have:=HL2.out;omega);rw [gX HL2.out] at hfm
     obtain ⟨fm,hfq⟩:∃ fm,d4 m ((k:Int)+1)=fm:=⟨_,rfl⟩
     rw [hfq] at hfm HG0 HCE HDE ⊢;have HFM:=lh hfm;clear hfq HS2 hlq hfm;have HZB:=lh HBL.out.size;have HLO:=lh (Ly.out.lt 4 rfl);have HZO:=lh HBL.out.size;gi_upto_region 27 with fail
     obtain ⟨V21,hV⟩:∃ V,(U2.alloc (.cells #[.int .i64 0,.int .i64 0] 54))=V:=⟨_,rfl⟩
     rw [hV];have hb:=dq hV;have hnew:=dt hV;have hge:=Ly.out.bel.size;replace Ly:=lyb Ly hb;replace HBL:=lh (HBL.out.trans (hb.mono HBL.out.size));replace Ly:=lh (Ly.out.add hge hnew);clear hnew hge hb hV
     obtain ⟨G22,hG⟩:∃ g,U2.heap.size=g:=⟨_,rfl⟩
     rw [hG] at Ly ⊢;have HG_:=lh hG;clear hG;replace Ly:=lh (show Lay w V21 [(w.heap.size,26,#[.int .i64 m.fountains,.slice (some ⟨bv,off,none⟩) nv cv,.slice Aa na ca,.slice At nt ct]),(G7,26,#[.int .i64 m.fountains,.slice A1 nv c1,.slice A2 na c2,.slice none 0 0]),(G10,54,#[.int .i64 (lo+s1),.int .i64 (hi+s2)]),(G13,54,#[.int .i64 s1,.int .i64 s2]),(G16,54,#[.int .i64 g1,.int .i64 g2]),(G22,54,#[.int .i64 0,.int .i64 0])] from Ly.out);have HLT5:Hid (G16<G22):=lh (by have h1:=HLO.out;have h2:=HG_.out;omega);have HGE5:Hid (V8.heap.size≤G22):=lh (by have h1:=HZO.out;have h2:=HG_.out;omega);clear HZO;clear HLO HG_;obtain ⟨x0_0,x0_1,x0_2,x0_3⟩:=lyc4 Ly 0 rfl;have l0_:=Ly.out.lt 0 rfl;gi_wp2;clear x0_0 x0_1 x0_2 x0_3 l0_;refine wpIn_loop (fun a U=>∃ (q:Nat) (lo2 hi2:Int),Hid (q≤nv∧lG ce de q lo2 hi2∧Lay w U [(w.heap.size,26,#[.int .i64 m.fountains,.slice (some ⟨bv,off,none⟩) nv cv,.slice Aa na ca,.slice At nt ct]),(G7,26,#[.int .i64 m.fountains,.slice A1 nv c1,.slice A2 na c2,.slice none 0 0]),(G10,54,#[.int .i64 (lo+s1),.int .i64 (hi+s2)]),(G13,54,#[.int .i64 s1,.int .i64 s2]),(G16,54,#[.int .i64 g1,.int .i64 g2]),(G22,54,#[.int .i64 (lo2),.int .i64 (hi2)])]∧Below V8.heap.size V8 U)∧FrDc (.pointer (some ⟨w.heap.size,0,none⟩)) (.bool true) (.int .i64 x1.id) (.int .i64 (t1:Nat)) (.int .i64 n) (.pointer (some ⟨G7,0,none⟩)) (.pointer (some ⟨G10,0,none⟩)) (.int .i64 ((k:Int)+1)) (.pointer (some ⟨G13,0,none⟩)) (.pointer (some ⟨G16,0,none⟩)) (.int .i64 fm) (.pointer (some ⟨G22,0,none⟩)) (.slice (some ⟨bv,off,none⟩) nv cv) (.int .i64 (nv:Nat)) (.int .i64 (q:Nat)) a) (fun a _=>nv - (intOf (a.tmps.getD 135 undef)).toNat) ?_ ?_
     ·exact ⟨0,0,0,lh ⟨Nat.zero_le _,by unfold lG;simp [sumV],Ly.out,HBL.out⟩,by constructor⟩
     clear Ly HBL;rintro a U3 ⟨q,lo2,hi2,HS3,ha⟩;cases ha;have Ly:=lh HS3.out.2.2.1;have HBL:=lh HS3.out.2.2.2;have hal:0≤lo2∧lo2≤12 * (q:Int)∧0≤hi2∧hi2≤12 * (q:Int):=HS3.out.2.1.2.2;by_cases hlq:q<nv
     ·
      obtain ⟨b2,o2,y,e9,hbv2,hy,c0_,c1_⟩:=(HMS.out.at_.below Ly.out.1).vess hlq;obtain ⟨rfl,rfl⟩:bv=b2∧off=o2:=by cases e9;exact ⟨rfl,rfl⟩
      have HY:=lh hy;gi_upto_region 30 with fail
      clear hy e9 hbv2 c0_ c1_
      obtain ⟨V23,hV⟩:∃ V,(U3.alloc (.cells #[.int .i64 y.id,.int .i64 y.size] 50))=V:=⟨_,rfl⟩
      rw [hV];have hb:=dq hV;have hnew:=dt hV;have hge:=Ly.out.bel.size;replace Ly:=lyb Ly hb;replace HBL:=lh (HBL.out.trans (hb.mono HBL.out.size));replace Ly:=lh (Ly.out.add hge hnew);clear hnew hge hb hV
      obtain ⟨G24,hG⟩:∃ g,U3.heap.size=g:=⟨_,rfl⟩
      rw [hG] at Ly ⊢;clear hG;replace Ly:=lh (show Lay w V23 [(w.heap.size,26,#[.int .i64 m.fountains,.slice (some ⟨bv,off,none⟩) nv cv,.slice Aa na ca,.slice At nt ct]),(G7,26,#[.int .i64 m.fountains,.slice A1 nv c1,.slice A2 na c2,.slice none 0 0]),(G10,54,#[.int .i64 (lo+s1),.int .i64 (hi+s2)]),(G13,54,#[.int .i64 s1,.int .i64 s2]),(G16,54,#[.int .i64 g1,.int .i64 g2]),(G22,54,#[.int .i64 (lo2),.int .i64 (hi2)]),(G24,50,#[.int .i64 y.id,.int .i64 y.size])] from Ly.out);obtain ⟨x0_0,x0_1,x0_2,x0_3⟩:=lyc4 Ly 0 rfl;have l0_:=Ly.out.lt 0 rfl;obtain ⟨x1_0,x1_1,x1_2,x1_3⟩:=lyc4 Ly 1 rfl;have l1_:=Ly.out.lt 1 rfl;obtain ⟨x6_0,x6_1⟩:=lyc2 Ly 6 rfl;have l6_:=Ly.out.lt 6 rfl;gi_wp2;clear x0_0 x0_1 x0_2 x0_3 l0_ x1_0 x1_1 x1_2 x1_3 l1_ x6_0 x6_1 l6_;refine ⟨trivial,(c_W (pz A1 nv c1 A2 na c2 none 0 0 (dO m []) y.id (na:Nat) ((k:Int)+1) V23 (HTS.out.up HBL.out))).mono ?_⟩;rintro e W25 ⟨u1,u2,e3,rfl,hma,hb⟩;replace Ly:=lyb Ly hb;replace HBL:=lh (HBL.out.trans (hb.mono HBL.out.size));clear hb;obtain ⟨rfl,hu⟩:=HEV.out q y HY.out _ _ hma;have hbd:0≤u1∧u1≤u2∧u2≤12:=xC HOB.out (show 0≤idxV m.vessels y.id by rw [py HOK.out HY.out];omega) (show (0:Int)≤(na:Nat)∧((na:Nat):Int)≤m.acts.length by have:=HL2.out;omega) ⟨by omega,HK1.out⟩ hma;have HEN:=lh (lG.more HS3.out.2.1 hu hbd);clear hma hu;gi_upto_region 31 with fail
      obtain ⟨V26,hV⟩:∃ V,(W25.alloc (.cells #[.int .i64 u1,.int .i64 u2] 54))=V:=⟨_,rfl⟩
      rw [hV];have hb:=dq hV;have hnew:=dt hV;have hge:=Ly.out.bel.size;replace Ly:=lyb Ly hb;replace HBL:=lh (HBL.out.trans (hb.mono HBL.out.size));replace Ly:=lh (Ly.out.add hge hnew);clear hnew hge hb hV
      obtain ⟨G27,hG⟩:∃ g,W25.heap.size=g:=⟨_,rfl⟩
      rw [hG] at Ly ⊢;clear hG;replace Ly:=lh (show Lay w V26 [(w.heap.size,26,#[.int .i64 m.fountains,.slice (some ⟨bv,off,none⟩) nv cv,.slice Aa na ca,.slice At nt ct]),(G7,26,#[.int .i64 m.fountains,.slice A1 nv c1,.slice A2 na c2,.slice none 0 0]),(G10,54,#[.int .i64 (lo+s1),.int .i64 (hi+s2)]),(G13,54,#[.int .i64 s1,.int .i64 s2]),(G16,54,#[.int .i64 g1,.int .i64 g2]),(G22,54,#[.int .i64 (lo2),.int .i64 (hi2)]),(G24,50,#[.int .i64 y.id,.int .i64 y.size]),(G27,54,#[.int .i64 u1,.int .i64 u2])] from Ly.out);obtain ⟨x5_0,x5_1⟩:=lyc2 Ly 5 rfl;have l5_:=Ly.out.lt 5 rfl;obtain ⟨x7_0,x7_1⟩:=lyc2 Ly 7 rfl;have l7_:=Ly.out.lt 7 rfl;gi_wp2;clear x5_0 x5_1 l5_ x7_0 x7_1 l7_;refine ⟨trivial,(c_W (gT (lo2+u1) (hi2+u2) V26)).mono ?_⟩;rintro e W28 ⟨rfl,hb⟩;replace Ly:=lyb Ly hb;replace HBL:=lh (HBL.out.trans (hb.mono HBL.out.size));clear hb;replace Ly:Hid (Lay w W28 [(w.heap.size,26,#[.int .i64 m.fountains,.slice (some ⟨bv,off,none⟩) nv cv,.slice Aa na ca,.slice At nt ct]),(G7,26,#[.int .i64 m.fountains,.slice A1 nv c1,.slice A2 na c2,.slice none 0 0]),(G10,54,#[.int .i64 (lo+s1),.int .i64 (hi+s2)]),(G13,54,#[.int .i64 s1,.int .i64 s2]),(G16,54,#[.int .i64 g1,.int .i64 g2]),(G22,54,#[.int .i64 (lo2),.int .i64 (hi2)])]):=lh (Ly.out.sub (by intro b hb;simp only [List.mem_cons,List.not_mem_nil,or_false] at hb ⊢;rcases hb with rfl | rfl | rfl | rfl | rfl | rfl<;>simp));have x5_0:=lyc Ly 5 rfl 0;have z5_0:=lyf Ly 5 rfl 0;have x5_1:=lyc Ly 5 rfl 1;have z5_1:=lyf Ly 5 rfl 1;have l5_:=Ly.out.lt 5 rfl;gi_wp2;clear x5_0 z5_0 x5_1 z5_1 l5_
      have hl:Lay w ((W28.setCell ⟨G22,0,none⟩ (.int .i64 (lo2+u1))).setCell ⟨G22,1,none⟩ (.int .i64 (hi2+u2))) [(w.heap.size,26,#[.int .i64 m.fountains,.slice (some ⟨bv,off,none⟩) nv cv,.slice Aa na ca,.slice At nt ct]),(G7,26,#[.int .i64 m.fountains,.slice A1 nv c1,.slice A2 na c2,.slice none 0 0]),(G10,54,#[.int .i64 (lo+s1),.int .i64 (hi+s2)]),(G13,54,#[.int .i64 s1,.int .i64 s2]),(G16,54,#[.int .i64 g1,.int .i64 g2]),(G22,54,#[.int .i64 (lo2+u1),.int .i64 (hi2+u2)])]:=ng Ly.out (Ly.out.blk 5 rfl) (Ly.out.ge 5 rfl) (by
       intro p hp;simp only [List.mem_cons,List.not_mem_nil,or_false] at hp;have:=HLT1.out;have:=HLT2.out;have:=HLT3.out;have:=HLT4.out;have:=HLT5.out
       rcases hp with rfl | rfl | rfl | rfl | rfl | rfl<;>first | exact .inl rfl | exact .inr ⟨by simp,by dsimp only;omega⟩)
      replace HBL:=lh ((HBL.out.setCell (p:=⟨G22,0,none⟩) (by have:=HGE5.out;dsimp only;omega) (.int .i64 (lo2+u1))).setCell (p:=⟨G22,1,none⟩) (by have:=HGE5.out;dsimp only;omega) (.int .i64 (hi2+u2)));generalize ((W28.setCell ⟨G22,0,none⟩ (.int .i64 (lo2+u1))).setCell ⟨G22,1,none⟩ (.int .i64 (hi2+u2)))=V29 at *;replace Ly:=lh (show Lay w V29 [(w.heap.size,26,#[.int .i64 m.fountains,.slice (some ⟨bv,off,none⟩) nv cv,.slice Aa na ca,.slice At nt ct]),(G7,26,#[.int .i64 m.fountains,.slice A1 nv c1,.slice A2 na c2,.slice none 0 0]),(G10,54,#[.int .i64 (lo+s1),.int .i64 (hi+s2)]),(G13,54,#[.int .i64 s1,.int .i64 s2]),(G16,54,#[.int .i64 g1,.int .i64 g2]),(G22,54,#[.int .i64 (lo2+u1),.int .i64 (hi2+u2)])] from hl);clear hl;refine ⟨⟨q+1,_,_,lh ⟨hlq,HEN.out,Ly.out,HBL.out⟩,by rw [show ((q+1:Nat):Int)=(q:Int)+1 from by omega];constructor⟩,?_⟩;simp [intOf]<;>omega
     ·
      obtain rfl:nv=q:=by have:=HS3.out.1;omega
      have hen:lo2≤fm - g2∧fm - g1≤hi2:=by
       have h1:=HS3.out.2.1;unfold lG at h1;rw [← HL1.out,HCE.out,HDE.out] at h1;omega
      have hg0:=HG0.out;have hfm:=HFM.out;have q1:decide (g1<0)=false:=by simp;omega
      have q2:decide (g2<g1)=false:=by simp;omega
      have q3:decide (fm<g2)=false:=by simp;omega
      have q4:decide (fm - g2<lo2)=false:=by simp;omega
      have q5:decide (hi2<fm - g1)=false:=by simp;omega
      clear HS3 hlq;obtain ⟨x4_0,x4_1⟩:=lyc2 Ly 4 rfl;have l4_:=Ly.out.lt 4 rfl;obtain ⟨x5_0,x5_1⟩:=lyc2 Ly 5 rfl;have l5_:=Ly.out.lt 5 rfl;gi_upto_region 37 with fail
      clear x4_0 x4_1 l4_ x5_0 x5_1 l5_;clear hen hg0 hfm q1 q2 q3 q4 q5 hal;have HAL2:=lh (ly.more HAL.out HOF1.out HBD.out);by_cases hF1:m.fountains=1
      ·
       have hpr:=HOF2.out hF1;have hF1b:(m.fountains==1)=true:=by simp;omega
       obtain rfl:n=s1:=(congrArg Prod.fst hpr).symm;obtain rfl:n=s2:=(congrArg Prod.snd hpr).symm;have hsn:∀ z:World,(Op.equalIn 10000 54 (.agg #[.int .i64 n,.int .i64 n]) (.agg #[.int .i64 n,.int .i64 n])).run Tryz.prog z = .ok true z:=fun z=>dP n n z;clear hpr;refine wpIn_flow_old [([true,true,true,true,true,true,true],7)] [false,false,false,false,false,false,false,false,true,true] [] (by kernel_rfl) (by kernel_rfl) (by kernel_rfl) (av b_R 1) ?_;refine wpFlow_cons (A:=?AF2) rfl ?hq2 ?_
       case hq2 =>
        rintro σ hσ of hof hcl;have HOF:=lh hof;clear hof hcl;have c0_:∀ z,(of z).cell? ⟨w.heap.size,0,none⟩=some (.int .i64 m.fountains):=lyz Ly HOF 0 rfl 0;obtain ⟨c1_,c2_⟩:=lyz2 Ly HOF 3 rfl;have hfw:=hfT;simp only [bu]
        repeat (gi_big_quiet_step (fail))
        refine wpQuietIn_nil ?_;exact rfl
       intro W30 hW;replace Ly:=lyb Ly hW;replace HBL:=lh (HBL.out.trans (hW.mono HBL.out.size));clear hW;gi_wp2;refine ⟨trivial,(c_W (gT n n W30)).mono ?_⟩;rintro e W31 ⟨rfl,hb⟩;replace Ly:=lyb Ly hb;replace HBL:=lh (HBL.out.trans (hb.mono HBL.out.size));gi_wp2;refine ⟨trivial,hb,?_⟩;clear hb;refine wpFlow_nil (A:=?AF3) ?hq3 ?_
       case hq3 =>
        rintro σ hσ of hof hcl;have HOF:=lh hof;clear hof hcl;have c0_:∀ z,(of z).cell? ⟨w.heap.size,0,none⟩=some (.int .i64 m.fountains):=lyz Ly HOF 0 rfl 0;obtain ⟨c1_,c2_⟩:=lyz2 Ly HOF 3 rfl;have hfw:=hfT;simp only [bu]
        repeat (gi_big_quiet_step (fail))
        refine wpQuietIn_nil ?_;exact rfl
       intro W32 hW;replace Ly:=lyb Ly hW;replace HBL:=lh (HBL.out.trans (hW.mono HBL.out.size));clear hW;simp only [bu];refine cX ?_;gi_wp2;refine ⟨⟨k+1,_,_,lh ⟨hlt,HAL2.out,Ly.out.sub (by intro b hb;simp only [List.mem_cons,List.not_mem_nil,or_false] at hb ⊢;rcases hb with rfl | rfl | rfl<;>simp),HBL.out⟩,by rw [show ((k+1:Nat):Int)=(k:Int)+1 from by omega];constructor⟩,?_⟩;simp [intOf]<;>omega
      ·
       have hF1b:(m.fountains==1)=false:=by simp;omega
       refine wpIn_flow_old [([true,true,true,true,true,true,true],7)] [false,false,false,false,false,false,false,false,true,true] [] (by kernel_rfl) (by kernel_rfl) (by kernel_rfl) (av b_R 1) ?_;refine wpFlow_cons (A:=?AF4) rfl ?hq4 ?_
       case hq4 =>
        rintro σ hσ of hof hcl;have HOF:=lh hof;clear hof hcl;have c0_:∀ z,(of z).cell? ⟨w.heap.size,0,none⟩=some (.int .i64 m.fountains):=lyz Ly HOF 0 rfl 0;obtain ⟨c1_,c2_⟩:=lyz2 Ly HOF 3 rfl;have hfw:=hfT;simp only [bu]
        repeat (gi_big_quiet_step (fail))
        refine wpQuietIn_nil ?_;exact rfl
       intro W33 hW;replace Ly:=lyb Ly hW;replace HBL:=lh (HBL.out.trans (hW.mono HBL.out.size));clear hW;gi_wp2;refine ⟨trivial,?_⟩;gi_wp2;refine ⟨trivial,b_R,?_⟩;refine wpFlow_nil (A:=?AF5) ?hq5 ?_
       case hq5 =>
        rintro σ hσ of hof hcl;have HOF:=lh hof;clear hof hcl;have c0_:∀ z,(of z).cell? ⟨w.heap.size,0,none⟩=some (.int .i64 m.fountains):=lyz Ly HOF 0 rfl 0;obtain ⟨c1_,c2_⟩:=lyz2 Ly HOF 3 rfl;have hfw:=hfT;simp only [bu]
        repeat (gi_big_quiet_step (fail))
        refine wpQuietIn_nil ?_;exact rfl
       intro W34 hW;replace Ly:=lyb Ly hW;replace HBL:=lh (HBL.out.trans (hW.mono HBL.out.size));clear hW;simp only [bu];refine cX ?_;gi_wp2;refine ⟨⟨k+1,_,_,lh ⟨hlt,HAL2.out,Ly.out.sub (by intro b hb;simp only [List.mem_cons,List.not_mem_nil,or_false] at hb ⊢;rcases hb with rfl | rfl | rfl<;>simp),HBL.out⟩,by rw [show ((k+1:Nat):Int)=(k:Int)+1 from by omega];constructor⟩,?_⟩;simp [intOf]<;>omega
   ·
    obtain rfl:F=k:=by have:=HS.out.1;omega
    have hkb:decide ((F:Int)+1≤m.fountains)=false:=by have:=HFn.out;simp;omega
    have hsum:lo≤n∧n≤hi:=by
     have h1:=HAL.out;have h2:=HSUM.out;rw [HFn.out,Int.toNat_natCast] at h2;unfold ly at h1;omega
    have q1:decide (lo≤n)=true:=by simp;omega
    have q2:decide (n≤hi)=true:=by simp;omega
    clear hsum HS hlt hal;obtain ⟨x0_0,x0_1,x0_2,x0_3⟩:=lyc4 Ly 0 rfl;have l0_:=Ly.out.lt 0 rfl;obtain ⟨x2_0,x2_1⟩:=lyc2 Ly 2 rfl;have l2_:=Ly.out.lt 2 rfl;gi_wp2;clear x0_0 x0_1 x0_2 x0_3 l0_ x2_0 x2_1 l2_;refine bodyPost_ret (v:=.bool true) (by simp [results,Tryz.results9,go_sem]) rfl ?_;exact ⟨rfl,Ly.out.1⟩
end
section
open Go.ChangeShapes Go.WideShapes Go.ChangeAt Go.RowKit Go.Joins
theorem ownT:ownKnob Tryz.prog.godebug=none:=by kernel_rfl
theorem mT:laidOutB Tryz.prog=true:=by kernel_rfl
theorem mixDrops_lifted (os:Os)(started:os.Started)(H:Type)(enc:TypeId × Value→H) :
  ReturnsInHanded {} Tryz.checked os 9 .any (Rows.mixDropsSpec.pre6 enc Tryz.prog Tryz.f9 Rows.mixDropsRow.domain false) (Rows.mixDropsSpec.post enc Tryz.prog Tryz.f9 false true false false):=by
 refine returnsInHanded_of_change (C:=Tryz.checked) ownT started (by kernel_rfl) Tryz.func9
  (ChangeSpec.witness6 (enc:=enc) (C:=Tryz.checked) false ⟨#[],#[.agg #[.int .i64 0,.slice none 0 0,.slice none 0 0,.slice none 0 0],.int .u8 0,.int .u8 0],[]⟩ 8 (by kernel_rfl) (by kernel_rfl) (by kernel_rfl) (by kernel_rfl)) ?_
 intro W base args ds gs before hval0 hW hcnd _;have hval:∀ (j:Nat) t v,Tryz.f9.params[j]? =some t→args[j]? =some v→Value.okWide Tryz.prog W .any base t v:=hval0;have hW':=hW;obtain ⟨p,q,hA0,hV,rfl,hfz,hnd⟩:=hW;have hA:DataW.TrodAll enc Tryz.prog W 0 (fun _=>true) true Tryz.f9.params.toList args.toList ds p:=hA0;rw [Tryz.params9] at hA hval;obtain ⟨v0,vs0,d0,ds0,p0,q0,hargs,rfl,rfl,h0,r0⟩:=trodAll_cons hA;obtain ⟨v1,vs1,d1,ds1,p1,q1,rfl,rfl,rfl,h1,r1⟩:=trodAll_cons r0;obtain ⟨v2,vs2,d2,ds2,p2,q2,rfl,rfl,rfl,h2,r2⟩:=trodAll_cons r1;obtain ⟨rfl,rfl,rfl⟩:=trodAll_nil r2;obtain rfl:args=#[v0,v1,v2]:=by cases args;simp_all
 obtain ⟨rfl,rfl⟩:=trodVars_none hV;have k0:=h0;have lt0:∀ x∈p0,x.block<W.heap.size:=by obtain ⟨m,hm⟩:=k0;exact DataW.trod_lt m _ _ _ hm
 have k1:=h1;have lt1:∀ x∈p1,x.block<W.heap.size:=by obtain ⟨m,hm⟩:=k1;exact DataW.trod_lt m _ _ _ hm
 have k2:=h2;have lt2:∀ x∈p2,x.block<W.heap.size:=by obtain ⟨m,hm⟩:=k2;exact DataW.trod_lt m _ _ _ hm
 obtain ⟨Av,nv,cv,Aa,na,ca,At,nt,ct,m,rfl,hca,hct,hm⟩:=vR (hval 0 26 v0 rfl rfl) h0;obtain ⟨s1,e1,hb1⟩:=sl h1 (okWide_int Tryz.underlying5 (hval 1 5 v1 rfl rfl));subst e1;obtain ⟨s2,e2,hb2⟩:=sl h2 (okWide_int Tryz.underlying5 (hval 2 5 v2 rfl rfl));subst e2;clear hA0 hval0;refine (callsIn_wide.1 (tr Av nv cv Aa na ca At nt ct m s1 s2 W hm hb1 hb2)).mono fun e W' ⟨he,bel⟩=>?_;subst he;exact ⟨_,rfl,_,_,_,[],_,[],hW',trodAll_mk1 (shut_bool Tryz.underlying4 _),(trodAll_cons_mk (Below.trod mT (by kernel_rfl) (of_decide_eq_true (by kernel_rfl)) k0 bel lt0) (trodAll_cons_mk (Below.trod mT (by kernel_rfl) (of_decide_eq_true (by kernel_rfl)) k1 bel lt1) (trodAll_cons_mk (Below.trod mT (by kernel_rfl) (of_decide_eq_true (by kernel_rfl)) k2 bel lt2) (trodAll_mk0)))),rfl,bel.frame _,fun h=>by cases h⟩
theorem mixDrops_holds:Rows.MixDropsSaid :=
 OpenClaim.holds_of_wide 9 Tryz.f9 rfl rfl rfl rfl rfl rfl rfl ⟨rfl,rfl,rfl,rfl,rfl⟩ rfl rfl rfl rfl rfl (by kernel_rfl) Tryz.func9 (by kernel_rfl)
  (of_decide_eq_true (by kernel_rfl)) (by unfold Func.isWrapper;rw [if_neg (of_decide_eq_false (by kernel_rfl))];exact ⟨rfl,rfl⟩)
  (fun os started H enc _=>mixDrops_lifted os started H enc)
#print axioms mixDrops_holds
end
end Go.Proofs.YthofngceiecniaaGreat
