/- Part 13 of the texts of this claim, joined. -/
import Derived.Sort.CutIn
import Derived.Test.YthofngceiecniaaGreatZxJ12
set_option linter.unusedVariables false
/- The answer's truths. -/
namespace Go.Proofs.YthofngceiecniaaGreat
set_option maxHeartbeats 16000000
set_option maxRecDepth 100000
section
open Go.RowKit
theorem o5:(Tryz.prog.info? 194).map (fun i=>(i.zero,i.size,i.bytes))=some (some (.slice none 0 0),1,24):=by kernel_rfl
theorem qB:(Tryz.prog.info? 4).map (fun i=>(i.zero,i.size,i.bytes))=some (some (.bool false),1,1):=by kernel_rfl
theorem qm {m:Mix}(hk:cu m=true):∀ x∈m.tastes,0≤idxV m.vessels x.vessel:=by
 intro x hx;unfold cu at hk;simp only [Bool.and_eq_true] at hk;have h:=List.all_eq_true.1 hk.1.1.1.2 x hx;unfold dz at h;have:=of_decide_eq_true h;omega
structure Ex2 {α β:Type}(P:α→β→Prop):Prop where
 ex:∃ a b,P a b
structure Ex3 {α β γ:Type}(P:α→β→γ→Prop):Prop where
 ex:∃ a b c,P a b c
def pX (w:World)(m:Mix)(f:Int)(e:Ending)(w':World):Prop :=
 ∃ (L:List Held) (rs:List Nat) (bs:List (List Bool)) (g n N:Nat) (b:Bool),e = .returned (.tuple #[.slice (some ⟨g,0,none⟩) n n,.bool b])∧dD (zsM m)=(N:Int)∧(1≤N∧N≤28561)∧allM m m.acts=some L∧n=m.acts.length+1∧BR w w' N g rs bs∧Tab N n bs (fun i c=>cD m f L i (decN m c))∧(b=true↔cD m f L 0 cQ)
inductive FrT1 (v0 v1 v2 v4 v5 v6 v7 v8 v9 v10:Value):Act→Prop
 | mk (a b c d e f g h i j k l m n o p q r s t w x y z A B C D E F G H I J K L M N O P Q R S T U V W X Y Z aa ab ac ad ae af ag ah ai aj ak al am an ao ap aq ar aw ax ay az aA aB aC aD aE aF aG aH aI aJ aK aL aM aN aO aP aQ aR aS aT aU aV aW aX aY aZ a0 a1 a2 a3 a4 a5 a6 a7 a8 a9 ba bb bc bd be bf bg bh bi bj bk bl bm bn bo bp bq br bs bt bw bx bz bA bB bC bD bE bF bG bH bI bJ bK bL bM bN bO bP bQ bR bS bT bU bV bW bX bY bZ b0 b1 b2 b3 b4 b5 b6 b7 b8 b9 ca cb cc cd ce cf cg ch ci cj ck cl cm cn co:Value):FrT1 v0 v1 v2 v4 v5 v6 v7 v8 v9 v10 ⟨#[v0,v1,v2,a,v4,v5,v6,v7,v8,v9,v10,b,c,d,e,f,g,h,i,j,k,l,m,n,o,p,q,r,s,t,w,x,y,z,A,B,C,D,E,F,G,H,I,J,K,L,M,N,O,P,Q,R,S,T,U,V,W,X,Y,Z,aa,ab,ac,ad,ae,af,ag,ah,ai,aj,ak,al,am,an,ao,ap,aq,ar,aw,ax,ay,az,aA,aB,aC,aD,aE,aF,aG,aH,aI,aJ,aK,aL,aM,aN,aO,aP,aQ,aR,aS,aT,aU,aV,aW,aX,aY,aZ,a0,a1,a2,a3,a4,a5,a6,a7,a8,a9,ba,bb,bc,bd,be,bf,bg,bh,bi,bj,bk,bl,bm,bn,bo,bp,bq,br,bs,bt,bw,bx,bz,bA,bB,bC,bD,bE,bF,bG,bH,bI,bJ,bK,bL,bM,bN,bO,bP,bQ,bR,bS,bT,bU,bV,bW,bX,bY,bZ,b0,b1,b2,b3,b4,b5,b6,b7,b8,b9,ca,cb,cc,cd,ce,cf,cg,ch,ci,cj,ck,cl,cm,cn,co],[]⟩
inductive FrT2 (v0 v1 v2 v4 v5 v6 v7 v8 v9 v55 v56 v57:Value):Act→Prop
 | mk (a b c d e f g h i j k l m n o p q r s t w x y z A B C D E F G H I J K L M N O P Q R S T U V W X Y Z aa ab ac ad ae af ag ah ai aj ak al am an ao ap aq ar aw ax ay az aA aB aC aD aE aF aG aH aI aJ aK aL aM aN aO aP aQ aR aS aT aU aV aW aX aY aZ a0 a1 a2 a3 a4 a5 a6 a7 a8 a9 ba bb bc bd be bf bg bh bi bj bk bl bm bn bo bp bq br bs bt bw bx bz bA bB bC bD bE bF bG bH bI bJ bK bL bM bN bO bP bQ bR bS bT bU bV bW bX bY bZ b0 b1 b2 b3 b4 b5 b6 b7 b8 b9 ca cb cc cd ce cf cg ch ci cj ck cl cm:Value):FrT2 v0 v1 v2 v4 v5 v6 v7 v8 v9 v55 v56 v57 ⟨#[v0,v1,v2,a,v4,v5,v6,v7,v8,v9,b,c,d,e,f,g,h,i,j,k,l,m,n,o,p,q,r,s,t,w,x,y,z,A,B,C,D,E,F,G,H,I,J,K,L,M,N,O,P,Q,R,S,T,U,V,v55,v56,v57,W,X,Y,Z,aa,ab,ac,ad,ae,af,ag,ah,ai,aj,ak,al,am,an,ao,ap,aq,ar,aw,ax,ay,az,aA,aB,aC,aD,aE,aF,aG,aH,aI,aJ,aK,aL,aM,aN,aO,aP,aQ,aR,aS,aT,aU,aV,aW,aX,aY,aZ,a0,a1,a2,a3,a4,a5,a6,a7,a8,a9,ba,bb,bc,bd,be,bf,bg,bh,bi,bj,bk,bl,bm,bn,bo,bp,bq,br,bs,bt,bw,bx,bz,bA,bB,bC,bD,bE,bF,bG,bH,bI,bJ,bK,bL,bM,bN,bO,bP,bQ,bR,bS,bT,bU,bV,bW,bX,bY,bZ,b0,b1,b2,b3,b4,b5,b6,b7,b8,b9,ca,cb,cc,cd,ce,cf,cg,ch,ci,cj,ck,cl,cm],[]⟩
inductive FrT3 (v0 v1 v2 v4 v5 v6 v7 v8 v9 v11 v12 v13 v55 v56 v57:Value):Act→Prop
 | mk (a b c d e f g h i j k l m n o p q r s t w x y z A B C D E F G H I J K L M N O P Q R S T U V W X Y Z aa ab ac ad ae af ag ah ai aj ak al am an ao ap aq ar aw ax ay az aA aB aC aD aE aF aG aH aI aJ aK aL aM aN aO aP aQ aR aS aT aU aV aW aX aY aZ a0 a1 a2 a3 a4 a5 a6 a7 a8 a9 ba bb bc bd be bf bg bh bi bj bk bl bm bn bo bp bq br bs bt bw bx bz bA bB bC bD bE bF bG bH bI bJ bK bL bM bN bO bP bQ bR bS bT bU bV bW bX bY bZ b0 b1 b2 b3 b4 b5 b6 b7 b8 b9 ca cb cc cd ce cf cg ch ci cj:Value):FrT3 v0 v1 v2 v4 v5 v6 v7 v8 v9 v11 v12 v13 v55 v56 v57 ⟨#[v0,v1,v2,a,v4,v5,v6,v7,v8,v9,b,v11,v12,v13,c,d,e,f,g,h,i,j,k,l,m,n,o,p,q,r,s,t,w,x,y,z,A,B,C,D,E,F,G,H,I,J,K,L,M,N,O,P,Q,R,S,v55,v56,v57,T,U,V,W,X,Y,Z,aa,ab,ac,ad,ae,af,ag,ah,ai,aj,ak,al,am,an,ao,ap,aq,ar,aw,ax,ay,az,aA,aB,aC,aD,aE,aF,aG,aH,aI,aJ,aK,aL,aM,aN,aO,aP,aQ,aR,aS,aT,aU,aV,aW,aX,aY,aZ,a0,a1,a2,a3,a4,a5,a6,a7,a8,a9,ba,bb,bc,bd,be,bf,bg,bh,bi,bj,bk,bl,bm,bn,bo,bp,bq,br,bs,bt,bw,bx,bz,bA,bB,bC,bD,bE,bF,bG,bH,bI,bJ,bK,bL,bM,bN,bO,bP,bQ,bR,bS,bT,bU,bV,bW,bX,bY,bZ,b0,b1,b2,b3,b4,b5,b6,b7,b8,b9,ca,cb,cc,cd,ce,cf,cg,ch,ci,cj],[]⟩
inductive FrT4 (v0 v1 v2 v4 v5 v6 v7 v8 v9 v11 v12 v13 v14 v15 v16 v55 v56 v57:Value):Act→Prop
 | mk (a b c d e f g h i j k l m n o p q r s t w x y z A B C D E F G H I J K L M N O P Q R S T U V W X Y Z aa ab ac ad ae af ag ah ai aj ak al am an ao ap aq ar aw ax ay az aA aB aC aD aE aF aG aH aI aJ aK aL aM aN aO aP aQ aR aS aT aU aV aW aX aY aZ a0 a1 a2 a3 a4 a5 a6 a7 a8 a9 ba bb bc bd be bf bg bh bi bj bk bl bm bn bo bp bq br bs bt bw bx bz bA bB bC bD bE bF bG bH bI bJ bK bL bM bN bO bP bQ bR bS bT bU bV bW bX bY bZ b0 b1 b2 b3 b4 b5 b6 b7 b8 b9 ca cb cc cd ce cf cg:Value):FrT4 v0 v1 v2 v4 v5 v6 v7 v8 v9 v11 v12 v13 v14 v15 v16 v55 v56 v57 ⟨#[v0,v1,v2,a,v4,v5,v6,v7,v8,v9,b,v11,v12,v13,v14,v15,v16,c,d,e,f,g,h,i,j,k,l,m,n,o,p,q,r,s,t,w,x,y,z,A,B,C,D,E,F,G,H,I,J,K,L,M,N,O,P,v55,v56,v57,Q,R,S,T,U,V,W,X,Y,Z,aa,ab,ac,ad,ae,af,ag,ah,ai,aj,ak,al,am,an,ao,ap,aq,ar,aw,ax,ay,az,aA,aB,aC,aD,aE,aF,aG,aH,aI,aJ,aK,aL,aM,aN,aO,aP,aQ,aR,aS,aT,aU,aV,aW,aX,aY,aZ,a0,a1,a2,a3,a4,a5,a6,a7,a8,a9,ba,bb,bc,bd,be,bf,bg,bh,bi,bj,bk,bl,bm,bn,bo,bp,bq,br,bs,bt,bw,bx,bz,bA,bB,bC,bD,bE,bF,bG,bH,bI,bJ,bK,bL,bM,bN,bO,bP,bQ,bR,bS,bT,bU,bV,bW,bX,bY,bZ,b0,b1,b2,b3,b4,b5,b6,b7,b8,b9,ca,cb,cc,cd,ce,cf,cg],[]⟩
inductive FrT5 (v0 v1 v2 v4 v5 v6 v7 v8 v9 v18:Value):Act→Prop
 | mk (a b c d e f g h i j k l m n o p q r s t w x y z A B C D E F G H I J K L M N O P Q R S T U V W X Y Z aa ab ac ad ae af ag ah ai aj ak al am an ao ap aq ar aw ax ay az aA aB aC aD aE aF aG aH aI aJ aK aL aM aN aO aP aQ aR aS aT aU aV aW aX aY aZ a0 a1 a2 a3 a4 a5 a6 a7 a8 a9 ba bb bc bd be bf bg bh bi bj bk bl bm bn bo bp bq br bs bt bw bx bz bA bB bC bD bE bF bG bH bI bJ bK bL bM bN bO bP bQ bR bS bT bU bV bW bX bY bZ b0 b1 b2 b3 b4 b5 b6 b7 b8 b9 ca cb cc cd ce cf cg ch ci cj ck cl cm cn co:Value):FrT5 v0 v1 v2 v4 v5 v6 v7 v8 v9 v18 ⟨#[v0,v1,v2,a,v4,v5,v6,v7,v8,v9,b,c,d,e,f,g,h,i,v18,j,k,l,m,n,o,p,q,r,s,t,w,x,y,z,A,B,C,D,E,F,G,H,I,J,K,L,M,N,O,P,Q,R,S,T,U,V,W,X,Y,Z,aa,ab,ac,ad,ae,af,ag,ah,ai,aj,ak,al,am,an,ao,ap,aq,ar,aw,ax,ay,az,aA,aB,aC,aD,aE,aF,aG,aH,aI,aJ,aK,aL,aM,aN,aO,aP,aQ,aR,aS,aT,aU,aV,aW,aX,aY,aZ,a0,a1,a2,a3,a4,a5,a6,a7,a8,a9,ba,bb,bc,bd,be,bf,bg,bh,bi,bj,bk,bl,bm,bn,bo,bp,bq,br,bs,bt,bw,bx,bz,bA,bB,bC,bD,bE,bF,bG,bH,bI,bJ,bK,bL,bM,bN,bO,bP,bQ,bR,bS,bT,bU,bV,bW,bX,bY,bZ,b0,b1,b2,b3,b4,b5,b6,b7,b8,b9,ca,cb,cc,cd,ce,cf,cg,ch,ci,cj,ck,cl,cm,cn,co],[]⟩
inductive FrT6 (v0 v1 v2 v4 v5 v6 v7 v8 v9 v18 v19 v20:Value):Act→Prop
 | mk (a b c d e f g h i j k l m n o p q r s t w x y z A B C D E F G H I J K L M N O P Q R S T U V W X Y Z aa ab ac ad ae af ag ah ai aj ak al am an ao ap aq ar aw ax ay az aA aB aC aD aE aF aG aH aI aJ aK aL aM aN aO aP aQ aR aS aT aU aV aW aX aY aZ a0 a1 a2 a3 a4 a5 a6 a7 a8 a9 ba bb bc bd be bf bg bh bi bj bk bl bm bn bo bp bq br bs bt bw bx bz bA bB bC bD bE bF bG bH bI bJ bK bL bM bN bO bP bQ bR bS bT bU bV bW bX bY bZ b0 b1 b2 b3 b4 b5 b6 b7 b8 b9 ca cb cc cd ce cf cg ch ci cj ck cl cm:Value):FrT6 v0 v1 v2 v4 v5 v6 v7 v8 v9 v18 v19 v20 ⟨#[v0,v1,v2,a,v4,v5,v6,v7,v8,v9,b,c,d,e,f,g,h,i,v18,v19,v20,j,k,l,m,n,o,p,q,r,s,t,w,x,y,z,A,B,C,D,E,F,G,H,I,J,K,L,M,N,O,P,Q,R,S,T,U,V,W,X,Y,Z,aa,ab,ac,ad,ae,af,ag,ah,ai,aj,ak,al,am,an,ao,ap,aq,ar,aw,ax,ay,az,aA,aB,aC,aD,aE,aF,aG,aH,aI,aJ,aK,aL,aM,aN,aO,aP,aQ,aR,aS,aT,aU,aV,aW,aX,aY,aZ,a0,a1,a2,a3,a4,a5,a6,a7,a8,a9,ba,bb,bc,bd,be,bf,bg,bh,bi,bj,bk,bl,bm,bn,bo,bp,bq,br,bs,bt,bw,bx,bz,bA,bB,bC,bD,bE,bF,bG,bH,bI,bJ,bK,bL,bM,bN,bO,bP,bQ,bR,bS,bT,bU,bV,bW,bX,bY,bZ,b0,b1,b2,b3,b4,b5,b6,b7,b8,b9,ca,cb,cc,cd,ce,cf,cg,ch,ci,cj,ck,cl,cm],[]⟩
inductive FrT7 (v0 v1 v2 v4 v5 v6 v7 v8 v9 v18 v19 v20 v21 v22 v23 v24:Value):Act→Prop
 | mk (a b c d e f g h i j k l m n o p q r s t w x y z A B C D E F G H I J K L M N O P Q R S T U V W X Y Z aa ab ac ad ae af ag ah ai aj ak al am an ao ap aq ar aw ax ay az aA aB aC aD aE aF aG aH aI aJ aK aL aM aN aO aP aQ aR aS aT aU aV aW aX aY aZ a0 a1 a2 a3 a4 a5 a6 a7 a8 a9 ba bb bc bd be bf bg bh bi bj bk bl bm bn bo bp bq br bs bt bw bx bz bA bB bC bD bE bF bG bH bI bJ bK bL bM bN bO bP bQ bR bS bT bU bV bW bX bY bZ b0 b1 b2 b3 b4 b5 b6 b7 b8 b9 ca cb cc cd ce cf cg ch ci:Value):FrT7 v0 v1 v2 v4 v5 v6 v7 v8 v9 v18 v19 v20 v21 v22 v23 v24 ⟨#[v0,v1,v2,a,v4,v5,v6,v7,v8,v9,b,c,d,e,f,g,h,i,v18,v19,v20,v21,v22,v23,v24,j,k,l,m,n,o,p,q,r,s,t,w,x,y,z,A,B,C,D,E,F,G,H,I,J,K,L,M,N,O,P,Q,R,S,T,U,V,W,X,Y,Z,aa,ab,ac,ad,ae,af,ag,ah,ai,aj,ak,al,am,an,ao,ap,aq,ar,aw,ax,ay,az,aA,aB,aC,aD,aE,aF,aG,aH,aI,aJ,aK,aL,aM,aN,aO,aP,aQ,aR,aS,aT,aU,aV,aW,aX,aY,aZ,a0,a1,a2,a3,a4,a5,a6,a7,a8,a9,ba,bb,bc,bd,be,bf,bg,bh,bi,bj,bk,bl,bm,bn,bo,bp,bq,br,bs,bt,bw,bx,bz,bA,bB,bC,bD,bE,bF,bG,bH,bI,bJ,bK,bL,bM,bN,bO,bP,bQ,bR,bS,bT,bU,bV,bW,bX,bY,bZ,b0,b1,b2,b3,b4,b5,b6,b7,b8,b9,ca,cb,cc,cd,ce,cf,cg,ch,ci],[]⟩
theorem j7 (Av:Option Addr)(nv cv:Nat)(Aa:Option Addr)(na ca:Nat)(At:Option Addr)(nt ct:Nat)(m:Mix)(fountain:Int)(w:World)(h:MixS w Av nv Aa na At nt m)(hok:cu m=true) :
  CallsIn Fence.wide 9 Tryz.prog 124 #[.agg #[.int .i64 m.fountains,.slice Av nv cv,.slice Aa na ca,.slice At nt ct],.int .i64 fountain] w (pX w m fountain):=by
 have HM:=lh h;have HLA:=lh h.at_.lenA;have HLV:=lh h.at_.lenV;have HLT:=lh h.at_.lenT;have HOK:=lh hok;have HZ:=lh (dh hok);have HV:=lh (cI hok);have HTV:=lh (qm hok);clear h hok;refine callsIn_of_wp Tryz.func124 rfl trivial ?_ rfl;simp only [Tryz.ntmps124,es,Nat.reduceAdd,Nat.reduceSub];gi_upto_region 1 with fail
 have Ly:=lh (Lay.one w 26 #[.int .i64 m.fountains,.slice Av nv cv,.slice Aa na ca,.slice At nt ct]);generalize (w.alloc (.cells #[.int .i64 m.fountains,.slice Av nv cv,.slice Aa na ca,.slice At nt ct] 26))=w0 at *;obtain ⟨x0_0,x0_1,x0_2,x0_3⟩:=lyc4 Ly 0 rfl;have l0_:=Ly.out.lt 0 rfl;gi_wp2;clear x0_0 x0_1 x0_2 x0_3 l0_;refine ⟨trivial,(c_W (iE Av nv cv Aa na ca At nt ct m w0 (HM.out.up Ly.out.1) HZ.out (by have h1:=HV.out;have h2:=HLV.out;omega) (by have h1:=HV.out;have h2:=HLA.out;omega))).mono ?_⟩;rintro e W1 ⟨hb,A,n,c0,b,L,rfl,hpl⟩;replace Ly:=lyb Ly hb;clear hb
 have hpl2:b=true∧allM m m.acts=some L∧cB W1 W1.heap.size 4 A n (L.flatMap dH):=by
  rcases hpl with h | ⟨_,_,h⟩
  ·exact h
  ·obtain ⟨A',hA'⟩:=jv HOK.out
   rw [h] at hA';cases hA'
 clear hpl;obtain ⟨rfl,hL,hrd⟩:=hpl2
 have hn:n=na+1:=by
  have h1:=dC _ _ _ hL;have h2:=dY dF (by omega) hrd;have h3:=HLA.out;omega
 have HL:=lh hL;have HRD:=lh hrd;have HN:=lh hn;have hn13:n≤13:=by have h1:=HV.out;have h2:=HLA.out;omega
 have HN13:=lh hn13;clear hL hrd hn;obtain ⟨x0_0,x0_1,x0_2,x0_3⟩:=lyc4 Ly 0 rfl;have l0_:=Ly.out.lt 0 rfl;gi_wp2;clear x0_0 x0_1 x0_2 x0_3 l0_;refine ⟨trivial,(c_W (qj Av nv cv Aa na ca At nt ct m W1 (HM.out.up Ly.out.1) HZ.out HV.out.1)).mono ?_⟩;rintro e W2 ⟨rfl,hb⟩;replace Ly:=lyb Ly hb;replace HRD:=lh ((HRD.out.below hb).more hb.size);clear hb
 obtain ⟨N,hN,hN9⟩:∃ N:Nat,dD (zsM m)=(N:Int)∧1≤N∧N≤28561:=by
  have h:=mG HZ.out HV.out.1 (Nat.le_refl m.vessels.length);rw [ia rfl] at h;exact ⟨(dD (zsM m)).toNat,by omega,by omega,by omega⟩
 rw [hN];have HNN:=lh hN;have HN9:=lh hN9;have HTB:Hid (TbOk ⟨0,none,0,0,none,0,0,none,0,0,none,0,0,m,L⟩):=lh ⟨HOK.out,HL.out⟩;clear hN hN9;obtain ⟨bl,ol,a0,hA0,hbl,_,_⟩:=dp dF (by omega) HRD.out (show 0<n by have:=HN.out;omega);subst hA0;have HBL:=lh hbl;clear hbl;gi_upto_region 3 with fail
 obtain ⟨i0,hi,hz0,hz1,hz2⟩:=info_parts o5
 gi_upto_region 4 with (first | (gi_at_make;refine fD rfl _ _ 191 rfl 194 i0 _ rfl hi hz0 n rfl rfl (by rw [hz2];omega) (by unfold maxLen;omega) ?_) | fail)
 have e1:madeCells (Value.slice none 0 0).cells (n * i0.size)=(List.replicate n (Value.slice none 0 0)).toArray:=by
  rw [hz1];exact iN (.slice none 0 0) n
 first | rw [e1] | (have e2:=iN (.slice none 0 0) n;rw [Nat.mul_one] at e2;rw [e2];clear e2)
 clear e1 hi hz0 hz1 hz2;have hbb:Below W2.heap.size W2 (W2.alloc (.cells (List.replicate n (Value.slice none 0 0)).toArray 194)):=b_R.alloc n_R _;have HBR:=lh (BRp.start (Below.refl W2.heap.size W2) N n);have HL2:=lh Ly.out;replace Ly:=lyb Ly hbb;clear hbb;generalize (W2.alloc (.cells (List.replicate n (Value.slice none 0 0)).toArray 194))=V0 at *
 obtain ⟨G,hG⟩:∃ g,W2.heap.size=g:=⟨_,rfl⟩
 rw [hG] at HBR ⊢;have HG:=lh hG;clear hG;gi_wp2;refine wpIn_loop (fun a W=>∃ (k:Nat) (rs:List Nat),Hid (rs.length=k∧k≤n∧Lay w W [(w.heap.size,26,#[.int .i64 m.fountains,.slice Av nv cv,.slice Aa na ca,.slice At nt ct])]∧BRp W2 W N G n rs)∧FrT1 (.agg #[.int .i64 m.fountains,.slice Av nv cv,.slice Aa na ca,.slice At nt ct]) (.int .i64 fountain) (.pointer (some ⟨w.heap.size,0,none⟩)) (.slice none 0 0) (.bool false) (.slice (some ⟨bl,ol,none⟩) n c0) (.bool true) (.int .i64 (N:Int)) (.slice (some ⟨G,0,none⟩) n n) (.int .i64 (k:Int)) a) (fun a _=>n - (intOf (a.tmps.getD 10 undef)).toNat) ?_ ?_
 ·exact ⟨0,[],lh ⟨rfl,by omega,Ly.out,HBR.out⟩,by constructor⟩
 clear Ly HBR;rintro a W ⟨k,rs,HS,ha⟩;cases ha;have Ly:=lh HS.out.2.2.1;by_cases hlt:k<n
 ·
  have hc:W.cell? ⟨G,k,none⟩=some (.slice none 0 0):=by have h1:=HS.out.2.2.2.cell (by have:=HS.out.1;omega);rwa [HS.out.1] at h1
  have hcf:=HS.out.2.2.2.top.frozen k;have hcl:=HS.out.2.2.2.top.lt;obtain ⟨i1,hi,hz0,hz1,hz2⟩:=info_parts qB;have hn9:=HN9.out;gi_upto_region 7 with fail
  gi_upto_region 6 with (first | (gi_at_make;refine fD rfl _ _ 194 rfl 4 i1 _ rfl hi hz0 N rfl rfl (by rw [hz2];omega) (by unfold maxLen;omega) ?_) | fail)
  have e2:((List.replicate N false).map Value.bool).toArray=Array.replicate N (Value.bool false):=by simp
  have e1:madeCells (Value.bool false).cells (N * i1.size)=Array.replicate N (Value.bool false):=by
   rw [hz1];exact (iN (.bool false) N).trans (by simp)
  first | rw [e1] | (have e3:=iN (.bool false) N;rw [Nat.mul_one] at e3;rw [e3];clear e3) | skip
  have hstep:=HS.out.2.2.2.step (by have:=HS.out.1;omega);rw [HS.out.1,e2,World.setCell_alloc_past _ _ _ _ hcl] at hstep;have HST:=lh hstep;have hl9:=(HS.out.2.2.1.alloc 4 (Array.replicate N (Value.bool false))).sub (bs':=[(w.heap.size,26,#[.int .i64 m.fountains,.slice Av nv cv,.slice Aa na ca,.slice At nt ct])]) (fun b hb=>List.mem_append_left _ hb);have hls:=i6 hl9 (HS.out.2.2.2.top.below (b_R.alloc n_R _) HS.out.2.2.2.top.lt) (Nat.le_trans HL2.out.1.size HS.out.2.2.2.ge) (by intro b hb;simp only [List.mem_cons,List.not_mem_nil,or_false] at hb;rcases hb with rfl;dsimp only;decide) k (.slice (some ⟨W.heap.size,0,none⟩) N N);rw [World.setCell_alloc_past _ _ _ _ hcl] at hls;have HLS:=lh hls;clear hls;clear hc hcf hcl hi hz0 hz1 hz2 hstep hl9 e1 e2;gi_wp2;refine ⟨⟨k+1,rs++[W.heap.size],lh ⟨by have:=HS.out.1;simp;omega,hlt,HLS.out,HST.out⟩,by rw [show ((k+1:Nat):Int)=(k:Int)+1 from by omega];constructor⟩,?_⟩;simp [intOf]<;>omega
 ·
  obtain rfl:n=k:=by have:=HS.out.2.1;omega
  have HBR:=lh (HS.out.2.2.2.done HS.out.1);have HTAB:=lh (Tab.start N n)
  obtain ⟨bs,hbs⟩:∃ bs,List.replicate n (List.replicate N false)=bs:=⟨_,rfl⟩
  rw [hbs] at HBR HTAB;clear HS hbs hlt;gi_upto_region 8 with fail
  obtain ⟨row,bv,hrow,hbv,hbP⟩:=HTAB.out.look (i:=0) (c:=0) (by have:=HN.out;omega) (by have:=HN9.out;omega)
  obtain ⟨r,hr⟩:∃ r,rs[0]? =some r:=⟨_,List.getElem?_eq_getElem (by have h1:=HBR.out.len;have h2:=HTAB.out.len;have:=HN.out;omega)⟩
  have HRW:=lh hrow;have HBV:=lh hbv;have HBP:=lh hbP;have HRR:=lh hr;clear hrow hbv hbP hr;refine wpIn_flow_old [([true,true,true,true,true,true],6)] [false,false,false,false,false,false,false,true] [false,false,false,false,false,false,false,false,true] (by kernel_rfl) (by kernel_rfl) (by kernel_rfl) (av b_R 1) ?_;refine wpFlow_cons (A:=?AF1) rfl ?hq1 ?_
  case hq1 =>
   rintro σ hσ of hof hcl;have HOF:=lh hof;clear hof hcl;obtain ⟨c0_,c1_,c2_,c3_⟩:=lyz4 Ly HOF 0 rfl;have hfw:=hfT;have q0:∀ z,(of z).cell? ⟨G,0,none⟩=some (.slice (some ⟨r,0,none⟩) N N):=fun z=>(HBR.out.below (HOF.out z)).rowCell HRR.out;have q1:∀ z,(of z).cell? ⟨r,0,none⟩=some (.bool bv):=fun z=>(HBR.out.below (HOF.out z)).cell HRR.out HRW.out HBV.out;have hn1:0<n:=by have:=HN.out;omega
   have hN1:0<N:=by have:=HN9.out;omega
   simp only [bu]
   repeat (gi_big_quiet_step (fail))
   refine wpQuietIn_nil ?_;exact rfl
  intro W3 hW;replace Ly:=lyb Ly hW;replace HBR:=lh (HBR.out.below hW);clear hW;gi_wp2;refine ⟨trivial,(c_W (j4 Av nv cv Aa na ca At nt ct m fountain 0 cQ W3 (HM.out.up Ly.out.1) HTV.out HV.out.1 (by have h1:=HV.out;have h2:=HLT.out;omega))).mono ?_⟩;rintro e W4 ⟨rfl,hb⟩;replace Ly:=lyb Ly hb;replace HBR:=lh (HBR.out.below hb);gi_wp2;refine ⟨trivial,hb,?_⟩;clear hb;refine wpFlow_nil (A:=?AF2) ?hq2 ?_
  case hq2 =>
   rintro σ hσ of hof hcl;have HOF:=lh hof;clear hof hcl;obtain ⟨c0_,c1_,c2_,c3_⟩:=lyz4 Ly HOF 0 rfl;have hfw:=hfT;have q0:∀ z,(of z).cell? ⟨G,0,none⟩=some (.slice (some ⟨r,0,none⟩) N N):=fun z=>(HBR.out.below (HOF.out z)).rowCell HRR.out;have q1:∀ z,(of z).cell? ⟨r,0,none⟩=some (.bool bv):=fun z=>(HBR.out.below (HOF.out z)).cell HRR.out HRW.out HBV.out;have hn1:0<n:=by have:=HN.out;omega
   have hN1:0<N:=by have:=HN9.out;omega
   simp only [bu]
   repeat (gi_big_quiet_step (fail))
   refine wpQuietIn_nil ?_;exact rfl
  intro W5 hW;replace Ly:=lyb Ly hW;replace HBR:=lh (HBR.out.below hW);clear hW;have q0:=HBR.out.rowCell HRR.out;have q1:=HBR.out.cell HRR.out HRW.out HBV.out;have q0l:=HBR.out.top.lt;have q1l:=(HBR.out.row _ _ _ HRR.out HRW.out).1.lt;have q1f:=(HBR.out.row _ _ _ HRR.out HRW.out).1.frozen 0;simp only [bu];refine dg ?_;gi_wp2;refine cA ?_;clear q0 q1 q0l q1l q1f
  have hne9:∀ b∈([(w.heap.size,26,#[.int .i64 m.fountains,.slice Av nv cv,.slice Aa na ca,.slice At nt ct])]:List (Nat × TypeId × Array Value)),b.2.1≠4:=by intro b hb;simp only [List.mem_cons,List.not_mem_nil,or_false] at hb;rcases hb with rfl<;>(dsimp only;decide)
  have HLS:=lh (i6 Ly.out (HBR.out.row _ _ _ HRR.out HRW.out).1 (Nat.le_trans HL2.out.1.size (HBR.out.row _ _ _ HRR.out HRW.out).2.2.1) hne9 0 (.bool (cW m fountain 0 cQ)));have HBS:=lh (HBR.out.put (c:=0) HRR.out HRW.out (cW m fountain 0 cQ));have HTS:=lh (q7 (f:=fountain) (A:=L) HOK.out HNN.out HN9.out.1 (by have:=HN.out;omega) HTAB.out HRW.out);generalize W5.setCell ⟨r,0,none⟩ (.bool (cW m fountain 0 cQ))=S0 at *;replace Ly:=HLS;replace HBR:=HBS;replace HTAB:=HTS;clear HLS HBS HTS HRW HBV HBP HRR hne9;obtain ⟨x0_0,x0_1,x0_2,x0_3⟩:=lyc4 Ly 0 rfl;have l0_:=Ly.out.lt 0 rfl;gi_wp2;clear x0_0 x0_1 x0_2 x0_3 l0_;refine wpIn_loop (fun a W=>∃ (t:Nat),Hid (Ex2 fun (rs:List Nat) (bs:List (List Bool))=>t≤na∧Lay w W [(w.heap.size,26,#[.int .i64 m.fountains,.slice Av nv cv,.slice Aa na ca,.slice At nt ct])]∧BR W2 W N G rs bs∧Tab N n bs (PF m fountain L t))∧FrT2 (.agg #[.int .i64 m.fountains,.slice Av nv cv,.slice Aa na ca,.slice At nt ct]) (.int .i64 fountain) (.pointer (some ⟨w.heap.size,0,none⟩)) (.slice none 0 0) (.bool false) (.slice (some ⟨bl,ol,none⟩) n c0) (.bool true) (.int .i64 (N:Int)) (.slice (some ⟨G,0,none⟩) n n) (.slice Aa na ca) (.int .i64 na) (.int .i64 (t:Int)) a) (fun a _=>na - (intOf (a.tmps.getD 57 undef)).toNat) ?_ ?_
  ·exact ⟨0,lh ⟨rs,_,by omega,Ly.out,HBR.out,HTAB.out⟩,by constructor⟩
  clear Ly HBR HTAB;rintro a W ⟨t,HS,ha⟩;cases ha;obtain ⟨rs,bs,hs9⟩:=HS.out;replace HS:=lh hs9;clear hs9;have Ly:=lh HS.out.2.1;have HBR:=lh HS.out.2.2.1;have HTAB:=lh HS.out.2.2.2;by_cases hlt:t<na
  ·
   obtain ⟨b,off,x,hAv,hbB,hx,c0_,c1_,c2_,c3_⟩:=(HM.out.at_.below Ly.out.1).act hlt;obtain ⟨all,hA⟩:=HTB.out.at_ hx;obtain ⟨bl9,ol9,all9,e1,_,e3,e4⟩:=dp dF (by omega) HRD.out (show t<n by have:=HN.out;omega);obtain rfl:all=all9:=Option.some.inj (hA.ha.symm.trans e3);cases e1;have HX:=lh hx;have HAT:=lh hA;have HCE:=lh e4;have ht12:t+1≤12:=by have h1:=HV.out;have h2:=HLA.out;omega
   clear e3 e4 hx hA hbB;have x9:=lyc Ly 0 rfl 2;have x9l:=Ly.out.lt 0 rfl;change _=some (Value.slice Aa na ca) at x9;rw [hAv] at x9 ⊢;gi_upto_region 12 with fail
   clear c0_ c1_ c2_ c3_ x9 x9l
   obtain ⟨V6,hV⟩:∃ V,(W.alloc (.cells #[.int .i64 x.kind,.int .i64 x.fr,.int .i64 x.to,.int .i64 x.drops] 62))=V:=⟨_,rfl⟩
   rw [hV];have hb:=de hV;have hnew:=dc hV;have hge:=Ly.out.bel.size;replace Ly:=lyb Ly hb;replace HBR:=lh (HBR.out.below hb);replace Ly:=lh (Ly.out.add hge hnew);clear hnew hge hb hV
   obtain ⟨G7,hG⟩:∃ g,W.heap.size=g:=⟨_,rfl⟩
   rw [hG] at Ly ⊢;clear hG;replace Ly:=lh (show Lay w V6 [(w.heap.size,26,#[.int .i64 m.fountains,.slice Av nv cv,.slice Aa na ca,.slice At nt ct]),(G7,62,#[.int .i64 x.kind,.int .i64 x.fr,.int .i64 x.to,.int .i64 x.drops])] from Ly.out);rw [← hAv];have HAV:=lh hAv;clear hAv;have HTP:=lh (pf_pm HTAB.out);replace HTAB:=HTP;clear HTP HS;gi_wp2;refine wpIn_loop (fun a W=>∃ (c:Nat),Hid (Ex2 fun (rs:List Nat) (bs:List (List Bool))=>c≤N∧Lay w W [(w.heap.size,26,#[.int .i64 m.fountains,.slice Av nv cv,.slice Aa na ca,.slice At nt ct]),(G7,62,#[.int .i64 x.kind,.int .i64 x.fr,.int .i64 x.to,.int .i64 x.drops])]∧BR W2 W N G rs bs∧Tab N n bs (PM m fountain L t c))∧FrT3 (.agg #[.int .i64 m.fountains,.slice Av nv cv,.slice Aa na ca,.slice At nt ct]) (.int .i64 fountain) (.pointer (some ⟨w.heap.size,0,none⟩)) (.slice none 0 0) (.bool false) (.slice (some ⟨bl,ol,none⟩) n c0) (.bool true) (.int .i64 (N:Int)) (.slice (some ⟨G,0,none⟩) n n) (.int .i64 (t:Int)) (.pointer (some ⟨G7,0,none⟩)) (.int .i64 (c:Int)) (.slice Aa na ca) (.int .i64 na) (.int .i64 (t:Int)) a) (fun a _=>N - (intOf (a.tmps.getD 13 undef)).toNat) ?_ ?_
   ·exact ⟨0,lh ⟨rs,bs,by omega,Ly.out,HBR.out,HTAB.out⟩,by constructor⟩
   clear Ly HBR HTAB;rintro a W ⟨c,HS,ha⟩;cases ha;obtain ⟨rs,bs,hs9⟩:=HS.out;replace HS:=lh hs9;clear hs9;have Ly:=lh HS.out.2.1;have HBR:=lh HS.out.2.2.1;have HTAB:=lh HS.out.2.2.2;by_cases hlc:c<N
   ·
    obtain ⟨row,bv,hrow,hbv,hbP⟩:=HTAB.out.look (i:=t) (c:=c) (by have:=HN.out;omega) (by omega)
    obtain ⟨r,hr⟩:∃ r,rs[t]? =some r:=⟨_,List.getElem?_eq_getElem (by have h1:=HBR.out.len;have h2:=HTAB.out.len;have:=HN.out;omega)⟩
    have HRW:=lh hrow;have HBV:=lh hbv;have HBP:=lh hbP;have HRR:=lh hr;clear hrow hbv hbP hr;have htk:t<n:=by have:=HN.out;omega
    have hn9:=HN9.out;clear HS
    cases bv with
    | false =>
     have q0:=HBR.out.rowCell HRR.out;have q1:=HBR.out.cell HRR.out HRW.out HBV.out;have q0l:=HBR.out.top.lt;have q1l:=(HBR.out.row _ _ _ HRR.out HRW.out).1.lt;have q1f:=(HBR.out.row _ _ _ HRR.out HRW.out).1.frozen c;gi_wp2;have hno:¬ Fwd m fountain L t (decN m c):=fun h=>by have:=HBP.out.2 (PM.now.2 h);cases this
     refine ⟨⟨c+1,lh ⟨rs,bs,hlc,Ly.out,HBR.out,sT HTAB.out hno⟩,by rw [show ((c+1:Nat):Int)=(c:Int)+1 from by omega];constructor⟩,?_⟩;simp [intOf]<;>omega
    | true =>
     have hfw:Fwd m fountain L t (decN m c):=PM.now.1 (HBP.out.1 rfl);have HFW:=lh hfw;clear hfw;obtain ⟨x0_0,x0_1,x0_2,x0_3⟩:=lyc4 Ly 0 rfl;have l0_:=Ly.out.lt 0 rfl;have q0:=HBR.out.rowCell HRR.out;have q1:=HBR.out.cell HRR.out HRW.out HBV.out;have q0l:=HBR.out.top.lt;have q1l:=(HBR.out.row _ _ _ HRR.out HRW.out).1.lt;have q1f:=(HBR.out.row _ _ _ HRR.out HRW.out).1.frozen c;gi_wp2;clear x0_0 x0_1 x0_2 x0_3 l0_;clear q0 q1 q0l q1l q1f HRW HBV HBP HRR;refine ⟨trivial,(c_W (mO Av nv cv Aa na ca At nt ct m (c:Int) W (HM.out.up Ly.out.1) HZ.out HV.out.1 (by have:=HN9.out;omega))).mono ?_⟩;rintro e W8 ⟨rfl,hb⟩;replace Ly:=lyb Ly hb;replace HBR:=lh (HBR.out.below hb);clear hb
     obtain ⟨s,hs⟩:∃ s,decN m c=s:=⟨_,rfl⟩
     rw [show decH m (c:Int)=s from hs];have HSD:=lh hs;have hfi:Fits all s:=by rw [← HSD.out];exact dK HL.out HV.out.1 HFW.out HAT.out.ha
     have HFI:=lh hfi;have hrg:∀ q:Nat,q<4→0≤au s q∧au s q≤12:=fun q hq=>by have h1:=HFI.out.le q hq;have h2:=HAT.out.rng q;omega
     have HRG:=lh hrg;clear hs hfi hrg;gi_upto_region 17 with fail
     obtain ⟨V9,hV⟩:∃ V,(W8.alloc (.cells #[.int .i64 (au s 0),.int .i64 (au s 1),.int .i64 (au s 2),.int .i64 (au s 3)] 150))=V:=⟨_,rfl⟩
     rw [hV];have hb:=de hV;have hnew:=dc hV;have hge:=Ly.out.bel.size;replace Ly:=lyb Ly hb;replace HBR:=lh (HBR.out.below hb);replace Ly:=lh (Ly.out.add hge hnew);clear hnew hge hb hV
     obtain ⟨G10,hG⟩:∃ g,W8.heap.size=g:=⟨_,rfl⟩
     rw [hG] at Ly ⊢;clear hG;replace Ly:=lh (show Lay w V9 [(w.heap.size,26,#[.int .i64 m.fountains,.slice Av nv cv,.slice Aa na ca,.slice At nt ct]),(G7,62,#[.int .i64 x.kind,.int .i64 x.fr,.int .i64 x.to,.int .i64 x.drops]),(G10,150,#[.int .i64 (au s 0),.int .i64 (au s 1),.int .i64 (au s 2),.int .i64 (au s 3)])] from Ly.out);have HLay0:=lh Ly.out;have HBR0:=lh HBR.out;refine dy [([true,true,true,true,true,true,true,true],8)] [] [false,false,false,false,false,false,false,false,false,false,true] 9 (fun b=>.pointer (some ⟨b,0,none⟩)) 54 #[.int .i64 0,.int .i64 0] (by kernel_rfl) (by kernel_rfl) (by kernel_rfl) (av b_R 1) rfl rfl rfl (fun _ _=>rfl) (fun _ _=>rfl) ?_;refine wpFlow_cons (A:=?AF3) rfl ?hq3 ?_
     case hq3 =>
      rintro σ hσ of hof hcl;have HOF:=lh hof;clear hof hcl;obtain ⟨c0_,c1_,c2_,c3_⟩:=lyz4 Ly HOF 0 rfl;obtain ⟨c4_,c5_,c6_,c7_⟩:=lyz4 Ly HOF 1 rfl;obtain ⟨c8_,c9_,c10_,c11_⟩:=lyz4 Ly HOF 2 rfl;have hfw:=hfT;have r0:∀ z,(of z).cell? ⟨bl,ol+t * 4,none⟩=some (.int .i64 (au all 0)):=fun z=>((HBR.out.below (HOF.out z)).bel.cell (p:=⟨bl,ol+t * 4,none⟩) HBL.out).trans (HCE.out 0 _ rfl);have r1:∀ z,(of z).cell? ⟨bl,ol+t * 4+1,none⟩=some (.int .i64 (au all 1)):=fun z=>((HBR.out.below (HOF.out z)).bel.cell (p:=⟨bl,ol+t * 4+1,none⟩) HBL.out).trans (HCE.out 1 _ rfl);have r2:∀ z,(of z).cell? ⟨bl,ol+t * 4+2,none⟩=some (.int .i64 (au all 2)):=fun z=>((HBR.out.below (HOF.out z)).bel.cell (p:=⟨bl,ol+t * 4+2,none⟩) HBL.out).trans (HCE.out 2 _ rfl);have r3:∀ z,(of z).cell? ⟨bl,ol+t * 4+3,none⟩=some (.int .i64 (au all 3)):=fun z=>((HBR.out.below (HOF.out z)).bel.cell (p:=⟨bl,ol+t * 4+3,none⟩) HBL.out).trans (HCE.out 3 _ rfl);have hkk:t<n:=by have:=HN.out;omega
      have hk13:=HN13.out;simp only [bu]
      iterate 8 (gi_big_quiet_step (fail))
      refine wpQuietIn_nil ?_;exact rfl
     intro W11 hW;replace Ly:=lyb Ly hW;replace HBR:=lh (HBR.out.below hW);clear hW;gi_wp2;refine ⟨trivial,(c_W (lE Av nv cv Aa na ca At nt ct m x fountain all s W11 (HM.out.up Ly.out.1) HAT.out.ok HFI.out (fun q hq=>(HAT.out.rng q).2) HV.out.1)).mono ?_⟩;rintro e W12 ⟨rfl,hb⟩;replace Ly:=lyb Ly hb;replace HBR:=lh (HBR.out.below hb)
     obtain ⟨lo,hlo⟩:∃ lo,(dq m x fountain all s).1=lo:=⟨_,rfl⟩
     obtain ⟨hi,hhi⟩:∃ hi,(dq m x fountain all s).2=hi:=⟨_,rfl⟩
     rw [hlo,hhi];have HLO:=lh hlo;have HHI:=lh hhi;clear hlo hhi;gi_wp2;refine ⟨trivial,hb,?_⟩;clear hb;refine wpFlow_nil (A:=?AF4) ?hq4 ?_
     case hq4 =>
      rintro σ hσ of hof hcl;have HOF:=lh hof;clear hof hcl;obtain ⟨c0_,c1_,c2_,c3_⟩:=lyz4 Ly HOF 0 rfl;obtain ⟨c4_,c5_,c6_,c7_⟩:=lyz4 Ly HOF 1 rfl;obtain ⟨c8_,c9_,c10_,c11_⟩:=lyz4 Ly HOF 2 rfl;have hfw:=hfT;simp only [bu]
      iterate 0 (gi_big_quiet_step (fail))
      refine wpQuietIn_nil ?_;exact rfl
     intro bN W13 hW hbg hbb hbi;replace Ly:=lyb Ly hW;replace HBR:=lh (HBR.out.below hW);have c0:=hbb.cell 0;have z0:=hbb.frozen 0;have c1:=hbb.cell 1;have z1:=hbb.frozen 1;have hbl:=hbb.lt;have hbw:w.heap.size≤bN:=Nat.le_trans (HLay0.out.1.size) hbg;simp only [bu];refine dg ?_;gi_wp2;refine cA ?_;have R3:=ret2' hbb (Below.refl bN W13) n_R (.int .i64 lo) (.int .i64 hi);have HLay9:=lh (Lay.add (w:=w) (bs:=[(w.heap.size,26,#[.int .i64 m.fountains,.slice Av nv cv,.slice Aa na ca,.slice At nt ct]),(G7,62,#[.int .i64 x.kind,.int .i64 x.fr,.int .i64 x.to,.int .i64 x.drops]),(G10,150,#[.int .i64 (au s 0),.int .i64 (au s 1),.int .i64 (au s 2),.int .i64 (au s 3)])]) ⟨Ly.out.1.trans (R3.2.1.mono hbw),fun p hp=>⟨(Ly.out.2 p hp).1,(Ly.out.2 p hp).2.below R3.2.1 (by have:=(HLay0.out.2 p hp).2.lt;omega)⟩⟩ hbw R3.1);replace HBR:=lh (HBR.out.newb HBR0.out hbg R3.2.2);generalize ((W13.setCell ⟨bN,0,none⟩ (.int .i64 lo)).setCell ⟨bN,1,none⟩ (.int .i64 hi))=W99 at *;clear c0 z0 c1 z1 hbl hbb hW hbg R3;replace Ly:=HLay9;have HTP:=lh (show Tab N n bs (PI m fountain L x all t c lo) from by have h1:=pm_pi (x:=x) (all:=all) HTAB.out;rw [HSD.out,HLO.out] at h1;exact h1);replace HTAB:=HTP;clear HTP HLay0 HBR0;obtain ⟨x3_0,x3_1⟩:=lyc2 Ly 3 rfl;have l3_:=Ly.out.lt 3 rfl;gi_wp2;clear x3_0 x3_1 l3_;refine wpIn_loop (fun a W=>∃ (k0:Int),Hid (Ex2 fun (rs:List Nat) (bs:List (List Bool))=>lo≤k0∧(k0≤hi+1∨k0=lo)∧Lay w W [(w.heap.size,26,#[.int .i64 m.fountains,.slice Av nv cv,.slice Aa na ca,.slice At nt ct]),(G7,62,#[.int .i64 x.kind,.int .i64 x.fr,.int .i64 x.to,.int .i64 x.drops]),(G10,150,#[.int .i64 (au s 0),.int .i64 (au s 1),.int .i64 (au s 2),.int .i64 (au s 3)]),(bN,54,#[.int .i64 lo,.int .i64 hi])]∧BR W2 W N G rs bs∧Tab N n bs (PI m fountain L x all t c k0))∧FrT4 (.agg #[.int .i64 m.fountains,.slice Av nv cv,.slice Aa na ca,.slice At nt ct]) (.int .i64 fountain) (.pointer (some ⟨w.heap.size,0,none⟩)) (.slice none 0 0) (.bool false) (.slice (some ⟨bl,ol,none⟩) n c0) (.bool true) (.int .i64 (N:Int)) (.slice (some ⟨G,0,none⟩) n n) (.int .i64 (t:Int)) (.pointer (some ⟨G7,0,none⟩)) (.int .i64 (c:Int)) (.pointer (some ⟨G10,0,none⟩)) (.pointer (some ⟨bN,0,none⟩)) (.int .i64 k0) (.slice Aa na ca) (.int .i64 na) (.int .i64 (t:Int)) a) (fun a _=>(hi+1 - intOf (a.tmps.getD 16 undef)).toNat) ?_ ?_
     ·exact ⟨lo,lh ⟨rs,bs,Int.le_refl _,.inr rfl,Ly.out,HBR.out,HTAB.out⟩,by constructor⟩
     clear Ly HBR HTAB;rintro a W ⟨k0,HS,ha⟩;cases ha;obtain ⟨rs,bs,hs9⟩:=HS.out;replace HS:=lh hs9;clear hs9;have Ly:=lh HS.out.2.2.1;have HBR:=lh HS.out.2.2.2.1;have HTAB:=lh HS.out.2.2.2.2;by_cases hle:k0≤hi
     ·
      have hkb:=(nD HOK.out HL.out HX.out HAT.out.ha HFW.out).2 k0;rw [HSD.out,HLO.out,HHI.out] at hkb;replace hkb:=hkb HS.out.1 hle;have hkz:0≤k0∧k0≤2000:=by have:=HAT.out.size;dsimp only at this;omega
      have HKZ:=lh hkz;clear hkb;obtain ⟨x0_0,x0_1,x0_2,x0_3⟩:=lyc4 Ly 0 rfl;have l0_:=Ly.out.lt 0 rfl;obtain ⟨x1_0,x1_1,x1_2,x1_3⟩:=lyc4 Ly 1 rfl;have l1_:=Ly.out.lt 1 rfl;obtain ⟨x2_0,x2_1,x2_2,x2_3⟩:=lyc4 Ly 2 rfl;have l2_:=Ly.out.lt 2 rfl;obtain ⟨x3_0,x3_1⟩:=lyc2 Ly 3 rfl;have l3_:=Ly.out.lt 3 rfl;gi_wp2;clear x0_0 x0_1 x0_2 x0_3 l0_ x1_0 x1_1 x1_2 x1_3 l1_ x2_0 x2_1 x2_2 x2_3 l2_ x3_0 x3_1 l3_;refine ⟨trivial,(c_W (l5 Av nv cv Aa na ca At nt ct m x s k0 all W (HM.out.up Ly.out.1) HAT.out.ok HFI.out.lh HRG.out HKZ.out HV.out.1)).mono ?_⟩;rintro e W14 ⟨rfl,hb⟩;replace Ly:=lyb Ly hb;replace HBR:=lh (HBR.out.below hb);clear hb;have hmc:=kt (k:=k0) HOK.out HL.out HNN.out HX.out HAT.out.ha HFW.out (by rw [HSD.out,HLO.out];exact HS.out.1) (by rw [HSD.out,HHI.out];exact hle);rw [HSD.out] at hmc
      obtain ⟨s2,hs2⟩:∃ s2,dw m x s k0=s2:=⟨_,rfl⟩
      rw [hs2] at hmc ⊢;obtain ⟨hw2,d,hd1,hd2,hd3⟩:=hmc;have HS2:=lh hs2;have HW2:=lh hw2;have HD1:=lh hd1;have HD2:=lh hd2;have HD3:=lh hd3;clear hs2 hw2 hd1 hd2 hd3;gi_upto_region 22 with fail
      obtain ⟨V15,hV⟩:∃ V,(W14.alloc (.cells #[.int .i64 (au s2 0),.int .i64 (au s2 1),.int .i64 (au s2 2),.int .i64 (au s2 3)] 150))=V:=⟨_,rfl⟩
      rw [hV];have hb:=de hV;have hnew:=dc hV;have hge:=Ly.out.bel.size;replace Ly:=lyb Ly hb;replace HBR:=lh (HBR.out.below hb);replace Ly:=lh (Ly.out.add hge hnew);clear hnew hge hb hV
      obtain ⟨G16,hG⟩:∃ g,W14.heap.size=g:=⟨_,rfl⟩
      rw [hG] at Ly ⊢;clear hG;replace Ly:=lh (show Lay w V15 [(w.heap.size,26,#[.int .i64 m.fountains,.slice Av nv cv,.slice Aa na ca,.slice At nt ct]),(G7,62,#[.int .i64 x.kind,.int .i64 x.fr,.int .i64 x.to,.int .i64 x.drops]),(G10,150,#[.int .i64 (au s 0),.int .i64 (au s 1),.int .i64 (au s 2),.int .i64 (au s 3)]),(bN,54,#[.int .i64 lo,.int .i64 hi]),(G16,150,#[.int .i64 (au s2 0),.int .i64 (au s2 1),.int .i64 (au s2 2),.int .i64 (au s2 3)])] from Ly.out);obtain ⟨x0_0,x0_1,x0_2,x0_3⟩:=lyc4 Ly 0 rfl;have l0_:=Ly.out.lt 0 rfl;obtain ⟨x4_0,x4_1,x4_2,x4_3⟩:=lyc4 Ly 4 rfl;have l4_:=Ly.out.lt 4 rfl;gi_wp2;clear x0_0 x0_1 x0_2 x0_3 l0_ x4_0 x4_1 x4_2 x4_3 l4_;refine ⟨trivial,(c_W (j4 Av nv cv Aa na ca At nt ct m fountain (t+1) s2 V15 (HM.out.up Ly.out.1) HTV.out HV.out.1 (by have h1:=HV.out;have h2:=HLT.out;omega))).mono ?_⟩;rintro e W17 ⟨rfl,hb⟩;replace Ly:=lyb Ly hb;replace HBR:=lh (HBR.out.below hb);clear hb
      obtain ⟨tb,htb⟩:∃ b,cW m fountain (t+1) s2=b:=⟨_,rfl⟩
      rw [htb];have HTBX:=lh htb;clear htb
      cases tb with
      | false =>
       gi_wp2;refine ⟨⟨k0+1,lh ⟨rs,_,by have:=HS.out.1;omega,.inl (by omega),Ly.out.sub (by intro b hb;simp only [List.mem_cons,List.not_mem_nil,or_false] at hb ⊢;rcases hb with rfl | rfl | rfl | rfl<;>simp),HBR.out,pi_no (by rw [HSD.out,HS2.out];exact HTBX.out) HTAB.out⟩,by constructor⟩,?_⟩;simp [intOf]<;>omega
      | true =>
       obtain ⟨row,bv,hrow,hbv,hbP⟩:=HTAB.out.look (i:=(t+1)) (c:=d) (by have:=HN.out;omega) (by have:=HD2.out;omega)
       obtain ⟨r,hr⟩:∃ r,rs[(t+1)]? =some r:=⟨_,List.getElem?_eq_getElem (by have h1:=HBR.out.len;have h2:=HTAB.out.len;have:=HN.out;omega)⟩
       have HRW:=lh hrow;have HBV:=lh hbv;have HBP:=lh hbP;have HRR:=lh hr;clear hrow hbv hbP hr;gi_upto_region 23 with fail
       refine wpIn_flow_old [([true,true,true,true,true,true,true],7)] [false,false,false,false,false,false,false,false,true] [false,false,false,false,false,false,false,false,false,true] (by kernel_rfl) (by kernel_rfl) (by kernel_rfl) (av b_R 1) ?_;refine wpFlow_cons (A:=?AF5) rfl ?hq5 ?_
       case hq5 =>
        rintro σ hσ of hof hcl;have HOF:=lh hof;clear hof hcl;obtain ⟨c0_,c1_,c2_,c3_⟩:=lyz4 Ly HOF 0 rfl;obtain ⟨c4_,c5_,c6_,c7_⟩:=lyz4 Ly HOF 4 rfl;have hfw:=hfT;have q0:∀ z,(of z).cell? ⟨G,t+1,none⟩=some (.slice (some ⟨r,0,none⟩) N N):=fun z=>(HBR.out.below (HOF.out z)).rowCell HRR.out;have q1:∀ z,(of z).cell? ⟨r,d,none⟩=some (.bool bv):=fun z=>(HBR.out.below (HOF.out z)).cell HRR.out HRW.out HBV.out;have hkk:t+1<n:=by have:=HN.out;omega
        have hd2:=HD2.out;have hn9:=HN9.out;have hk13:=HN13.out;simp only [bu]
        iterate 7 (gi_big_quiet_step (fail))
        refine wpQuietIn_nil ?_;exact rfl
       intro W18 hW;replace Ly:=lyb Ly hW;replace HBR:=lh (HBR.out.below hW);clear hW;gi_wp2;refine ⟨trivial,(c_W (nh Av nv cv Aa na ca At nt ct m s2 W18 (HM.out.up Ly.out.1) HZ.out HV.out.1 HW2.out)).mono ?_⟩;rintro e W19 ⟨rfl,hb⟩;replace Ly:=lyb Ly hb;replace HBR:=lh (HBR.out.below hb);rw [show dU (zsM m) (asK s2 m.vessels.length)=(d:Int) from HD1.out];gi_wp2;refine ⟨trivial,hb,?_⟩;clear hb;refine wpFlow_nil (A:=?AF6) ?hq6 ?_
       case hq6 =>
        rintro σ hσ of hof hcl;have HOF:=lh hof;clear hof hcl;obtain ⟨c0_,c1_,c2_,c3_⟩:=lyz4 Ly HOF 0 rfl;obtain ⟨c4_,c5_,c6_,c7_⟩:=lyz4 Ly HOF 4 rfl;have hfw:=hfT;have q0:∀ z,(of z).cell? ⟨G,t+1,none⟩=some (.slice (some ⟨r,0,none⟩) N N):=fun z=>(HBR.out.below (HOF.out z)).rowCell HRR.out;have q1:∀ z,(of z).cell? ⟨r,d,none⟩=some (.bool bv):=fun z=>(HBR.out.below (HOF.out z)).cell HRR.out HRW.out HBV.out;have hkk:t+1<n:=by have:=HN.out;omega
        have hd2:=HD2.out;have hn9:=HN9.out;have hk13:=HN13.out;simp only [bu]
        iterate 1 (gi_big_quiet_step (fail))
        refine wpQuietIn_nil ?_;exact rfl
       intro W20 hW;replace Ly:=lyb Ly hW;replace HBR:=lh (HBR.out.below hW);clear hW;have q0:=HBR.out.rowCell HRR.out;have q1:=HBR.out.cell HRR.out HRW.out HBV.out;have q0l:=HBR.out.top.lt;have q1l:=(HBR.out.row _ _ _ HRR.out HRW.out).1.lt;have q1f:=(HBR.out.row _ _ _ HRR.out HRW.out).1.frozen d;simp only [bu];refine dg ?_;gi_wp2;refine cA ?_;clear q0 q1 q0l q1l q1f
       have hne9:∀ b∈([(w.heap.size,26,#[.int .i64 m.fountains,.slice Av nv cv,.slice Aa na ca,.slice At nt ct]),(G7,62,#[.int .i64 x.kind,.int .i64 x.fr,.int .i64 x.to,.int .i64 x.drops]),(G10,150,#[.int .i64 (au s 0),.int .i64 (au s 1),.int .i64 (au s 2),.int .i64 (au s 3)]),(bN,54,#[.int .i64 lo,.int .i64 hi]),(G16,150,#[.int .i64 (au s2 0),.int .i64 (au s2 1),.int .i64 (au s2 2),.int .i64 (au s2 3)])]:List (Nat × TypeId × Array Value)),b.2.1≠4:=by intro b hb;simp only [List.mem_cons,List.not_mem_nil,or_false] at hb;rcases hb with rfl | rfl | rfl | rfl | rfl<;>(dsimp only;decide)
       have HLS:=lh (i6 Ly.out (HBR.out.row _ _ _ HRR.out HRW.out).1 (Nat.le_trans HL2.out.1.size (HBR.out.row _ _ _ HRR.out HRW.out).2.2.1) hne9 d (.bool true));have HBS:=lh (HBR.out.put (c:=d) HRR.out HRW.out true);have HTS:=lh (tz (x:=x) (all:=all) (d:=d) HOK.out HNN.out (by rw [HSD.out,HLO.out];exact HS.out.1) (by rw [HSD.out,HS2.out];exact HD3.out) HD2.out (by rw [HSD.out,HS2.out];exact HTBX.out) HRW.out HTAB.out);generalize W20.setCell ⟨r,d,none⟩ (.bool true)=S1 at *;replace Ly:=HLS;replace HBR:=HBS;replace HTAB:=HTS;clear HLS HBS HTS HRW HBV HBP HRR hne9;gi_wp2;refine ⟨⟨k0+1,lh ⟨rs,_,by have:=HS.out.1;omega,.inl (by omega),Ly.out.sub (by intro b hb;simp only [List.mem_cons,List.not_mem_nil,or_false] at hb ⊢;rcases hb with rfl | rfl | rfl | rfl<;>simp),HBR.out,HTAB.out⟩,by constructor⟩,?_⟩;simp [intOf]<;>omega
     ·
      obtain ⟨x3_0,x3_1⟩:=lyc2 Ly 3 rfl;have l3_:=Ly.out.lt 3 rfl;gi_wp2;clear x3_0 x3_1 l3_;refine ⟨⟨c+1,lh ⟨rs,bs,hlc,Ly.out.sub (by intro b hb;simp only [List.mem_cons,List.not_mem_nil,or_false] at hb ⊢;rcases hb with rfl | rfl<;>simp),HBR.out,pi_pm HFW.out HX.out HAT.out.ha (by rw [HSD.out,HHI.out];omega) HTAB.out (by rw [HSD.out,HHI.out,HLO.out];exact HS.out.2.1)⟩,by rw [show ((c+1:Nat):Int)=(c:Int)+1 from by omega];constructor⟩,?_⟩;simp [intOf]<;>omega
   ·
    obtain rfl:c=N:=by have:=HS.out.1;omega
    gi_wp2;have hAt:=HAV.out;clear HAV;subst hAt;refine ⟨⟨t+1,lh ⟨rs,bs,hlt,Ly.out.sub (by intro b hb;simp only [List.mem_cons,List.not_mem_nil,or_false] at hb ⊢;rcases hb with rfl<;>simp),HBR.out,pm_pf HOK.out HL.out HNN.out HX.out HAT.out.ha HAT.out.ok HTAB.out⟩,by rw [show ((t+1:Nat):Int)=(t:Int)+1 from by omega];constructor⟩,?_⟩;simp [intOf]<;>omega
  ·
   obtain rfl:na=t:=by have:=HS.out.1;omega
   have HTP:=lh (pf_qo (by rw [HLA.out];exact HTAB.out) (by rw [HLA.out];exact HN.out));rw [HLA.out] at HTP;replace HTAB:=HTP;clear HTP HS hlt;obtain ⟨x0_0,x0_1,x0_2,x0_3⟩:=lyc4 Ly 0 rfl;have l0_:=Ly.out.lt 0 rfl;have hna12:na≤12:=by have h1:=HV.out;have h2:=HLA.out;omega
   gi_wp2;clear x0_0 x0_1 x0_2 x0_3 l0_;refine wpIn_loop (fun a W=>∃ (jj:Int),Hid (Ex3 fun (j:Nat) (rs:List Nat) (bs:List (List Bool))=>jj=(j:Int) - 1∧j≤na∧Lay w W [(w.heap.size,26,#[.int .i64 m.fountains,.slice Av nv cv,.slice Aa na ca,.slice At nt ct])]∧BR W2 W N G rs bs∧Tab N n bs (QO m fountain L j))∧FrT5 (.agg #[.int .i64 m.fountains,.slice Av nv cv,.slice Aa na ca,.slice At nt ct]) (.int .i64 fountain) (.pointer (some ⟨w.heap.size,0,none⟩)) (.slice none 0 0) (.bool false) (.slice (some ⟨bl,ol,none⟩) n c0) (.bool true) (.int .i64 (N:Int)) (.slice (some ⟨G,0,none⟩) n n) (.int .i64 jj) a) (fun a _=>(intOf (a.tmps.getD 18 undef)+1).toNat) ?_ ?_
   ·exact ⟨(na:Int) - 1,lh ⟨na,rs,bs,rfl,n_R,Ly.out,HBR.out,HTAB.out⟩,by constructor⟩
   clear Ly HBR HTAB;rintro a W ⟨jj,HS,ha⟩;cases ha;obtain ⟨j,rs,bs,hs9⟩:=HS.out;replace HS:=lh hs9;clear hs9;have Ly:=lh HS.out.2.2.1;have HBR:=lh HS.out.2.2.2.1;have HTAB:=lh HS.out.2.2.2.2;by_cases hge:0≤jj
   ·
    obtain ⟨t,rfl⟩:∃ t:Nat,jj=(t:Int):=⟨jj.toNat,by omega⟩
    obtain rfl:j=t+1:=by have:=HS.out.1;omega
    have hlt:t<na:=by have:=HS.out.2.1;omega
    obtain ⟨b,off,x,hAv,hbB,hx,c0_,c1_,c2_,c3_⟩:=(HM.out.at_.below Ly.out.1).act hlt;obtain ⟨all,hA⟩:=HTB.out.at_ hx;obtain ⟨bl9,ol9,all9,e1,_,e3,e4⟩:=dp dF (by omega) HRD.out (show t<n by have:=HN.out;omega);obtain rfl:all=all9:=Option.some.inj (hA.ha.symm.trans e3);cases e1;have HX:=lh hx;have HAT:=lh hA;have HCE:=lh e4;have ht12:t+1≤12:=by have h1:=HV.out;have h2:=HLA.out;omega
    clear e3 e4 hx hA hbB;have x9:=lyc Ly 0 rfl 2;have x9l:=Ly.out.lt 0 rfl;change _=some (Value.slice Aa na ca) at x9;rw [hAv] at x9 ⊢;gi_upto_region 29 with fail
    clear c0_ c1_ c2_ c3_ x9 x9l
    obtain ⟨V21,hV⟩:∃ V,(W.alloc (.cells #[.int .i64 x.kind,.int .i64 x.fr,.int .i64 x.to,.int .i64 x.drops] 62))=V:=⟨_,rfl⟩
    rw [hV];have hb:=de hV;have hnew:=dc hV;have hge:=Ly.out.bel.size;replace Ly:=lyb Ly hb;replace HBR:=lh (HBR.out.below hb);replace Ly:=lh (Ly.out.add hge hnew);clear hnew hge hb hV
    obtain ⟨G22,hG⟩:∃ g,W.heap.size=g:=⟨_,rfl⟩
    rw [hG] at Ly ⊢;clear hG;replace Ly:=lh (show Lay w V21 [(w.heap.size,26,#[.int .i64 m.fountains,.slice Av nv cv,.slice Aa na ca,.slice At nt ct]),(G22,62,#[.int .i64 x.kind,.int .i64 x.fr,.int .i64 x.to,.int .i64 x.drops])] from Ly.out);rw [← hAv];have HAV:=lh hAv;clear hAv;have HTP:=lh (qo_qm HTAB.out);replace HTAB:=HTP;clear HTP HS;gi_wp2;refine wpIn_loop (fun a W=>∃ (c:Nat),Hid (Ex2 fun (rs:List Nat) (bs:List (List Bool))=>c≤N∧Lay w W [(w.heap.size,26,#[.int .i64 m.fountains,.slice Av nv cv,.slice Aa na ca,.slice At nt ct]),(G22,62,#[.int .i64 x.kind,.int .i64 x.fr,.int .i64 x.to,.int .i64 x.drops])]∧BR W2 W N G rs bs∧Tab N n bs (QM m fountain L t c))∧FrT6 (.agg #[.int .i64 m.fountains,.slice Av nv cv,.slice Aa na ca,.slice At nt ct]) (.int .i64 fountain) (.pointer (some ⟨w.heap.size,0,none⟩)) (.slice none 0 0) (.bool false) (.slice (some ⟨bl,ol,none⟩) n c0) (.bool true) (.int .i64 (N:Int)) (.slice (some ⟨G,0,none⟩) n n) (.int .i64 (t:Int)) (.pointer (some ⟨G22,0,none⟩)) (.int .i64 (c:Int)) a) (fun a _=>N - (intOf (a.tmps.getD 20 undef)).toNat) ?_ ?_
    ·exact ⟨0,lh ⟨rs,bs,by omega,Ly.out,HBR.out,HTAB.out⟩,by constructor⟩
    clear Ly HBR HTAB;rintro a W ⟨c,HS,ha⟩;cases ha;obtain ⟨rs,bs,hs9⟩:=HS.out;replace HS:=lh hs9;clear hs9;have Ly:=lh HS.out.2.1;have HBR:=lh HS.out.2.2.1;have HTAB:=lh HS.out.2.2.2;by_cases hlc:c<N
    ·
     obtain ⟨row,bv,hrow,hbv,hbP⟩:=HTAB.out.look (i:=t) (c:=c) (by have:=HN.out;omega) (by omega)
     obtain ⟨r,hr⟩:∃ r,rs[t]? =some r:=⟨_,List.getElem?_eq_getElem (by have h1:=HBR.out.len;have h2:=HTAB.out.len;have:=HN.out;omega)⟩
     have HRW:=lh hrow;have HBV:=lh hbv;have HBP:=lh hbP;have HRR:=lh hr;clear hrow hbv hbP hr;have htk:t<n:=by have:=HN.out;omega
     have hn9:=HN9.out;clear HS
     cases bv with
     | false =>
      have q0:=HBR.out.rowCell HRR.out;have q1:=HBR.out.cell HRR.out HRW.out HBV.out;have q0l:=HBR.out.top.lt;have q1l:=(HBR.out.row _ _ _ HRR.out HRW.out).1.lt;have q1f:=(HBR.out.row _ _ _ HRR.out HRW.out).1.frozen c;gi_wp2;have hno:¬ Fwd m fountain L t (decN m c):=fun h=>by have:=HBP.out.2 (QM.now.2 h);cases this
      refine ⟨⟨c+1,lh ⟨rs,bs,hlc,Ly.out,HBR.out,sC HTAB.out hno⟩,by rw [show ((c+1:Nat):Int)=(c:Int)+1 from by omega];constructor⟩,?_⟩;simp [intOf]<;>omega
     | true =>
      have hfw:Fwd m fountain L t (decN m c):=QM.now.1 (HBP.out.1 rfl);have HFW:=lh hfw;clear hfw;obtain ⟨x0_0,x0_1,x0_2,x0_3⟩:=lyc4 Ly 0 rfl;have l0_:=Ly.out.lt 0 rfl;have q0:=HBR.out.rowCell HRR.out;have q1:=HBR.out.cell HRR.out HRW.out HBV.out;have q0l:=HBR.out.top.lt;have q1l:=(HBR.out.row _ _ _ HRR.out HRW.out).1.lt;have q1f:=(HBR.out.row _ _ _ HRR.out HRW.out).1.frozen c;gi_wp2;clear x0_0 x0_1 x0_2 x0_3 l0_;clear q0 q1 q0l q1l q1f;refine ⟨trivial,(c_W (mO Av nv cv Aa na ca At nt ct m (c:Int) W (HM.out.up Ly.out.1) HZ.out HV.out.1 (by have:=HN9.out;omega))).mono ?_⟩;rintro e W23 ⟨rfl,hb⟩;replace Ly:=lyb Ly hb;replace HBR:=lh (HBR.out.below hb);clear hb
      obtain ⟨s,hs⟩:∃ s,decN m c=s:=⟨_,rfl⟩
      rw [show decH m (c:Int)=s from hs];have HSD:=lh hs;have hfi:Fits all s:=by rw [← HSD.out];exact dK HL.out HV.out.1 HFW.out HAT.out.ha
      have HFI:=lh hfi;have hrg:∀ q:Nat,q<4→0≤au s q∧au s q≤12:=fun q hq=>by have h1:=HFI.out.le q hq;have h2:=HAT.out.rng q;omega
      have HRG:=lh hrg;clear hs hfi hrg;gi_upto_region 34 with fail
      obtain ⟨V24,hV⟩:∃ V,(W23.alloc (.cells #[.int .i64 (au s 0),.int .i64 (au s 1),.int .i64 (au s 2),.int .i64 (au s 3)] 150))=V:=⟨_,rfl⟩
      rw [hV];have hb:=de hV;have hnew:=dc hV;have hge:=Ly.out.bel.size;replace Ly:=lyb Ly hb;replace HBR:=lh (HBR.out.below hb);replace Ly:=lh (Ly.out.add hge hnew);clear hnew hge hb hV
      obtain ⟨G25,hG⟩:∃ g,W23.heap.size=g:=⟨_,rfl⟩
      rw [hG] at Ly ⊢;clear hG;replace Ly:=lh (show Lay w V24 [(w.heap.size,26,#[.int .i64 m.fountains,.slice Av nv cv,.slice Aa na ca,.slice At nt ct]),(G22,62,#[.int .i64 x.kind,.int .i64 x.fr,.int .i64 x.to,.int .i64 x.drops]),(G25,150,#[.int .i64 (au s 0),.int .i64 (au s 1),.int .i64 (au s 2),.int .i64 (au s 3)])] from Ly.out);have HLay0:=lh Ly.out;have HBR0:=lh HBR.out;refine dy [([true,true,true,true,true,true,true,true],8)] [] [false,false,false,false,false,false,false,false,false,false,true] 9 (fun b=>.pointer (some ⟨b,0,none⟩)) 54 #[.int .i64 0,.int .i64 0] (by kernel_rfl) (by kernel_rfl) (by kernel_rfl) (av b_R 1) rfl rfl rfl (fun _ _=>rfl) (fun _ _=>rfl) ?_;refine wpFlow_cons (A:=?AF7) rfl ?hq7 ?_
      case hq7 =>
       rintro σ hσ of hof hcl;have HOF:=lh hof;clear hof hcl;obtain ⟨c0_,c1_,c2_,c3_⟩:=lyz4 Ly HOF 0 rfl;obtain ⟨c4_,c5_,c6_,c7_⟩:=lyz4 Ly HOF 1 rfl;obtain ⟨c8_,c9_,c10_,c11_⟩:=lyz4 Ly HOF 2 rfl;have hfw:=hfT;have r0:∀ z,(of z).cell? ⟨bl,ol+t * 4,none⟩=some (.int .i64 (au all 0)):=fun z=>((HBR.out.below (HOF.out z)).bel.cell (p:=⟨bl,ol+t * 4,none⟩) HBL.out).trans (HCE.out 0 _ rfl);have r1:∀ z,(of z).cell? ⟨bl,ol+t * 4+1,none⟩=some (.int .i64 (au all 1)):=fun z=>((HBR.out.below (HOF.out z)).bel.cell (p:=⟨bl,ol+t * 4+1,none⟩) HBL.out).trans (HCE.out 1 _ rfl);have r2:∀ z,(of z).cell? ⟨bl,ol+t * 4+2,none⟩=some (.int .i64 (au all 2)):=fun z=>((HBR.out.below (HOF.out z)).bel.cell (p:=⟨bl,ol+t * 4+2,none⟩) HBL.out).trans (HCE.out 2 _ rfl);have r3:∀ z,(of z).cell? ⟨bl,ol+t * 4+3,none⟩=some (.int .i64 (au all 3)):=fun z=>((HBR.out.below (HOF.out z)).bel.cell (p:=⟨bl,ol+t * 4+3,none⟩) HBL.out).trans (HCE.out 3 _ rfl);have hkk:t<n:=by have:=HN.out;omega
       have hk13:=HN13.out;simp only [bu]
       iterate 8 (gi_big_quiet_step (fail))
       refine wpQuietIn_nil ?_;exact rfl
      intro W26 hW;replace Ly:=lyb Ly hW;replace HBR:=lh (HBR.out.below hW);clear hW;gi_wp2;refine ⟨trivial,(c_W (lE Av nv cv Aa na ca At nt ct m x fountain all s W26 (HM.out.up Ly.out.1) HAT.out.ok HFI.out (fun q hq=>(HAT.out.rng q).2) HV.out.1)).mono ?_⟩;rintro e W27 ⟨rfl,hb⟩;replace Ly:=lyb Ly hb;replace HBR:=lh (HBR.out.below hb)
      obtain ⟨lo,hlo⟩:∃ lo,(dq m x fountain all s).1=lo:=⟨_,rfl⟩
      obtain ⟨hi,hhi⟩:∃ hi,(dq m x fountain all s).2=hi:=⟨_,rfl⟩
      rw [hlo,hhi];have HLO:=lh hlo;have HHI:=lh hhi;clear hlo hhi;gi_wp2;refine ⟨trivial,hb,?_⟩;clear hb;refine wpFlow_nil (A:=?AF8) ?hq8 ?_
      case hq8 =>
       rintro σ hσ of hof hcl;have HOF:=lh hof;clear hof hcl;obtain ⟨c0_,c1_,c2_,c3_⟩:=lyz4 Ly HOF 0 rfl;obtain ⟨c4_,c5_,c6_,c7_⟩:=lyz4 Ly HOF 1 rfl;obtain ⟨c8_,c9_,c10_,c11_⟩:=lyz4 Ly HOF 2 rfl;have hfw:=hfT;simp only [bu]
       iterate 0 (gi_big_quiet_step (fail))
       refine wpQuietIn_nil ?_;exact rfl
      intro bN W28 hW hbg hbb hbi;replace Ly:=lyb Ly hW;replace HBR:=lh (HBR.out.below hW);have c0:=hbb.cell 0;have z0:=hbb.frozen 0;have c1:=hbb.cell 1;have z1:=hbb.frozen 1;have hbl:=hbb.lt;have hbw:w.heap.size≤bN:=Nat.le_trans (HLay0.out.1.size) hbg;simp only [bu];refine dg ?_;gi_wp2;refine cA ?_;have R3:=ret2' hbb (Below.refl bN W28) n_R (.int .i64 lo) (.int .i64 hi);have HLay9:=lh (Lay.add (w:=w) (bs:=[(w.heap.size,26,#[.int .i64 m.fountains,.slice Av nv cv,.slice Aa na ca,.slice At nt ct]),(G22,62,#[.int .i64 x.kind,.int .i64 x.fr,.int .i64 x.to,.int .i64 x.drops]),(G25,150,#[.int .i64 (au s 0),.int .i64 (au s 1),.int .i64 (au s 2),.int .i64 (au s 3)])]) ⟨Ly.out.1.trans (R3.2.1.mono hbw),fun p hp=>⟨(Ly.out.2 p hp).1,(Ly.out.2 p hp).2.below R3.2.1 (by have:=(HLay0.out.2 p hp).2.lt;omega)⟩⟩ hbw R3.1);replace HBR:=lh (HBR.out.newb HBR0.out hbg R3.2.2);generalize ((W28.setCell ⟨bN,0,none⟩ (.int .i64 lo)).setCell ⟨bN,1,none⟩ (.int .i64 hi))=W99 at *;clear c0 z0 c1 z1 hbl hbb hW hbg R3;replace Ly:=HLay9;clear HLay0 HBR0;obtain ⟨x3_0,x3_1⟩:=lyc2 Ly 3 rfl;have l3_:=Ly.out.lt 3 rfl;gi_wp2;clear x3_0 x3_1 l3_;refine wpIn_loop (fun a W=>∃ (k0:Int) (lb:Bool),Hid (lo≤k0∧(k0≤hi+1∨k0=lo)∧Lay w W [(w.heap.size,26,#[.int .i64 m.fountains,.slice Av nv cv,.slice Aa na ca,.slice At nt ct]),(G22,62,#[.int .i64 x.kind,.int .i64 x.fr,.int .i64 x.to,.int .i64 x.drops]),(G25,150,#[.int .i64 (au s 0),.int .i64 (au s 1),.int .i64 (au s 2),.int .i64 (au s 3)]),(bN,54,#[.int .i64 lo,.int .i64 hi])]∧BR W2 W N G rs bs∧(lb=true↔LdTo m fountain L x all t s k0))∧FrT7 (.agg #[.int .i64 m.fountains,.slice Av nv cv,.slice Aa na ca,.slice At nt ct]) (.int .i64 fountain) (.pointer (some ⟨w.heap.size,0,none⟩)) (.slice none 0 0) (.bool false) (.slice (some ⟨bl,ol,none⟩) n c0) (.bool true) (.int .i64 (N:Int)) (.slice (some ⟨G,0,none⟩) n n) (.int .i64 (t:Int)) (.pointer (some ⟨G22,0,none⟩)) (.int .i64 (c:Int)) (.pointer (some ⟨G25,0,none⟩)) (.pointer (some ⟨bN,0,none⟩)) (.bool lb) (.int .i64 k0) a) (fun a _=>(hi+1 - intOf (a.tmps.getD 24 undef)).toNat) ?_ ?_
      ·exact ⟨lo,false,lh ⟨Int.le_refl _,.inr rfl,Ly.out,HBR.out,⟨fun h=>(by cases h),fun h=>(by rw [← HLO.out] at h;exact absurd h LdTo.zero)⟩⟩,by constructor⟩
      clear Ly HBR;rintro a W ⟨k0,lb,HS,ha⟩;cases ha;have Ly:=lh HS.out.2.2.1;have HBR:=lh HS.out.2.2.2.1;by_cases hle:k0≤hi
      ·
       have hkb:=(nD HOK.out HL.out HX.out HAT.out.ha HFW.out).2 k0;rw [HSD.out,HLO.out,HHI.out] at hkb;replace hkb:=hkb HS.out.1 hle;have hkz:0≤k0∧k0≤2000:=by have:=HAT.out.size;dsimp only at this;omega
       have HKZ:=lh hkz;clear hkb
       cases lb with
       | true =>
        obtain ⟨x3_0,x3_1⟩:=lyc2 Ly 3 rfl;have l3_:=Ly.out.lt 3 rfl;gi_upto_region 39 with fail
        clear x3_0 x3_1 l3_;refine wpIn_flow_old [([true,true,true,true,true,true,true,true,true,true,true,true],12),([],13)] [false,false,false,false,false,false,false,false,false,false,false,false,false,false,true,true,true,true] [] (by kernel_rfl) (by kernel_rfl) (by kernel_rfl) (av b_R 1) ?_;refine wpFlow_cons (A:=?AF9) rfl ?hq9 ?_
        case hq9 =>
         rintro σ hσ of hof hcl;have HOF:=lh hof;clear hof hcl;obtain ⟨c0_,c1_,c2_,c3_⟩:=lyz4 Ly HOF 0 rfl;have hfw:=hfT;simp only [bu]
         iterate 12 (gi_big_quiet_step (fail))
         refine wpQuietIn_nil ?_;exact rfl
        intro W29 hW;replace Ly:=lyb Ly hW;replace HBR:=lh (HBR.out.below hW);clear hW;gi_wp2;refine ⟨trivial,?_⟩;gi_wp2;refine ⟨trivial,b_R,?_⟩;refine wpFlow_cons rfl Quietly.none ?_;intro W30 hW;replace Ly:=lyb Ly hW;replace HBR:=lh (HBR.out.below hW);clear hW;gi_wp2;refine ⟨trivial,?_⟩;gi_wp2;refine ⟨trivial,b_R,?_⟩;refine wpFlow_nil (A:=?AF10) ?hq10 ?_
        case hq10 =>
         rintro σ hσ of hof hcl;have HOF:=lh hof;clear hof hcl;obtain ⟨c0_,c1_,c2_,c3_⟩:=lyz4 Ly HOF 0 rfl;have hfw:=hfT;simp only [bu]
         iterate 4 (gi_big_quiet_step (fail))
         refine wpQuietIn_nil ?_;exact rfl
        intro W31 hW;replace Ly:=lyb Ly hW;replace HBR:=lh (HBR.out.below hW);clear hW;simp only [bu];refine cA ?_;gi_wp2;refine ⟨⟨k0+1,true,lh ⟨by have:=HS.out.1;omega,.inl (by omega),Ly.out.sub (by intro b hb;simp only [List.mem_cons,List.not_mem_nil,or_false] at hb ⊢;rcases hb with rfl | rfl | rfl | rfl<;>simp),HBR.out,⟨fun _=>(LdTo.step (by rw [HLO.out];exact HS.out.1)).2 (.inl (HS.out.2.2.2.2.1 (by first | rfl | trivial))),fun _=>rfl⟩⟩,by constructor⟩,?_⟩;simp [intOf]<;>omega
       | false =>
        have hmc:=kt (k:=k0) HOK.out HL.out HNN.out HX.out HAT.out.ha HFW.out (by rw [HSD.out,HLO.out];exact HS.out.1) (by rw [HSD.out,HHI.out];exact hle);rw [HSD.out] at hmc
        obtain ⟨s2,hs2⟩:∃ s2,dw m x s k0=s2:=⟨_,rfl⟩
        rw [hs2] at hmc;obtain ⟨hw2,d,hd1,hd2,hd3⟩:=hmc;have HS2:=lh hs2;have HW2:=lh hw2;have HD1:=lh hd1;have HD2:=lh hd2;have HD3:=lh hd3;clear hs2 hw2 hd1 hd2 hd3;obtain ⟨row2,bv2,hrow2,hbv2,hbP2⟩:=HTAB.out.look (i:=t+1) (c:=d) (by have:=HN.out;omega) HD2.out
        obtain ⟨r2,hr2⟩:∃ r,rs[t+1]? =some r:=⟨_,List.getElem?_eq_getElem (by have h1:=HBR.out.len;have h2:=HTAB.out.len;have:=HN.out;omega)⟩
        have HRW2:=lh hrow2;have HBV2:=lh hbv2;have HBP2:=lh hbP2;have HRR2:=lh hr2;clear hrow2 hbv2 hbP2 hr2;obtain ⟨x3_0,x3_1⟩:=lyc2 Ly 3 rfl;have l3_:=Ly.out.lt 3 rfl;gi_upto_region 39 with fail
        clear x3_0 x3_1 l3_;refine wpIn_flow_old [([true,true,true,true,true,true,true,true,true,true,true,true],12),([],13)] [false,false,false,false,false,false,false,false,false,false,false,false,false,false,true,true,true,true] [] (by kernel_rfl) (by kernel_rfl) (by kernel_rfl) (av b_R 1) ?_;refine wpFlow_cons (A:=?AF11) rfl ?hq11 ?_
        case hq11 =>
         rintro σ hσ of hof hcl;have HOF:=lh hof;clear hof hcl;obtain ⟨c0_,c1_,c2_,c3_⟩:=lyz4 Ly HOF 0 rfl;obtain ⟨c4_,c5_,c6_,c7_⟩:=lyz4 Ly HOF 1 rfl;obtain ⟨c8_,c9_,c10_,c11_⟩:=lyz4 Ly HOF 2 rfl;have hfw:=hfT;have q0:∀ z,(of z).cell? ⟨G,t+1,none⟩=some (.slice (some ⟨r2,0,none⟩) N N):=fun z=>(HBR.out.below (HOF.out z)).rowCell HRR2.out;have q1:∀ z,(of z).cell? ⟨r2,d,none⟩=some (.bool bv2):=fun z=>(HBR.out.below (HOF.out z)).cell HRR2.out HRW2.out HBV2.out;have hkk:t+1<n:=by have:=HN.out;omega
         have hd2:=HD2.out;have hn9:=HN9.out;have hk13:=HN13.out;simp only [bu]
         iterate 12 (gi_big_quiet_step (fail))
         refine wpQuietIn_nil ?_;exact rfl
        intro W32 hW;replace Ly:=lyb Ly hW;replace HBR:=lh (HBR.out.below hW);clear hW;gi_wp2;refine ⟨trivial,(c_W (l5 Av nv cv Aa na ca At nt ct m x s k0 all W32 (HM.out.up Ly.out.1) HAT.out.ok HFI.out.lh HRG.out HKZ.out HV.out.1)).mono ?_⟩;rintro e W33 ⟨rfl,hb⟩;rw [HS2.out];replace Ly:=lyb Ly hb;replace HBR:=lh (HBR.out.below hb);gi_wp2;refine ⟨trivial,hb,?_⟩;clear hb;refine wpFlow_cons rfl Quietly.none ?_;intro W34 hW;replace Ly:=lyb Ly hW;replace HBR:=lh (HBR.out.below hW);clear hW;gi_wp2;refine ⟨trivial,(c_W (nh Av nv cv Aa na ca At nt ct m s2 W34 (HM.out.up Ly.out.1) HZ.out HV.out.1 HW2.out)).mono ?_⟩;rintro e W35 ⟨rfl,hb⟩;rw [show dU (zsM m) (asK s2 m.vessels.length)=(d:Int) from HD1.out];replace Ly:=lyb Ly hb;replace HBR:=lh (HBR.out.below hb);gi_wp2;refine ⟨trivial,hb,?_⟩;clear hb;refine wpFlow_nil (A:=?AF12) ?hq12 ?_
        case hq12 =>
         rintro σ hσ of hof hcl;have HOF:=lh hof;clear hof hcl;obtain ⟨c0_,c1_,c2_,c3_⟩:=lyz4 Ly HOF 0 rfl;obtain ⟨c4_,c5_,c6_,c7_⟩:=lyz4 Ly HOF 1 rfl;obtain ⟨c8_,c9_,c10_,c11_⟩:=lyz4 Ly HOF 2 rfl;have hfw:=hfT;have q0:∀ z,(of z).cell? ⟨G,t+1,none⟩=some (.slice (some ⟨r2,0,none⟩) N N):=fun z=>(HBR.out.below (HOF.out z)).rowCell HRR2.out;have q1:∀ z,(of z).cell? ⟨r2,d,none⟩=some (.bool bv2):=fun z=>(HBR.out.below (HOF.out z)).cell HRR2.out HRW2.out HBV2.out;have hkk:t+1<n:=by have:=HN.out;omega
         have hd2:=HD2.out;have hn9:=HN9.out;have hk13:=HN13.out;simp only [bu]
         iterate 4 (gi_big_quiet_step (fail))
         refine wpQuietIn_nil ?_;exact rfl
        intro W36 hW;replace Ly:=lyb Ly hW;replace HBR:=lh (HBR.out.below hW);clear hW;simp only [bu];refine cA ?_;gi_wp2
        refine ⟨⟨k0+1,bv2,lh ⟨by have:=HS.out.1;omega,.inl (by omega),Ly.out.sub (by intro b hb;simp only [List.mem_cons,List.not_mem_nil,or_false] at hb ⊢;rcases hb with rfl | rfl | rfl | rfl<;>simp),HBR.out,(HBP2.out.trans QM.next).trans ⟨fun h=>(LdTo.step (by rw [HLO.out];exact HS.out.1)).2 (.inr (by rw [HS2.out,← HD3.out];exact h)),fun h=>by
          rcases (LdTo.step (by rw [HLO.out];exact HS.out.1)).1 h with h | h
          ·have:=HS.out.2.2.2.2.2 h;cases this
          ·rw [HS2.out,← HD3.out] at h;exact h⟩⟩,by constructor⟩,?_⟩
        simp [intOf]<;>omega
      ·
       obtain ⟨x3_0,x3_1⟩:=lyc2 Ly 3 rfl;have l3_:=Ly.out.lt 3 rfl;have q0:=HBR.out.rowCell HRR.out;have q1:=HBR.out.cell HRR.out HRW.out HBV.out;have q0l:=HBR.out.top.lt;have q1l:=(HBR.out.row _ _ _ HRR.out HRW.out).1.lt;have q1f:=(HBR.out.row _ _ _ HRR.out HRW.out).1.frozen c;gi_wp2;clear x3_0 x3_1 l3_;clear q0 q1 q0l q1l q1f;have hlb:lb=true↔cD m fountain L t (decN m c):=by rw [HS.out.2.2.2.2,HSD.out];exact LdTo.fin HOK.out HL.out HX.out HAT.out.ha HAT.out.ok (by rw [← HSD.out];exact HFW.out) (by rw [HHI.out];omega) (by rw [HHI.out,HLO.out];exact HS.out.2.1)
       have HLB:=lh hlb;clear hlb
       have hne9:∀ b∈([(w.heap.size,26,#[.int .i64 m.fountains,.slice Av nv cv,.slice Aa na ca,.slice At nt ct]),(G22,62,#[.int .i64 x.kind,.int .i64 x.fr,.int .i64 x.to,.int .i64 x.drops]),(G25,150,#[.int .i64 (au s 0),.int .i64 (au s 1),.int .i64 (au s 2),.int .i64 (au s 3)]),(bN,54,#[.int .i64 lo,.int .i64 hi])]:List (Nat × TypeId × Array Value)),b.2.1≠4:=by intro b hb;simp only [List.mem_cons,List.not_mem_nil,or_false] at hb;rcases hb with rfl | rfl | rfl | rfl<;>(dsimp only;decide)
       have HLS:=lh (i6 Ly.out (HBR.out.row _ _ _ HRR.out HRW.out).1 (Nat.le_trans HL2.out.1.size (HBR.out.row _ _ _ HRR.out HRW.out).2.2.1) hne9 c (.bool lb));have HBS:=lh (HBR.out.put (c:=c) HRR.out HRW.out lb);have HTS:=lh (ts HRW.out HLB.out HTAB.out);generalize W.setCell ⟨r,c,none⟩ (.bool lb)=S2 at *;replace Ly:=HLS;replace HBR:=HBS;replace HTAB:=HTS;clear HLS HBS HTS HRW HBV HBP HRR hne9;gi_wp2;refine ⟨⟨c+1,lh ⟨rs,_,hlc,Ly.out.sub (by intro b hb;simp only [List.mem_cons,List.not_mem_nil,or_false] at hb ⊢;rcases hb with rfl | rfl<;>simp),HBR.out,HTAB.out⟩,by rw [show ((c+1:Nat):Int)=(c:Int)+1 from by omega];constructor⟩,?_⟩;simp [intOf]<;>omega
    ·
     obtain rfl:c=N:=by have:=HS.out.1;omega
     gi_wp2;have hAt:=HAV.out;clear HAV;subst hAt;refine ⟨⟨(t:Int) - 1,lh ⟨t,rs,bs,rfl,Nat.le_of_lt hlt,Ly.out.sub (by intro b hb;simp only [List.mem_cons,List.not_mem_nil,or_false] at hb ⊢;rcases hb with rfl<;>simp),HBR.out,qm_qo HTAB.out⟩,by constructor⟩,?_⟩;simp [intOf]<;>omega
   ·
    obtain rfl:j=0:=by have:=HS.out.1;omega
    have HTP:=lh (HTAB.out.congr (P':=fun i c=>cD m fountain L i (decN m c)) fun i c _ _=>by unfold QO;rw [if_pos (Nat.zero_le _)]);replace HTAB:=HTP;clear HTP HS;obtain ⟨row,bv,hrow,hbv,hbP⟩:=HTAB.out.look (i:=0) (c:=0) (by have:=HN.out;omega) (by have:=HN9.out;omega)
    obtain ⟨r,hr⟩:∃ r,rs[0]? =some r:=⟨_,List.getElem?_eq_getElem (by have h1:=HBR.out.len;have h2:=HTAB.out.len;have:=HN.out;omega)⟩
    have HRW:=lh hrow;have HBV:=lh hbv;have HBP:=lh hbP;have HRR:=lh hr;clear hrow hbv hbP hr;gi_upto_region 41 with fail
    refine wpIn_flow_old [] [true,true,true,true,true,true,true,true] [] (by kernel_rfl) (by kernel_rfl) (by kernel_rfl) (av b_R 1) ?_;refine wpFlow_nil (A:=?AF13) ?hq13 ?_
    case hq13 =>
     rintro σ hσ of hof hcl;have HOF:=lh hof;clear hof hcl;have hfw:=hfT;have q0:∀ z,(of z).cell? ⟨G,0,none⟩=some (.slice (some ⟨r,0,none⟩) N N):=fun z=>(HBR.out.below (HOF.out z)).rowCell HRR.out;have q1:∀ z,(of z).cell? ⟨r,0,none⟩=some (.bool bv):=fun z=>(HBR.out.below (HOF.out z)).cell HRR.out HRW.out HBV.out;have hn1:0<n:=by have:=HN.out;omega
     have hN1:0<N:=by have:=HN9.out;omega
     simp only [bu]
     iterate 8 (gi_big_quiet_step (fail))
     refine wpQuietIn_nil ?_;exact rfl
    intro W37 hW;replace Ly:=lyb Ly hW;replace HBR:=lh (HBR.out.below hW);clear hW;simp only [bu];refine cA ?_;gi_wp2;refine bodyPost_ret (v:=.tuple #[.slice (some ⟨G,0,none⟩) n n,.bool bv]) (by simp [results,Tryz.results124,go_sem]) rfl ?_;exact ⟨L,rs,bs,G,n,N,bv,rfl,HNN.out,HN9.out,HL.out,by rw [HLA.out];exact HN.out,HBR.out.base Ly.out.1 HL2.out.1.size,HTAB.out,by have h1:=HBP.out;rw [j6 HOK.out HNN.out HN9.out.1] at h1;exact h1⟩
end
section
open Go.RowKit
theorem BR.other {w W W':World}{N g b:Nat}{rs:List Nat}{bs:List (List Bool)}{t:TypeId}{cs:Array Value}(h:BR w W N g rs bs)(hg:W.grownBy W' (some b))(hb:Blk W b t cs)(h1:t≠4)(h2:t≠194)(hge:w.heap.size≤b):BR w W' N g rs bs :=
 ⟨h.bel.grown hg h.bel.size (fun k e=>by cases e;exact hge),h.top.grown hg (fun e=>fx hb h.top h2 (Option.some.inj e).symm),h.ge,h.len,fun i r c k1 k2=>⟨(h.row i r c k1 k2).1.grown hg (fun e=>fx hb (h.row i r c k1 k2).1 h1 (Option.some.inj e).symm),(h.row i r c k1 k2).2⟩,h.nodup⟩
theorem mK (s:Held){q:Nat}(hq:q<4)(z:World):(Instr.index 150 (.agg #[.int .i64 (au s 0),.int .i64 (au s 1),.int .i64 (au s 2),.int .i64 (au s 3)]) (.int .i64 (q:Int))).run Tryz.prog z = .ok (.int .i64 (au s (q:Int))) z:=by
 have h0:(Instr.index 150 (.agg #[.int .i64 (au s 0),.int .i64 (au s 1),.int .i64 (au s 2),.int .i64 (au s 3)]) (.int .i64 ((0:Nat):Int))).run Tryz.prog z = .ok (.int .i64 (au s ((0:Nat):Int))) z:=by kernel_rfl
 have h1:(Instr.index 150 (.agg #[.int .i64 (au s 0),.int .i64 (au s 1),.int .i64 (au s 2),.int .i64 (au s 3)]) (.int .i64 ((1:Nat):Int))).run Tryz.prog z = .ok (.int .i64 (au s ((1:Nat):Int))) z:=by kernel_rfl
 have h2:(Instr.index 150 (.agg #[.int .i64 (au s 0),.int .i64 (au s 1),.int .i64 (au s 2),.int .i64 (au s 3)]) (.int .i64 ((2:Nat):Int))).run Tryz.prog z = .ok (.int .i64 (au s ((2:Nat):Int))) z:=by kernel_rfl
 have h3:(Instr.index 150 (.agg #[.int .i64 (au s 0),.int .i64 (au s 1),.int .i64 (au s 2),.int .i64 (au s 3)]) (.int .i64 ((3:Nat):Int))).run Tryz.prog z = .ok (.int .i64 (au s ((3:Nat):Int))) z:=by kernel_rfl
 match q,hq with
 | 0,_=>exact h0
 | 1,_=>exact h1
 | 2,_=>exact h2
 | 3,_=>exact h3
theorem sU {w W:World}{g:Nat}{t0 t1 t2:TypeId}{g0 g1:Nat}{c0 c1:Array Value}{a b:Value}(h:Lay w W [(g0,t0,c0),(g1,t1,c1),(g,t2,#[a,b])])(h0:g0≠g)(h1:g1≠g)(v0 v1:Value) :
  Lay w ((W.setCell ⟨g,0,none⟩ v0).setCell ⟨g,1,none⟩ v1) [(g0,t0,c0),(g1,t1,c1),(g,t2,#[v0,v1])]:=by
 have k1:=Lay.setLast (bs:=[(g0,t0,c0),(g1,t1,c1)]) h (by intro p hp;simp only [List.mem_cons,List.not_mem_nil,or_false] at hp;rcases hp with rfl | rfl<;>assumption) 0 v0;exact Lay.setLast (bs:=[(g0,t0,c0),(g1,t1,c1)]) k1 (by intro p hp;simp only [List.mem_cons,List.not_mem_nil,or_false] at hp;rcases hp with rfl | rfl<;>assumption) 1 v1
theorem pN (W:World)(g:Nat)(v0 v1:Value):W.grownBy ((W.setCell ⟨g,0,none⟩ v0).setCell ⟨g,1,none⟩ v1) (some g) :=
 cC (cC (cR W (some g)) (p:=⟨g,0,none⟩) (.inl rfl) v0) (p:=⟨g,1,none⟩) (.inl rfl) v1
theorem pl {m:Mix}{v a f:Int}(h:askM m v a [f]=0):cu m=true∧0≤idxV m.vessels v∧(0≤a∧a≤m.acts.length)∧1≤f∧f≤m.fountains:=by
 unfold askM at h;by_cases hk:cu m=true
 ·rw [if_pos hk] at h
  by_cases hi:idxV m.vessels v<0
  ·rw [if_pos hi] at h
   omega
  ·rw [if_neg hi] at h
   by_cases hr:(0≤a∧a≤m.acts.length)∧∀ g∈[f],1≤g∧g≤m.fountains
   ·exact ⟨hk,by omega,hr.1,by simpa using hr.2⟩
   ·rw [if_neg hr] at h
    omega
 ·rw [if_neg hk] at h
  omega
theorem tF {w W:World}{N g n i r:Nat}{rs:List Nat}{bs:List (List Bool)}{P:Nat→Nat→Prop}(h:BR w W N g rs bs)(hT:Tab N n bs P)(hi:i<n):∃ r row,rs[i]? =some r∧bs[i]? =some row:=by
 have h1:=h.len;have h2:=hT.len;exact ⟨_,_,List.getElem?_eq_getElem (by omega:i<rs.length),List.getElem?_eq_getElem (by omega:i<bs.length)⟩
theorem iK {w W:World}{N g n i r c:Nat}{rs:List Nat}{bs:List (List Bool)}{row:List Bool}{P:Nat→Nat→Prop}(h:BR w W N g rs bs)(hT:Tab N n bs P)(hr:rs[i]? =some r)(hb:bs[i]? =some row)(hc:c<N):∃ v:Bool,W.cell? ⟨r,c,none⟩=some (.bool v)∧(v=true↔P i c)∧r<W.heap.size:=by
 have h1:=hT.rows _ _ hb;have h2:row[c]? =some (row[c]'(by omega)):=List.getElem?_eq_getElem _;exact ⟨_,h.cell hr hb h2,hT.is _ _ _ _ hb h2,(h.row i r row hr hb).1.lt⟩
end
section
open Go.RowKit
inductive tc (v1 v4 v8 v13 v38 v39 v40:Value):Act→Prop
 | mk (a b c d e f g h i j k l m n o p q r s t w x y z A B C D E F G H I J K L M N O P Q R S T U V W X Y Z:Value):tc v1 v4 v8 v13 v38 v39 v40 ⟨#[a,v1,b,c,v4,d,e,f,v8,g,h,i,j,v13,k,l,m,n,o,p,q,r,s,t,w,x,y,z,A,B,C,D,E,F,G,H,I,J,v38,v39,v40,K,L,M,N,O,P,Q,R,S,T,U,V,W,X,Y,Z],[]⟩
theorem tA (Av:Option Addr)(nv cv:Nat)(Aa:Option Addr)(na ca:Nat)(At:Option Addr)(nt ct:Nat)(m:Mix)(vessel after fountain:Int)(w:World)(h:MixS w Av nv Aa na At nt m) :
  CallsIn Fence.wide 9 Tryz.prog 93 #[.agg #[.int .i64 m.fountains,.slice Av nv cv,.slice Aa na ca,.slice At nt ct],.int .i64 vessel,.int .i64 after,.int .i64 fountain] w (OfOut w m vessel after fountain):=by
 have HM:=lh h;have HLA:=lh h.at_.lenA;have HLV:=lh h.at_.lenV;clear h;refine callsIn_of_wp Tryz.func93 rfl trivial ?_ rfl;simp only [Tryz.ntmps93,es,Nat.reduceAdd,Nat.reduceSub];gi_upto_region 1 with fail
 have Ly:=lh (Lay.two w 26 #[.int .i64 m.fountains,.slice Av nv cv,.slice Aa na ca,.slice At nt ct] 54 #[.int .i64 0,.int .i64 0]);generalize ((w.alloc (.cells #[.int .i64 m.fountains,.slice Av nv cv,.slice Aa na ca,.slice At nt ct] 26)).alloc (.cells #[.int .i64 0,.int .i64 0] 54))=w0 at *;obtain ⟨x0_0,x0_1,x0_2,x0_3⟩:=lyc4 Ly 0 rfl;have l0_:=Ly.out.lt 0 rfl;gi_wp2;clear x0_0 x0_1 x0_2 x0_3 l0_;refine ⟨trivial,(c_W (lR Av nv cv Aa na ca At nt ct m vessel after fountain w0 (HM.out.up Ly.out.1))).mono ?_⟩;rintro e W1 ⟨rfl,hb⟩;replace Ly:=lyb Ly hb;clear hb
 obtain ⟨ee,hee⟩:∃ e,askM m vessel after [fountain]=e:=⟨_,rfl⟩
 rw [hee];have HEE:=lh hee;clear hee;by_cases h0:ee=0
 ·
  subst h0;have hok:=pl HEE.out;have HOK:=lh hok;have HV:=lh (cI hok.1);clear hok;obtain ⟨x0_0,x0_1,x0_2,x0_3⟩:=lyc4 Ly 0 rfl;have l0_:=Ly.out.lt 0 rfl;gi_wp2;clear x0_0 x0_1 x0_2 x0_3 l0_;refine ⟨trivial,(c_W (j7 Av nv cv Aa na ca At nt ct m fountain W1 (HM.out.up Ly.out.1) HOK.out.1)).mono ?_⟩;rintro e W2 ⟨L,rs,bs,g,n,N,b,rfl,hN,hN9,hL,hn,hBR,hT,hb0⟩;have hb:=hBR.bel;replace Ly:=lyb Ly hb;clear hb;have HNN:=lh hN;have HN9:=lh hN9;have HL:=lh hL;have HN:=lh hn;have HBR:=lh hBR;have HTAB:=lh hT;have HB0_:=lh hb0;clear hN hN9 hL hn hBR hT hb0
  cases b with
  | false =>
   have x1_0:=lyc Ly 1 rfl 0;have z1_0:=lyf Ly 1 rfl 0;have x1_1:=lyc Ly 1 rfl 1;have z1_1:=lyf Ly 1 rfl 1;have l1_:=Ly.out.lt 1 rfl;gi_wp2;have R2:=ret2' (Ly.out.blk 1 rfl) Ly.out.1 (Ly.out.ge 1 rfl) (.int .i64 (0)) (.int .i64 (0));have v0:=R2.1.cell 0;have v1:=R2.1.cell 1;refine bodyPost_ret (v:=.tuple #[.agg #[.int .i64 (0),.int .i64 (0)],.int .i64 (8)]) (by simp [results,Tryz.results93,go_sem,v0,v1]) rfl ?_;exact ⟨0,0,8,rfl,.inr ⟨HEE.out,L,HL.out,.inl ⟨fun h=>(by have:=HB0_.out.2 h;cases this),rfl,rfl⟩⟩,R2.2.1⟩
  | true =>
   have HT0:=lh (HB0_.out.1 rfl);clear HB0_
   obtain ⟨k,hk⟩:∃ k:Nat,after=(k:Int):=⟨after.toNat,by have:=HOK.out.2.2.1;omega⟩
   obtain ⟨q,hq⟩:∃ q:Nat,idxV m.vessels vessel=(q:Int):=⟨(idxV m.vessels vessel).toNat,by have:=HOK.out.2.1;omega⟩
   subst hk;have hql:q<m.vessels.length:=by have h1:=df HOK.out.2.1;omega
   have hq4:q<4:=by have h3:=HV.out.1;omega
   have hkl:k≤m.acts.length:=by have:=HOK.out.2.2.1;omega
   have hkn:k<n:=by have:=HN.out;omega
   have HIQ:=lh hq;have HQL:=lh hql;have HQ4:=lh hq4;have HKL:=lh hkl;obtain ⟨r,row,hr,hrow⟩:=tF (i:=k) (r:=0) HBR.out HTAB.out hkn;have HRR:=lh hr;have HRW:=lh hrow;clear hq hql hq4 hkl hr hrow;have hlt1:=Ly.out.lt 1 rfl;have hlt0:=Ly.out.lt 0 rfl;have HGB0:=lh HBR.out.bel.size;gi_upto_region 8 with fail
   obtain ⟨V3,hV⟩:∃ V,(W2.alloc (.cells #[.int .i64 0,.int .i64 (-1)] 54))=V:=⟨_,rfl⟩
   rw [hV];have hb:=de hV;have hnew:=dc hV;have hge:=Ly.out.bel.size;replace Ly:=lyb Ly hb;replace HBR:=lh (HBR.out.below hb);replace Ly:=lh (Ly.out.add hge hnew);clear hnew hge hb hV
   obtain ⟨G4,hG⟩:∃ g,W2.heap.size=g:=⟨_,rfl⟩
   rw [hG] at Ly ⊢;have HG_:=lh hG;clear hG;have HG1:Hid (w.heap.size+1≠G4):=lh (by rw [← HG_.out];omega);have HG0:Hid (w.heap.size≠G4):=lh (by rw [← HG_.out];omega);have HGB:Hid (W1.heap.size≤G4):=lh (by rw [← HG_.out];exact HGB0.out);clear HG_ hlt1 hlt0 HGB0;have q0:=HBR.out.rowCell HRR.out;have q0l:=HBR.out.top.lt;have hn13:n≤13:=by have h1:=HN.out;have h2:=HV.out;omega
   gi_wp2;clear q0 q0l hn13;refine wpIn_loop (fun a W=>∃ (c:Nat),Hid (Ex2 fun (lo hi:Int)=>c≤N∧Lay w W [(w.heap.size,26,#[.int .i64 m.fountains,.slice Av nv cv,.slice Aa na ca,.slice At nt ct]),(w.heap.size+1,54,#[.int .i64 0,.int .i64 0]),(G4,54,#[.int .i64 lo,.int .i64 hi])]∧BR W1 W N g rs bs∧gm (OfN m fountain L k q c) (lo,hi))∧tc (.int .i64 vessel) (.pointer (some ⟨w.heap.size,0,none⟩)) (.pointer (some ⟨w.heap.size+1,0,none⟩)) (.pointer (some ⟨G4,0,none⟩)) (.slice (some ⟨r,0,none⟩) N N) (.int .i64 (N:Int)) (.int .i64 (c:Int)) a) (fun a _=>N - (intOf (a.tmps.getD 40 undef)).toNat) ?_ ?_
   ·exact ⟨0,lh ⟨0,-1,by omega,Ly.out,HBR.out,.inl ⟨fun _=>rJ,rfl⟩⟩,by constructor⟩
   clear Ly HBR;rintro a W ⟨c,HS,ha⟩;cases ha;obtain ⟨lo,hi,hs9⟩:=HS.out;replace HS:=lh hs9;clear hs9;have Ly:=lh HS.out.2.1;have HBR:=lh HS.out.2.2.1;by_cases hlt:c<N
   ·
    obtain ⟨bv,q1,hbP,q1l⟩:=iK HBR.out HTAB.out HRR.out HRW.out hlt;have hn9:=HN9.out;have HBP:=lh hbP;clear hbP
    cases bv with
    | false =>
     gi_wp2;have hno:¬ cD m fountain L k (decN m c):=fun h=>by have:=HBP.out.2 h;cases this
     refine ⟨⟨c+1,lh ⟨lo,hi,hlt,Ly.out,HBR.out,HS.out.2.2.2.keep (sx hno)⟩,by rw [show ((c+1:Nat):Int)=(c:Int)+1 from by omega];constructor⟩,?_⟩;simp [intOf]<;>omega
    | true =>
     have HTC:Hid (cD m fountain L k (decN m c)):=lh (HBP.out.1 rfl);gi_upto_region 12 with fail
     clear q1 q1l;refine wpIn_flow_old [([true,true,true,false,true,true],3),([],6),([false,false,false,false,false,false,false,true],8)] [] [false,false,false,false,false,false,false,false,false,true] (by kernel_rfl) (by kernel_rfl) (by kernel_rfl) (av b_R 1) ?_;refine wpFlow_cons (A:=?AF1) rfl ?hq1 ?_
     case hq1 =>
      rintro σ hσ of hof hcl;have HOF:=lh hof;clear hof hcl;obtain ⟨c0_,c1_,c2_,c3_⟩:=lyz4 Ly HOF 0 rfl;obtain ⟨c4_,c5_⟩:=lyz2 Ly HOF 2 rfl;have hfw:=hfT;have hix:∀ z:World,(Instr.index 150 (.agg #[.int .i64 (au (decH m (c:Int)) 0),.int .i64 (au (decH m (c:Int)) 1),.int .i64 (au (decH m (c:Int)) 2),.int .i64 (au (decH m (c:Int)) 3)]) (.int .i64 (q:Int))).run Tryz.prog z = .ok (.int .i64 (au (decH m (c:Int)) (q:Int))) z:=fun z=>mK _ HQ4.out z;simp only [bu]
      iterate 5 (gi_big_quiet_step (fail))
      refine wpQuietIn_nil ?_;exact rfl
     intro W5 hW;replace Ly:=lyb Ly hW;replace HBR:=lh (HBR.out.below hW);clear hW;gi_wp2;refine ⟨trivial,(c_W (mO Av nv cv Aa na ca At nt ct m (c:Int) W5 (HM.out.up Ly.out.1) (dh HOK.out.1) HV.out.1 (by have:=HN9.out;omega))).mono ?_⟩;rintro e W6 ⟨rfl,hb⟩;replace Ly:=lyb Ly hb;replace HBR:=lh (HBR.out.below hb);gi_wp2;refine ⟨trivial,hb,?_⟩;clear hb;refine wpFlow_cons rfl Quietly.none ?_;intro W7 hW;replace Ly:=lyb Ly hW;replace HBR:=lh (HBR.out.below hW);clear hW;gi_wp2;refine ⟨trivial,(callsIn_wide.2 (dm Av nv cv Aa na ca At nt ct m vessel W7 (HM.out.up Ly.out.1))).mono ?_⟩;rintro e W8 ⟨rfl,hb⟩;replace Ly:=lyb Ly hb;replace HBR:=lh (HBR.out.below hb);rw [HIQ.out];gi_wp2;refine ⟨trivial,hb,?_⟩;clear hb;refine wpFlow_cons (A:=?AF2) rfl ?hq2 ?_
     case hq2 =>
      rintro σ hσ of hof hcl;have HOF:=lh hof;clear hof hcl;obtain ⟨c0_,c1_,c2_,c3_⟩:=lyz4 Ly HOF 0 rfl;obtain ⟨c4_,c5_⟩:=lyz2 Ly HOF 2 rfl;have hfw:=hfT;have hix:∀ z:World,(Instr.index 150 (.agg #[.int .i64 (au (decH m (c:Int)) 0),.int .i64 (au (decH m (c:Int)) 1),.int .i64 (au (decH m (c:Int)) 2),.int .i64 (au (decH m (c:Int)) 3)]) (.int .i64 (q:Int))).run Tryz.prog z = .ok (.int .i64 (au (decH m (c:Int)) (q:Int))) z:=fun z=>mK _ HQ4.out z;simp only [bu]
      iterate 1 (gi_big_quiet_step (fail))
      refine wpQuietIn_nil ?_;exact rfl
     intro W9 hW;replace Ly:=lyb Ly hW;replace HBR:=lh (HBR.out.below hW);clear hW;gi_wp2;refine ⟨trivial,(c_W (qP lo hi (au (decH m (c:Int)) (q:Int)) W9)).mono ?_⟩;rintro e W10 ⟨rfl,hb⟩;replace Ly:=lyb Ly hb;replace HBR:=lh (HBR.out.below hb)
     obtain ⟨lo2,hlo2⟩:∃ x,(iQ (lo,hi) (au (decH m (c:Int)) (q:Int))).1=x:=⟨_,rfl⟩
     obtain ⟨hi2,hhi2⟩:∃ x,(iQ (lo,hi) (au (decH m (c:Int)) (q:Int))).2=x:=⟨_,rfl⟩
     rw [hlo2,hhi2];have HW2:Hid ((lo2,hi2)=iQ (lo,hi) (au (decN m c) (q:Int))):=lh (by rw [← hlo2,← hhi2];rfl);clear hlo2 hhi2;gi_wp2;refine ⟨trivial,hb,?_⟩;clear hb;refine wpFlow_nil (A:=?AF3) ?hq3 ?_
     case hq3 =>
      rintro σ hσ of hof hcl;have HOF:=lh hof;clear hof hcl;obtain ⟨c0_,c1_,c2_,c3_⟩:=lyz4 Ly HOF 0 rfl;obtain ⟨c4_,c5_⟩:=lyz2 Ly HOF 2 rfl;have hfw:=hfT;have hix:∀ z:World,(Instr.index 150 (.agg #[.int .i64 (au (decH m (c:Int)) 0),.int .i64 (au (decH m (c:Int)) 1),.int .i64 (au (decH m (c:Int)) 2),.int .i64 (au (decH m (c:Int)) 3)]) (.int .i64 (q:Int))).run Tryz.prog z = .ok (.int .i64 (au (decH m (c:Int)) (q:Int))) z:=fun z=>mK _ HQ4.out z;simp only [bu]
      iterate 0 (gi_big_quiet_step (fail))
      refine wpQuietIn_nil ?_;exact rfl
     intro W11 hW;replace Ly:=lyb Ly hW;replace HBR:=lh (HBR.out.below hW);clear hW;have x2_0:=lyc Ly 2 rfl 0;have z2_0:=lyf Ly 2 rfl 0;have x2_1:=lyc Ly 2 rfl 1;have z2_1:=lyf Ly 2 rfl 1;have l2_:=Ly.out.lt 2 rfl;simp only [bu];refine dg ?_;gi_wp2;refine cA ?_;clear x2_0 z2_0 x2_1 z2_1 l2_;have HG9:=lh (pN W11 G4 (.int .i64 (lo2)) (.int .i64 (hi2)));have HLS:=lh (sU Ly.out HG0.out HG1.out (.int .i64 (lo2)) (.int .i64 (hi2)));have HBS:=lh (HBR.out.other HG9.out (Ly.out.blk 2 rfl) (by decide) (by decide) HGB.out);generalize (W11.setCell ⟨G4,0,none⟩ (.int .i64 (lo2))).setCell ⟨G4,1,none⟩ (.int .i64 (hi2))=S9 at *;replace Ly:=HLS;replace HBR:=HBS;clear HLS HBS HG9;gi_wp2;refine ⟨⟨c+1,lh ⟨lo2,hi2,hlt,Ly.out,HBR.out,by rw [HW2.out];exact HS.out.2.2.2.add (fun n h=>(of_bd HOK.out.1 HQL.out h).1) (by have:=tx HOK.out.1 c q HQ4.out;omega) (sA HTC.out)⟩,by rw [show ((c+1:Nat):Int)=(c:Int)+1 from by omega];constructor⟩,?_⟩;simp [intOf]<;>omega
   ·
    obtain rfl:N=c:=by have:=HS.out.1;omega
    have x1_0:=lyc Ly 1 rfl 0;have z1_0:=lyf Ly 1 rfl 0;have x1_1:=lyc Ly 1 rfl 1;have z1_1:=lyf Ly 1 rfl 1;have l1_:=Ly.out.lt 1 rfl;obtain ⟨x2_0,x2_1⟩:=lyc2 Ly 2 rfl;have l2_:=Ly.out.lt 2 rfl;gi_wp2;have R2:=ret2' (Ly.out.blk 1 rfl) Ly.out.1 (Ly.out.ge 1 rfl) (.int .i64 (lo)) (.int .i64 (hi));have v0:=R2.1.cell 0;have v1:=R2.1.cell 1;refine bodyPost_ret (v:=.tuple #[.agg #[.int .i64 (lo),.int .i64 (hi)],.int .i64 (0)]) (by simp [results,Tryz.results93,go_sem,v0,v1]) rfl ?_;exact ⟨lo,hi,0,rfl,.inr ⟨HEE.out,L,HL.out,.inr ⟨HT0.out,rfl,(HS.out.2.2.2.keep (fun x=>(tL HOK.out.1 HL.out HNN.out HIQ.out HKL.out x).symm)).all (sE HT0.out HKL.out)⟩⟩,R2.2.1⟩
 ·
  have h0b:(ee != 0)=true:=by simpa using h0
  have H0:=lh h0;clear h0;have x1_0:=lyc Ly 1 rfl 0;have z1_0:=lyf Ly 1 rfl 0;have x1_1:=lyc Ly 1 rfl 1;have z1_1:=lyf Ly 1 rfl 1;have l1_:=Ly.out.lt 1 rfl;gi_wp2;have R2:=ret2' (Ly.out.blk 1 rfl) Ly.out.1 (Ly.out.ge 1 rfl) (.int .i64 (0)) (.int .i64 (0));have v0:=R2.1.cell 0;have v1:=R2.1.cell 1;refine bodyPost_ret (v:=.tuple #[.agg #[.int .i64 (0),.int .i64 (0)],.int .i64 (ee)]) (by simp [results,Tryz.results93,go_sem,v0,v1]) rfl ?_;exact ⟨0,0,ee,rfl,.inl ⟨by rw [HEE.out];exact H0.out,rfl,HEE.out.symm⟩,R2.2.1⟩
end
section
open Go.RowKit
theorem tn {m:Mix}{v a f e lo hi:Int}(h:OfIs m v a f (lo,hi) e)(h0:e≠0):lo=0∧hi=0:=by
 rcases h with ⟨_,h1,_⟩ | ⟨_,A,_,h1⟩
 ·exact ⟨congrArg Prod.fst h1,congrArg Prod.snd h1⟩
 ·rcases h1 with ⟨_,h2,_⟩ | ⟨_,h2,_⟩
  ·exact ⟨congrArg Prod.fst h2,congrArg Prod.snd h2⟩
  ·exact absurd h2 h0
theorem tH {m:Mix}{v a f:Int}{s:Int × Int}(h:OfIs m v a f s 0):askM m v a []=0:=by
 rcases h with ⟨h0,_,h1⟩ | ⟨h0,_⟩
 ·exact absurd h1.symm h0
 ·have h2:=pl h0
  unfold askM;rw [if_pos h2.1,if_neg (by omega),if_pos ⟨h2.2.2.1,by simp⟩]
theorem oY {m:Mix}{v a n e:Int}(h:fb m v a n e)(h0:askM m v a []=0):e=0:=by
 rcases h with ⟨h1,_⟩ | ⟨_,h1,_⟩
 ·exact absurd h0 h1
 ·exact h1
theorem rL (Av:Option Addr)(nv cv:Nat)(Aa:Option Addr)(na ca:Nat)(At:Option Addr)(nt ct:Nat)(m:Mix)(vessel after fountain:Int)(w:World)(h:MixS w Av nv Aa na At nt m) :
  CallsIn Fence.wide 9 Tryz.prog 58 #[.agg #[.int .i64 m.fountains,.slice Av nv cv,.slice Aa na ca,.slice At nt ct],.int .i64 vessel,.int .i64 after,.int .i64 fountain] w (mD w m vessel after fountain):=by
 have HM:=lh h;clear h;refine callsIn_of_wp Tryz.func58 rfl trivial ?_ rfl;simp only [Tryz.ntmps58,es,Nat.reduceAdd,Nat.reduceSub];gi_upto_region 1 with fail
 have Ly:=lh (Lay.one w 26 #[.int .i64 m.fountains,.slice Av nv cv,.slice Aa na ca,.slice At nt ct]);generalize (w.alloc (.cells #[.int .i64 m.fountains,.slice Av nv cv,.slice Aa na ca,.slice At nt ct] 26))=w0 at *;obtain ⟨x0_0,x0_1,x0_2,x0_3⟩:=lyc4 Ly 0 rfl;have l0_:=Ly.out.lt 0 rfl;gi_wp2;clear x0_0 x0_1 x0_2 x0_3 l0_;refine ⟨trivial,(c_W (tA Av nv cv Aa na ca At nt ct m vessel after fountain w0 (HM.out.up Ly.out.1))).mono ?_⟩;rintro e W1 ⟨lo,hi,ee,rfl,hof,hb⟩;replace Ly:=lyb Ly hb;clear hb;have HOF:=lh hof;clear hof;gi_upto_region 2 with fail
 obtain ⟨V2,hV⟩:∃ V,(W1.alloc (.cells #[.int .i64 lo,.int .i64 hi] 54))=V:=⟨_,rfl⟩
 rw [hV];have hb:=de hV;have hnew:=dc hV;have hge:=Ly.out.bel.size;replace Ly:=lyb Ly hb;replace Ly:=lh (Ly.out.add hge hnew);clear hnew hge hb hV
 obtain ⟨G3,hG⟩:∃ g,W1.heap.size=g:=⟨_,rfl⟩
 rw [hG] at Ly ⊢;clear hG;by_cases h0:ee=0
 ·
  subst h0;obtain ⟨x0_0,x0_1,x0_2,x0_3⟩:=lyc4 Ly 0 rfl;have l0_:=Ly.out.lt 0 rfl;gi_wp2;clear x0_0 x0_1 x0_2 x0_3 l0_;refine ⟨trivial,(c_W (qE Av nv cv Aa na ca At nt ct m vessel after V2 (HM.out.up Ly.out.1))).mono ?_⟩;rintro e W4 ⟨n,e2,rfl,hho,hb⟩;replace Ly:=lyb Ly hb;clear hb;obtain rfl:e2=0:=oY hho (tH HOF.out);have HHO:=lh hho;clear hho;by_cases h1:lo=n
  ·
   have H1:=lh h1;have h1b:(lo==n)=true:=by simpa using h1
   clear h1;obtain ⟨x1_0,x1_1⟩:=lyc2 Ly 1 rfl;have l1_:=Ly.out.lt 1 rfl;gi_wp2;refine bodyPost_ret (v:=.tuple #[.int .u8 2,.int .i64 0]) (by simp [results,Tryz.results58,go_sem]) rfl ?_;exact .inr ⟨lo,hi,n,by unfold iD;rw [if_pos (decide_eq_true H1.out)],HOF.out,HHO.out,Ly.out.1⟩
  ·
   have H1:=lh h1;have h1b:(lo==n)=false:=by simpa using h1
   clear h1;by_cases h2:hi=n
   ·
    have H2:=lh h2;have h2b:(hi==n)=true:=by simpa using h2
    clear h2;obtain ⟨x1_0,x1_1⟩:=lyc2 Ly 1 rfl;have l1_:=Ly.out.lt 1 rfl;gi_wp2;refine bodyPost_ret (v:=.tuple #[.int .u8 1,.int .i64 0]) (by simp [results,Tryz.results58,go_sem]) rfl ?_;exact .inr ⟨lo,hi,n,by unfold iD;rw [if_neg (by simpa using H1.out),if_pos (decide_eq_true H2.out)],HOF.out,HHO.out,Ly.out.1⟩
   ·
    have H2:=lh h2;have h2b:(hi==n)=false:=by simpa using h2
    clear h2;obtain ⟨x1_0,x1_1⟩:=lyc2 Ly 1 rfl;have l1_:=Ly.out.lt 1 rfl;gi_wp2;refine bodyPost_ret (v:=.tuple #[.int .u8 0,.int .i64 0]) (by simp [results,Tryz.results58,go_sem]) rfl ?_;exact .inr ⟨lo,hi,n,by unfold iD;rw [if_neg (by simpa using H1.out),if_neg (by simpa using H2.out)],HOF.out,HHO.out,Ly.out.1⟩
 ·
  have h0b:(ee != 0)=true:=by simpa using h0
  have H0:=lh h0;clear h0;gi_wp2;refine bodyPost_ret (v:=.tuple #[.int .u8 0,.int .i64 ee]) (by simp [results,Tryz.results58,go_sem]) rfl ?_;have he:=tn HOF.out H0.out;exact .inl ⟨ee,rfl,H0.out,by have h9:=HOF.out;rwa [he.1,he.2] at h9,Ly.out.1⟩
end
section
open Go.RowKit Go.Shelf
attribute [local go_sem] Oper.semAt_some
theorem rS (Av:Option Addr)(nv cv:Nat)(Aa:Option Addr)(na ca:Nat)(At:Option Addr)(nt ct:Nat)(m:Mix)(a b n f:Int)(w:World)(h:MixS w Av nv Aa na At nt m) :
  CallsIn Fence.wide 9 Tryz.prog 17 #[.agg #[.int .i64 m.fountains,.slice Av nv cv,.slice Aa na ca,.slice At nt ct],.int .i64 a,.int .i64 b,.int .i64 n,.int .i64 f] w (py w m a b n f):=by
 have HM:=lh h;clear h;refine callsIn_of_wp Tryz.func17 rfl trivial ?_ rfl;simp only [Tryz.ntmps17,es,Nat.reduceAdd,Nat.reduceSub];gi_upto_region 1 with fail
 have Ly:=lh (Lay.one w 26 #[.int .i64 m.fountains,.slice Av nv cv,.slice Aa na ca,.slice At nt ct]);generalize (w.alloc (.cells #[.int .i64 m.fountains,.slice Av nv cv,.slice Aa na ca,.slice At nt ct] 26))=w0 at *;obtain ⟨x0_0,x0_1,x0_2,x0_3⟩:=lyc4 Ly 0 rfl;have l0_:=Ly.out.lt 0 rfl;gi_wp2;clear x0_0 x0_1 x0_2 x0_3 l0_;refine ⟨trivial,(callsIn_wide.2 (gM Av nv cv Aa na ca At nt ct m w0 (HM.out.up Ly.out.1))).mono ?_⟩;rintro e W1 ⟨rfl,hb⟩;replace Ly:=lyb Ly hb;clear hb
 cases hok:cu m with
 | false =>
  have HG:Hid (ej m a b f=40):=lh (by unfold ej;rw [if_neg (by rw [hok];decide)]);clear hok;gi_wp2;exact bodyPost_ret (v:=.tuple #[.int .u8 0,.int .i64 40]) (by simp [results,Tryz.results17,go_sem]) rfl ⟨0,40,rfl,.inl ⟨by rw [HG.out];decide,rfl,HG.out.symm⟩,Ly.out.1⟩
 | true =>
  have HOK:=lh hok;clear hok
  obtain ⟨ja,hja⟩:∃ j,idxV m.vessels a=j:=⟨_,rfl⟩
  obtain ⟨jb,hjb⟩:∃ j,idxV m.vessels b=j:=⟨_,rfl⟩
  have HJA:=lh hja;have HJB:=lh hjb;clear hja hjb;obtain ⟨x0_0,x0_1,x0_2,x0_3⟩:=lyc4 Ly 0 rfl;have l0_:=Ly.out.lt 0 rfl;gi_wp2;clear x0_0 x0_1 x0_2 x0_3 l0_;refine ⟨trivial,(callsIn_wide.2 (dm Av nv cv Aa na ca At nt ct m a W1 (HM.out.up Ly.out.1))).mono ?_⟩;rintro e W2 ⟨rfl,hb⟩;replace Ly:=lyb Ly hb;clear hb;rw [HJA.out];by_cases ha:ja<0
  ·
   have HG:Hid (ej m a b f=6):=lh (by unfold ej;rw [if_pos HOK.out,if_pos (.inl (by rw [HJA.out];exact ha))]);have hab:decide (ja<0)=true:=decide_eq_true ha;obtain ⟨x0_0,x0_1,x0_2,x0_3⟩:=lyc4 Ly 0 rfl;have l0_:=Ly.out.lt 0 rfl;gi_wp2
   all_goals try (rename_i hA hB;exact undef_ne hA)
   clear x0_0 x0_1 x0_2 x0_3 l0_
   all_goals try (refine ⟨trivial,?_⟩;gi_wp2)
   all_goals try (rename_i hA hB;exact undef_ne hA)
   exact bodyPost_ret (v:=.tuple #[.int .u8 0,.int .i64 6]) (by simp [results,Tryz.results17,go_sem]) rfl ⟨0,6,rfl,.inl ⟨by rw [HG.out];decide,rfl,HG.out.symm⟩,Ly.out.1⟩
  ·
   have hab:decide (ja<0)=false:=decide_eq_false ha;have HA0:=lh ha;obtain ⟨x0_0,x0_1,x0_2,x0_3⟩:=lyc4 Ly 0 rfl;have l0_:=Ly.out.lt 0 rfl;gi_wp2;clear x0_0 x0_1 x0_2 x0_3 l0_;refine ⟨trivial,(callsIn_wide.2 (dm Av nv cv Aa na ca At nt ct m b W2 (HM.out.up Ly.out.1))).mono ?_⟩;rintro e W3 ⟨rfl,hb⟩;replace Ly:=lyb Ly hb;clear hb;rw [HJB.out];by_cases hb0:jb<0
   ·
    have HG:Hid (ej m a b f=6):=lh (by unfold ej;rw [if_pos HOK.out,if_pos (.inr (by rw [HJB.out];exact hb0))]);have hbb:decide (jb<0)=true:=decide_eq_true hb0;obtain ⟨x0_0,x0_1,x0_2,x0_3⟩:=lyc4 Ly 0 rfl;have l0_:=Ly.out.lt 0 rfl;gi_wp2;clear x0_0 x0_1 x0_2 x0_3 l0_;exact bodyPost_ret (v:=.tuple #[.int .u8 0,.int .i64 6]) (by simp [results,Tryz.results17,go_sem]) rfl ⟨0,6,rfl,.inl ⟨by rw [HG.out];decide,rfl,HG.out.symm⟩,Ly.out.1⟩
   ·
    have hbb:decide (jb<0)=false:=decide_eq_false hb0;have HB0:=lh hb0;obtain ⟨x0_0,x0_1,x0_2,x0_3⟩:=lyc4 Ly 0 rfl;have l0_:=Ly.out.lt 0 rfl;gi_wp2;clear x0_0 x0_1 x0_2 x0_3 l0_;refine ⟨trivial,(callsIn_wide.2 (cK f 1 m.fountains W3)).mono ?_⟩;rintro e V9 ⟨rfl,rfl⟩;rw [show wiB f 1 m.fountains=decide (1≤f∧f≤m.fountains) from by unfold wiB;simp];by_cases hf:1≤f∧f≤m.fountains
    rotate_left
    ·
     have HG:Hid (ej m a b f=2):=lh (by unfold ej;rw [if_pos HOK.out,if_neg (by rw [HJA.out,HJB.out];have:=HA0.out;have:=HB0.out;omega),if_neg hf]);rw [decide_eq_false hf];clear hf;gi_wp2;exact bodyPost_ret (v:=.tuple #[.int .u8 0,.int .i64 2]) (by simp [results,Tryz.results17,go_sem]) rfl ⟨0,2,rfl,.inl ⟨by rw [HG.out];decide,rfl,HG.out.symm⟩,Ly.out.1⟩
    ·
     have HG:Hid (ej m a b f=0):=lh (by unfold ej;rw [if_pos HOK.out,if_neg (by rw [HJA.out,HJB.out];have:=HA0.out;have:=HB0.out;omega),if_pos hf]);rw [decide_eq_true hf];clear hf
     obtain ⟨⟨X,ee⟩,hd⟩:∃ y,doM m ⟨2,a,b,n⟩=y:=⟨_,rfl⟩
     have HD:=lh hd;clear hd;obtain ⟨x0_0,x0_1,x0_2,x0_3⟩:=lyc4 Ly 0 rfl;have l0_:=Ly.out.lt 0 rfl;gi_wp2;clear x0_0 x0_1 x0_2 x0_3 l0_;refine ⟨trivial,(c_W (tu Av nv cv Aa na ca At nt ct m ⟨2,a,b,n⟩ W3 (HM.out.up Ly.out.1))).mono ?_⟩;rintro e W4 ⟨A1,n1,c1,A2,n2,c2,A3,n3,c3,rfl,hms,hb⟩;replace Ly:=lyb Ly hb;clear hb;rw [HD.out] at hms ⊢;have HX:=lh hms;clear hms;gi_upto_region 8 with fail
     obtain ⟨V5,hV⟩:∃ V,(W4.alloc (.cells #[.int .i64 X.fountains,.slice A1 n1 c1,.slice A2 n2 c2,.slice A3 n3 c3] 26))=V:=⟨_,rfl⟩
     rw [hV];have hb:=de hV;have hnew:=dc hV;have hge:=Ly.out.bel.size;replace Ly:=lyb Ly hb;replace HX:=lh (HX.out.up hb);replace Ly:=lh (Ly.out.add hge hnew);clear hnew hge hb hV
     obtain ⟨G6,hG⟩:∃ g,W4.heap.size=g:=⟨_,rfl⟩
     rw [hG] at Ly ⊢;clear hG;replace Ly:=lh (show Lay w V5 [(w.heap.size,26,#[.int .i64 m.fountains,.slice Av nv cv,.slice Aa na ca,.slice At nt ct]),(G6,26,#[.int .i64 X.fountains,.slice A1 n1 c1,.slice A2 n2 c2,.slice A3 n3 c3])] from Ly.out);by_cases he:ee=0
     rotate_left
     ·
      have heb:(ee != 0)=true:=by simpa using he
      have HE:=lh he;clear he;gi_wp2;exact bodyPost_ret (v:=.tuple #[.int .u8 0,.int .i64 ee]) (by simp [results,Tryz.results17,go_sem]) rfl ⟨0,ee,rfl,.inr (.inl ⟨HG.out,by rw [HD.out];exact HE.out,rfl,by rw [HD.out]⟩),Ly.out.1⟩
     ·
      subst he;have HXL:=lh HX.out.at_.lenA;obtain ⟨x1_0,x1_1,x1_2,x1_3⟩:=lyc4 Ly 1 rfl;have l1_:=Ly.out.lt 1 rfl;gi_wp2;clear x1_0 x1_1 x1_2 x1_3 l1_;refine ⟨trivial,(c_W ((rL A1 n1 c1 A2 n2 c2 A3 n3 c3 X b (n2:Nat) f V5 HX.out).mono fun _ _ h=>lk h)).mono ?_⟩;rintro e W7 ⟨kp,ep,rfl,hma,hb⟩;replace Ly:=lyb Ly hb;replace HX:=lh (HX.out.up hb);clear hb;have HP:=lh hma;clear hma;gi_wp2;exact bodyPost_ret (v:=.tuple #[.int .u8 kp,.int .i64 ep]) (by simp [results,Tryz.results17,go_sem]) rfl ⟨kp,ep,rfl,.inr (.inr ⟨HG.out,by rw [HD.out],by rw [HD.out,HXL.out];exact HP.out⟩),Ly.out.1⟩
end
end Go.Proofs.YthofngceiecniaaGreat
