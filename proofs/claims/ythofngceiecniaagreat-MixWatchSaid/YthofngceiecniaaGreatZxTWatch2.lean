/- MixWatch: whatever the arguments, the law answers true. No conditions. -/
import Derived.Sort.CutIn
import Derived.Test.YthofngceiecniaaGreatRows
import Derived.OpenShut
import Derived.ShutString
import Derived.ChangeOld
import Derived.Lib.SmallJoins
import Derived.Test.YthofngceiecniaaGreatZxTWatch1
set_option linter.unusedVariables false
/- MixWatch. -/
namespace Go.Proofs.YthofngceiecniaaGreat
set_option maxHeartbeats 32000000
set_option maxRecDepth 100000
section
open Go.RowKit Go.Shelf
attribute [local go_sem] Oper.semAt_some
theorem sp {r clock:Nat}{es:Array MapEntry}{w:World}(h:w.heap[r]? =some (.map es clock)):(Builtin.len_ #[80] 3 #[.map (some r)]).run Tryz.prog w = .ok (.int .i64 ((es.size:Nat):Int)) w:=run_len_map _ _ _ r es clock (by simp [Program.mapKeyOf,Program.mapElemOf,Tryz.underlying80]) h
theorem qS (s:Nat)(hs:s<2 ^ 63)(i:Nat):(Go.bits BinOp.and IntKind.i64 ((s:Int) / 2 ^ i) 1==1)=s.testBit i:=by
 have h1:((s:Int) / 2 ^ i)=((s / 2 ^ i:Nat):Int):=by norm_cast
 have h2:s / 2 ^ i<9223372036854775808:=Nat.lt_of_le_of_lt (Nat.div_le_self _ _) hs;rw [h1,and_one _ h2,Nat.testBit_eq_decide_div_mod_eq];by_cases e:s / 2 ^ i % 2=1
 ·rw [e];rfl
 ·have e0:s / 2 ^ i % 2=0:=by omega
  rw [e0];rfl
def MissV (m:Mix)(L:List Held)(f:Int)(t:Nat)(v:Int)(o:List Int)(s:Nat)(x:Value):Prop:=∃ b,x = .bool b∧(b=false→∀ r,1≤r→r<s→eM m L f t v (dY t r)=true→hitL (dY t r) o=true)
inductive FrWa (v4 v5 v11 v12 v13 v14 v15 v17 v111 v112 v113:Value):Act→Prop
 | mk (a b c d e f g h i j k l m n o p q r s t w x y z A B C D E F G H I J K L M N O P Q R S T U V W X Y Z aa ab ac ad ae af ag ah ai aj ak al am an ao ap aq ar aw ax ay az aA aB aC aD aE aF aG aH aI aJ aK aL aM aN aO aP aQ aR aS aT aU aV aW aX aY aZ a0 a1 a2 a3 a4 a5 a6 a7 a8 a9 ba bb bc bd be bf bg bh bi bj bk bl bm bn bo bp bq br bs bt bw bx bz bA bB bC bD bE bF bG bH bI bJ bK bL bM bN bO bP bQ bR bS bT bU bV bW bX bY bZ b0 b1 b2 b3 b4 b5 b6 b7 b8 b9 ca cb cc cd ce cf cg ch ci cj ck cl cm cn co cp cq cr cs ct cw cx cy cz cA cB cC cD cE cF cG cH cI cJ cK cL cM cN cO cP cQ cR cS cT cU cV cW cX cY cZ c0 c1 c2 c3 c4 c5 c6 c7 c8 c9 da db dc dd de df dg dh di dj dk dl dm dn dp dq dr ds dt dw dx dy dz dA dB dC dD dE dF dG dH dI dJ dK dL:Value):FrWa v4 v5 v11 v12 v13 v14 v15 v17 v111 v112 v113 ⟨#[a,b,c,d,v4,v5,e,f,g,h,i,v11,v12,v13,v14,v15,j,v17,k,l,m,n,o,p,q,r,s,t,w,x,y,z,A,B,C,D,E,F,G,H,I,J,K,L,M,N,O,P,Q,R,S,T,U,V,W,X,Y,Z,aa,ab,ac,ad,ae,af,ag,ah,ai,aj,ak,al,am,an,ao,ap,aq,ar,aw,ax,ay,az,aA,aB,aC,aD,aE,aF,aG,aH,aI,aJ,aK,aL,aM,aN,aO,aP,aQ,aR,aS,aT,aU,aV,aW,aX,aY,aZ,a0,a1,a2,a3,a4,v111,v112,v113,a5,a6,a7,a8,a9,ba,bb,bc,bd,be,bf,bg,bh,bi,bj,bk,bl,bm,bn,bo,bp,bq,br,bs,bt,bw,bx,bz,bA,bB,bC,bD,bE,bF,bG,bH,bI,bJ,bK,bL,bM,bN,bO,bP,bQ,bR,bS,bT,bU,bV,bW,bX,bY,bZ,b0,b1,b2,b3,b4,b5,b6,b7,b8,b9,ca,cb,cc,cd,ce,cf,cg,ch,ci,cj,ck,cl,cm,cn,co,cp,cq,cr,cs,ct,cw,cx,cy,cz,cA,cB,cC,cD,cE,cF,cG,cH,cI,cJ,cK,cL,cM,cN,cO,cP,cQ,cR,cS,cT,cU,cV,cW,cX,cY,cZ,c0,c1,c2,c3,c4,c5,c6,c7,c8,c9,da,db,dc,dd,de,df,dg,dh,di,dj,dk,dl,dm,dn,dp,dq,dr,ds,dt,dw,dx,dy,dz,dA,dB,dC,dD,dE,dF,dG,dH,dI,dJ,dK,dL],[]⟩
inductive FrWb (v4 v5 v11 v12 v13 v14 v15 v17 v21 v22:Value):Act→Prop
 | mk (a b c d e f g h i j k l m n o p q r s t w x y z A B C D E F G H I J K L M N O P Q R S T U V W X Y Z aa ab ac ad ae af ag ah ai aj ak al am an ao ap aq ar aw ax ay az aA aB aC aD aE aF aG aH aI aJ aK aL aM aN aO aP aQ aR aS aT aU aV aW aX aY aZ a0 a1 a2 a3 a4 a5 a6 a7 a8 a9 ba bb bc bd be bf bg bh bi bj bk bl bm bn bo bp bq br bs bt bw bx bz bA bB bC bD bE bF bG bH bI bJ bK bL bM bN bO bP bQ bR bS bT bU bV bW bX bY bZ b0 b1 b2 b3 b4 b5 b6 b7 b8 b9 ca cb cc cd ce cf cg ch ci cj ck cl cm cn co cp cq cr cs ct cw cx cy cz cA cB cC cD cE cF cG cH cI cJ cK cL cM cN cO cP cQ cR cS cT cU cV cW cX cY cZ c0 c1 c2 c3 c4 c5 c6 c7 c8 c9 da db dc dd de df dg dh di dj dk dl dm dn dp dq dr ds dt dw dx dy dz dA dB dC dD dE dF dG dH dI dJ dK dL dM:Value):FrWb v4 v5 v11 v12 v13 v14 v15 v17 v21 v22 ⟨#[a,b,c,d,v4,v5,e,f,g,h,i,v11,v12,v13,v14,v15,j,v17,k,l,m,v21,v22,n,o,p,q,r,s,t,w,x,y,z,A,B,C,D,E,F,G,H,I,J,K,L,M,N,O,P,Q,R,S,T,U,V,W,X,Y,Z,aa,ab,ac,ad,ae,af,ag,ah,ai,aj,ak,al,am,an,ao,ap,aq,ar,aw,ax,ay,az,aA,aB,aC,aD,aE,aF,aG,aH,aI,aJ,aK,aL,aM,aN,aO,aP,aQ,aR,aS,aT,aU,aV,aW,aX,aY,aZ,a0,a1,a2,a3,a4,a5,a6,a7,a8,a9,ba,bb,bc,bd,be,bf,bg,bh,bi,bj,bk,bl,bm,bn,bo,bp,bq,br,bs,bt,bw,bx,bz,bA,bB,bC,bD,bE,bF,bG,bH,bI,bJ,bK,bL,bM,bN,bO,bP,bQ,bR,bS,bT,bU,bV,bW,bX,bY,bZ,b0,b1,b2,b3,b4,b5,b6,b7,b8,b9,ca,cb,cc,cd,ce,cf,cg,ch,ci,cj,ck,cl,cm,cn,co,cp,cq,cr,cs,ct,cw,cx,cy,cz,cA,cB,cC,cD,cE,cF,cG,cH,cI,cJ,cK,cL,cM,cN,cO,cP,cQ,cR,cS,cT,cU,cV,cW,cX,cY,cZ,c0,c1,c2,c3,c4,c5,c6,c7,c8,c9,da,db,dc,dd,de,df,dg,dh,di,dj,dk,dl,dm,dn,dp,dq,dr,ds,dt,dw,dx,dy,dz,dA,dB,dC,dD,dE,dF,dG,dH,dI,dJ,dK,dL,dM],[]⟩
inductive FrWc (v4 v5 v11 v12 v13 v14 v15 v17 v21 v22 v23 v24:Value):Act→Prop
 | mk (a b c d e f g h i j k l m n o p q r s t w x y z A B C D E F G H I J K L M N O P Q R S T U V W X Y Z aa ab ac ad ae af ag ah ai aj ak al am an ao ap aq ar aw ax ay az aA aB aC aD aE aF aG aH aI aJ aK aL aM aN aO aP aQ aR aS aT aU aV aW aX aY aZ a0 a1 a2 a3 a4 a5 a6 a7 a8 a9 ba bb bc bd be bf bg bh bi bj bk bl bm bn bo bp bq br bs bt bw bx bz bA bB bC bD bE bF bG bH bI bJ bK bL bM bN bO bP bQ bR bS bT bU bV bW bX bY bZ b0 b1 b2 b3 b4 b5 b6 b7 b8 b9 ca cb cc cd ce cf cg ch ci cj ck cl cm cn co cp cq cr cs ct cw cx cy cz cA cB cC cD cE cF cG cH cI cJ cK cL cM cN cO cP cQ cR cS cT cU cV cW cX cY cZ c0 c1 c2 c3 c4 c5 c6 c7 c8 c9 da db dc dd de df dg dh di dj dk dl dm dn dp dq dr ds dt dw dx dy dz dA dB dC dD dE dF dG dH dI dJ dK:Value):FrWc v4 v5 v11 v12 v13 v14 v15 v17 v21 v22 v23 v24 ⟨#[a,b,c,d,v4,v5,e,f,g,h,i,v11,v12,v13,v14,v15,j,v17,k,l,m,v21,v22,v23,v24,n,o,p,q,r,s,t,w,x,y,z,A,B,C,D,E,F,G,H,I,J,K,L,M,N,O,P,Q,R,S,T,U,V,W,X,Y,Z,aa,ab,ac,ad,ae,af,ag,ah,ai,aj,ak,al,am,an,ao,ap,aq,ar,aw,ax,ay,az,aA,aB,aC,aD,aE,aF,aG,aH,aI,aJ,aK,aL,aM,aN,aO,aP,aQ,aR,aS,aT,aU,aV,aW,aX,aY,aZ,a0,a1,a2,a3,a4,a5,a6,a7,a8,a9,ba,bb,bc,bd,be,bf,bg,bh,bi,bj,bk,bl,bm,bn,bo,bp,bq,br,bs,bt,bw,bx,bz,bA,bB,bC,bD,bE,bF,bG,bH,bI,bJ,bK,bL,bM,bN,bO,bP,bQ,bR,bS,bT,bU,bV,bW,bX,bY,bZ,b0,b1,b2,b3,b4,b5,b6,b7,b8,b9,ca,cb,cc,cd,ce,cf,cg,ch,ci,cj,ck,cl,cm,cn,co,cp,cq,cr,cs,ct,cw,cx,cy,cz,cA,cB,cC,cD,cE,cF,cG,cH,cI,cJ,cK,cL,cM,cN,cO,cP,cQ,cR,cS,cT,cU,cV,cW,cX,cY,cZ,c0,c1,c2,c3,c4,c5,c6,c7,c8,c9,da,db,dc,dd,de,df,dg,dh,di,dj,dk,dl,dm,dn,dp,dq,dr,ds,dt,dw,dx,dy,dz,dA,dB,dC,dD,dE,dF,dG,dH,dI,dJ,dK],[]⟩
inductive FrWe (v4 v5 v11 v12 v13 v14 v15 v17 v21 v22 v23 v25 v178 v179 v180:Value):Act→Prop
 | mk (a b c d e f g h i j k l m n o p q r s t w x y z A B C D E F G H I J K L M N O P Q R S T U V W X Y Z aa ab ac ad ae af ag ah ai aj ak al am an ao ap aq ar aw ax ay az aA aB aC aD aE aF aG aH aI aJ aK aL aM aN aO aP aQ aR aS aT aU aV aW aX aY aZ a0 a1 a2 a3 a4 a5 a6 a7 a8 a9 ba bb bc bd be bf bg bh bi bj bk bl bm bn bo bp bq br bs bt bw bx bz bA bB bC bD bE bF bG bH bI bJ bK bL bM bN bO bP bQ bR bS bT bU bV bW bX bY bZ b0 b1 b2 b3 b4 b5 b6 b7 b8 b9 ca cb cc cd ce cf cg ch ci cj ck cl cm cn co cp cq cr cs ct cw cx cy cz cA cB cC cD cE cF cG cH cI cJ cK cL cM cN cO cP cQ cR cS cT cU cV cW cX cY cZ c0 c1 c2 c3 c4 c5 c6 c7 c8 c9 da db dc dd de df dg dh di dj dk dl dm dn dp dq dr ds dt dw dx dy dz dA dB dC dD dE dF dG dH:Value):FrWe v4 v5 v11 v12 v13 v14 v15 v17 v21 v22 v23 v25 v178 v179 v180 ⟨#[a,b,c,d,v4,v5,e,f,g,h,i,v11,v12,v13,v14,v15,j,v17,k,l,m,v21,v22,v23,n,v25,o,p,q,r,s,t,w,x,y,z,A,B,C,D,E,F,G,H,I,J,K,L,M,N,O,P,Q,R,S,T,U,V,W,X,Y,Z,aa,ab,ac,ad,ae,af,ag,ah,ai,aj,ak,al,am,an,ao,ap,aq,ar,aw,ax,ay,az,aA,aB,aC,aD,aE,aF,aG,aH,aI,aJ,aK,aL,aM,aN,aO,aP,aQ,aR,aS,aT,aU,aV,aW,aX,aY,aZ,a0,a1,a2,a3,a4,a5,a6,a7,a8,a9,ba,bb,bc,bd,be,bf,bg,bh,bi,bj,bk,bl,bm,bn,bo,bp,bq,br,bs,bt,bw,bx,bz,bA,bB,bC,bD,bE,bF,bG,bH,bI,bJ,bK,bL,bM,bN,bO,bP,bQ,bR,bS,bT,bU,bV,bW,bX,bY,bZ,b0,b1,b2,b3,b4,b5,b6,b7,b8,v178,v179,v180,b9,ca,cb,cc,cd,ce,cf,cg,ch,ci,cj,ck,cl,cm,cn,co,cp,cq,cr,cs,ct,cw,cx,cy,cz,cA,cB,cC,cD,cE,cF,cG,cH,cI,cJ,cK,cL,cM,cN,cO,cP,cQ,cR,cS,cT,cU,cV,cW,cX,cY,cZ,c0,c1,c2,c3,c4,c5,c6,c7,c8,c9,da,db,dc,dd,de,df,dg,dh,di,dj,dk,dl,dm,dn,dp,dq,dr,ds,dt,dw,dx,dy,dz,dA,dB,dC,dD,dE,dF,dG,dH],[]⟩
inductive FrWf (v4 v5 v11 v12 v13 v14 v15 v17 v21 v28 v29:Value):Act→Prop
 | mk (a b c d e f g h i j k l m n o p q r s t w x y z A B C D E F G H I J K L M N O P Q R S T U V W X Y Z aa ab ac ad ae af ag ah ai aj ak al am an ao ap aq ar aw ax ay az aA aB aC aD aE aF aG aH aI aJ aK aL aM aN aO aP aQ aR aS aT aU aV aW aX aY aZ a0 a1 a2 a3 a4 a5 a6 a7 a8 a9 ba bb bc bd be bf bg bh bi bj bk bl bm bn bo bp bq br bs bt bw bx bz bA bB bC bD bE bF bG bH bI bJ bK bL bM bN bO bP bQ bR bS bT bU bV bW bX bY bZ b0 b1 b2 b3 b4 b5 b6 b7 b8 b9 ca cb cc cd ce cf cg ch ci cj ck cl cm cn co cp cq cr cs ct cw cx cy cz cA cB cC cD cE cF cG cH cI cJ cK cL cM cN cO cP cQ cR cS cT cU cV cW cX cY cZ c0 c1 c2 c3 c4 c5 c6 c7 c8 c9 da db dc dd de df dg dh di dj dk dl dm dn dp dq dr ds dt dw dx dy dz dA dB dC dD dE dF dG dH dI dJ dK dL:Value):FrWf v4 v5 v11 v12 v13 v14 v15 v17 v21 v28 v29 ⟨#[a,b,c,d,v4,v5,e,f,g,h,i,v11,v12,v13,v14,v15,j,v17,k,l,m,v21,n,o,p,q,r,s,v28,v29,t,w,x,y,z,A,B,C,D,E,F,G,H,I,J,K,L,M,N,O,P,Q,R,S,T,U,V,W,X,Y,Z,aa,ab,ac,ad,ae,af,ag,ah,ai,aj,ak,al,am,an,ao,ap,aq,ar,aw,ax,ay,az,aA,aB,aC,aD,aE,aF,aG,aH,aI,aJ,aK,aL,aM,aN,aO,aP,aQ,aR,aS,aT,aU,aV,aW,aX,aY,aZ,a0,a1,a2,a3,a4,a5,a6,a7,a8,a9,ba,bb,bc,bd,be,bf,bg,bh,bi,bj,bk,bl,bm,bn,bo,bp,bq,br,bs,bt,bw,bx,bz,bA,bB,bC,bD,bE,bF,bG,bH,bI,bJ,bK,bL,bM,bN,bO,bP,bQ,bR,bS,bT,bU,bV,bW,bX,bY,bZ,b0,b1,b2,b3,b4,b5,b6,b7,b8,b9,ca,cb,cc,cd,ce,cf,cg,ch,ci,cj,ck,cl,cm,cn,co,cp,cq,cr,cs,ct,cw,cx,cy,cz,cA,cB,cC,cD,cE,cF,cG,cH,cI,cJ,cK,cL,cM,cN,cO,cP,cQ,cR,cS,cT,cU,cV,cW,cX,cY,cZ,c0,c1,c2,c3,c4,c5,c6,c7,c8,c9,da,db,dc,dd,de,df,dg,dh,di,dj,dk,dl,dm,dn,dp,dq,dr,ds,dt,dw,dx,dy,dz,dA,dB,dC,dD,dE,dF,dG,dH,dI,dJ,dK,dL],[]⟩
inductive FrWg (v4 v5 v11 v12 v13 v14 v15 v17 v21 v28 v30 v31:Value):Act→Prop
 | mk (a b c d e f g h i j k l m n o p q r s t w x y z A B C D E F G H I J K L M N O P Q R S T U V W X Y Z aa ab ac ad ae af ag ah ai aj ak al am an ao ap aq ar aw ax ay az aA aB aC aD aE aF aG aH aI aJ aK aL aM aN aO aP aQ aR aS aT aU aV aW aX aY aZ a0 a1 a2 a3 a4 a5 a6 a7 a8 a9 ba bb bc bd be bf bg bh bi bj bk bl bm bn bo bp bq br bs bt bw bx bz bA bB bC bD bE bF bG bH bI bJ bK bL bM bN bO bP bQ bR bS bT bU bV bW bX bY bZ b0 b1 b2 b3 b4 b5 b6 b7 b8 b9 ca cb cc cd ce cf cg ch ci cj ck cl cm cn co cp cq cr cs ct cw cx cy cz cA cB cC cD cE cF cG cH cI cJ cK cL cM cN cO cP cQ cR cS cT cU cV cW cX cY cZ c0 c1 c2 c3 c4 c5 c6 c7 c8 c9 da db dc dd de df dg dh di dj dk dl dm dn dp dq dr ds dt dw dx dy dz dA dB dC dD dE dF dG dH dI dJ dK:Value):FrWg v4 v5 v11 v12 v13 v14 v15 v17 v21 v28 v30 v31 ⟨#[a,b,c,d,v4,v5,e,f,g,h,i,v11,v12,v13,v14,v15,j,v17,k,l,m,v21,n,o,p,q,r,s,v28,t,v30,v31,w,x,y,z,A,B,C,D,E,F,G,H,I,J,K,L,M,N,O,P,Q,R,S,T,U,V,W,X,Y,Z,aa,ab,ac,ad,ae,af,ag,ah,ai,aj,ak,al,am,an,ao,ap,aq,ar,aw,ax,ay,az,aA,aB,aC,aD,aE,aF,aG,aH,aI,aJ,aK,aL,aM,aN,aO,aP,aQ,aR,aS,aT,aU,aV,aW,aX,aY,aZ,a0,a1,a2,a3,a4,a5,a6,a7,a8,a9,ba,bb,bc,bd,be,bf,bg,bh,bi,bj,bk,bl,bm,bn,bo,bp,bq,br,bs,bt,bw,bx,bz,bA,bB,bC,bD,bE,bF,bG,bH,bI,bJ,bK,bL,bM,bN,bO,bP,bQ,bR,bS,bT,bU,bV,bW,bX,bY,bZ,b0,b1,b2,b3,b4,b5,b6,b7,b8,b9,ca,cb,cc,cd,ce,cf,cg,ch,ci,cj,ck,cl,cm,cn,co,cp,cq,cr,cs,ct,cw,cx,cy,cz,cA,cB,cC,cD,cE,cF,cG,cH,cI,cJ,cK,cL,cM,cN,cO,cP,cQ,cR,cS,cT,cU,cV,cW,cX,cY,cZ,c0,c1,c2,c3,c4,c5,c6,c7,c8,c9,da,db,dc,dd,de,df,dg,dh,di,dj,dk,dl,dm,dn,dp,dq,dr,ds,dt,dw,dx,dy,dz,dA,dB,dC,dD,dE,dF,dG,dH,dI,dJ,dK],[]⟩
inductive FrWh (v4 v5 v11 v12 v13 v14 v15 v17 v21 v28 v30 v31 v32 v33:Value):Act→Prop
 | mk (a b c d e f g h i j k l m n o p q r s t w x y z A B C D E F G H I J K L M N O P Q R S T U V W X Y Z aa ab ac ad ae af ag ah ai aj ak al am an ao ap aq ar aw ax ay az aA aB aC aD aE aF aG aH aI aJ aK aL aM aN aO aP aQ aR aS aT aU aV aW aX aY aZ a0 a1 a2 a3 a4 a5 a6 a7 a8 a9 ba bb bc bd be bf bg bh bi bj bk bl bm bn bo bp bq br bs bt bw bx bz bA bB bC bD bE bF bG bH bI bJ bK bL bM bN bO bP bQ bR bS bT bU bV bW bX bY bZ b0 b1 b2 b3 b4 b5 b6 b7 b8 b9 ca cb cc cd ce cf cg ch ci cj ck cl cm cn co cp cq cr cs ct cw cx cy cz cA cB cC cD cE cF cG cH cI cJ cK cL cM cN cO cP cQ cR cS cT cU cV cW cX cY cZ c0 c1 c2 c3 c4 c5 c6 c7 c8 c9 da db dc dd de df dg dh di dj dk dl dm dn dp dq dr ds dt dw dx dy dz dA dB dC dD dE dF dG dH dI:Value):FrWh v4 v5 v11 v12 v13 v14 v15 v17 v21 v28 v30 v31 v32 v33 ⟨#[a,b,c,d,v4,v5,e,f,g,h,i,v11,v12,v13,v14,v15,j,v17,k,l,m,v21,n,o,p,q,r,s,v28,t,v30,v31,v32,v33,w,x,y,z,A,B,C,D,E,F,G,H,I,J,K,L,M,N,O,P,Q,R,S,T,U,V,W,X,Y,Z,aa,ab,ac,ad,ae,af,ag,ah,ai,aj,ak,al,am,an,ao,ap,aq,ar,aw,ax,ay,az,aA,aB,aC,aD,aE,aF,aG,aH,aI,aJ,aK,aL,aM,aN,aO,aP,aQ,aR,aS,aT,aU,aV,aW,aX,aY,aZ,a0,a1,a2,a3,a4,a5,a6,a7,a8,a9,ba,bb,bc,bd,be,bf,bg,bh,bi,bj,bk,bl,bm,bn,bo,bp,bq,br,bs,bt,bw,bx,bz,bA,bB,bC,bD,bE,bF,bG,bH,bI,bJ,bK,bL,bM,bN,bO,bP,bQ,bR,bS,bT,bU,bV,bW,bX,bY,bZ,b0,b1,b2,b3,b4,b5,b6,b7,b8,b9,ca,cb,cc,cd,ce,cf,cg,ch,ci,cj,ck,cl,cm,cn,co,cp,cq,cr,cs,ct,cw,cx,cy,cz,cA,cB,cC,cD,cE,cF,cG,cH,cI,cJ,cK,cL,cM,cN,cO,cP,cQ,cR,cS,cT,cU,cV,cW,cX,cY,cZ,c0,c1,c2,c3,c4,c5,c6,c7,c8,c9,da,db,dc,dd,de,df,dg,dh,di,dj,dk,dl,dm,dn,dp,dq,dr,ds,dt,dw,dx,dy,dz,dA,dB,dC,dD,dE,dF,dG,dH,dI],[]⟩
theorem uf (Av:Option Addr)(nv cv:Nat)(Aa:Option Addr)(na ca:Nat)(At:Option Addr)(nt ct:Nat)(m:Mix)(vessel after which bits:Nat)(w:World)(h:eQ w w.heap.size Av nv Aa na At nt m)(hca:na≤ca∧ca≤maxLen)(h_vessel:vessel≤255)(h_after:after≤255)(h_which:which≤255)(h_bits:bits≤65535) :
  CallsIn Fence.wide 9 Tryz.prog 8 #[.agg #[.int .i64 m.fountains,.slice Av nv cv,.slice Aa na ca,.slice At nt ct],.int .u8 vessel,.int .u8 after,.int .u8 which,.int .u16 bits] w (wj w):=by
 have HM:=lh h;have HCA:=lh hca;clear hca;clear h;refine callsIn_of_wp Tryz.func8 rfl trivial ?_ rfl;simp only [Tryz.ntmps8,es,Nat.reduceAdd,Nat.reduceSub];gi_upto_region 1 with fail
 have Ly:=lh (Lay.one w 26 #[.int .i64 m.fountains,.slice Av nv cv,.slice Aa na ca,.slice At nt ct]);generalize (w.alloc (.cells #[.int .i64 m.fountains,.slice Av nv cv,.slice Aa na ca,.slice At nt ct] 26))=w0 at *;gi_wp2;refine ⟨trivial,(c_W (vP w0)).mono ?_⟩;rintro e W1 ⟨rfl,hb⟩;replace Ly:=lyb Ly hb;clear hb;obtain ⟨x0_0,x0_1,x0_2,x0_3⟩:=lyc4 Ly 0 rfl;have l0_:=Ly.out.lt 0 rfl;gi_wp2;clear x0_0 x0_1 x0_2 x0_3 l0_;refine ⟨trivial,(c_W (xt Av nv cv Aa na ca At nt ct m W1 (HM.out.up Ly.out.1))).mono ?_⟩;rintro e W2 ⟨rfl,hb⟩;replace Ly:=lyb Ly hb;clear hb
 cases hr:mw nv na nt m with
 | false =>
  clear hr;gi_wp2;refine bodyPost_ret (v:=.bool true) (by simp [results,Tryz.results8,go_sem]) rfl ?_;exact ⟨rfl,Ly.out.1⟩
 | true =>
  have hok:=(rS hr).2;have hvs:=dX hok;have hl1:=HM.out.lenV;have hl2:=HM.out.lenA;have hl3:=HM.out.lenT
  have hsx:MixS w Av nv Aa na At nt m:=⟨HM.out,by omega,by omega,by omega⟩
  have HMS:=lh hsx;have HOK:=lh hok;have HL1:=lh hl1;have HL2:=lh hl2;have HL3:=lh hl3;have hnv:nv≤4:=by omega
  have hna:na≤12:=by omega
  have hnt:nt≤8:=by omega
  have hF:1≤m.fountains∧m.fountains≤4:=by omega
  have HFF:=lh hF;clear hr hok hvs hsx hl1 hl2 hl3 hF;have hmm:=@run_makeMap Tryz.prog;by_cases hv0:nv=0
  ·
   have hv0b:(((nv:Nat):Int)==0)=true:=by simp;omega
   obtain ⟨x0_0,x0_1,x0_2,x0_3⟩:=lyc4 Ly 0 rfl;have l0_:=Ly.out.lt 0 rfl;gi_wp2;clear x0_0 x0_1 x0_2 x0_3 l0_;refine bodyPost_ret (v:=.bool true) (by simp [results,Tryz.results8,go_sem]) rfl ?_;exact ⟨rfl,Ly.out.1⟩
  ·
   have hv0b:(((nv:Nat):Int)==0)=false:=by simp;omega
   have hv1:0<nv:=by omega
   obtain ⟨F,hFn⟩:∃ F:Nat,m.fountains=(F:Int):=⟨m.fountains.toNat,by have:=HFF.out;omega⟩
   have hF4:1≤F∧F≤4:=by have:=HFF.out;omega
   have HFn:=lh hFn;have dz_F:¬ m.fountains=0:=by omega
   have dy_F:(m.fountains==0)=false:=by simp;omega
   clear hFn;obtain ⟨x0_0,x0_1,x0_2,x0_3⟩:=lyc4 Ly 0 rfl;have l0_:=Ly.out.lt 0 rfl;gi_upto_region 4 with fail
   clear x0_0 x0_1 x0_2 x0_3 l0_;have hlt_i1:vessel % nv<nv:=Nat.mod_lt _ (by omega);have tm_i1:Int.tmod (vessel:Int) ((nv:Nat):Int)=((vessel % nv:Nat):Int):=by rw [Int.tmod_eq_emod_of_nonneg (by omega)];push_cast;rfl
   obtain ⟨i1,hq_i1⟩:∃ r,vessel % nv=r:=⟨_,rfl⟩
   rw [hq_i1] at hlt_i1 tm_i1;clear hq_i1;have wx_i1:IntKind.i64.wrap (vessel:Int)=(vessel:Int):=IntWalk.i64_in _ (by omega);have dz_nv:¬ ((nv:Int):Int)=0:=by omega
   have dy_nv:(((nv:Int):Int)==0)=false:=by simp;omega
   have hlt_t1:after % (na+1)<(na+1):=Nat.mod_lt _ (by omega);have tm_t1:Int.tmod (after:Int) ((na:Int)+1)=((after % (na+1):Nat):Int):=by rw [Int.tmod_eq_emod_of_nonneg (by omega)];push_cast;rfl
   obtain ⟨t1,hq_t1⟩:∃ r,after % (na+1)=r:=⟨_,rfl⟩
   rw [hq_t1] at hlt_t1 tm_t1;clear hq_t1;have wx_t1:IntKind.i64.wrap (after:Int)=(after:Int):=IntWalk.i64_in _ (by omega);have dz_na:¬ (((na:Int)+1):Int)=0:=by omega
   have dy_na:((((na:Int)+1):Int)==0)=false:=by simp;omega
   have hlt_r:which % F<F:=Nat.mod_lt _ (by omega);have tm_r:Int.tmod (which:Int) m.fountains=((which % F:Nat):Int):=by rw [HFn.out,Int.tmod_eq_emod_of_nonneg (by omega)];push_cast;rfl
   obtain ⟨r,hq_r⟩:∃ r,which % F=r:=⟨_,rfl⟩
   rw [hq_r] at hlt_r tm_r;clear hq_r;have wx_r:IntKind.i64.wrap (which:Int)=(which:Int):=IntWalk.i64_in _ (by omega);obtain ⟨bv,off,x1,rfl,hbv,hx_x1,hc_x1,_⟩:=HM.out.vess hlt_i1;have HBV0:=lh hbv;have HX_x1:=lh hx_x1;have HC_x1:=lh hc_x1;have HI_x1:=lh (xS HOK.out hx_x1);clear hx_x1 hc_x1;refine wpIn_flow_old [] [true,true,true,true,true,true,true,true,true,true,true,true,true,true,true,true,true,true,true,true,true,true,true,true,true,true,true] [] (by kernel_rfl) (by kernel_rfl) (by kernel_rfl) (av b_R 1) ?_;refine wpFlow_nil (A:=?AF1) ?hq1 ?_
   case hq1 =>
    rintro σ hσ of hof hcl;have HOF:=lh hof;clear hof hcl;obtain ⟨c0_,c1_,c2_,c3_⟩:=lyz4 Ly HOF 0 rfl;have hfw:=hfT;have hv_x1:∀ z,(of z).cell? ⟨bv,off+i1 * 2,none⟩=some (.int .i64 x1.id):=fun z=>((Ly.out.1.trans ((HOF.out z).mono Ly.out.1.size)).cell (p:=⟨bv,off+i1 * 2,none⟩) HBV0.out).trans HC_x1.out;have i0_i1:(0:Int)≤(i1:Int):=by omega
    have i1_i1:(i1:Int)<(nv:Int):=by omega
    simp only [bu]
    repeat (gi_big_quiet_step (fail))
    refine wpQuietIn_nil ?_;exact rfl
   intro W3 hW;replace Ly:=lyb Ly hW;clear hW;simp only [bu];refine dv ?_
   obtain ⟨f,hf⟩:∃ f:Int,1+(r:Int)=f:=⟨_,rfl⟩
   rw [hf];have HFB:Hid (1≤f∧f≤m.fountains):=lh (by have:=HFn.out;omega);have HV0:Hid (0≤idxV m.vessels x1.id):=lh (by rw [HI_x1.out];omega);have HT0:Hid ((0:Int)≤(t1:Nat)∧((t1:Nat):Int)≤m.acts.length):=lh (by have:=HL2.out;omega);obtain ⟨L,hL⟩:=uH HOK.out;have HLL:=lh hL;clear hf hL;obtain ⟨x0_0,x0_1,x0_2,x0_3⟩:=lyc4 Ly 0 rfl;have l0_:=Ly.out.lt 0 rfl;gi_wp2;clear x0_0 x0_1 x0_2 x0_3 l0_;refine ⟨trivial,(c_W (qQ (some ⟨bv,off,none⟩) nv cv Aa na ca At nt ct m x1.id (t1:Nat) f W3 (HMS.out.up Ly.out.1) HCA.out)).mono ?_⟩;rintro e W4 ⟨l,lA,ln,lc,ee,rfl,hma,hil,hln,hb,hlx⟩;replace Ly:=lyb Ly hb;clear hb;have HWI:=lh hma;have HIL:=lh hil;have HLN:=lh hln;clear hma hil hln hlx;obtain ⟨x0_0,x0_1,x0_2,x0_3⟩:=lyc4 Ly 0 rfl;have l0_:=Ly.out.lt 0 rfl;gi_wp2;clear x0_0 x0_1 x0_2 x0_3 l0_;refine ⟨trivial,(c_W (tr (some ⟨bv,off,none⟩) nv cv Aa na ca At nt ct m x1.id (t1:Nat) f W4 (HMS.out.up Ly.out.1) HCA.out)).mono ?_⟩;rintro e W5 ⟨pl,pA,pn,pc,pe,rfl,hma,hip,hpn,hb,hpx⟩;replace Ly:=lyb Ly hb;replace HIL:=lh ((HIL.out.below hb).more hb.size);clear hb;have hlaw:=uq HOK.out HLL.out HV0.out HT0.out HFB.out HWI.out hma;rw [Int.toNat_natCast] at hlaw;obtain ⟨e9,hw1,hw2⟩:=hlaw;obtain rfl:ee=pe:=e9;have HIP:=lh hip;have HPN:=lh hpn;have HW1:=lh hw1;have HW2:=lh hw2;clear hma hip hpn hpx hw1 hw2
   rcases HW1.out with e0 | ⟨e6,el⟩
   rotate_left
   ·
    subst e6;subst el;obtain rfl:ln=0:=by have:=HIL.out.len;simpa using this.symm
    obtain ⟨x0_0,x0_1,x0_2,x0_3⟩:=lyc4 Ly 0 rfl;have l0_:=Ly.out.lt 0 rfl;gi_wp2;clear x0_0 x0_1 x0_2 x0_3 l0_
    try (refine ⟨trivial,?_⟩;gi_wp2)
    refine bodyPost_ret (v:=.bool true) (by simp [results,Tryz.results8,go_sem]) rfl ?_;exact ⟨rfl,Ly.out.1⟩
   ·
    subst e0;obtain ⟨hup,hkd,hcov,hal,hpa,hfew⟩:=HW2.out rfl;have HUP:=lh hup;have HKD:=lh hkd;have HCOV:=lh hcov;have HAL:=lh hal;have HPA:=lh hpa;have HFEW:=lh hfew;have hlen:=HIL.out.len
    have hln1:0<ln:=by
     obtain ⟨n,_,h2⟩:=hpa;have:=List.length_pos_of_mem h2;omega
    obtain ⟨bl,ol,x0,rfl,hbl,hx0,_⟩:=HIL.out.cell hln1
    have hna1:0<na:=by
     obtain ⟨k,x,_,h2,_⟩:=hkd x0 (List.mem_of_getElem? hx0);have h3:=(g_E h2).1;have:=HL2.out;omega
    obtain ⟨ba,oa,xa,rfl,hba,_,_,_,_,_⟩:=HM.out.act hna1;have HBA:=lh hba;have HLE:=lh hlen;have hln13:=HLN.out;have hpn13:=HPN.out;clear hup hkd hcov hal hpa hfew hlen hbl hx0 hba;obtain ⟨x0_0,x0_1,x0_2,x0_3⟩:=lyc4 Ly 0 rfl;have l0_:=Ly.out.lt 0 rfl;gi_wp2;clear x0_0 x0_1 x0_2 x0_3 l0_;refine wpIn_loop (fun a U=>∃ i:Nat,Hid (i≤ln∧Below W5.heap.size W5 U)∧FrWa (.int .u16 bits) (.pointer (some ⟨w.heap.size,0,none⟩)) (.bool true) (.int .i64 x1.id) (.int .i64 (t1:Nat)) (.int .i64 f) (.slice (some ⟨bl,ol,none⟩) ln lc) (.slice pA pn pc) (.slice (some ⟨bl,ol,none⟩) ln lc) (.int .i64 (ln:Nat)) (.int .i64 (i:Nat)) a) (fun a _=>ln - (intOf (a.tmps.getD 113 undef)).toNat) ?_ ?_
    ·exact ⟨0,lh ⟨Nat.zero_le _,b_R⟩,by constructor⟩
    rintro a U ⟨i,HS,ha⟩;cases ha;have hb:=HS.out.2;replace Ly:=lyb Ly hb;replace HIL:=lh ((HIL.out.below hb).more hb.size);replace HIP:=lh ((HIP.out.below hb).more hb.size);clear hb;by_cases hli:i<ln
    ·
     obtain ⟨b9,o9,x,e9,hbl,hx,cx⟩:=HIL.out.cell hli;obtain ⟨rfl,rfl⟩:bl=b9∧ol=o9:=by cases e9;exact ⟨rfl,rfl⟩
     have hxm:=List.mem_of_getElem? hx;have hxr:=HUP.out.2 x hxm;obtain ⟨q,y,hxq,hy,hyk⟩:=HKD.out x hxm;have hqn:q<na:=by have h3:=(g_E hy).1;have:=HL2.out;omega
     obtain ⟨b8,o8,y2,e8,hba,hy2,cy,_,_,_⟩:=(HMS.out.at_.below Ly.out.1).act hqn;obtain ⟨rfl,rfl⟩:ba=b8∧oa=o8:=by cases e8;exact ⟨rfl,rfl⟩
     obtain rfl:y=y2:=Option.some.inj (hy.symm.trans hy2);have HX:=lh hx;have HU:=lh HS.out.2;clear e9 hxm hy e8 hy2;subst hxq;have hx1:((q:Int)+1) - 1=(q:Int):=by omega
     have g1:decide ((q:Int)+1<1)=false:=by simp;omega
     have g2:decide ((t1:Int)<(q:Int)+1)=false:=by simp;omega
     have g3:decide ((2:Int)<y.kind)=false:=by simp;omega
     by_cases hi0:i=0
     ·
      subst hi0;have cx0:U.cell? ⟨bl,ol,none⟩=some (.int .i64 ((q:Int)+1)):=cx;clear cx;obtain ⟨x0_0,x0_1,x0_2,x0_3⟩:=lyc4 Ly 0 rfl;have l0_:=Ly.out.lt 0 rfl;gi_wp2;clear x0_0 x0_1 x0_2 x0_3 l0_
      all_goals try (rename_i hA hB;exact g9 hA)
      refine ⟨⟨1,lh ⟨hli,HU.out⟩,by constructor⟩,?_⟩;simp [intOf]<;>omega
     ·
      have g0:decide ((0:Int)<(i:Int))=true:=by simp;omega
      obtain ⟨b7,o7,z,e7,_,hz,cz⟩:=HIL.out.cell (show i - 1<ln by omega);obtain ⟨rfl,rfl⟩:bl=b7∧ol=o7:=by cases e7;exact ⟨rfl,rfl⟩
      have hxe:((i:Nat):Int) - 1=((i - 1:Nat):Int):=by omega
      have hlt9:z<(q:Int)+1:=by
       obtain ⟨j1,rfl⟩:=g_E hz;obtain ⟨j2,e2⟩:=g_E HX.out;rw [← e2];exact List.pairwise_iff_getElem.1 HUP.out.1 _ _ j1 j2 (by omega)
      have g4:decide ((q:Int)+1≤z)=false:=by simp;omega
      clear hz e7;obtain ⟨x0_0,x0_1,x0_2,x0_3⟩:=lyc4 Ly 0 rfl;have l0_:=Ly.out.lt 0 rfl;gi_wp2;clear x0_0 x0_1 x0_2 x0_3 l0_
      all_goals try (rename_i hA hB;exact g9 hA)
      refine ⟨⟨i+1,lh ⟨hli,HU.out⟩,by rw [show ((i+1:Nat):Int)=(i:Int)+1 from by omega];constructor⟩,?_⟩;simp [intOf]<;>omega
    ·
     obtain rfl:ln=i:=by have:=HS.out.1;omega
     clear HS hli;have ht12:t1≤12:=by omega
     have ht9:t1≤na:=by omega
     obtain ⟨P,hP⟩:∃ P,2 ^ t1=P:=⟨_,rfl⟩
     have hpk:(2:Int) ^ t1=(P:Int):=by rw [← hP];norm_cast
     have hPl:1≤P∧P≤4096:=⟨by rw [← hP];exact Nat.one_le_two_pow,by rw [← hP];exact Nat.pow_le_pow_right (by omega) ht12⟩
     have HP:=lh hP;clear hP;gi_upto_region 16 with fail
     have hb:Below U.heap.size U (U.alloc (.map #[] 0)):=b_R.alloc n_R _;have HMP:Hid (AlX (U.alloc (.map #[] 0)) U.heap.size m L f t1 (idxV m.vessels x1.id) l 1):=lh (AlX.start U);have HZ0:=lh (Nat.le_refl U.heap.size);have HBM:=lh hb;have HLV:=lh Ly.out;have HILV:=lh HIL.out;have HIPV:=lh HIP.out;replace Ly:=lyb Ly hb;replace HIL:=lh ((HIL.out.below hb).more hb.size);replace HIP:=lh ((HIP.out.below hb).more hb.size)
     obtain ⟨R0,hR0⟩:∃ R0,U.heap.size=R0:=⟨_,rfl⟩
     have HR0:=lh hR0;rw [hR0] at HMP ⊢;generalize U.alloc (.map #[] 0)=X0 at *;clear hb hR0 HZ0;gi_wp2;refine wpIn_loop (fun a W=>∃ s:Nat,Hid ((1≤s∧s≤P)∧AlX W R0 m L f t1 (idxV m.vessels x1.id) l s∧Below U.heap.size U W)∧FrWb (.int .u16 bits) (.pointer (some ⟨w.heap.size,0,none⟩)) (.bool true) (.int .i64 x1.id) (.int .i64 (t1:Nat)) (.int .i64 f) (.slice (some ⟨bl,ol,none⟩) ln lc) (.slice pA pn pc) (.map (some R0)) (.int .i64 (s:Int)) a) (fun a _=>P - (intOf (a.tmps.getD 22 undef)).toNat) ?_ ?_
     ·exact ⟨1,lh ⟨⟨n_R,hPl.1⟩,HMP.out,HBM.out⟩,by constructor⟩
     clear Ly HIL HIP HMP HBM;rintro a Y ⟨s,HS,ha⟩;cases ha;have Ly:=lh (HLV.out.below HS.out.2.2);have HIL:=lh ((HILV.out.below HS.out.2.2).more HS.out.2.2.size);have HIP:=lh ((HIPV.out.below HS.out.2.2).more HS.out.2.2.size);have HMP:=lh HS.out.2.1;have HBY:=lh HS.out.2.2;have hs1:1≤s∧s≤P:=HS.out.1;clear HS;by_cases hsp:s<P
     ·
      have hs63:s<2 ^ 63:=by omega
      have HBIT:Hid (∀ i:Nat,(Go.bits BinOp.and IntKind.i64 ((s:Int) / 2 ^ i) 1==1)=s.testBit i):=lh (qS s hs63);clear hs63;gi_wp2;refine wpIn_loop (fun a U=>∃ (n:Nat) (cA:Option Addr) (cn cc:Nat),Hid (n≤t1∧Own U Y.heap.size 3 1 cA cn cc ((dY n s).map (Value.int .i64))∧Below Y.heap.size Y U)∧FrWc (.int .u16 bits) (.pointer (some ⟨w.heap.size,0,none⟩)) (.bool true) (.int .i64 x1.id) (.int .i64 (t1:Nat)) (.int .i64 f) (.slice (some ⟨bl,ol,none⟩) ln lc) (.slice pA pn pc) (.map (some R0)) (.int .i64 (s:Int)) (.slice cA cn cc) (.int .i64 ((n:Int)+1)) a) (fun a _=>t1+1 - (intOf (a.tmps.getD 24 undef)).toNat) ?_ ?_
      ·exact ⟨0,none,0,0,lh ⟨Nat.zero_le _,Own.none_ _ _ _ _,b_R⟩,by constructor⟩
      rintro a U6 ⟨n,cA,cn,cc,HL6,ha⟩;cases ha
      have hcl:(dY n s).length=cn∧cn≤12:=by
       have h1:=HL6.out.2.1.len;have h2:=lT n s;have h3:=HL6.out.1;rw [List.length_map] at h1;omega
      by_cases hnk:n<t1
      ·
       have hbit:=HBIT.out n;have HB6:=lh (iF n s)
       cases hb2:s.testBit n with
       | false =>
        rw [hb2] at hbit;have HB2:=lh hb2;clear hb2;gi_wp2;refine ⟨⟨n+1,cA,cn,cc,lh ⟨by omega,by rw [HB6.out,HB2.out,if_neg (by decide),List.append_nil];exact HL6.out.2.1,HL6.out.2.2⟩,by rw [show ((n+1:Nat):Int)=(n:Int)+1 from by omega];constructor⟩,?_⟩;simp [intOf]<;>omega
       | true =>
        rw [hb2] at hbit;have HB2:=lh hb2;clear hb2;have hus:=HL6.out.2.2.size;have hin:du (U6.alloc (.cells #[.int .i64 ((n:Int)+1)] 3)) (U6.heap.size+1) (some ⟨U6.heap.size,0,none⟩) 1 [(n:Int)+1]:=du.new U6 3 [(n:Int)+1] (U6.heap.size+1) (by omega);have HIN:=lh hin;clear hin
        gi_wp2_with (first | (gi_at_builtin;refine dN rfl (.tmp 167) (.tmp 169) (by rfl) eX rfl (HL6.out.2.1.alloc _) rfl HIN.out (eY [(n:Int)+1]) (by unfold maxLen;omega) (by omega) (by simp;omega) ?_) | fail)
        rintro A9 c9 U9 hown hg hA;have HO9:=lh (show Own U9 Y.heap.size 3 1 A9 (cn+1) c9 ((dY (n+1) s).map (Value.int .i64)) from by rw [HB6.out,HB2.out,if_pos rfl,List.map_append];exact hown);have HB9:=lh (show Below Y.heap.size Y U9 from (HL6.out.2.2.alloc hus _).grown hg (by simp;omega) (fun k e=>(eI HL6.out.2.1 k e).1));clear hown hg hA HIN;gi_wp2;refine ⟨⟨n+1,A9,cn+1,c9,lh ⟨by omega,HO9.out,HB9.out⟩,by rw [show ((n+1:Nat):Int)=(n:Int)+1 from by omega];constructor⟩,?_⟩;simp [intOf]<;>omega
      ·
       obtain rfl:t1=n:=by have:=HL6.out.1;omega
       have HIO:=lh (eH HL6.out.2.1 (Nat.le_refl U6.heap.size));have hb:=HL6.out.2.2;replace Ly:=lyb Ly hb;replace HIL:=lh ((HIL.out.below hb).more hb.size);replace HIP:=lh ((HIP.out.below hb).more hb.size);replace HMP:=lh (HMP.out.below hb);replace HBY:=lh (HBY.out.trans (hb.mono HBY.out.size));clear hb HL6 hnk;obtain ⟨x0_0,x0_1,x0_2,x0_3⟩:=lyc4 Ly 0 rfl;have l0_:=Ly.out.lt 0 rfl;gi_wp2;clear x0_0 x0_1 x0_2 x0_3 l0_;refine ⟨trivial,(c_W (pj (some ⟨bv,off,none⟩) nv cv (some ⟨ba,oa,none⟩) na ca At nt ct m cA cn cc (dY t1 s) x1.id t1 f L U6 (HMS.out.up Ly.out.1) HCA.out HOK.out HLL.out HIO.out (by omega) (by omega))).mono ?_⟩;rintro e W7 ⟨rfl,hb⟩;replace Ly:=lyb Ly hb;replace HIL:=lh ((HIL.out.below hb).more hb.size);replace HIP:=lh ((HIP.out.below hb).more hb.size);replace HMP:=lh (HMP.out.below hb);replace HBY:=lh (HBY.out.trans (hb.mono HBY.out.size));replace HIO:=lh ((HIO.out.below hb).more hb.size);clear hb
       cases hwb:eM m L f t1 (idxV m.vessels x1.id) (dY t1 s) with
       | false =>
        have HWB:=lh hwb;clear hwb;gi_wp2;refine ⟨⟨s+1,lh ⟨⟨by omega,by omega⟩,HMP.out.skip (.inl HWB.out),HBY.out⟩,by rw [show ((s+1:Nat):Int)=(s:Int)+1 from by omega];constructor⟩,?_⟩;simp [intOf]<;>omega
       | true =>
        have HNE:Hid ((l.filter (fun k=>decide (k∈dY t1 s))).length≠0):=lh (fun h0=>by
         obtain ⟨n,h1,h2⟩:=HCOV.out _ ((kS HLL.out (dX HOK.out).1 (by have:=HL2.out;omega)).1 hwb);have h3:n∈l.filter (fun k=>decide (k∈dY t1 s)):=List.mem_filter.2 ⟨h2,by simpa using h1⟩;rw [List.length_eq_zero_iff.1 h0] at h3
         cases h3)
        clear hwb;gi_wp2;refine wpIn_loop (fun a Z=>∃ (i:Nat) (hA:Option Addr) (hn hc:Nat),Hid (i≤ln∧Own Z W7.heap.size 3 1 hA hn hc (((l.take i).filter (fun k=>decide (k∈dY t1 s))).map (Value.int .i64))∧Below W7.heap.size W7 Z)∧FrWe (.int .u16 bits) (.pointer (some ⟨w.heap.size,0,none⟩)) (.bool true) (.int .i64 x1.id) (.int .i64 (t1:Nat)) (.int .i64 f) (.slice (some ⟨bl,ol,none⟩) ln lc) (.slice pA pn pc) (.map (some R0)) (.int .i64 (s:Int)) (.slice cA cn cc) (.slice hA hn hc) (.slice (some ⟨bl,ol,none⟩) ln lc) (.int .i64 (ln:Nat)) (.int .i64 (i:Nat)) a) (fun a _=>ln - (intOf (a.tmps.getD 180 undef)).toNat) ?_ ?_
        ·exact ⟨0,none,0,0,lh ⟨Nat.zero_le _,Own.none_ _ _ _ _,b_R⟩,by constructor⟩
        rintro a Z ⟨i,hA,hn,hc,HS2,ha⟩;cases ha
        have hnl:((l.take i).filter (fun k=>decide (k∈dY t1 s))).length=hn∧hn≤13:=by
         have h1:=HS2.out.2.1.len;have h2:=List.length_filter_le (fun k=>decide (k∈dY t1 s)) (l.take i);have h3:=List.length_take_le i l;have h4:=HS2.out.1;rw [List.length_map] at h1;omega
        have HOW:=lh HS2.out.2.1;have HBW:=lh HS2.out.2.2;have hb:=HS2.out.2.2;replace Ly:=lyb Ly hb;replace HIL:=lh ((HIL.out.below hb).more hb.size);replace HIP:=lh ((HIP.out.below hb).more hb.size);replace HMP:=lh (HMP.out.below hb);replace HBY:=lh (HBY.out.trans (hb.mono HBY.out.size));replace HIO:=lh ((HIO.out.below hb).more hb.size);clear hb;by_cases hli:i<ln
        ·
         obtain ⟨b9,o9,x,e9,hbl,hx,cx⟩:=HIL.out.cell hli;obtain ⟨rfl,rfl⟩:bl=b9∧ol=o9:=by cases e9;exact ⟨rfl,rfl⟩
         have htk:(l.take (i+1)).filter (fun k=>decide (k∈dY t1 s))=(l.take i).filter (fun k=>decide (k∈dY t1 s))++if x∈dY t1 s then [x] else []:=by
          rw [List.take_add_one,hx,List.filter_append]
          congr 1
          by_cases h:x∈dY t1 s<;>simp [h]
         have HTK:=lh htk;gi_upto_region 30 with fail
         clear hx cx hbl e9 htk;have hb:Below Z.heap.size Z (Z.alloc (.cells #[.int .i64 x] 3)):=b_R.alloc n_R _;have HIN:=lh (du.new Z 3 [x] (Z.heap.size+1) (by omega));have HZS:=lh (show (Z.alloc (.cells #[.int .i64 x] 3)).heap.size=Z.heap.size+1 by simp);replace Ly:=lyb Ly hb;replace HIL:=lh ((HIL.out.below hb).more hb.size);replace HIP:=lh ((HIP.out.below hb).more hb.size);replace HMP:=lh (HMP.out.below hb);replace HBY:=lh (HBY.out.trans (hb.mono HBY.out.size));replace HIO:=lh ((HIO.out.below hb).more hb.size);replace HOW:=lh (HOW.out.below hb n_R);replace HBW:=lh (HBW.out.trans (hb.mono HBW.out.size));clear hb;gi_wp2;refine ⟨trivial,(c_W (nA cA cn cc (dY t1 s) (some ⟨Z.heap.size,0,none⟩) 1 1 [x] (Z.alloc (.cells #[.int .i64 x] 3)) HIO.out (by rw [HZS.out];exact HIN.out) (by omega) (by omega))).mono ?_⟩;rintro e W8 ⟨rfl,hb⟩;replace Ly:=lyb Ly hb;replace HIL:=lh ((HIL.out.below hb).more hb.size);replace HIP:=lh ((HIP.out.below hb).more hb.size);replace HMP:=lh (HMP.out.below hb);replace HBY:=lh (HBY.out.trans (hb.mono HBY.out.size));replace HIO:=lh ((HIO.out.below hb).more hb.size);replace HOW:=lh (HOW.out.below hb n_R);replace HBW:=lh (HBW.out.trans (hb.mono HBW.out.size));clear hb
         have hht:hitL (dY t1 s) [x]=decide (x∈dY t1 s):=by
          by_cases h:x∈dY t1 s
          ·rw [decide_eq_true h]
           exact gZ.2 ⟨x,h,by simp⟩
          ·rw [decide_eq_false h]
           cases h9:hitL (dY t1 s) [x] with
           | false=>rfl
           | true =>
            obtain ⟨y,h1,h2⟩:=gZ.1 h9;obtain rfl:y=x:=by simpa using h2
            exact absurd h1 h
         rw [hht];clear hht HIN HZS;by_cases hxm:x∈dY t1 s
         ·
          have HXM:=lh hxm;rw [decide_eq_true hxm];clear hxm
          gi_wp2_with (first | (gi_at_builtin;refine dN rfl (.tmp 188) (.tmp 190) (by rfl) eX rfl (HOW.out.alloc _) rfl (du.new W8 3 [x] (W8.heap.size+1) (by omega)) (eY [x]) (by unfold maxLen;omega) (by omega) (by simp;have:=HBW.out.size;omega) ?_) | fail)
          rintro A9 c9 V9 hown hg hA9;have hbz:=HBW.out.size;have HO9:=lh (show Own V9 W7.heap.size 3 1 A9 (hn+1) c9 (((l.take (i+1)).filter (fun k=>decide (k∈dY t1 s))).map (Value.int .i64)) from by rw [HTK.out,if_pos HXM.out,List.map_append];exact hown);have HB9:=lh (show Below W7.heap.size W7 V9 from (HBW.out.alloc hbz _).grown hg (by simp;omega) (fun k e=>(eI HOW.out k e).1));clear hown hg hA9 hbz;gi_wp2;refine ⟨⟨i+1,A9,hn+1,c9,lh ⟨hli,HO9.out,HB9.out⟩,by rw [show ((i+1:Nat):Int)=(i:Int)+1 from by omega];constructor⟩,?_⟩;simp [intOf]<;>omega
         ·
          have HXM:=lh hxm;rw [decide_eq_false hxm];clear hxm;gi_wp2;refine ⟨⟨i+1,hA,hn,hc,lh ⟨hli,by rw [HTK.out,if_neg HXM.out,List.append_nil];exact HOW.out,HBW.out⟩,by rw [show ((i+1:Nat):Int)=(i:Int)+1 from by omega];constructor⟩,?_⟩;simp [intOf]<;>omega
        ·
         obtain rfl:ln=i:=by have:=HS2.out.1;omega
         have hfe:(l.take ln).filter (fun k=>decide (k∈dY t1 s))=l.filter (fun k=>decide (k∈dY t1 s)):=by rw [List.take_of_length_le (by rw [HLE.out];exact n_R)]
         rw [hfe] at hnl;have HIH:=lh (show du Z Z.heap.size hA hn (l.filter (fun k=>decide (k∈dY t1 s))) from by rw [← hfe];exact eH HS2.out.2.1 n_R);have hn0:hn≠0:=by have h1:=HNE.out;rw [hnl.1] at h1;exact h1
         have hn0b:(((hn:Nat):Int)==0)=false:=by simp;omega
         clear hfe HS2 HOW HBW hli;by_cases hn1:hn=1
         ·
          subst hn1;obtain ⟨y,hy⟩:=List.length_eq_one_iff.1 hnl.1;rw [hy] at HIH;obtain ⟨b7,o7,z,rfl,hb7,hz,cz⟩:=HIH.out.cell (show 0<1 by omega);obtain rfl:y=z:=by simpa using hz
          have hyl:y∈l:=by
           have h3:y∈l.filter (fun k=>decide (k∈dY t1 s)):=by rw [hy];exact List.mem_singleton.2 rfl
           exact (List.mem_filter.1 h3).1
          have hyr:=HUP.out.2 y hyl;obtain ⟨w9,hup,hal9,hg9,hs9⟩:=HMP.out.add (gL (by omega) (by omega)) hy;have HM9:=lh hal9;have hzs:=HBY.out.size;have HB9:=lh (HBY.out.grown hg9 hzs (fun k e=>by cases e;exact Nat.le_of_eq HR0.out));have cz0:Z.cell? ⟨b7,o7,none⟩=some (.int .i64 y):=cz;clear hz hyl hyr hal9 hg9 hs9 hzs cz;gi_wp2;refine ⟨⟨s+1,lh ⟨⟨by omega,by omega⟩,HM9.out,HB9.out⟩,by rw [show ((s+1:Nat):Int)=(s:Int)+1 from by omega];constructor⟩,?_⟩;simp [intOf]<;>omega
         ·
          have hn1b:(((hn:Nat):Int)==1)=false:=by simp;omega
          have HSK:=lh (show (l.filter (fun k=>decide (k∈dY t1 s))).length≠1 from by rw [hnl.1];exact hn1);clear hn1;gi_wp2;refine ⟨⟨s+1,lh ⟨⟨by omega,by omega⟩,HMP.out.skip (.inr HSK.out),HBY.out⟩,by rw [show ((s+1:Nat):Int)=(s:Int)+1 from by omega];constructor⟩,?_⟩;simp [intOf]<;>omega
     ·
      obtain rfl:P=s:=by omega
      have hpp:¬ P<P:=by omega
      clear hsp hs1;gi_wp2;have HBIT:Hid (∀ i:Nat,(Go.bits BinOp.and IntKind.u16 ((bits:Int) / 2 ^ i) 1==1)=bits.testBit i):=lh (wt bits (by omega));refine wpIn_loop (fun a U=>∃ (n:Nat) (oA:Option Addr) (on_ oc:Nat),Hid (n≤t1∧Own U Y.heap.size 3 1 oA on_ oc ((dY n bits).map (Value.int .i64))∧Below Y.heap.size Y U)∧FrWf (.int .u16 bits) (.pointer (some ⟨w.heap.size,0,none⟩)) (.bool true) (.int .i64 x1.id) (.int .i64 (t1:Nat)) (.int .i64 f) (.slice (some ⟨bl,ol,none⟩) ln lc) (.slice pA pn pc) (.map (some R0)) (.slice oA on_ oc) (.int .i64 ((n:Int)+1)) a) (fun a _=>t1+1 - (intOf (a.tmps.getD 29 undef)).toNat) ?_ ?_
      ·exact ⟨0,none,0,0,lh ⟨Nat.zero_le _,Own.none_ _ _ _ _,b_R⟩,by constructor⟩
      rintro a U9 ⟨n,oA,on_,oc,HL6,ha⟩;cases ha
      have hol:(dY n bits).length=on_∧on_≤12:=by
       have h1:=HL6.out.2.1.len;have h2:=lT n bits;have h3:=HL6.out.1;rw [List.length_map] at h1;omega
      by_cases hnk:n<t1
      ·
       have hbit:=HBIT.out n;have HB6:=lh (iF n bits)
       cases hb2:bits.testBit n with
       | false =>
        rw [hb2] at hbit;have HB2:=lh hb2;clear hb2;gi_wp2;refine ⟨⟨n+1,oA,on_,oc,lh ⟨by omega,by rw [HB6.out,HB2.out,if_neg (by decide),List.append_nil];exact HL6.out.2.1,HL6.out.2.2⟩,by rw [show ((n+1:Nat):Int)=(n:Int)+1 from by omega];constructor⟩,?_⟩;simp [intOf]<;>omega
       | true =>
        rw [hb2] at hbit;have HB2:=lh hb2;clear hb2;have hus:=HL6.out.2.2.size;have hin:du (U9.alloc (.cells #[.int .i64 ((n:Int)+1)] 3)) (U9.heap.size+1) (some ⟨U9.heap.size,0,none⟩) 1 [(n:Int)+1]:=du.new U9 3 [(n:Int)+1] (U9.heap.size+1) (by omega);have HIN:=lh hin;clear hin
        gi_wp2_with (first | (gi_at_builtin;refine dN rfl (.tmp 214) (.tmp 216) (by rfl) eX rfl (HL6.out.2.1.alloc _) rfl HIN.out (eY [(n:Int)+1]) (by unfold maxLen;omega) (by omega) (by simp;omega) ?_) | fail)
        rintro A9 c9 U9 hown hg hA;have HO9:=lh (show Own U9 Y.heap.size 3 1 A9 (on_+1) c9 ((dY (n+1) bits).map (Value.int .i64)) from by rw [HB6.out,HB2.out,if_pos rfl,List.map_append];exact hown);have HB9:=lh (show Below Y.heap.size Y U9 from (HL6.out.2.2.alloc hus _).grown hg (by simp;omega) (fun k e=>(eI HL6.out.2.1 k e).1));clear hown hg hA HIN;gi_wp2;refine ⟨⟨n+1,A9,on_+1,c9,lh ⟨by omega,HO9.out,HB9.out⟩,by rw [show ((n+1:Nat):Int)=(n:Int)+1 from by omega];constructor⟩,?_⟩;simp [intOf]<;>omega
      ·
       obtain rfl:t1=n:=by have:=HL6.out.1;omega
       have HOO:=lh (eH HL6.out.2.1 (Nat.le_refl U9.heap.size));have hb:=HL6.out.2.2;replace Ly:=lyb Ly hb;replace HIL:=lh ((HIL.out.below hb).more hb.size);replace HIP:=lh ((HIP.out.below hb).more hb.size);replace HMP:=lh (HMP.out.below hb);replace HBY:=lh (HBY.out.trans (hb.mono HBY.out.size));clear hb HL6 hnk;gi_wp2;refine ⟨trivial,(c_W (sX oA on_ oc (dY t1 bits) (some ⟨bl,ol,none⟩) ln lc l U9 HOO.out HIL.out (by omega) (by omega))).mono ?_⟩;rintro e W10 ⟨rfl,hb⟩;replace Ly:=lyb Ly hb;replace HIL:=lh ((HIL.out.below hb).more hb.size);replace HIP:=lh ((HIP.out.below hb).more hb.size);replace HMP:=lh (HMP.out.below hb);replace HBY:=lh (HBY.out.trans (hb.mono HBY.out.size));replace HOO:=lh ((HOO.out.below hb).more hb.size);clear hb
       obtain ⟨vb9,hvb9⟩:∃ b,decide (cmpS (dY t1 bits) l<0)=b:=⟨_,rfl⟩
       rw [hvb9];have HVB9:=lh hvb9;clear hvb9
       cases vb9 with
       | true =>
        have hlt:cmpS (dY t1 bits) l<0:=by have h:=HVB9.out;simpa using h
        obtain ⟨wy,hwy1,hwy2⟩:=HFEW.out _ (xC t1 bits) hlt;obtain ⟨r0,hr1,rfl⟩:=kq (a:=t1) ⟨hwy1.up,hwy1.le⟩
        have hr0:1≤r0:=by
         rcases Nat.eq_zero_or_pos r0 with rfl | h
         ·exfalso
          obtain ⟨n,h1,_⟩:=HCOV.out _ hwy1;have:=(l5.1 h1).2.2;simp at this
         ·exact h
        have HMS9:Hid (eM m L f t1 (idxV m.vessels x1.id) (dY t1 r0)=true∧hitL (dY t1 r0) (dY t1 bits)=false∧1≤r0∧r0<P):=lh ⟨(kS HLL.out (dX HOK.out).1 (by have:=HL2.out;omega)).2 hwy1,by
         cases h9:hitL (dY t1 r0) (dY t1 bits) with
         | false=>rfl
         | true =>
          obtain ⟨y,h1,h2⟩:=gZ.1 h9
          exact absurd h2 (hwy2 y h1),hr0,by rw [← HP.out];exact hr1⟩
        clear hwy1 hwy2 hr1 hr0 hlt;gi_wp2;refine wpIn_loop (fun a W=>∃ (s:Nat) (vb:Value),Hid ((1≤s∧s≤P)∧MissV m L f t1 (idxV m.vessels x1.id) (dY t1 bits) s vb∧Below W10.heap.size W10 W)∧FrWg (.int .u16 bits) (.pointer (some ⟨w.heap.size,0,none⟩)) (.bool true) (.int .i64 x1.id) (.int .i64 (t1:Nat)) (.int .i64 f) (.slice (some ⟨bl,ol,none⟩) ln lc) (.slice pA pn pc) (.map (some R0)) (.slice oA on_ oc) (vb) (.int .i64 (s:Int)) a) (fun a _=>P - (intOf (a.tmps.getD 31 undef)).toNat) ?_ ?_
        ·exact ⟨1,.bool false,lh ⟨⟨n_R,hPl.1⟩,⟨false,rfl,fun _ q h1 h2=>by omega⟩,b_R⟩,by constructor⟩
        rintro a Y2 ⟨s,vb,HS,ha⟩;obtain ⟨b0,rfl,hmi⟩:=HS.out.2.1;have HMI:=lh hmi;cases ha;have HBY2:=lh HS.out.2.2;have hs1:1≤s∧s≤P:=HS.out.1;have hb:=HS.out.2.2;replace Ly:=lyb Ly hb;replace HIL:=lh ((HIL.out.below hb).more hb.size);replace HIP:=lh ((HIP.out.below hb).more hb.size);replace HMP:=lh (HMP.out.below hb);replace HBY:=lh (HBY.out.trans (hb.mono HBY.out.size));replace HOO:=lh ((HOO.out.below hb).more hb.size);clear hb hmi HS
        cases b0 with
        | true =>
         by_cases hsp:s<P
         ·
          gi_wp2;refine ⟨trivial,(c_W (nA pA pn pc pl (some ⟨bl,ol,none⟩) ln lc l Y2 HIP.out HIL.out (by omega) (by omega))).mono ?_⟩;rintro e W11 ⟨rfl,hb⟩;replace Ly:=lyb Ly hb;replace HIL:=lh ((HIL.out.below hb).more hb.size);replace HIP:=lh ((HIP.out.below hb).more hb.size);replace HMP:=lh (HMP.out.below hb);replace HBY:=lh (HBY.out.trans (hb.mono HBY.out.size));replace HOO:=lh ((HOO.out.below hb).more hb.size);clear hb;rw [gZ.2 HPA.out];have hmp:=HMP.out;rw [← HP.out] at hmp;obtain ⟨es,clock,hes,hsz⟩:=hmp.len HLL.out (dX HOK.out).1 (by have:=HL2.out;omega) HUP.out.1 HAL.out;have hlm:(Builtin.len_ #[80] 3 #[.map (some R0)]).run Tryz.prog W11 = .ok (.int .i64 ((es.size:Nat):Int)) W11:=sp hes;have hsb:(((es.size:Nat):Int)==((ln:Nat):Int))=true:=by rw [hsz,HLE.out];simp
          clear hmp hsz hes;gi_wp2;refine bodyPost_ret (v:=.bool true) (by simp [results,Tryz.results8,go_sem]) rfl ?_;exact ⟨rfl,Ly.out.1⟩
         ·
          obtain rfl:P=s:=by omega
          have hpp:¬ P<P:=by omega
          gi_wp2
          all_goals try (rename_i hA hB;exact g9 hA)
          refine ⟨trivial,(c_W (nA pA pn pc pl (some ⟨bl,ol,none⟩) ln lc l Y2 HIP.out HIL.out (by omega) (by omega))).mono ?_⟩;rintro e W12 ⟨rfl,hb⟩;replace Ly:=lyb Ly hb;replace HIL:=lh ((HIL.out.below hb).more hb.size);replace HIP:=lh ((HIP.out.below hb).more hb.size);replace HMP:=lh (HMP.out.below hb);replace HBY:=lh (HBY.out.trans (hb.mono HBY.out.size));replace HOO:=lh ((HOO.out.below hb).more hb.size);clear hb;rw [gZ.2 HPA.out];have hmp:=HMP.out;rw [← HP.out] at hmp;obtain ⟨es,clock,hes,hsz⟩:=hmp.len HLL.out (dX HOK.out).1 (by have:=HL2.out;omega) HUP.out.1 HAL.out;have hlm:(Builtin.len_ #[80] 3 #[.map (some R0)]).run Tryz.prog W12 = .ok (.int .i64 ((es.size:Nat):Int)) W12:=sp hes;have hsb:(((es.size:Nat):Int)==((ln:Nat):Int))=true:=by rw [hsz,HLE.out];simp
          clear hmp hsz hes;gi_wp2;refine bodyPost_ret (v:=.bool true) (by simp [results,Tryz.results8,go_sem]) rfl ?_;exact ⟨rfl,Ly.out.1⟩
        | false =>
         by_cases hsp:s<P
         rotate_left
         ·
          obtain ⟨h1,h2,h3,h4⟩:=HMS9.out;have h5:=HMI.out rfl r0 h3 (by omega) h1;rw [h2] at h5;cases h5
         ·
          have hs63:s<2 ^ 63:=by omega
          have HBIT2:Hid (∀ i:Nat,(Go.bits BinOp.and IntKind.i64 ((s:Int) / 2 ^ i) 1==1)=s.testBit i):=lh (qS s hs63);clear hs63;gi_wp2;refine wpIn_loop (fun a U=>∃ (n:Nat) (cA:Option Addr) (cn cc:Nat),Hid (n≤t1∧Own U Y2.heap.size 3 1 cA cn cc ((dY n s).map (Value.int .i64))∧Below Y2.heap.size Y2 U)∧FrWh (.int .u16 bits) (.pointer (some ⟨w.heap.size,0,none⟩)) (.bool true) (.int .i64 x1.id) (.int .i64 (t1:Nat)) (.int .i64 f) (.slice (some ⟨bl,ol,none⟩) ln lc) (.slice pA pn pc) (.map (some R0)) (.slice oA on_ oc) (.bool false) (.int .i64 (s:Int)) (.slice cA cn cc) (.int .i64 ((n:Int)+1)) a) (fun a _=>t1+1 - (intOf (a.tmps.getD 33 undef)).toNat) ?_ ?_
          ·exact ⟨0,none,0,0,lh ⟨Nat.zero_le _,Own.none_ _ _ _ _,b_R⟩,by constructor⟩
          rintro a U13 ⟨n,cA,cn,cc,HL6,ha⟩;cases ha
          have hcl:(dY n s).length=cn∧cn≤12:=by
           have h1:=HL6.out.2.1.len;have h2:=lT n s;have h3:=HL6.out.1;rw [List.length_map] at h1;omega
          by_cases hnk:n<t1
          ·
           have hbit:=HBIT2.out n;have HB6:=lh (iF n s)
           cases hb2:s.testBit n with
           | false =>
            rw [hb2] at hbit;have HB2:=lh hb2;clear hb2;gi_wp2;refine ⟨⟨n+1,cA,cn,cc,lh ⟨by omega,by rw [HB6.out,HB2.out,if_neg (by decide),List.append_nil];exact HL6.out.2.1,HL6.out.2.2⟩,by rw [show ((n+1:Nat):Int)=(n:Int)+1 from by omega];constructor⟩,?_⟩;simp [intOf]<;>omega
           | true =>
            rw [hb2] at hbit;have HB2:=lh hb2;clear hb2;have hus:=HL6.out.2.2.size;have hin:du (U13.alloc (.cells #[.int .i64 ((n:Int)+1)] 3)) (U13.heap.size+1) (some ⟨U13.heap.size,0,none⟩) 1 [(n:Int)+1]:=du.new U13 3 [(n:Int)+1] (U13.heap.size+1) (by omega);have HIN:=lh hin;clear hin
            gi_wp2_with (first | (gi_at_builtin;refine dN rfl (.tmp 242) (.tmp 244) (by rfl) eX rfl (HL6.out.2.1.alloc _) rfl HIN.out (eY [(n:Int)+1]) (by unfold maxLen;omega) (by omega) (by simp;omega) ?_) | fail)
            rintro A9 c9 U9 hown hg hA;have HO9:=lh (show Own U9 Y2.heap.size 3 1 A9 (cn+1) c9 ((dY (n+1) s).map (Value.int .i64)) from by rw [HB6.out,HB2.out,if_pos rfl,List.map_append];exact hown);have HB9:=lh (show Below Y2.heap.size Y2 U9 from (HL6.out.2.2.alloc hus _).grown hg (by simp;omega) (fun k e=>(eI HL6.out.2.1 k e).1));clear hown hg hA HIN;gi_wp2;refine ⟨⟨n+1,A9,cn+1,c9,lh ⟨by omega,HO9.out,HB9.out⟩,by rw [show ((n+1:Nat):Int)=(n:Int)+1 from by omega];constructor⟩,?_⟩;simp [intOf]<;>omega
          ·
           obtain rfl:t1=n:=by have:=HL6.out.1;omega
           have HIO:=lh (eH HL6.out.2.1 (Nat.le_refl U13.heap.size));have hb:=HL6.out.2.2;replace Ly:=lyb Ly hb;replace HIL:=lh ((HIL.out.below hb).more hb.size);replace HIP:=lh ((HIP.out.below hb).more hb.size);replace HMP:=lh (HMP.out.below hb);replace HBY:=lh (HBY.out.trans (hb.mono HBY.out.size));replace HOO:=lh ((HOO.out.below hb).more hb.size);replace HBY2:=lh (HBY2.out.trans (hb.mono HBY2.out.size));clear hb HL6 hnk;obtain ⟨x0_0,x0_1,x0_2,x0_3⟩:=lyc4 Ly 0 rfl;have l0_:=Ly.out.lt 0 rfl;gi_wp2;clear x0_0 x0_1 x0_2 x0_3 l0_;refine ⟨trivial,(c_W (pj (some ⟨bv,off,none⟩) nv cv (some ⟨ba,oa,none⟩) na ca At nt ct m cA cn cc (dY t1 s) x1.id t1 f L U13 (HMS.out.up Ly.out.1) HCA.out HOK.out HLL.out HIO.out (by omega) (by omega))).mono ?_⟩;rintro e W14 ⟨rfl,hb⟩;replace Ly:=lyb Ly hb;replace HIL:=lh ((HIL.out.below hb).more hb.size);replace HIP:=lh ((HIP.out.below hb).more hb.size);replace HMP:=lh (HMP.out.below hb);replace HBY:=lh (HBY.out.trans (hb.mono HBY.out.size));replace HOO:=lh ((HOO.out.below hb).more hb.size);replace HBY2:=lh (HBY2.out.trans (hb.mono HBY2.out.size));replace HIO:=lh ((HIO.out.below hb).more hb.size);clear hb
           cases hwb:eM m L f t1 (idxV m.vessels x1.id) (dY t1 s) with
           | false =>
            have HWB:=lh hwb;clear hwb;gi_wp2
            all_goals try (rename_i hA hB;exact g9 hA)
            try (refine ⟨trivial,?_⟩;gi_wp2)
            refine ⟨⟨s+1,.bool false,lh ⟨⟨by omega,by omega⟩,⟨false,rfl,fun _ q h1 h2 h3=>by
             by_cases e:q=s
             ·subst e;rw [HWB.out] at h3;cases h3
             ·exact HMI.out (by first | rfl | trivial) q h1 (by omega) h3⟩,HBY2.out⟩,by rw [show ((s+1:Nat):Int)=(s:Int)+1 from by omega];constructor⟩,?_⟩
            simp [intOf]<;>omega
           | true =>
            have HWB:=lh hwb;clear hwb;gi_wp2;refine ⟨trivial,(c_W (nA cA cn cc (dY t1 s) oA on_ oc (dY t1 bits) W14 HIO.out HOO.out (by omega) (by omega))).mono ?_⟩;rintro e W15 ⟨rfl,hb⟩;replace Ly:=lyb Ly hb;replace HIL:=lh ((HIL.out.below hb).more hb.size);replace HIP:=lh ((HIP.out.below hb).more hb.size);replace HMP:=lh (HMP.out.below hb);replace HBY:=lh (HBY.out.trans (hb.mono HBY.out.size));replace HOO:=lh ((HOO.out.below hb).more hb.size);replace HBY2:=lh (HBY2.out.trans (hb.mono HBY2.out.size));replace HIO:=lh ((HIO.out.below hb).more hb.size);clear hb
            cases hht:hitL (dY t1 s) (dY t1 bits) with
            | false =>
             clear hht;gi_wp2;refine ⟨⟨s+1,.bool true,lh ⟨⟨by omega,by omega⟩,⟨true,rfl,fun h=>by cases h⟩,HBY2.out⟩,by rw [show ((s+1:Nat):Int)=(s:Int)+1 from by omega];constructor⟩,?_⟩;simp [intOf]<;>omega
            | true =>
             have HHT:=lh hht;clear hht;gi_wp2
             refine ⟨⟨s+1,.bool false,lh ⟨⟨by omega,by omega⟩,⟨false,rfl,fun _ q h1 h2 h3=>by
              by_cases e:q=s
              ·subst e;exact HHT.out
              ·exact HMI.out (by first | rfl | trivial) q h1 (by omega) h3⟩,HBY2.out⟩,by rw [show ((s+1:Nat):Int)=(s:Int)+1 from by omega];constructor⟩,?_⟩
             simp [intOf]<;>omega
       | false =>
        gi_wp2;refine ⟨trivial,(c_W (nA pA pn pc pl (some ⟨bl,ol,none⟩) ln lc l W10 HIP.out HIL.out (by omega) (by omega))).mono ?_⟩;rintro e W16 ⟨rfl,hb⟩;replace Ly:=lyb Ly hb;replace HIL:=lh ((HIL.out.below hb).more hb.size);replace HIP:=lh ((HIP.out.below hb).more hb.size);replace HMP:=lh (HMP.out.below hb);replace HBY:=lh (HBY.out.trans (hb.mono HBY.out.size));replace HOO:=lh ((HOO.out.below hb).more hb.size);clear hb;rw [gZ.2 HPA.out];have hmp:=HMP.out;rw [← HP.out] at hmp;obtain ⟨es,clock,hes,hsz⟩:=hmp.len HLL.out (dX HOK.out).1 (by have:=HL2.out;omega) HUP.out.1 HAL.out;have hlm:(Builtin.len_ #[80] 3 #[.map (some R0)]).run Tryz.prog W16 = .ok (.int .i64 ((es.size:Nat):Int)) W16:=sp hes;have hsb:(((es.size:Nat):Int)==((ln:Nat):Int))=true:=by rw [hsz,HLE.out];simp
        clear hmp hsz hes;gi_wp2;refine bodyPost_ret (v:=.bool true) (by simp [results,Tryz.results8,go_sem]) rfl ?_;exact ⟨rfl,Ly.out.1⟩
end
section
open Go.ChangeShapes Go.WideShapes Go.ChangeAt Go.RowKit Go.Joins
theorem ownT:ownKnob Tryz.prog.godebug=none:=by kernel_rfl
theorem ka:laidOutB Tryz.prog=true:=by kernel_rfl
theorem mixWatch_lifted (os:Os)(started:os.Started)(H:Type)(enc:TypeId × Value→H) :
  ReturnsInHanded {} Tryz.checked os 8 .any (Rows.mixWatchSpec.pre6 enc Tryz.prog Tryz.f8 Rows.mixWatchRow.domain false) (Rows.mixWatchSpec.post enc Tryz.prog Tryz.f8 false true false false):=by
 refine returnsInHanded_of_change (C:=Tryz.checked) ownT started (by kernel_rfl) Tryz.func8
  (ChangeSpec.witness6 (enc:=enc) (C:=Tryz.checked) false ⟨#[],#[.agg #[.int .i64 0,.slice none 0 0,.slice none 0 0,.slice none 0 0],.int .u8 0,.int .u8 0,.int .u8 0,.int .u16 0],[]⟩ 8 (by kernel_rfl) (by kernel_rfl) (by kernel_rfl) (by kernel_rfl)) ?_
 intro W base args ds gs before hval0 hW hcnd _;have hval:∀ (j:Nat) t v,Tryz.f8.params[j]? =some t→args[j]? =some v→Value.okWide Tryz.prog W .any base t v:=hval0;have hW':=hW;obtain ⟨p,q,hA0,hV,rfl,hfz,hnd⟩:=hW;have hA:DataW.TrodAll enc Tryz.prog W 0 (fun _=>true) true Tryz.f8.params.toList args.toList ds p:=hA0;rw [Tryz.params8] at hA hval;obtain ⟨v0,vs0,d0,ds0,p0,q0,hargs,rfl,rfl,h0,r0⟩:=trodAll_cons hA;obtain ⟨v1,vs1,d1,ds1,p1,q1,rfl,rfl,rfl,h1,r1⟩:=trodAll_cons r0;obtain ⟨v2,vs2,d2,ds2,p2,q2,rfl,rfl,rfl,h2,r2⟩:=trodAll_cons r1;obtain ⟨v3,vs3,d3,ds3,p3,q3,rfl,rfl,rfl,h3,r3⟩:=trodAll_cons r2;obtain ⟨v4,vs4,d4,ds4,p4,q4,rfl,rfl,rfl,h4,r4⟩:=trodAll_cons r3;obtain ⟨rfl,rfl,rfl⟩:=trodAll_nil r4;obtain rfl:args=#[v0,v1,v2,v3,v4]:=by cases args;simp_all
 obtain ⟨rfl,rfl⟩:=trodVars_none hV;have k0:=h0;have lt0:∀ x∈p0,x.block<W.heap.size:=by obtain ⟨m,hm⟩:=k0;exact DataW.trod_lt m _ _ _ hm
 have k1:=h1;have lt1:∀ x∈p1,x.block<W.heap.size:=by obtain ⟨m,hm⟩:=k1;exact DataW.trod_lt m _ _ _ hm
 have k2:=h2;have lt2:∀ x∈p2,x.block<W.heap.size:=by obtain ⟨m,hm⟩:=k2;exact DataW.trod_lt m _ _ _ hm
 have k3:=h3;have lt3:∀ x∈p3,x.block<W.heap.size:=by obtain ⟨m,hm⟩:=k3;exact DataW.trod_lt m _ _ _ hm
 have k4:=h4;have lt4:∀ x∈p4,x.block<W.heap.size:=by obtain ⟨m,hm⟩:=k4;exact DataW.trod_lt m _ _ _ hm
 obtain ⟨Av,nv,cv,Aa,na,ca,At,nt,ct,m,rfl,hca,hct,hm⟩:=vC (hval 0 26 v0 rfl rfl) h0;obtain ⟨s1,e1,hb1⟩:=pQ h1 (okWide_int Tryz.underlying5 (hval 1 5 v1 rfl rfl));subst e1;obtain ⟨s2,e2,hb2⟩:=pQ h2 (okWide_int Tryz.underlying5 (hval 2 5 v2 rfl rfl));subst e2;obtain ⟨s3,e3,hb3⟩:=pQ h3 (okWide_int Tryz.underlying5 (hval 3 5 v3 rfl rfl));subst e3;obtain ⟨s4,e4,hb4⟩:=uU h4 (okWide_int Tryz.underlying77 (hval 4 77 v4 rfl rfl));subst e4;clear hA0 hval0;refine (callsIn_wide.1 (uf Av nv cv Aa na ca At nt ct m s1 s2 s3 s4 W hm hca hb1 hb2 hb3 hb4)).mono fun e W' ⟨he,bel⟩=>?_;subst he;exact ⟨_,rfl,_,_,_,[],_,[],hW',trodAll_mk1 (shut_bool Tryz.underlying4 _),(trodAll_cons_mk (Below.trod ka (by kernel_rfl) (of_decide_eq_true (by kernel_rfl)) k0 bel lt0) (trodAll_cons_mk (Below.trod ka (by kernel_rfl) (of_decide_eq_true (by kernel_rfl)) k1 bel lt1) (trodAll_cons_mk (Below.trod ka (by kernel_rfl) (of_decide_eq_true (by kernel_rfl)) k2 bel lt2) (trodAll_cons_mk (Below.trod ka (by kernel_rfl) (of_decide_eq_true (by kernel_rfl)) k3 bel lt3) (trodAll_cons_mk (Below.trod ka (by kernel_rfl) (of_decide_eq_true (by kernel_rfl)) k4 bel lt4) (trodAll_mk0)))))),rfl,bel.frame _,fun h=>by cases h⟩
theorem mixWatch_holds:Rows.MixWatchSaid :=
 OpenClaim.holds_of_wide 8 Tryz.f8 rfl rfl rfl rfl rfl rfl rfl ⟨rfl,rfl,rfl,rfl,rfl⟩ rfl rfl rfl rfl rfl (by kernel_rfl) Tryz.func8 (by kernel_rfl)
  (of_decide_eq_true (by kernel_rfl)) (by unfold Func.isWrapper;rw [if_neg (of_decide_eq_false (by kernel_rfl))];exact ⟨rfl,rfl⟩)
  (fun os started H enc _=>mixWatch_lifted os started H enc)
#print axioms mixWatch_holds
end
end Go.Proofs.YthofngceiecniaaGreat
