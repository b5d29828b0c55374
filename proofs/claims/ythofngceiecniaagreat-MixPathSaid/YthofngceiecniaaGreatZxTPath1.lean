/- MixPath: whatever the arguments, the law answers true. No conditions. -/
import Derived.Sort.CutIn
import Derived.Lib.RabinKarpLaws
import Derived.Test.YthofngceiecniaaGreatRows
import Derived.OpenShut
import Derived.ShutString
import Derived.ChangeOld
import Derived.Lib.SmallJoins
import Derived.Test.YthofngceiecniaaGreatZxB14
set_option linter.unusedVariables false
/- walked, of the outright laws. -/
namespace Go.Proofs.YthofngceiecniaaGreat
set_option maxHeartbeats 32000000
set_option maxRecDepth 100000
section
open Go.RowKit Go.Shelf
attribute [local go_sem] Oper.semAt_some
theorem je {b:Bool}{C:Prop}(h:some undef=some (Value.bool b)):C:=by cases h
def wkIn (q:Nat)(x:MAct)(f jf v:Int):Bool:=decide ((q=0∧x.kind=1∧x.fr=f)∨(q≠0∧x.kind=2∧jf=v))
def wkOut (x:MAct)(all:Held)(jf v:Int):Bool:=decide (0≤v∧x.kind≠1∧jf=v∧(x.kind=4∨x.drops=au all v))
theorem mF {m:Mix}{A:List Held}{f:Int}{l:List Int}{t:Nat}(h:fH m A f l t=none):∀ {n:Nat},t≤n→fH m A f l n=none
 | 0,hn=>by
  obtain rfl:t=0:=by omega
  exact h
 | n+1,hn=>by
  by_cases e:t=n+1
  ·subst e;exact h
  ·rw [fH,mF h (n:=n) (by omega)]
   cases m.acts[n]? with
   | none=>rfl
   | some x =>
    cases A[n]? with
    | none=>rfl
    | some a=>rfl
theorem j2 {m:Mix}{A:List Held}{f v:Int}{l:List Int}{t n:Nat}(h:fH m A f l t=none)(hn:t≤n):dT m A f n v l=false:=by
 unfold dT;rw [mF h hn];simp
theorem tD (s:Held){q:Nat}(h:q<4):(dO s)[q]? =some (.int .i64 (au s (q:Int))):=by
 match q,h with
 | 0,_=>rfl
 | 1,_=>rfl
 | 2,_=>rfl
 | 3,_=>rfl
theorem ks {W:World}{A9:Option Addr}{n9 b9 o9 i:Nat}{L:List Held}{all:Held}(hr:cu W W.heap.size 4 A9 n9 (L.flatMap dO))(e:A9=some ⟨b9,o9,none⟩)(hL:L[i]? =some all)(hi:i<n9){q:Nat}(hq:q<4) :
  b9<W.heap.size∧W.cell? ⟨b9,o9+i * 4+q,none⟩=some (.int .i64 (au all (q:Int))):=by
 obtain ⟨b,o,all2,e9,hb9,h9,hc9⟩:=de di (by omega) hr hi;obtain rfl:all=all2:=Option.some.inj (hL.symm.trans h9);rw [e] at e9;cases e9;exact ⟨hb9,hc9 q _ (tD all hq)⟩
theorem ve {m:Mix}{f:Int}{l:List Int}{t:Nat}{x:MAct}{all:Held}{v:Int}{q:Nat}(h1:q<l.length)(h2:l[q]? =some ((t:Int)+1)) :
  jb m f l t x all (v,q)=if (q=0∧x.kind=1∧x.fr=f)∨(q≠0∧x.kind=2∧idxV m.vessels x.fr=v) then some (idxV m.vessels x.to,q+1) else none:=by unfold jb;rw [if_pos ⟨h1,h2⟩]
theorem ti {m:Mix}{f:Int}{l:List Int}{t:Nat}{x:MAct}{all:Held}{v:Int}{q:Nat}(h1:¬ (q<l.length∧l[q]? =some ((t:Int)+1))) :
  jb m f l t x all (v,q)=if 0≤v∧x.kind≠1∧idxV m.vessels x.fr=v∧(x.kind=4∨x.drops=au all v) then none else some (v,q):=by unfold jb;rw [if_neg h1]
inductive FrWk (v0 v1 v2 v3 v4 v5 v11 v13 v14 v48 v49 v50:Value):Act→Prop
 | mk (a b c d e f g h i j k l m n o p q r s t w x y z A B C D E F G H I J K L M N O P Q R S T U V W X Y Z aa ab ac ad ae af ag ah ai aj ak al am an ao ap aq ar aw ax ay az aA aB aC aD aE aF aG aH aI aJ aK aL aM aN aO aP aQ aR aS aT aU aV aW aX aY aZ a0 a1 a2 a3 a4 a5 a6 a7 a8 a9 ba bb bc bd be bf bg bh bi bj bk bl bm bn bo bp bq br bs bt bw bx bz bA bB bC bD:Value):FrWk v0 v1 v2 v3 v4 v5 v11 v13 v14 v48 v49 v50 ⟨#[v0,v1,v2,v3,v4,v5,a,b,c,d,e,v11,f,v13,v14,g,h,i,j,k,l,m,n,o,p,q,r,s,t,w,x,y,z,A,B,C,D,E,F,G,H,I,J,K,L,M,N,O,v48,v49,v50,P,Q,R,S,T,U,V,W,X,Y,Z,aa,ab,ac,ad,ae,af,ag,ah,ai,aj,ak,al,am,an,ao,ap,aq,ar,aw,ax,ay,az,aA,aB,aC,aD,aE,aF,aG,aH,aI,aJ,aK,aL,aM,aN,aO,aP,aQ,aR,aS,aT,aU,aV,aW,aX,aY,aZ,a0,a1,a2,a3,a4,a5,a6,a7,a8,a9,ba,bb,bc,bd,be,bf,bg,bh,bi,bj,bk,bl,bm,bn,bo,bp,bq,br,bs,bt,bw,bx,bz,bA,bB,bC,bD],[]⟩
theorem nV (Av:Option Addr)(nv cv:Nat)(Aa:Option Addr)(na ca:Nat)(At:Option Addr)(nt ct:Nat)(m:Mix)(A:Option Addr)(n c:Nat)(l:List Int)(vessel:Int)(k:Nat)(f:Int)(L:List Held)(w:World)(h:MixS w Av nv Aa na At nt m)(hca:na≤ca∧ca≤maxLen)(hok:cG m=true)(hL:allM m m.acts=some L)(hl:cp w w.heap.size A n l)(hn:n≤1000)(hk:k≤na) :
  CallsIn Fence.wide 9 Tryz.prog 39 #[.agg #[.int .i64 m.fountains,.slice Av nv cv,.slice Aa na ca,.slice At nt ct],.slice A n c,.int .i64 vessel,.int .i64 (k:Int),.int .i64 f] w (fun e w'=>e = .returned (.bool (dT m L f k (idxV m.vessels vessel) l))∧Below w.heap.size w w'):=by
 have HM:=lh h;have HCA:=lh hca;have HOK:=lh hok;have HL:=lh hL;have HI:=lh hl;have HN:=lh hn;have HK:=lh hk;have HLL:=lh hl.len;have HVS:=lh (cM hok);have HLV:=lh h.at_.lenV;have HLA:=lh h.at_.lenA;have hv4:m.vessels.length≤4:=(cM hok).1;have HV4:=lh hv4;have hk12:k≤12:=by have h1:=(cM hok).2.1;have h2:=h.at_.lenA;omega
 have HK12:=lh hk12;clear h hca hok hL hl hn hk hv4 hk12;refine callsIn_of_wp Tryz.func39 rfl trivial ?_ rfl;simp only [Tryz.ntmps39,es,Nat.reduceAdd,Nat.reduceSub];gi_upto_region 1 with fail
 have Ly:=lh (Lay.one w 26 #[.int .i64 m.fountains,.slice Av nv cv,.slice Aa na ca,.slice At nt ct]);generalize (w.alloc (.cells #[.int .i64 m.fountains,.slice Av nv cv,.slice Aa na ca,.slice At nt ct] 26))=w0 at *;obtain ⟨x0_0,x0_1,x0_2,x0_3⟩:=lyc4 Ly 0 rfl;have l0_:=Ly.out.lt 0 rfl;gi_wp2;clear x0_0 x0_1 x0_2 x0_3 l0_;refine ⟨trivial,(c_W (lD Av nv cv Aa na ca At nt ct m w0 (HM.out.up Ly.out.1) (eG HOK.out) (by have h1:=HLV.out;have h2:=HV4.out;omega) (by have h1:=HLA.out;have h2:=HVS.out;omega))).mono ?_⟩;rintro e W1 ⟨hb,A9,n9,c9,b9,L9,rfl,hp⟩;replace Ly:=lyb Ly hb;clear hb
 rcases hp with ⟨rfl,hl9,hr9⟩ | ⟨_,_,hl9⟩
 rotate_left
 ·exact absurd (HL.out.symm.trans hl9) (by simp)
 obtain rfl:L=L9:=Option.some.inj (HL.out.symm.trans hl9);have HR:=lh hr9;clear hl9 hr9;by_cases hn0:n=0
 ·
  have hn0b:(((n:Nat):Int)==0)=true:=by simp;omega
  have hw:dT m L f k (idxV m.vessels vessel) l=false:=by
   have:l=[]:=List.length_eq_zero_iff.1 (by have:=HLL.out;omega);unfold dT;rw [this];rfl
  have HW:=lh hw;clear hw;obtain ⟨x0_0,x0_1,x0_2,x0_3⟩:=lyc4 Ly 0 rfl;have l0_:=Ly.out.lt 0 rfl;gi_wp2;clear x0_0 x0_1 x0_2 x0_3 l0_;refine bodyPost_ret (v:=.bool false) (by simp [results,Tryz.results39,go_sem]) rfl ?_;exact ⟨by rw [HW.out],Ly.out.1⟩
 ·
  have hn0b:(((n:Nat):Int)==0)=false:=by simp;omega
  have hn1:0<n:=by omega
  obtain ⟨bl,ol,y0,rfl,hbl,hy0,hc0⟩:=HI.out.cell hn1;obtain ⟨b2,o2,y1,e2,_,hy1,hc1⟩:=HI.out.cell (show n - 1<n by omega);obtain ⟨rfl,rfl⟩:bl=b2∧ol=o2:=by cases e2;exact ⟨rfl,rfl⟩
  have HBL:=lh hbl;have hd0:l.head?.getD 0=y0:=by rw [List.head?_eq_getElem?,hy0];rfl
  have hd1:l.getLast?.getD 0=y1:=by
   have:=HLL.out;rw [List.getLast?_eq_getElem?,show l.length - 1=n - 1 by omega,hy1];rfl
  have HD0:=lh hd0;have HD1:=lh hd1;have hxe:((n:Nat):Int) - 1=((n - 1:Nat):Int):=by omega
  have k0:W1.cell? ⟨bl,ol,none⟩=some (.int .i64 y0):=(Ly.out.1.cell (p:=⟨bl,ol,none⟩) hbl).trans hc0;have k1:W1.cell? ⟨bl,ol+(n - 1),none⟩=some (.int .i64 y1):=(Ly.out.1.cell (p:=⟨bl,ol+(n - 1),none⟩) hbl).trans hc1;have HK0:=lh k0;have HK1:=lh k1;clear hc0 hc1 hy0 hy1 e2 hd0 hd1 hbl k0 k1;have hn1000:=HN.out;by_cases h1:y0<1
  ·
   have hw:dT m L f k (idxV m.vessels vessel) l=false:=by
    unfold dT;rw [HD0.out,decide_eq_false (show ¬ 1≤y0 by omega)];simp
   have HW:=lh hw;clear hw;have k0:=HK0.out;obtain ⟨x0_0,x0_1,x0_2,x0_3⟩:=lyc4 Ly 0 rfl;have l0_:=Ly.out.lt 0 rfl;gi_wp2;clear x0_0 x0_1 x0_2 x0_3 l0_;refine bodyPost_ret (v:=.bool false) (by simp [results,Tryz.results39,go_sem]) rfl ?_;exact ⟨by rw [HW.out],Ly.out.1⟩
  ·
   by_cases h2:(k:Int)<y1
   ·
    have hw:dT m L f k (idxV m.vessels vessel) l=false:=by
     unfold dT;rw [HD1.out,decide_eq_false (show ¬ y1≤(k:Int) by omega)];simp
    have HW:=lh hw;clear hw;have k0:=HK0.out;have k1:=HK1.out;obtain ⟨x0_0,x0_1,x0_2,x0_3⟩:=lyc4 Ly 0 rfl;have l0_:=Ly.out.lt 0 rfl;gi_wp2;clear x0_0 x0_1 x0_2 x0_3 l0_;refine bodyPost_ret (v:=.bool false) (by simp [results,Tryz.results39,go_sem]) rfl ?_;exact ⟨by rw [HW.out],Ly.out.1⟩
   ·
    have HB:Hid (dT m L f k (idxV m.vessels vessel) l=decide (fH m L f l k=some (idxV m.vessels vessel,n))):=lh (by
     have hne:l.isEmpty=false:=by
      cases l with
      | nil=>have:=HLL.out;simp at this;omega
      | cons=>rfl
     unfold dT;rw [hne,HD0.out,HD1.out,decide_eq_true (show 1≤y0 by omega),decide_eq_true (show y1≤(k:Int) by omega),HLL.out]
     rfl)
    have k0:=HK0.out;have k1:=HK1.out;have hkc:k≤ca:=by have h3:=HCA.out;have h4:=HK.out;omega
    have hcm:=HCA.out.2;unfold maxLen at hcm;obtain ⟨x0_0,x0_1,x0_2,x0_3⟩:=lyc4 Ly 0 rfl;have l0_:=Ly.out.lt 0 rfl;gi_upto_region 7 with fail
    clear x0_0 x0_1 x0_2 x0_3 l0_;clear k0 k1 h1 h2 HK0 HK1 HD0 HD1 hxe;refine wpIn_loop (fun a W=>∃ (i:Nat) (v:Int) (q:Nat),Hid (i≤k∧fH m L f l i=some (v,q)∧(-1≤v∧v<4)∧q≤i∧Lay w W [(w.heap.size,26,#[.int .i64 m.fountains,.slice Av nv cv,.slice Aa na ca,.slice At nt ct])]∧cu W W.heap.size 4 A9 n9 (L.flatMap dO))∧FrWk (.agg #[.int .i64 m.fountains,.slice Av nv cv,.slice Aa na ca,.slice At nt ct]) (.slice (some ⟨bl,ol,none⟩) n c) (.int .i64 vessel) (.int .i64 (k:Int)) (.int .i64 f) (.pointer (some ⟨w.heap.size,0,none⟩)) (.slice A9 n9 c9) (.int .i64 v) (.int .i64 (q:Int)) (.slice Aa k ca) (.int .i64 (k:Int)) (.int .i64 (i:Int)) a) (fun a _=>k - (intOf (a.tmps.getD 50 undef)).toNat) ?_ ?_
    ·exact ⟨0,-1,0,lh ⟨by omega,rfl,by omega,by omega,Ly.out,HR.out⟩,by constructor⟩
    clear Ly HR;rintro a W ⟨i,v,q,HS,ha⟩;cases ha;have Ly:=lh HS.out.2.2.2.2.1;have HR:=lh HS.out.2.2.2.2.2;have HWK:=lh HS.out.2.1;have hvb:=HS.out.2.2.1;have hqi:=HS.out.2.2.2.1;have hk12:=HK12.out;have hik:=HS.out.1;by_cases hlt:i<k
    ·
     obtain ⟨ba,oa,x,e1,hba,hx,c0,c1,c2,c3⟩:=(HM.out.at_.below Ly.out.1).act (show i<na by have:=HK.out;omega);obtain ⟨all,_,ha9,_,_⟩:=dp HL.out hx;have HSTEP:=lh (fy (f:=f) (l:=l) hx ha9);have HOKA:=lh (ew HL.out HV4.out hx ha9).1
     have hi9:i<n9:=by
      have h1:=dL di (by omega) HR.out;have h2:=(g_E ha9).1;omega
     obtain ⟨b9,o9,all2,e9,hb9,h9,hc9⟩:=de di (by omega) HR.out hi9;obtain rfl:all=all2:=Option.some.inj (ha9.symm.trans h9);have HE9:=lh e9;have HI9:=lh hi9;have HLI:=lh ha9;have HAA:=lh e1;rw [e1];clear e1 hba hx ha9 h9 hc9 e9 hb9 hi9;gi_upto_region 9 with fail
     clear c0 c1 c2 c3
     obtain ⟨V2,hV⟩:∃ V,(W.alloc (.cells #[.int .i64 x.kind,.int .i64 x.fr,.int .i64 x.to,.int .i64 x.drops] 62))=V:=⟨_,rfl⟩
     rw [hV];have hb:=cX hV;have hnew:=cZ hV;have hge:=Ly.out.bel.size;replace Ly:=lyb Ly hb;replace HR:=lh ((HR.out.below hb).more hb.size);replace Ly:=lh (Ly.out.add hge hnew);clear hnew hge hb hV
     obtain ⟨G3,hG⟩:∃ g,W.heap.size=g:=⟨_,rfl⟩
     rw [hG] at Ly ⊢;clear hG;replace Ly:=lh (show Lay w V2 [(w.heap.size,26,#[.int .i64 m.fountains,.slice Av nv cv,.slice Aa na ca,.slice At nt ct]),(G3,62,#[.int .i64 x.kind,.int .i64 x.fr,.int .i64 x.to,.int .i64 x.drops])] from Ly.out);rw [← HAA.out]
     obtain ⟨jf,hjf⟩:∃ j,idxV m.vessels x.fr=j:=⟨_,rfl⟩
     obtain ⟨jt,hjt⟩:∃ j,idxV m.vessels x.to=j:=⟨_,rfl⟩
     have HJF:=lh hjf;have HJT:=lh hjt;have HJT4:Hid (-1≤jt∧jt<4):=lh (by rw [← hjt];exact ⟨by unfold idxV;split<;>omega,ef HV4.out⟩);clear hjf hjt;have hql:l.length=n:=HLL.out;by_cases hm:q<n∧l[q]? =some ((i:Int)+1)
     ·
      have HST:=lh (ve (m:=m) (f:=f) (x:=x) (all:=all) (v:=v) (show q<l.length by omega) hm.2);obtain ⟨b2,o2,y,e2,_,hy,hc⟩:=HI.out.cell hm.1;obtain ⟨rfl,rfl⟩:bl=b2∧ol=o2:=by cases e2;exact ⟨rfl,rfl⟩
      obtain rfl:y=(i:Int)+1:=Option.some.inj (hy.symm.trans hm.2);have ky:V2.cell? ⟨bl,ol+q,none⟩=some (.int .i64 ((i:Int)+1)):=(Ly.out.1.cell (p:=⟨bl,ol+q,none⟩) HBL.out).trans hc;have hqn:=hm.1;have eqi:(((i:Int)+1)==((i:Int)+1))=true:=by simp
      clear e2 hy hc hm;gi_upto_region 10 with fail
      clear ky eqi
      obtain ⟨ok,hokk⟩:∃ b:Bool,wkIn q x f jf v=b:=⟨_,rfl⟩
      have HOKK:=lh hokk;clear hokk
      gi_cut [97] from 68 (fun v97 wx=>v97 = .bool (!ok)∧Hid (Below V2.heap.size V2 wx))
      case first =>
       have HB0:=lh (Below.refl V2.heap.size V2);by_cases hq0:q=0
       ·
        subst hq0;by_cases hk1:x.kind=1
        ·
         have hk1b:(x.kind != 1)=false:=by simpa using hk1
         by_cases hf:x.fr=f
         ·
          have hfb:(x.fr != f)=false:=by simpa using hf
          have HQ1:=lh (ai hk1 hf);clear hk1 hf;obtain ⟨x1_0,x1_1,x1_2,x1_3⟩:=lyc4 Ly 1 rfl;have l1_:=Ly.out.lt 1 rfl;gi_wp2
          all_goals try (rename_i hA hB;exact je hA)
          clear x1_0 x1_1 x1_2 x1_3 l1_
          try (refine ⟨trivial,?_⟩;gi_wp2)
          gi_meet;exact ⟨by rw [show ok=true from HOKK.out.symm.trans (decide_eq_true (by exact .inl ⟨rfl,HQ1.out⟩))];try rfl,HB0⟩
         ·
          have hfb:(x.fr != f)=true:=by simpa using hf
          have HQ1:=lh hf;clear hk1 hf;obtain ⟨x1_0,x1_1,x1_2,x1_3⟩:=lyc4 Ly 1 rfl;have l1_:=Ly.out.lt 1 rfl;gi_wp2
          all_goals try (rename_i hA hB;exact je hA)
          clear x1_0 x1_1 x1_2 x1_3 l1_
          try (refine ⟨trivial,?_⟩;gi_wp2)
          gi_meet;exact ⟨by rw [show ok=false from HOKK.out.symm.trans (decide_eq_false (by rintro (h | h);exact HQ1.out h.2.2;exact h.1 rfl))];try rfl,HB0⟩
        ·
         have hk1b:(x.kind != 1)=true:=by simpa using hk1
         have HQ1:=lh hk1;clear hk1;obtain ⟨x1_0,x1_1,x1_2,x1_3⟩:=lyc4 Ly 1 rfl;have l1_:=Ly.out.lt 1 rfl;gi_wp2
         all_goals try (rename_i hA hB;exact je hA)
         clear x1_0 x1_1 x1_2 x1_3 l1_
         try (refine ⟨trivial,?_⟩;gi_wp2)
         gi_meet;exact ⟨by rw [show ok=false from HOKK.out.symm.trans (decide_eq_false (by rintro (h | h);exact HQ1.out h.2.1;exact h.1 rfl))];try rfl,HB0⟩
       ·
        have hq0b:(((q:Nat):Int)==0)=false:=by simp;omega
        have hq1:(0:Int)<(q:Int):=by omega
        by_cases hk2:x.kind=2
        ·
         have hk2b:(x.kind != 2)=false:=by simpa using hk2
         have HQ1:=lh hk2;have HQ0:=lh hq0;clear hk2;obtain ⟨x0_0,x0_1,x0_2,x0_3⟩:=lyc4 Ly 0 rfl;have l0_:=Ly.out.lt 0 rfl;obtain ⟨x1_0,x1_1,x1_2,x1_3⟩:=lyc4 Ly 1 rfl;have l1_:=Ly.out.lt 1 rfl;gi_wp2;clear x0_0 x0_1 x0_2 x0_3 l0_ x1_0 x1_1 x1_2 x1_3 l1_;refine ⟨trivial,(callsIn_wide.2 (dX Av nv cv Aa na ca At nt ct m x.fr V2 (HM.out.up Ly.out.1))).mono ?_⟩;rintro e W4 ⟨rfl,hb⟩;replace Ly:=lyb Ly hb;replace HR:=lh ((HR.out.below hb).more hb.size);replace HB0:=lh (HB0.out.trans (hb.mono HB0.out.size));clear hb;rw [HJF.out];by_cases hj:jf=v
         ·
          have hjb:(jf != v)=false:=by simpa using hj
          have HJ:=lh hj;clear hj;gi_wp2;gi_meet;exact ⟨by rw [show ok=true from HOKK.out.symm.trans (decide_eq_true (by exact .inr ⟨HQ0.out,HQ1.out,HJ.out⟩))];try rfl,HB0⟩
         ·
          have hjb:(jf != v)=true:=by simpa using hj
          have HJ:=lh hj;clear hj;gi_wp2;gi_meet;exact ⟨by rw [show ok=false from HOKK.out.symm.trans (decide_eq_false (by rintro (h | h);exact HQ0.out h.1;exact HJ.out h.2.2))];try rfl,HB0⟩
        ·
         have hk2b:(x.kind != 2)=true:=by simpa using hk2
         have HQ1:=lh hk2;have HQ0:=lh hq0;clear hk2;obtain ⟨x1_0,x1_1,x1_2,x1_3⟩:=lyc4 Ly 1 rfl;have l1_:=Ly.out.lt 1 rfl;gi_wp2
         all_goals try (rename_i hA hB;exact je hA)
         clear x1_0 x1_1 x1_2 x1_3 l1_
         try (refine ⟨trivial,?_⟩;gi_wp2)
         gi_meet;exact ⟨by rw [show ok=false from HOKK.out.symm.trans (decide_eq_false (by rintro (h | h);exact HQ0.out h.1;exact HQ1.out h.2.1))];try rfl,HB0⟩
      case rest =>
       obtain ⟨rfl,hcb⟩:=hcut;rename World=>C1;have hb:=hcb.out;clear hcb;replace Ly:=lyb Ly hb;replace HR:=lh ((HR.out.below hb).more hb.size);clear hb
       cases ok with
       | false =>
        have hw:dT m L f k (idxV m.vessels vessel) l=false:=j2 (t:=i+1) (by
         rw [HSTEP.out,HWK.out,Option.bind_some,HST.out,HJF.out,if_neg (of_decide_eq_false HOKK.out)]) (by omega)
        have HW:=lh hw;clear hw;gi_wp2;refine bodyPost_ret (v:=.bool false) (by simp [results,Tryz.results39,go_sem]) rfl ?_;exact ⟨by rw [HW.out],Ly.out.1⟩
       | true =>
        have HNX:Hid (fH m L f l (i+1)=some (jt,q+1)):=lh (by
         rw [HSTEP.out,HWK.out,Option.bind_some,HST.out,HJF.out,HJT.out,if_pos (of_decide_eq_true HOKK.out)])
        obtain ⟨x0_0,x0_1,x0_2,x0_3⟩:=lyc4 Ly 0 rfl;have l0_:=Ly.out.lt 0 rfl;obtain ⟨x1_0,x1_1,x1_2,x1_3⟩:=lyc4 Ly 1 rfl;have l1_:=Ly.out.lt 1 rfl;gi_wp2;clear x0_0 x0_1 x0_2 x0_3 l0_ x1_0 x1_1 x1_2 x1_3 l1_;refine ⟨trivial,(callsIn_wide.2 (dX Av nv cv Aa na ca At nt ct m x.to C1 (HM.out.up Ly.out.1))).mono ?_⟩;rintro e W5 ⟨rfl,hb⟩;replace Ly:=lyb Ly hb;replace HR:=lh ((HR.out.below hb).more hb.size);clear hb;rw [HJT.out];have hjt4:=HJT4.out;gi_wp2;refine ⟨⟨i+1,jt,q+1,lh ⟨by omega,HNX.out,HJT4.out,by omega,Ly.out.sub (by intro b hb;simp only [List.mem_cons,List.not_mem_nil,or_false] at hb ⊢;rcases hb with rfl;simp [HAA.out]),HR.out⟩,by rw [show ((i+1:Nat):Int)=(i:Int)+1 from by omega,show ((q+1:Nat):Int)=(q:Int)+1 from by omega];first | (constructor;done) | (rw [HAA.out];constructor;done)⟩,?_⟩;simp [intOf];omega
     ·
      have HST:=lh (ti (m:=m) (f:=f) (x:=x) (all:=all) (v:=v) (show ¬ (q<l.length∧l[q]? =some ((i:Int)+1)) by rw [hql];exact hm));have HMM:=lh hm;clear hm
      gi_cut [67] from 55 (fun v67 wx=>v67 = .bool false∧Hid (Below V2.heap.size V2 wx))
      case first =>
       have HB0:=lh (Below.refl V2.heap.size V2);by_cases hqn:q<n
       ·
        obtain ⟨b2,o2,y,e2,_,hy,hc⟩:=HI.out.cell hqn;obtain ⟨rfl,rfl⟩:bl=b2∧ol=o2:=by cases e2;exact ⟨rfl,rfl⟩
        have ky:V2.cell? ⟨bl,ol+q,none⟩=some (.int .i64 y):=(Ly.out.1.cell (p:=⟨bl,ol+q,none⟩) HBL.out).trans hc
        have hyb:(y==(i:Int)+1)=false:=by
         have:¬ y=(i:Int)+1:=fun e=>HMM.out ⟨hqn,by rw [hy,e]⟩;simpa using this
        clear e2 hy hc;gi_wp2;gi_meet;exact ⟨rfl,HB0⟩
       ·
        gi_wp2;gi_meet;exact ⟨rfl,HB0⟩
      case rest =>
       obtain ⟨rfl,hcb⟩:=hcut;rename World=>C2;have hb:=hcb.out;clear hcb;replace Ly:=lyb Ly hb;replace HR:=lh ((HR.out.below hb).more hb.size);clear hb;gi_upto_region 14 with fail
       obtain ⟨ok,hokk⟩:∃ b:Bool,wkOut x all jf v=b:=⟨_,rfl⟩
       have HOKK:=lh hokk;clear hokk
       gi_cut [134] from 104 (fun v134 wx=>v134 = .bool ok∧Hid (Below C2.heap.size C2 wx))
       case first =>
        have HB0:=lh (Below.refl C2.heap.size C2);by_cases hv0:0≤v
        ·
         by_cases hk1:x.kind=1
         ·
          have hk1b:(x.kind != 1)=false:=by simpa using hk1
          have HQ1:=lh hk1;clear hk1;refine wpIn_flow_old [([true,true,true,true,true,true,true,true,true,true,true,false,true],11)] [false,false,false,false,false,false,false,false,false,false,false,false,false,true,true,true,true,true,true,true,true,true,true,true,true,true,true,true,true,true,true] [] (by kernel_rfl) (by kernel_rfl) (by kernel_rfl) (av b_R 1) ?_;refine wpFlow_cons (A:=?AF1) rfl ?hq1 ?_
          case hq1 =>
           rintro σ hσ of hof hcl;have HOF:=lh hof;clear hof hcl;obtain ⟨c0_,c1_,c2_,c3_⟩:=lyz4 Ly HOF 0 rfl;obtain ⟨c4_,c5_,c6_,c7_⟩:=lyz4 Ly HOF 1 rfl;have hfw:=hfT;simp only [bu]
           repeat (gi_big_quiet_step (fail))
           refine wpQuietIn_nil ?_;exact rfl
          intro W6 hW;replace Ly:=lyb Ly hW;replace HR:=lh ((HR.out.below hW).more hW.size);replace HB0:=lh (HB0.out.trans (hW.mono HB0.out.size));clear hW;gi_wp2;refine ⟨trivial,?_⟩;gi_wp2;refine ⟨trivial,b_R,?_⟩;refine wpFlow_nil (A:=?AF2) ?hq2 ?_
          case hq2 =>
           rintro σ hσ of hof hcl;have HOF:=lh hof;clear hof hcl;obtain ⟨c0_,c1_,c2_,c3_⟩:=lyz4 Ly HOF 0 rfl;obtain ⟨c4_,c5_,c6_,c7_⟩:=lyz4 Ly HOF 1 rfl;have hfw:=hfT;simp only [bu]
           repeat (gi_big_quiet_step (fail))
           refine wpQuietIn_nil ?_;exact rfl
          intro W7 hW;replace Ly:=lyb Ly hW;replace HR:=lh ((HR.out.below hW).more hW.size);replace HB0:=lh (HB0.out.trans (hW.mono HB0.out.size));clear hW;simp only [bu];refine cr ?_;gi_wp2;gi_meet;exact ⟨by rw [show ok=false from HOKK.out.symm.trans (decide_eq_false (by exact fun h=>h.2.1 HQ1.out))],HB0⟩
         ·
          have hk1b:(x.kind != 1)=true:=by simpa using hk1
          have HQ1:=lh hk1;have HV0:=lh hv0;clear hk1;by_cases hj:jf=v
          ·
           have hjb:(jf==v)=true:=by simpa using hj
           have HJ:=lh hj;clear hj;by_cases hk4:x.kind=4
           ·
            have hk4b:(x.kind==4)=true:=by simpa using hk4
            have HQ4:=lh hk4;clear hk4;refine wpIn_flow_old [([true,true,true,true,true,true,true,true,true,true,true,false,true],11)] [false,false,false,false,false,false,false,false,false,false,false,false,false,true,true,true,true,true,true,true,true,true,true,true,true,true,true,true,true,true,true] [] (by kernel_rfl) (by kernel_rfl) (by kernel_rfl) (av b_R 1) ?_;refine wpFlow_cons (A:=?AF3) rfl ?hq3 ?_
            case hq3 =>
             rintro σ hσ of hof hcl;have HOF:=lh hof;clear hof hcl;obtain ⟨c0_,c1_,c2_,c3_⟩:=lyz4 Ly HOF 0 rfl;obtain ⟨c4_,c5_,c6_,c7_⟩:=lyz4 Ly HOF 1 rfl;have hfw:=hfT;simp only [bu]
             repeat (gi_big_quiet_step (fail))
             refine wpQuietIn_nil ?_;exact rfl
            intro W8 hW;replace Ly:=lyb Ly hW;replace HR:=lh ((HR.out.below hW).more hW.size);replace HB0:=lh (HB0.out.trans (hW.mono HB0.out.size));clear hW;gi_wp2;refine ⟨trivial,(callsIn_wide.2 (dX Av nv cv Aa na ca At nt ct m x.fr W8 (HM.out.up Ly.out.1))).mono ?_⟩;rintro e W9 ⟨rfl,hb⟩;replace Ly:=lyb Ly hb;replace HR:=lh ((HR.out.below hb).more hb.size);replace HB0:=lh (HB0.out.trans (hb.mono HB0.out.size));rw [HJF.out];gi_wp2;refine ⟨trivial,hb,?_⟩;clear hb;refine wpFlow_nil (A:=?AF4) ?hq4 ?_
            case hq4 =>
             rintro σ hσ of hof hcl;have HOF:=lh hof;clear hof hcl;obtain ⟨c0_,c1_,c2_,c3_⟩:=lyz4 Ly HOF 0 rfl;obtain ⟨c4_,c5_,c6_,c7_⟩:=lyz4 Ly HOF 1 rfl;have hfw:=hfT;simp only [bu]
             repeat (gi_big_quiet_step (fail))
             refine wpQuietIn_nil ?_;exact rfl
            intro W10 hW;replace Ly:=lyb Ly hW;replace HR:=lh ((HR.out.below hW).more hW.size);replace HB0:=lh (HB0.out.trans (hW.mono HB0.out.size));clear hW;simp only [bu];refine cr ?_;gi_wp2;gi_meet;exact ⟨by rw [show ok=true from HOKK.out.symm.trans (decide_eq_true (by exact ⟨HV0.out,HQ1.out,HJ.out,.inl HQ4.out⟩))],HB0⟩
           ·
            have hk4b:(x.kind==4)=false:=by simpa using hk4
            have HQ4:=lh hk4;clear hk4
            obtain ⟨vq,rfl⟩:∃ r:Nat,v=(r:Int):=⟨v.toNat,by omega⟩
            have hvq:vq<4:=by omega
            have HVQ:=lh hvq;have hi9:=HI9.out;rw [HE9.out];have ivq0:(0:Int)≤(vq:Int):=by omega
            have ivq4:(vq:Int)<4:=by omega
            by_cases hd:x.drops=au all (vq:Int)
            ·
             have hdb:(x.drops==au all (vq:Int))=true:=by simpa using hd
             have HD:=lh hd;clear hd;have hrc:=ks HR.out HE9.out HLI.out HI9.out HVQ.out;have HBC:=lh hrc.1;have HCC:=lh hrc.2;clear hrc;refine wpIn_flow_old [([true,true,true,true,true,true,true,true,true,true,true,false,true],11)] [false,false,false,false,false,false,false,false,false,false,false,false,false,true,true,true,true,true,true,true,true,true,true,true,true,true,true,true,true,true,true] [] (by kernel_rfl) (by kernel_rfl) (by kernel_rfl) (av b_R 1) ?_;refine wpFlow_cons (A:=?AF5) rfl ?hq5 ?_
             case hq5 =>
              rintro σ hσ of hof hcl;have HOF:=lh hof;clear hof hcl;obtain ⟨c0_,c1_,c2_,c3_⟩:=lyz4 Ly HOF 0 rfl;obtain ⟨c4_,c5_,c6_,c7_⟩:=lyz4 Ly HOF 1 rfl;have hfw:=hfT;have ch:∀ z,(of z).cell? ⟨b9,o9+i * 4+vq,none⟩=some (.int .i64 (au all (vq:Int))):=fun z=>((HOF.out z).cell (p:=⟨b9,o9+i * 4+vq,none⟩) HBC.out).trans HCC.out;simp only [bu]
              repeat (gi_big_quiet_step (fail))
              refine wpQuietIn_nil ?_;exact rfl
             intro W11 hW;replace Ly:=lyb Ly hW;replace HR:=lh ((HR.out.below hW).more hW.size);replace HB0:=lh (HB0.out.trans (hW.mono HB0.out.size));clear hW;gi_wp2;refine ⟨trivial,(callsIn_wide.2 (dX Av nv cv Aa na ca At nt ct m x.fr W11 (HM.out.up Ly.out.1))).mono ?_⟩;rintro e W12 ⟨rfl,hb⟩;replace Ly:=lyb Ly hb;replace HR:=lh ((HR.out.below hb).more hb.size);replace HB0:=lh (HB0.out.trans (hb.mono HB0.out.size));rw [HJF.out];have hrc:=ks HR.out HE9.out HLI.out HI9.out HVQ.out;replace HBC:=lh hrc.1;replace HCC:=lh hrc.2;clear hrc;gi_wp2;refine ⟨trivial,hb,?_⟩;clear hb;refine wpFlow_nil (A:=?AF6) ?hq6 ?_
             case hq6 =>
              rintro σ hσ of hof hcl;have HOF:=lh hof;clear hof hcl;obtain ⟨c0_,c1_,c2_,c3_⟩:=lyz4 Ly HOF 0 rfl;obtain ⟨c4_,c5_,c6_,c7_⟩:=lyz4 Ly HOF 1 rfl;have hfw:=hfT;have ch:∀ z,(of z).cell? ⟨b9,o9+i * 4+vq,none⟩=some (.int .i64 (au all (vq:Int))):=fun z=>((HOF.out z).cell (p:=⟨b9,o9+i * 4+vq,none⟩) HBC.out).trans HCC.out;simp only [bu]
              repeat (gi_big_quiet_step (fail))
              refine wpQuietIn_nil ?_;exact rfl
             intro W13 hW;replace Ly:=lyb Ly hW;replace HR:=lh ((HR.out.below hW).more hW.size);replace HB0:=lh (HB0.out.trans (hW.mono HB0.out.size));clear hW;simp only [bu];refine cr ?_;gi_wp2;rw [← HE9.out];gi_meet;exact ⟨by rw [show ok=true from HOKK.out.symm.trans (decide_eq_true (by exact ⟨HV0.out,HQ1.out,HJ.out,.inr HD.out⟩))],HB0⟩
            ·
             have hdb:(x.drops==au all (vq:Int))=false:=by simpa using hd
             have HD:=lh hd;clear hd;have hrc:=ks HR.out HE9.out HLI.out HI9.out HVQ.out;have HBC:=lh hrc.1;have HCC:=lh hrc.2;clear hrc;refine wpIn_flow_old [([true,true,true,true,true,true,true,true,true,true,true,false,true],11)] [false,false,false,false,false,false,false,false,false,false,false,false,false,true,true,true,true,true,true,true,true,true,true,true,true,true,true,true,true,true,true] [] (by kernel_rfl) (by kernel_rfl) (by kernel_rfl) (av b_R 1) ?_;refine wpFlow_cons (A:=?AF7) rfl ?hq7 ?_
             case hq7 =>
              rintro σ hσ of hof hcl;have HOF:=lh hof;clear hof hcl;obtain ⟨c0_,c1_,c2_,c3_⟩:=lyz4 Ly HOF 0 rfl;obtain ⟨c4_,c5_,c6_,c7_⟩:=lyz4 Ly HOF 1 rfl;have hfw:=hfT;have ch:∀ z,(of z).cell? ⟨b9,o9+i * 4+vq,none⟩=some (.int .i64 (au all (vq:Int))):=fun z=>((HOF.out z).cell (p:=⟨b9,o9+i * 4+vq,none⟩) HBC.out).trans HCC.out;simp only [bu]
              repeat (gi_big_quiet_step (fail))
              refine wpQuietIn_nil ?_;exact rfl
             intro W14 hW;replace Ly:=lyb Ly hW;replace HR:=lh ((HR.out.below hW).more hW.size);replace HB0:=lh (HB0.out.trans (hW.mono HB0.out.size));clear hW;gi_wp2;refine ⟨trivial,(callsIn_wide.2 (dX Av nv cv Aa na ca At nt ct m x.fr W14 (HM.out.up Ly.out.1))).mono ?_⟩;rintro e W15 ⟨rfl,hb⟩;replace Ly:=lyb Ly hb;replace HR:=lh ((HR.out.below hb).more hb.size);replace HB0:=lh (HB0.out.trans (hb.mono HB0.out.size));rw [HJF.out];have hrc:=ks HR.out HE9.out HLI.out HI9.out HVQ.out;replace HBC:=lh hrc.1;replace HCC:=lh hrc.2;clear hrc;gi_wp2;refine ⟨trivial,hb,?_⟩;clear hb;refine wpFlow_nil (A:=?AF8) ?hq8 ?_
             case hq8 =>
              rintro σ hσ of hof hcl;have HOF:=lh hof;clear hof hcl;obtain ⟨c0_,c1_,c2_,c3_⟩:=lyz4 Ly HOF 0 rfl;obtain ⟨c4_,c5_,c6_,c7_⟩:=lyz4 Ly HOF 1 rfl;have hfw:=hfT;have ch:∀ z,(of z).cell? ⟨b9,o9+i * 4+vq,none⟩=some (.int .i64 (au all (vq:Int))):=fun z=>((HOF.out z).cell (p:=⟨b9,o9+i * 4+vq,none⟩) HBC.out).trans HCC.out;simp only [bu]
              repeat (gi_big_quiet_step (fail))
              refine wpQuietIn_nil ?_;exact rfl
             intro W16 hW;replace Ly:=lyb Ly hW;replace HR:=lh ((HR.out.below hW).more hW.size);replace HB0:=lh (HB0.out.trans (hW.mono HB0.out.size));clear hW;simp only [bu];refine cr ?_;gi_wp2;rw [← HE9.out];gi_meet;exact ⟨by rw [show ok=false from HOKK.out.symm.trans (decide_eq_false (by rintro ⟨_,_,_,h | h⟩;exact HQ4.out h;exact HD.out h))],HB0⟩
          ·
           have hjb:(jf==v)=false:=by simpa using hj
           have HJ:=lh hj;clear hj;refine wpIn_flow_old [([true,true,true,true,true,true,true,true,true,true,true,false,true],11)] [false,false,false,false,false,false,false,false,false,false,false,false,false,true,true,true,true,true,true,true,true,true,true,true,true,true,true,true,true,true,true] [] (by kernel_rfl) (by kernel_rfl) (by kernel_rfl) (av b_R 1) ?_;refine wpFlow_cons (A:=?AF9) rfl ?hq9 ?_
           case hq9 =>
            rintro σ hσ of hof hcl;have HOF:=lh hof;clear hof hcl;obtain ⟨c0_,c1_,c2_,c3_⟩:=lyz4 Ly HOF 0 rfl;obtain ⟨c4_,c5_,c6_,c7_⟩:=lyz4 Ly HOF 1 rfl;have hfw:=hfT;simp only [bu]
            repeat (gi_big_quiet_step (fail))
            refine wpQuietIn_nil ?_;exact rfl
           intro W17 hW;replace Ly:=lyb Ly hW;replace HR:=lh ((HR.out.below hW).more hW.size);replace HB0:=lh (HB0.out.trans (hW.mono HB0.out.size));clear hW;gi_wp2;refine ⟨trivial,(callsIn_wide.2 (dX Av nv cv Aa na ca At nt ct m x.fr W17 (HM.out.up Ly.out.1))).mono ?_⟩;rintro e W18 ⟨rfl,hb⟩;replace Ly:=lyb Ly hb;replace HR:=lh ((HR.out.below hb).more hb.size);replace HB0:=lh (HB0.out.trans (hb.mono HB0.out.size));rw [HJF.out];gi_wp2;refine ⟨trivial,hb,?_⟩;clear hb;refine wpFlow_nil (A:=?AF10) ?hq10 ?_
           case hq10 =>
            rintro σ hσ of hof hcl;have HOF:=lh hof;clear hof hcl;obtain ⟨c0_,c1_,c2_,c3_⟩:=lyz4 Ly HOF 0 rfl;obtain ⟨c4_,c5_,c6_,c7_⟩:=lyz4 Ly HOF 1 rfl;have hfw:=hfT;simp only [bu]
            repeat (gi_big_quiet_step (fail))
            refine wpQuietIn_nil ?_;exact rfl
           intro W19 hW;replace Ly:=lyb Ly hW;replace HR:=lh ((HR.out.below hW).more hW.size);replace HB0:=lh (HB0.out.trans (hW.mono HB0.out.size));clear hW;simp only [bu];refine cr ?_;gi_wp2;gi_meet;exact ⟨by rw [show ok=false from HOKK.out.symm.trans (decide_eq_false (by exact fun h=>HJ.out h.2.2.1))],HB0⟩
        ·
         have HQ1:=lh hv0;refine wpIn_flow_old [([true,true,true,true,true,true,true,true,true,true,true,false,true],11)] [false,false,false,false,false,false,false,false,false,false,false,false,false,true,true,true,true,true,true,true,true,true,true,true,true,true,true,true,true,true,true] [] (by kernel_rfl) (by kernel_rfl) (by kernel_rfl) (av b_R 1) ?_;refine wpFlow_cons (A:=?AF11) rfl ?hq11 ?_
         case hq11 =>
          rintro σ hσ of hof hcl;have HOF:=lh hof;clear hof hcl;obtain ⟨c0_,c1_,c2_,c3_⟩:=lyz4 Ly HOF 0 rfl;obtain ⟨c4_,c5_,c6_,c7_⟩:=lyz4 Ly HOF 1 rfl;have hfw:=hfT;simp only [bu]
          repeat (gi_big_quiet_step (fail))
          refine wpQuietIn_nil ?_;exact rfl
         intro W20 hW;replace Ly:=lyb Ly hW;replace HR:=lh ((HR.out.below hW).more hW.size);replace HB0:=lh (HB0.out.trans (hW.mono HB0.out.size));clear hW;gi_wp2;refine ⟨trivial,?_⟩;gi_wp2;refine ⟨trivial,b_R,?_⟩;refine wpFlow_nil (A:=?AF12) ?hq12 ?_
         case hq12 =>
          rintro σ hσ of hof hcl;have HOF:=lh hof;clear hof hcl;obtain ⟨c0_,c1_,c2_,c3_⟩:=lyz4 Ly HOF 0 rfl;obtain ⟨c4_,c5_,c6_,c7_⟩:=lyz4 Ly HOF 1 rfl;have hfw:=hfT;simp only [bu]
          repeat (gi_big_quiet_step (fail))
          refine wpQuietIn_nil ?_;exact rfl
         intro W21 hW;replace Ly:=lyb Ly hW;replace HR:=lh ((HR.out.below hW).more hW.size);replace HB0:=lh (HB0.out.trans (hW.mono HB0.out.size));clear hW;simp only [bu];refine cr ?_;gi_wp2;gi_meet;exact ⟨by rw [show ok=false from HOKK.out.symm.trans (decide_eq_false (by intro h;have h1:=h.1;have h2:=HQ1.out;omega))],HB0⟩
       case rest =>
        obtain ⟨rfl,hcb⟩:=hcut;rename World=>C3;have hb:=hcb.out;clear hcb;replace Ly:=lyb Ly hb;replace HR:=lh ((HR.out.below hb).more hb.size);clear hb
        cases ok with
        | true =>
         have hw:dT m L f k (idxV m.vessels vessel) l=false:=j2 (t:=i+1) (by
          rw [HSTEP.out,HWK.out,Option.bind_some,HST.out,HJF.out,if_pos (of_decide_eq_true HOKK.out)]) (by omega)
         have HW:=lh hw;clear hw;gi_wp2;refine bodyPost_ret (v:=.bool false) (by simp [results,Tryz.results39,go_sem]) rfl ?_;exact ⟨by rw [HW.out],Ly.out.1⟩
        | false =>
         have HNX:Hid (fH m L f l (i+1)=some (v,q)):=lh (by
          rw [HSTEP.out,HWK.out,Option.bind_some,HST.out,HJF.out,if_neg (of_decide_eq_false HOKK.out)])
         gi_wp2;refine ⟨⟨i+1,v,q,lh ⟨by omega,HNX.out,by omega,by omega,Ly.out.sub (by intro b hb;simp only [List.mem_cons,List.not_mem_nil,or_false] at hb ⊢;rcases hb with rfl;simp [HAA.out]),HR.out⟩,by rw [show ((i+1:Nat):Int)=(i:Int)+1 from by omega];first | (constructor;done) | (rw [HAA.out];constructor;done)⟩,?_⟩;simp [intOf];omega
    ·
     obtain rfl:i=k:=by omega
     obtain ⟨jv,hjv⟩:∃ j,idxV m.vessels vessel=j:=⟨_,rfl⟩
     have HEND:Hid (dT m L f i (idxV m.vessels vessel) l=decide (v=jv∧q=n)):=lh (by
      rw [HB.out,HWK.out,hjv]
      simp)
     have HJV:=lh hjv;clear hjv;by_cases hq:q=n
     ·
      have hqb:((q:Int)==(n:Int))=true:=by simp;omega
      have HQ1:=lh hq;clear hq;obtain ⟨x0_0,x0_1,x0_2,x0_3⟩:=lyc4 Ly 0 rfl;have l0_:=Ly.out.lt 0 rfl;gi_wp2;clear x0_0 x0_1 x0_2 x0_3 l0_;refine ⟨trivial,(callsIn_wide.2 (dX Av nv cv Aa na ca At nt ct m vessel W (HM.out.up Ly.out.1))).mono ?_⟩;rintro e W22 ⟨rfl,hb⟩;replace Ly:=lyb Ly hb;replace HR:=lh ((HR.out.below hb).more hb.size);clear hb;rw [HJV.out];by_cases hv:v=jv
      ·
       have hvb:(v==jv)=true:=by simpa using hv
       have HV:=lh hv;clear hv;gi_wp2;refine bodyPost_ret (v:=.bool true) (by simp [results,Tryz.results39,go_sem]) rfl ?_;exact ⟨by rw [HEND.out,decide_eq_true ⟨HV.out,HQ1.out⟩],Ly.out.1⟩
      ·
       have hvb:(v==jv)=false:=by simpa using hv
       have HV:=lh hv;clear hv;gi_wp2;refine bodyPost_ret (v:=.bool false) (by simp [results,Tryz.results39,go_sem]) rfl ?_;exact ⟨by rw [HEND.out,decide_eq_false fun h=>HV.out h.1],Ly.out.1⟩
     ·
      have hqb:((q:Int)==(n:Int))=false:=by simp;omega
      have HQ1:=lh hq;clear hq;obtain ⟨x0_0,x0_1,x0_2,x0_3⟩:=lyc4 Ly 0 rfl;have l0_:=Ly.out.lt 0 rfl;gi_wp2;clear x0_0 x0_1 x0_2 x0_3 l0_
      try (refine ⟨trivial,?_⟩;gi_wp2)
      refine bodyPost_ret (v:=.bool false) (by simp [results,Tryz.results39,go_sem]) rfl ?_;exact ⟨by rw [HEND.out,decide_eq_false (fun h=>HQ1.out h.2)],Ly.out.1⟩
end
section
def iP (a s:Nat):List Int:=((List.range a).filter fun k=>s.testBit k).map fun k:Nat=>(k:Int)+1
theorem qV (a s:Nat):iP (a+1) s=iP a s++if s.testBit a then [(a:Int)+1] else []:=by
 unfold iP;rw [List.range_succ,List.filter_append,List.map_append]
 congr 1
 cases h:s.testBit a<;>simp [h]
theorem sE (a s:Nat):(iP a s).length≤a:=by
 unfold iP;rw [List.length_map];exact Nat.le_trans (List.length_filter_le _ _) (by simp)
end
section
open Go.RowKit Go.Lib
theorem sR (i:Nat)(hi:i<65536):bits BinOp.and IntKind.u16 (i:Int) 1=((i % 2:Nat):Int):=by
 have two16:(2:Int) ^ 16=65536:=by decide
 have h:=bits_mask .u16 16 (by decide) (fun n h0 h1=>by rw [two16] at h1;unfold IntKind.wrap;simp [IntKind.bits,IntKind.signed];omega) 1 (by decide) (i:Int) (by omega) (by rw [two16];omega);have e:((2:Int) ^ 1 - 1)=1:=by decide
 rw [e] at h;rw [h];omega
theorem tV (s:Nat)(hs:s<65536)(i:Nat):(bits BinOp.and IntKind.u16 ((s:Int) / 2 ^ i) 1==1)=s.testBit i:=by
 have h1:((s:Int) / 2 ^ i)=((s / 2 ^ i:Nat):Int):=by norm_cast
 have h2:s / 2 ^ i<65536:=Nat.lt_of_le_of_lt (Nat.div_le_self _ _) hs;rw [h1,sR _ h2,Nat.testBit_eq_decide_div_mod_eq];by_cases e:s / 2 ^ i % 2=1
 ·rw [e];rfl
 ·have e0:s / 2 ^ i % 2=0:=by omega
  rw [e0];rfl
end
section
open Go.RowKit Go.Shelf
attribute [local go_sem] Oper.semAt_some
inductive xt (v0 v1 v5:Value):Act→Prop
 | mk (a b c d e f g h i j k l m n o p q r s t w x y z A B C D E F G H I J K L M:Value):xt v0 v1 v5 ⟨#[v0,v1,a,b,c,v5,d,e,f,g,h,i,j,k,l,m,n,o,p,q,r,s,t,w,x,y,z,A,B,C,D,E,F,G,H,I,J,K,L,M],[]⟩
theorem ro (A:Option Addr)(n c:Nat)(a:List Int)(B:Option Addr)(m d:Nat)(b:List Int)(w:World)(ha:cp w w.heap.size A n a)(hb:cp w w.heap.size B m b)(hn:n≤1000)(hm:m≤1000) :
  CallsIn Fence.wide 9 Tryz.prog 40 #[.slice A n c,.slice B m d] w fun e w'=>e = .returned (.bool (decide (cmpS a b<0)))∧Below w.heap.size w w':=by
 have la:a.length=n:=ha.len;have lb:b.length=m:=hb.len;have HA:=lh ha;have HB:=lh hb;have hsp:cmpS a b=if n<m then -1 else if m<n then 1 else cmpL a b:=by unfold cmpS;rw [la,lb]
 obtain ⟨cs,hcs⟩:∃ cs,cmpS a b=cs:=⟨_,rfl⟩
 rw [hcs] at hsp ⊢;have HSP:=lh hsp;have LA:=lh la;have LB:=lh lb;clear ha hb hsp hcs la lb;refine callsIn_of_wp Tryz.func40 rfl trivial ?_ rfl;simp only [Tryz.ntmps40,es,Nat.reduceAdd,Nat.reduceSub];by_cases hnm:n=m
 ·subst hnm
  gi_wp2;refine wpIn_loop (fun a' W=>∃ (k:Nat),Hid (k≤n∧cmpL a b=cmpL (a.drop k) (b.drop k)∧Below w.heap.size w W)∧xt (.slice A n c) (.slice B n d) (.int .i64 (k:Int)) a') (fun a' _=>n - (intOf (a'.tmps.getD 5 undef)).toNat) ?_ ?_
  ·exact ⟨0,lh ⟨Nat.zero_le _,by simp,b_R⟩,by constructor⟩
  rintro a' W ⟨k,HK,hf⟩;cases hf;by_cases hlt:k<n
  ·obtain ⟨b1,o1,x,hA1,h1,hx,cx⟩:=(HA.out.below HK.out.2.2).cell hlt
   obtain ⟨b2,o2,y,hB1,h2,hy,cy⟩:=(HB.out.below HK.out.2.2).cell hlt;have HX:=lh hx;have HY:=lh hy;have hsz:=HK.out.2.2.size;have HA1:=lh hA1;have HB1:=lh hB1;rw [hA1,hB1];clear hx hy hA1 hB1;by_cases hxy:x=y
   ·subst hxy
    gi_wp2
    gi_region
    all_goals
     gi_wp2;refine ⟨⟨k+1,lh ⟨hlt,by rw [HK.out.2.1,g7 HX.out HY.out,if_neg (by omega),if_neg (by omega)],av HK.out.2.2 1⟩,by rw [show ((k+1:Nat):Int)=(k:Int)+1 from by omega];constructor⟩,?_⟩;simp [intOf]<;>omega
   ·have hxyb:(x != y)=true:=by simpa using hxy
    have HXY:=lh hxy;clear hxy;gi_wp2
    gi_region
    all_goals
     gi_wp2
     gi_region
     all_goals
      gi_wp2;refine bodyPost_ret (v:=.bool (decide (x<y))) (by simp [results,Tryz.results40,go_sem]) rfl ?_;refine ⟨?_,av (av HK.out.2.2 1) 1⟩;rw [HSP.out,if_neg (by omega),if_neg (by omega),HK.out.2.1,g7 HX.out HY.out];have hxy:=HXY.out;by_cases h9:x<y
      ·rw [if_pos h9];simp [h9]
      ·rw [if_neg h9,if_pos (by omega)];simp [h9]
  ·obtain rfl:k=n:=by have:=HK.out.1;omega
   gi_wp2;refine bodyPost_ret (v:=.bool false) (by simp [results,Tryz.results40,go_sem]) rfl ?_;refine ⟨?_,HK.out.2.2⟩;rw [HSP.out,if_neg (by omega),if_neg (by omega),HK.out.2.1,List.drop_eq_nil_of_le (by rw [LA.out];exact n_R),List.drop_eq_nil_of_le (by rw [LB.out];exact n_R)];rfl
 ·have hb:((n:Int) != (m:Int))=true:=by simpa using (show ¬ (n:Int)=(m:Int) by omega)
  gi_wp2;refine bodyPost_ret (v:=.bool (decide (n<m))) (by simp [results,Tryz.results40,go_sem]) rfl ?_;refine ⟨?_,b_R⟩;rw [HSP.out];by_cases h9:n<m
  ·rw [if_pos h9];simp [h9]
  ·rw [if_neg h9,if_pos (by omega)];simp [h9]
end
section
open Go.RowKit Go.Shelf
attribute [local go_sem] Oper.semAt_some
inductive FrPb (v4 v5 v11 v12 v13 v14 v15 v16 v20 v21:Value):Act→Prop
 | mk (a b c d e f g h i j k l m n o p q r s t w x y z A B C D E F G H I J K L M N O P Q R S T U V W X Y Z aa ab ac ad ae af ag ah ai aj ak al am an ao ap aq ar aw ax ay az aA aB aC aD aE aF aG aH aI aJ aK aL aM aN aO aP aQ aR aS aT aU aV aW aX aY aZ a0 a1 a2 a3 a4 a5 a6 a7 a8 a9 ba bb bc bd be bf bg bh bi bj bk bl bm bn bo bp bq br bs bt bw bx bz bA bB bC bD bE:Value):FrPb v4 v5 v11 v12 v13 v14 v15 v16 v20 v21 ⟨#[a,b,c,d,v4,v5,e,f,g,h,i,v11,v12,v13,v14,v15,v16,j,k,l,v20,v21,m,n,o,p,q,r,s,t,w,x,y,z,A,B,C,D,E,F,G,H,I,J,K,L,M,N,O,P,Q,R,S,T,U,V,W,X,Y,Z,aa,ab,ac,ad,ae,af,ag,ah,ai,aj,ak,al,am,an,ao,ap,aq,ar,aw,ax,ay,az,aA,aB,aC,aD,aE,aF,aG,aH,aI,aJ,aK,aL,aM,aN,aO,aP,aQ,aR,aS,aT,aU,aV,aW,aX,aY,aZ,a0,a1,a2,a3,a4,a5,a6,a7,a8,a9,ba,bb,bc,bd,be,bf,bg,bh,bi,bj,bk,bl,bm,bn,bo,bp,bq,br,bs,bt,bw,bx,bz,bA,bB,bC,bD,bE],[]⟩
theorem vT (Av:Option Addr)(nv cv:Nat)(Aa:Option Addr)(na ca:Nat)(At:Option Addr)(nt ct:Nat)(m:Mix)(vessel after which bits:Nat)(w:World)(h:dy w w.heap.size Av nv Aa na At nt m)(hca:na≤ca∧ca≤maxLen)(h_vessel:vessel≤255)(h_after:after≤255)(h_which:which≤255)(h_bits:bits≤65535) :
  CallsIn Fence.wide 9 Tryz.prog 7 #[.agg #[.int .i64 m.fountains,.slice Av nv cv,.slice Aa na ca,.slice At nt ct],.int .u8 vessel,.int .u8 after,.int .u8 which,.int .u16 bits] w (vc w):=by
 have HM:=lh h;have HCA:=lh hca;clear hca;clear h;refine callsIn_of_wp Tryz.func7 rfl trivial ?_ rfl;simp only [Tryz.ntmps7,es,Nat.reduceAdd,Nat.reduceSub];gi_upto_region 1 with fail
 have Ly:=lh (Lay.one w 26 #[.int .i64 m.fountains,.slice Av nv cv,.slice Aa na ca,.slice At nt ct]);generalize (w.alloc (.cells #[.int .i64 m.fountains,.slice Av nv cv,.slice Aa na ca,.slice At nt ct] 26))=w0 at *;gi_wp2;refine ⟨trivial,(c_W (uu w0)).mono ?_⟩;rintro e W1 ⟨rfl,hb⟩;replace Ly:=lyb Ly hb;clear hb;obtain ⟨x0_0,x0_1,x0_2,x0_3⟩:=lyc4 Ly 0 rfl;have l0_:=Ly.out.lt 0 rfl;gi_wp2;clear x0_0 x0_1 x0_2 x0_3 l0_;refine ⟨trivial,(c_W (wg Av nv cv Aa na ca At nt ct m W1 (HM.out.up Ly.out.1))).mono ?_⟩;rintro e W2 ⟨rfl,hb⟩;replace Ly:=lyb Ly hb;clear hb
 cases hr:kG nv na nt m with
 | false =>
  clear hr;gi_wp2;refine bodyPost_ret (v:=.bool true) (by simp [results,Tryz.results7,go_sem]) rfl ?_;exact ⟨rfl,Ly.out.1⟩
 | true =>
  have hok:=(py hr).2;have hvs:=cM hok;have hl1:=HM.out.lenV;have hl2:=HM.out.lenA;have hl3:=HM.out.lenT
  have hsx:MixS w Av nv Aa na At nt m:=⟨HM.out,by omega,by omega,by omega⟩
  have HMS:=lh hsx;have HOK:=lh hok;have HL1:=lh hl1;have HL2:=lh hl2;have HL3:=lh hl3;have hnv:nv≤4:=by omega
  have hna:na≤12:=by omega
  have hnt:nt≤8:=by omega
  have hF:1≤m.fountains∧m.fountains≤4:=by omega
  have HFF:=lh hF;clear hr hok hvs hsx hl1 hl2 hl3 hF;by_cases hv0:nv=0
  ·
   have hv0b:(((nv:Nat):Int)==0)=true:=by simp;omega
   obtain ⟨x0_0,x0_1,x0_2,x0_3⟩:=lyc4 Ly 0 rfl;have l0_:=Ly.out.lt 0 rfl;gi_wp2;clear x0_0 x0_1 x0_2 x0_3 l0_;refine bodyPost_ret (v:=.bool true) (by simp [results,Tryz.results7,go_sem]) rfl ?_;exact ⟨rfl,Ly.out.1⟩
  ·
   have hv0b:(((nv:Nat):Int)==0)=false:=by simp;omega
   have hv1:0<nv:=by omega
   obtain ⟨F,hFn⟩:∃ F:Nat,m.fountains=(F:Int):=⟨m.fountains.toNat,by have:=HFF.out;omega⟩
   have hF4:1≤F∧F≤4:=by have:=HFF.out;omega
   have HFn:=lh hFn;have dz_F:¬ m.fountains=0:=by omega
   have dy_F:(m.fountains==0)=false:=by simp;omega
   clear hFn;obtain ⟨x0_0,x0_1,x0_2,x0_3⟩:=lyc4 Ly 0 rfl;have l0_:=Ly.out.lt 0 rfl;gi_upto_region 4 with fail
   clear x0_0 x0_1 x0_2 x0_3 l0_;have hlt_i1:vessel % nv<nv:=Nat.mod_lt _ (by omega);have tm_i1:Int.tmod (vessel:Int) ((nv:Nat):Int)=((vessel % nv:Nat):Int):=by rw [Int.tmod_eq_emod_of_nonneg (by omega)];push_cast;rfl
   obtain ⟨i1,hq_i1⟩:∃ r,vessel % nv=r:=⟨_,rfl⟩
   rw [hq_i1] at hlt_i1 tm_i1;clear hq_i1;have wx_i1:IntKind.i64.wrap (vessel:Int)=(vessel:Int):=IntWalk.i64_in _ (by omega);have dz_nv:¬ ((nv:Int):Int)=0:=by omega
   have dy_nv:(((nv:Int):Int)==0)=false:=by simp;omega
   have hlt_t1:after % (na+1)<(na+1):=Nat.mod_lt _ (by omega);have tm_t1:Int.tmod (after:Int) ((na:Int)+1)=((after % (na+1):Nat):Int):=by rw [Int.tmod_eq_emod_of_nonneg (by omega)];push_cast;rfl
   obtain ⟨t1,hq_t1⟩:∃ r,after % (na+1)=r:=⟨_,rfl⟩
   rw [hq_t1] at hlt_t1 tm_t1;clear hq_t1;have wx_t1:IntKind.i64.wrap (after:Int)=(after:Int):=IntWalk.i64_in _ (by omega);have dz_na:¬ (((na:Int)+1):Int)=0:=by omega
   have dy_na:((((na:Int)+1):Int)==0)=false:=by simp;omega
   have hlt_r:which % F<F:=Nat.mod_lt _ (by omega);have tm_r:Int.tmod (which:Int) m.fountains=((which % F:Nat):Int):=by rw [HFn.out,Int.tmod_eq_emod_of_nonneg (by omega)];push_cast;rfl
   obtain ⟨r,hq_r⟩:∃ r,which % F=r:=⟨_,rfl⟩
   rw [hq_r] at hlt_r tm_r;clear hq_r;have wx_r:IntKind.i64.wrap (which:Int)=(which:Int):=IntWalk.i64_in _ (by omega);obtain ⟨bv,off,x1,rfl,hbv,hx_x1,hc_x1,_⟩:=HM.out.vess hlt_i1;have HBV0:=lh hbv;have HX_x1:=lh hx_x1;have HC_x1:=lh hc_x1;have HI_x1:=lh (wy HOK.out hx_x1);clear hx_x1 hc_x1;refine wpIn_flow_old [] [true,true,true,true,true,true,true,true,true,true,true,true,true,true,true,true,true,true,true,true,true,true,true,true,true,true,true] [] (by kernel_rfl) (by kernel_rfl) (by kernel_rfl) (av b_R 1) ?_;refine wpFlow_nil (A:=?AF1) ?hq1 ?_
   case hq1 =>
    rintro σ hσ of hof hcl;have HOF:=lh hof;clear hof hcl;obtain ⟨c0_,c1_,c2_,c3_⟩:=lyz4 Ly HOF 0 rfl;have hfw:=hfT;have hv_x1:∀ z,(of z).cell? ⟨bv,off+i1 * 2,none⟩=some (.int .i64 x1.id):=fun z=>((Ly.out.1.trans ((HOF.out z).mono Ly.out.1.size)).cell (p:=⟨bv,off+i1 * 2,none⟩) HBV0.out).trans HC_x1.out;have i0_i1:(0:Int)≤(i1:Int):=by omega
    have i1_i1:(i1:Int)<(nv:Int):=by omega
    simp only [bu]
    repeat (gi_big_quiet_step (fail))
    refine wpQuietIn_nil ?_;exact rfl
   intro W3 hW;replace Ly:=lyb Ly hW;clear hW;simp only [bu];refine cr ?_
   obtain ⟨f,hf⟩:∃ f:Int,1+(r:Int)=f:=⟨_,rfl⟩
   rw [hf];have HFB:Hid (1≤f∧f≤m.fountains):=lh (by have:=HFn.out;omega);have HV0:Hid (0≤idxV m.vessels x1.id):=lh (by rw [HI_x1.out];omega);have HT0:Hid ((0:Int)≤(t1:Nat)∧((t1:Nat):Int)≤m.acts.length):=lh (by have:=HL2.out;omega);obtain ⟨L,hL⟩:=tq HOK.out;have HLL:=lh hL;clear hf hL;obtain ⟨x0_0,x0_1,x0_2,x0_3⟩:=lyc4 Ly 0 rfl;have l0_:=Ly.out.lt 0 rfl;gi_wp2;clear x0_0 x0_1 x0_2 x0_3 l0_;refine ⟨trivial,(c_W (sp (some ⟨bv,off,none⟩) nv cv Aa na ca At nt ct m x1.id (t1:Nat) f W3 (HMS.out.up Ly.out.1) HCA.out)).mono ?_⟩;rintro e W4 ⟨pl,pA,pn,pc,pe,rfl,hma,hpi,hp13,hb,hpx⟩;replace Ly:=lyb Ly hb;clear hb;have HPI:=lh hma;have HIPz:=lh hpi;have HP13:=lh hp13;clear hma hpi hp13 hpx;have HBV:=lh (Below.refl W4.heap.size W4);obtain ⟨x0_0,x0_1,x0_2,x0_3⟩:=lyc4 Ly 0 rfl;have l0_:=Ly.out.lt 0 rfl;gi_wp2;clear x0_0 x0_1 x0_2 x0_3 l0_;refine ⟨trivial,(c_W (w7 (some ⟨bv,off,none⟩) nv cv Aa na ca At nt ct m W4 (HMS.out.up Ly.out.1))).mono ?_⟩;rintro e W5 ⟨A1,c1,A2,c2,A3,c3,rfl,hmo,hb⟩;replace Ly:=lyb Ly hb;replace HBV:=lh (HBV.out.trans (hb.mono HBV.out.size));clear hb;have HTW:=lh hmo;clear hmo;have HW0:=lh (Ly.out.lt 0 rfl);have HZ_HBV:=lh HBV.out.size;gi_upto_region 7 with fail
   obtain ⟨V6,hV⟩:∃ V,(W5.alloc (.cells #[.int .i64 m.fountains,.slice A1 nv c1,.slice A2 na c2,.slice A3 nt c3] 26))=V:=⟨_,rfl⟩
   rw [hV];have hb:=cX hV;have hnew:=cZ hV;have hge:=Ly.out.bel.size;replace Ly:=lyb Ly hb;replace HBV:=lh (HBV.out.trans (hb.mono HBV.out.size));replace HTW:=lh (HTW.out.below hb);replace Ly:=lh (Ly.out.add hge hnew);clear hnew hge hb hV
   obtain ⟨G7,hG⟩:∃ g,W5.heap.size=g:=⟨_,rfl⟩
   rw [hG] at Ly ⊢;have HG_:=lh hG;clear hG;replace Ly:=lh (show Lay w V6 [(w.heap.size,26,#[.int .i64 m.fountains,.slice (some ⟨bv,off,none⟩) nv cv,.slice Aa na ca,.slice At nt ct]),(G7,26,#[.int .i64 m.fountains,.slice A1 nv c1,.slice A2 na c2,.slice A3 nt c3])] from Ly.out);have x1_0:=lyc Ly 1 rfl 0;have z1_0:=lyf Ly 1 rfl 0;have x1_1:=lyc Ly 1 rfl 1;have z1_1:=lyf Ly 1 rfl 1;have x1_2:=lyc Ly 1 rfl 2;have z1_2:=lyf Ly 1 rfl 2;have x1_3:=lyc Ly 1 rfl 3;have z1_3:=lyf Ly 1 rfl 3;have l1_:=Ly.out.lt 1 rfl;gi_upto_region 8 with fail
   clear x1_0 z1_0 x1_1 z1_1 x1_2 z1_2 x1_3 z1_3 l1_;have hgs:=cE (row:=some G7) (cW V6 _) (p:=⟨G7,3,none⟩) (.inl rfl) (.slice none 0 0);have HMO2:Hid (dQ V6 _ A1 nv c1 A2 na c2 none 0 0 (dD m [])):=lh ⟨HTW.out.v,HTW.out.a,Own.none_ _ _ _ _⟩;have HMO3:=lh (HMO2.out.offB (Ly.out.blk 1 rfl) hgs)
   have hne:∀ p∈([(w.heap.size,26,#[.int .i64 m.fountains,.slice (some ⟨bv,off,none⟩) nv cv,.slice Aa na ca,.slice At nt ct])]:List (Nat × TypeId × Array Value)),p.1≠G7:=by
    intro p hp;simp only [List.mem_cons,List.not_mem_nil,or_false] at hp;have h1:=HW0.out;have h2:=HG_.out
    rcases hp with rfl<;>(intro e;dsimp only at e;omega)
   have hl:=Lay.setLast (bs:=[(w.heap.size,26,#[.int .i64 m.fountains,.slice (some ⟨bv,off,none⟩) nv cv,.slice Aa na ca,.slice At nt ct])]) Ly.out hne 3 (.slice none 0 0);replace HBV:=lh (HBV.out.setCell (p:=⟨G7,3,none⟩) (by have h1:=HZ_HBV.out;have h2:=HG_.out;dsimp only;omega) (.slice none 0 0));clear HZ_HBV;generalize V6.setCell ⟨G7,3,none⟩ (.slice none 0 0)=V8 at *;replace Ly:=lh (show Lay w V8 [(w.heap.size,26,#[.int .i64 m.fountains,.slice (some ⟨bv,off,none⟩) nv cv,.slice Aa na ca,.slice At nt ct]),(G7,26,#[.int .i64 m.fountains,.slice A1 nv c1,.slice A2 na c2,.slice none 0 0])] from hl);replace HTW:=HMO3;clear hgs hl HMO2 HMO3 hne HW0 HG_;obtain ⟨x1_0,x1_1,x1_2,x1_3⟩:=lyc4 Ly 1 rfl;have l1_:=Ly.out.lt 1 rfl;gi_wp2;clear x1_0 x1_1 x1_2 x1_3 l1_;refine ⟨trivial,(c_W (rH A1 nv c1 A2 na c2 none 0 0 (dD m []) x1.id (t1:Nat) f V8 (HTW.out.s (by omega) (by omega) (by omega)))).mono ?_⟩;rintro e W9 ⟨s1,s2,eg,rfl,hma,hb⟩;replace Ly:=lyb Ly hb;replace HBV:=lh (HBV.out.trans (hb.mono HBV.out.size));replace HTW:=lh (HTW.out.below hb);clear hb;have hlaw:=ud HOK.out HLL.out HV0.out HT0.out HFB.out HPI.out hma;rw [Int.toNat_natCast] at hlaw;obtain ⟨rfl,hw1,hw2,hw3,hw4⟩:=hlaw;have HW1:=lh hw1;have HW2:=lh hw2;have HW3:=lh hw3;have HW4:=lh hw4;clear hma hw1 hw2 hw3 hw4;gi_upto_region 9 with fail
   obtain ⟨V10,hV⟩:∃ V,(W9.alloc (.cells #[.int .i64 s1,.int .i64 s2] 54))=V:=⟨_,rfl⟩
   rw [hV];have hb:=cX hV;have hnew:=cZ hV;have hge:=Ly.out.bel.size;replace Ly:=lyb Ly hb;replace HBV:=lh (HBV.out.trans (hb.mono HBV.out.size));replace HTW:=lh (HTW.out.below hb);replace Ly:=lh (Ly.out.add hge hnew);clear hnew hge hb hV
   obtain ⟨G11,hG⟩:∃ g,W9.heap.size=g:=⟨_,rfl⟩
   rw [hG] at Ly ⊢;clear hG;replace Ly:=lh (show Lay w V10 [(w.heap.size,26,#[.int .i64 m.fountains,.slice (some ⟨bv,off,none⟩) nv cv,.slice Aa na ca,.slice At nt ct]),(G7,26,#[.int .i64 m.fountains,.slice A1 nv c1,.slice A2 na c2,.slice none 0 0]),(G11,54,#[.int .i64 s1,.int .i64 s2])] from Ly.out);have HIP:=lh (ss HIPz.out HBV.out);clear HBV HIPz HTW
   gi_cut [110] from 80 (fun v110 wx=>v110 = .bool false∧Hid (Below V10.heap.size V10 wx))
   case first =>
    have HB0:=lh (Below.refl V10.heap.size V10);have ht9:t1≤na:=by omega
    rcases HW1.out with e0 | e6
    ·
     subst e0;have hpos:=HW2.out.1 rfl;have q1:decide (0<s2)=true:=decide_eq_true hpos;have HWY:=lh (HW3.out rfl);obtain ⟨x0_0,x0_1,x0_2,x0_3⟩:=lyc4 Ly 0 rfl;have l0_:=Ly.out.lt 0 rfl;obtain ⟨x2_0,x2_1⟩:=lyc2 Ly 2 rfl;have l2_:=Ly.out.lt 2 rfl;gi_wp2;clear x0_0 x0_1 x0_2 x0_3 l0_ x2_0 x2_1 l2_;refine ⟨trivial,(c_W (nV (some ⟨bv,off,none⟩) nv cv Aa na ca At nt ct m pA pn pc pl x1.id t1 f L V10 (HMS.out.up Ly.out.1) HCA.out HOK.out HLL.out HIP.out (by have:=HP13.out;omega) (by omega))).mono ?_⟩;rintro e W12 ⟨rfl,hb⟩;replace Ly:=lyb Ly hb;replace HIP:=lh ((HIP.out.below hb).more hb.size);replace HB0:=lh (HB0.out.trans (hb.mono HB0.out.size));clear hb;rw [(lL HLL.out (cM HOK.out).1 (by have:=HL2.out;omega)).2 HWY.out];gi_wp2;gi_meet;exact ⟨rfl,HB0⟩
    ·
     subst e6;have hpos:¬ 0<s2:=fun h=>by have:=HW2.out.2 h;omega
     have q1:decide (0<s2)=false:=decide_eq_false hpos;clear hpos;obtain ⟨x0_0,x0_1,x0_2,x0_3⟩:=lyc4 Ly 0 rfl;have l0_:=Ly.out.lt 0 rfl;obtain ⟨x2_0,x2_1⟩:=lyc2 Ly 2 rfl;have l2_:=Ly.out.lt 2 rfl;gi_wp2;clear x0_0 x0_1 x0_2 x0_3 l0_ x2_0 x2_1 l2_
     try (refine ⟨trivial,?_⟩;gi_wp2)
     gi_meet;exact ⟨rfl,HB0⟩
   case rest =>
    obtain ⟨rfl,hcb⟩:=hcut;rename World=>C1;have hb:=hcb.out;clear hcb;replace Ly:=lyb Ly hb;replace HIP:=lh ((HIP.out.below hb).more hb.size);clear hb;have ht9:t1≤na:=by omega
    have HBIT:Hid (∀ i:Nat,(Go.bits BinOp.and IntKind.u16 ((bits:Int) / 2 ^ i) 1==1)=bits.testBit i):=lh (tV bits (by omega));have ht12:t1≤12:=by omega
    gi_wp2;refine wpIn_loop (fun a U=>∃ (n:Nat) (cA:Option Addr) (cn cc:Nat),Hid (n≤t1∧Own U C1.heap.size 3 1 cA cn cc ((iP n bits).map (Value.int .i64))∧Below C1.heap.size C1 U)∧FrPb (.int .u16 bits) (.pointer (some ⟨w.heap.size,0,none⟩)) (.bool true) (.int .i64 x1.id) (.int .i64 (t1:Nat)) (.int .i64 f) (.slice pA pn pc) (.int .i64 pe) (.slice cA cn cc) (.int .i64 ((n:Int)+1)) a) (fun a _=>t1+1 - (intOf (a.tmps.getD 21 undef)).toNat) ?_ ?_
    ·exact ⟨0,none,0,0,lh ⟨Nat.zero_le _,Own.none_ _ _ _ _,b_R⟩,by constructor⟩
    rintro a U13 ⟨n,cA,cn,cc,HL6,ha⟩;cases ha
    have hcl:(iP n bits).length=cn∧cn≤12:=by
     have h1:=HL6.out.2.1.len;have h2:=sE n bits;have h3:=HL6.out.1;rw [List.length_map] at h1;omega
    by_cases hnk:n<t1
    ·
     have hbit:=HBIT.out n;have HB6:=lh (qV n bits)
     cases hb2:bits.testBit n with
     | false =>
      rw [hb2] at hbit;have HB2:=lh hb2;clear hb2;gi_wp2;refine ⟨⟨n+1,cA,cn,cc,lh ⟨by omega,by rw [HB6.out,HB2.out,if_neg (by decide),List.append_nil];exact HL6.out.2.1,HL6.out.2.2⟩,by rw [show ((n+1:Nat):Int)=(n:Int)+1 from by omega];constructor⟩,?_⟩;simp [intOf]<;>omega
     | true =>
      rw [hb2] at hbit;have HB2:=lh hb2;clear hb2;have hus:=HL6.out.2.2.size;have hin:cp (U13.alloc (.cells #[.int .i64 ((n:Int)+1)] 3)) (U13.heap.size+1) (some ⟨U13.heap.size,0,none⟩) 1 [(n:Int)+1]:=cp.new U13 3 [(n:Int)+1] (U13.heap.size+1) (by omega);have HIN:=lh hin;clear hin
      gi_wp2_with (first | (gi_at_builtin;refine cC rfl (.tmp 122) (.tmp 124) (by rfl) d6 rfl (HL6.out.2.1.alloc _) rfl HIN.out (d8 [(n:Int)+1]) (by unfold maxLen;omega) (by omega) (by simp;omega) ?_) | fail)
      rintro A9 c9 U9 hown hg hA;have HO9:=lh (show Own U9 C1.heap.size 3 1 A9 (cn+1) c9 ((iP (n+1) bits).map (Value.int .i64)) from by rw [HB6.out,HB2.out,if_pos rfl,List.map_append];exact hown);have HB9:=lh (show Below C1.heap.size C1 U9 from (HL6.out.2.2.alloc hus _).grown hg (by simp;omega) (fun k e=>(dB HL6.out.2.1 k e).1));clear hown hg hA HIN;gi_wp2;refine ⟨⟨n+1,A9,cn+1,c9,lh ⟨by omega,HO9.out,HB9.out⟩,by rw [show ((n+1:Nat):Int)=(n:Int)+1 from by omega];constructor⟩,?_⟩;simp [intOf]<;>omega
    ·
     obtain rfl:t1=n:=by have:=HL6.out.1;omega
     have HIO:=lh (dC HL6.out.2.1 (Nat.le_refl U13.heap.size));have hb:=HL6.out.2.2;replace Ly:=lyb Ly hb;replace HIP:=lh ((HIP.out.below hb).more hb.size);clear hb HL6 hnk;have HC1:=lh hcl.1;have HC2:=lh hcl.2;obtain ⟨x0_0,x0_1,x0_2,x0_3⟩:=lyc4 Ly 0 rfl;have l0_:=Ly.out.lt 0 rfl;gi_wp2;clear x0_0 x0_1 x0_2 x0_3 l0_;refine ⟨trivial,(c_W (nV (some ⟨bv,off,none⟩) nv cv Aa na ca At nt ct m cA cn cc (iP t1 bits) x1.id t1 f L U13 (HMS.out.up Ly.out.1) HCA.out HOK.out HLL.out HIO.out (by omega) (by omega))).mono ?_⟩;rintro e W14 ⟨rfl,hb⟩;replace Ly:=lyb Ly hb;replace HIP:=lh ((HIP.out.below hb).more hb.size);replace HIO:=lh ((HIO.out.below hb).more hb.size);clear hb
     cases hwb:dT m L f t1 (idxV m.vessels x1.id) (iP t1 bits) with
     | false =>
      clear hwb;gi_wp2
      all_goals try (rename_i hA hB;exact je hA)
      try (refine ⟨trivial,?_⟩;gi_wp2)
      refine bodyPost_ret (v:=.bool true) (by simp [results,Tryz.results7,go_sem]) rfl ?_;exact ⟨rfl,Ly.out.1⟩
     | true =>
      obtain ⟨h0,hn9⟩:=HW4.out _ ((lL HLL.out (cM HOK.out).1 (by have:=HL2.out;omega)).1 hwb);subst h0;have HN9:Hid (decide (cmpS (iP t1 bits) pl<0)=false):=lh (decide_eq_false (by omega));clear hwb hn9;gi_wp2;refine ⟨trivial,(c_W (ro cA cn cc (iP t1 bits) pA pn pc pl W14 HIO.out HIP.out (by omega) (by have:=HP13.out;omega))).mono ?_⟩;rintro e W15 ⟨rfl,hb⟩;replace Ly:=lyb Ly hb;replace HIP:=lh ((HIP.out.below hb).more hb.size);replace HIO:=lh ((HIO.out.below hb).more hb.size);clear hb;rw [HN9.out];gi_wp2;refine bodyPost_ret (v:=.bool true) (by simp [results,Tryz.results7,go_sem]) rfl ?_;exact ⟨rfl,Ly.out.1⟩
end
section
open Go.ChangeShapes Go.WideShapes Go.ChangeAt Go.RowKit Go.Joins
theorem ownT:ownKnob Tryz.prog.godebug=none:=by kernel_rfl
theorem jl:laidOutB Tryz.prog=true:=by kernel_rfl
theorem mixPath_lifted (os:Os)(started:os.Started)(H:Type)(enc:TypeId × Value→H) :
  ReturnsInHanded {} Tryz.checked os 7 .any (Rows.mixPathSpec.pre6 enc Tryz.prog Tryz.f7 Rows.mixPathRow.domain false) (Rows.mixPathSpec.post enc Tryz.prog Tryz.f7 false true false false):=by
 refine returnsInHanded_of_change (C:=Tryz.checked) ownT started (by kernel_rfl) Tryz.func7
  (ChangeSpec.witness6 (enc:=enc) (C:=Tryz.checked) false ⟨#[],#[.agg #[.int .i64 0,.slice none 0 0,.slice none 0 0,.slice none 0 0],.int .u8 0,.int .u8 0,.int .u8 0,.int .u16 0],[]⟩ 8 (by kernel_rfl) (by kernel_rfl) (by kernel_rfl) (by kernel_rfl)) ?_
 intro W base args ds gs before hval0 hW hcnd _;have hval:∀ (j:Nat) t v,Tryz.f7.params[j]? =some t→args[j]? =some v→Value.okWide Tryz.prog W .any base t v:=hval0;have hW':=hW;obtain ⟨p,q,hA0,hV,rfl,hfz,hnd⟩:=hW;have hA:DataW.TrodAll enc Tryz.prog W 0 (fun _=>true) true Tryz.f7.params.toList args.toList ds p:=hA0;rw [Tryz.params7] at hA hval;obtain ⟨v0,vs0,d0,ds0,p0,q0,hargs,rfl,rfl,h0,r0⟩:=trodAll_cons hA;obtain ⟨v1,vs1,d1,ds1,p1,q1,rfl,rfl,rfl,h1,r1⟩:=trodAll_cons r0;obtain ⟨v2,vs2,d2,ds2,p2,q2,rfl,rfl,rfl,h2,r2⟩:=trodAll_cons r1;obtain ⟨v3,vs3,d3,ds3,p3,q3,rfl,rfl,rfl,h3,r3⟩:=trodAll_cons r2;obtain ⟨v4,vs4,d4,ds4,p4,q4,rfl,rfl,rfl,h4,r4⟩:=trodAll_cons r3;obtain ⟨rfl,rfl,rfl⟩:=trodAll_nil r4;obtain rfl:args=#[v0,v1,v2,v3,v4]:=by cases args;simp_all
 obtain ⟨rfl,rfl⟩:=trodVars_none hV;have k0:=h0;have lt0:∀ x∈p0,x.block<W.heap.size:=by obtain ⟨m,hm⟩:=k0;exact DataW.trod_lt m _ _ _ hm
 have k1:=h1;have lt1:∀ x∈p1,x.block<W.heap.size:=by obtain ⟨m,hm⟩:=k1;exact DataW.trod_lt m _ _ _ hm
 have k2:=h2;have lt2:∀ x∈p2,x.block<W.heap.size:=by obtain ⟨m,hm⟩:=k2;exact DataW.trod_lt m _ _ _ hm
 have k3:=h3;have lt3:∀ x∈p3,x.block<W.heap.size:=by obtain ⟨m,hm⟩:=k3;exact DataW.trod_lt m _ _ _ hm
 have k4:=h4;have lt4:∀ x∈p4,x.block<W.heap.size:=by obtain ⟨m,hm⟩:=k4;exact DataW.trod_lt m _ _ _ hm
 obtain ⟨Av,nv,cv,Aa,na,ca,At,nt,ct,m,rfl,hca,hct,hm⟩:=vu (hval 0 26 v0 rfl rfl) h0;obtain ⟨s1,e1,hb1⟩:=oY h1 (okWide_int Tryz.underlying5 (hval 1 5 v1 rfl rfl));subst e1;obtain ⟨s2,e2,hb2⟩:=oY h2 (okWide_int Tryz.underlying5 (hval 2 5 v2 rfl rfl));subst e2;obtain ⟨s3,e3,hb3⟩:=oY h3 (okWide_int Tryz.underlying5 (hval 3 5 v3 rfl rfl));subst e3;obtain ⟨s4,e4,hb4⟩:=vO h4 (okWide_int Tryz.underlying77 (hval 4 77 v4 rfl rfl));subst e4;clear hA0 hval0;refine (callsIn_wide.1 (vT Av nv cv Aa na ca At nt ct m s1 s2 s3 s4 W hm hca hb1 hb2 hb3 hb4)).mono fun e W' ⟨he,bel⟩=>?_;subst he;exact ⟨_,rfl,_,_,_,[],_,[],hW',trodAll_mk1 (shut_bool Tryz.underlying4 _),(trodAll_cons_mk (Below.trod jl (by kernel_rfl) (of_decide_eq_true (by kernel_rfl)) k0 bel lt0) (trodAll_cons_mk (Below.trod jl (by kernel_rfl) (of_decide_eq_true (by kernel_rfl)) k1 bel lt1) (trodAll_cons_mk (Below.trod jl (by kernel_rfl) (of_decide_eq_true (by kernel_rfl)) k2 bel lt2) (trodAll_cons_mk (Below.trod jl (by kernel_rfl) (of_decide_eq_true (by kernel_rfl)) k3 bel lt3) (trodAll_cons_mk (Below.trod jl (by kernel_rfl) (of_decide_eq_true (by kernel_rfl)) k4 bel lt4) (trodAll_mk0)))))),rfl,bel.frame _,fun h=>by cases h⟩
theorem mixPath_holds:Rows.MixPathSaid :=
 OpenClaim.holds_of_wide 7 Tryz.f7 rfl rfl rfl rfl rfl rfl rfl ⟨rfl,rfl,rfl,rfl,rfl⟩ rfl rfl rfl rfl rfl (by kernel_rfl) Tryz.func7 (by kernel_rfl)
  (of_decide_eq_true (by kernel_rfl)) (by unfold Func.isWrapper;rw [if_neg (of_decide_eq_false (by kernel_rfl))];exact ⟨rfl,rfl⟩)
  (fun os started H enc _=>mixPath_lifted os started H enc)
#print axioms mixPath_holds
end
end Go.Proofs.YthofngceiecniaaGreat
