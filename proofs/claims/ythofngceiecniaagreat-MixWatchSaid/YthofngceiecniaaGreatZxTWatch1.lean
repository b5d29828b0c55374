/- Part 15 of the texts of this claim, joined. -/
import Derived.Sort.CutIn
import Derived.Lib.RabinKarpLaws
import Derived.Test.YthofngceiecniaaGreatZxB14
set_option linter.unusedVariables false
/- walked, of the outright laws. -/
namespace Go.Proofs.YthofngceiecniaaGreat
set_option maxHeartbeats 32000000
set_option maxRecDepth 100000
section
open Go.RowKit Go.Shelf
attribute [local go_sem] Oper.semAt_some
theorem g9 {b:Bool}{C:Prop}(h:some undef=some (Value.bool b)):C:=by cases h
def wkIn (q:Nat)(x:MAct)(f jf v:Int):Bool:=decide ((q=0∧x.kind=1∧x.fr=f)∨(q≠0∧x.kind=2∧jf=v))
def wkOut (x:MAct)(all:Held)(jf v:Int):Bool:=decide (0≤v∧x.kind≠1∧jf=v∧(x.kind=4∨x.drops=au all v))
theorem m4 {m:Mix}{A:List Held}{f:Int}{l:List Int}{t:Nat}(h:ia m A f l t=none):∀ {n:Nat},t≤n→ia m A f l n=none
 | 0,hn=>by
  obtain rfl:t=0:=by omega
  exact h
 | n+1,hn=>by
  by_cases e:t=n+1
  ·subst e;exact h
  ·rw [ia,m4 h (n:=n) (by omega)]
   cases m.acts[n]? with
   | none=>rfl
   | some x =>
    cases A[n]? with
    | none=>rfl
    | some a=>rfl
theorem lL {m:Mix}{A:List Held}{f v:Int}{l:List Int}{t n:Nat}(h:ia m A f l t=none)(hn:t≤n):eM m A f n v l=false:=by
 unfold eM;rw [m4 h hn];simp
theorem uz (s:Held){q:Nat}(h:q<4):(fg s)[q]? =some (.int .i64 (au s (q:Int))):=by
 match q,h with
 | 0,_=>rfl
 | 1,_=>rfl
 | 2,_=>rfl
 | 3,_=>rfl
theorem lQ {W:World}{A9:Option Addr}{n9 b9 o9 i:Nat}{L:List Held}{all:Held}(hr:dO W W.heap.size 4 A9 n9 (L.flatMap fg))(e:A9=some ⟨b9,o9,none⟩)(hL:L[i]? =some all)(hi:i<n9){q:Nat}(hq:q<4) :
  b9<W.heap.size∧W.cell? ⟨b9,o9+i * 4+q,none⟩=some (.int .i64 (au all (q:Int))):=by
 obtain ⟨b,o,all2,e9,hb9,h9,hc9⟩:=eu eE (by omega) hr hi;obtain rfl:all=all2:=Option.some.inj (hL.symm.trans h9);rw [e] at e9;cases e9;exact ⟨hb9,hc9 q _ (uz all hq)⟩
theorem xv {m:Mix}{f:Int}{l:List Int}{t:Nat}{x:MAct}{all:Held}{v:Int}{q:Nat}(h1:q<l.length)(h2:l[q]? =some ((t:Int)+1)) :
  j3 m f l t x all (v,q)=if (q=0∧x.kind=1∧x.fr=f)∨(q≠0∧x.kind=2∧idxV m.vessels x.fr=v) then some (idxV m.vessels x.to,q+1) else none:=by unfold j3;rw [if_pos ⟨h1,h2⟩]
theorem tV {m:Mix}{f:Int}{l:List Int}{t:Nat}{x:MAct}{all:Held}{v:Int}{q:Nat}(h1:¬ (q<l.length∧l[q]? =some ((t:Int)+1))) :
  j3 m f l t x all (v,q)=if 0≤v∧x.kind≠1∧idxV m.vessels x.fr=v∧(x.kind=4∨x.drops=au all v) then none else some (v,q):=by unfold j3;rw [if_neg h1]
inductive FrWk (v0 v1 v2 v3 v4 v5 v11 v13 v14 v48 v49 v50:Value):Act→Prop
 | mk (a b c d e f g h i j k l m n o p q r s t w x y z A B C D E F G H I J K L M N O P Q R S T U V W X Y Z aa ab ac ad ae af ag ah ai aj ak al am an ao ap aq ar aw ax ay az aA aB aC aD aE aF aG aH aI aJ aK aL aM aN aO aP aQ aR aS aT aU aV aW aX aY aZ a0 a1 a2 a3 a4 a5 a6 a7 a8 a9 ba bb bc bd be bf bg bh bi bj bk bl bm bn bo bp bq br bs bt bw bx bz bA bB bC bD:Value):FrWk v0 v1 v2 v3 v4 v5 v11 v13 v14 v48 v49 v50 ⟨#[v0,v1,v2,v3,v4,v5,a,b,c,d,e,v11,f,v13,v14,g,h,i,j,k,l,m,n,o,p,q,r,s,t,w,x,y,z,A,B,C,D,E,F,G,H,I,J,K,L,M,N,O,v48,v49,v50,P,Q,R,S,T,U,V,W,X,Y,Z,aa,ab,ac,ad,ae,af,ag,ah,ai,aj,ak,al,am,an,ao,ap,aq,ar,aw,ax,ay,az,aA,aB,aC,aD,aE,aF,aG,aH,aI,aJ,aK,aL,aM,aN,aO,aP,aQ,aR,aS,aT,aU,aV,aW,aX,aY,aZ,a0,a1,a2,a3,a4,a5,a6,a7,a8,a9,ba,bb,bc,bd,be,bf,bg,bh,bi,bj,bk,bl,bm,bn,bo,bp,bq,br,bs,bt,bw,bx,bz,bA,bB,bC,bD],[]⟩
theorem pj (Av:Option Addr)(nv cv:Nat)(Aa:Option Addr)(na ca:Nat)(At:Option Addr)(nt ct:Nat)(m:Mix)(A:Option Addr)(n c:Nat)(l:List Int)(vessel:Int)(k:Nat)(f:Int)(L:List Held)(w:World)(h:MixS w Av nv Aa na At nt m)(hca:na≤ca∧ca≤maxLen)(hok:dT m=true)(hL:allM m m.acts=some L)(hl:du w w.heap.size A n l)(hn:n≤1000)(hk:k≤na) :
  CallsIn Fence.wide 9 Tryz.prog 39 #[.agg #[.int .i64 m.fountains,.slice Av nv cv,.slice Aa na ca,.slice At nt ct],.slice A n c,.int .i64 vessel,.int .i64 (k:Int),.int .i64 f] w (fun e w'=>e = .returned (.bool (eM m L f k (idxV m.vessels vessel) l))∧Below w.heap.size w w'):=by
 have HM:=lh h;have HCA:=lh hca;have HOK:=lh hok;have HL:=lh hL;have HI:=lh hl;have HN:=lh hn;have HK:=lh hk;have HLL:=lh hl.len;have HVS:=lh (dX hok);have HLV:=lh h.at_.lenV;have HLA:=lh h.at_.lenA;have hv4:m.vessels.length≤4:=(dX hok).1;have HV4:=lh hv4;have hk12:k≤12:=by have h1:=(dX hok).2.1;have h2:=h.at_.lenA;omega
 have HK12:=lh hk12;clear h hca hok hL hl hn hk hv4 hk12;refine callsIn_of_wp Tryz.func39 rfl trivial ?_ rfl;simp only [Tryz.ntmps39,es,Nat.reduceAdd,Nat.reduceSub];gi_upto_region 1 with fail
 have Ly:=lh (Lay.one w 26 #[.int .i64 m.fountains,.slice Av nv cv,.slice Aa na ca,.slice At nt ct]);generalize (w.alloc (.cells #[.int .i64 m.fountains,.slice Av nv cv,.slice Aa na ca,.slice At nt ct] 26))=w0 at *;obtain ⟨x0_0,x0_1,x0_2,x0_3⟩:=lyc4 Ly 0 rfl;have l0_:=Ly.out.lt 0 rfl;gi_wp2;clear x0_0 x0_1 x0_2 x0_3 l0_;refine ⟨trivial,(c_W (nb Av nv cv Aa na ca At nt ct m w0 (HM.out.up Ly.out.1) (fN HOK.out) (by have h1:=HLV.out;have h2:=HV4.out;omega) (by have h1:=HLA.out;have h2:=HVS.out;omega))).mono ?_⟩;rintro e W1 ⟨hb,A9,n9,c9,b9,L9,rfl,hp⟩;replace Ly:=lyb Ly hb;clear hb
 rcases hp with ⟨rfl,hl9,hr9⟩ | ⟨_,_,hl9⟩
 rotate_left
 ·exact absurd (HL.out.symm.trans hl9) (by simp)
 obtain rfl:L=L9:=Option.some.inj (HL.out.symm.trans hl9);have HR:=lh hr9;clear hl9 hr9;by_cases hn0:n=0
 ·
  have hn0b:(((n:Nat):Int)==0)=true:=by simp;omega
  have hw:eM m L f k (idxV m.vessels vessel) l=false:=by
   have:l=[]:=List.length_eq_zero_iff.1 (by have:=HLL.out;omega);unfold eM;rw [this];rfl
  have HW:=lh hw;clear hw;obtain ⟨x0_0,x0_1,x0_2,x0_3⟩:=lyc4 Ly 0 rfl;have l0_:=Ly.out.lt 0 rfl;gi_wp2;clear x0_0 x0_1 x0_2 x0_3 l0_;refine bodyPost_ret (v:=.bool false) (by simp [results,Tryz.results39,go_sem]) rfl ?_;exact ⟨by rw [HW.out],Ly.out.1⟩
 ·
  have hn0b:(((n:Nat):Int)==0)=false:=by simp;omega
  have hn1:0<n:=by omega
  obtain ⟨bl,ol,y0,rfl,hbl,hy0,hc0⟩:=HI.out.cell hn1;obtain ⟨b2,o2,y1,e2,_,hy1,hc1⟩:=HI.out.cell (show n - 1<n by omega);obtain ⟨rfl,rfl⟩:bl=b2∧ol=o2:=by cases e2;exact ⟨rfl,rfl⟩
  have HBL:=lh hbl;have hd0:l.head?.getD 0=y0:=by rw [List.head?_eq_getElem?,hy0];rfl
  have hd1:l.getLast?.getD 0=y1:=by
   have:=HLL.out;rw [List.getLast?_eq_getElem?,show l.length - 1=n - 1 by omega,hy1];rfl
  have HD0:=lh hd0;have HD1:=lh hd1;have hxe:((n:Nat):Int) - 1=((n - 1:Nat):Int):=by omega
  have k0:W1.cell? ⟨bl,ol,none⟩=some (.int .i64 y0):=(Ly.out.1.cell (p:=⟨bl,ol,none⟩) hbl).trans hc0;have k1:W1.cell? ⟨bl,ol+(n - 1),none⟩=some (.int .i64 y1):=(Ly.out.1.cell (p:=⟨bl,ol+(n - 1),none⟩) hbl).trans hc1;have HK0:=lh k0;have HK1:=lh k1;clear hc0 hc1 hy0 hy1 e2 hd0 hd1 hbl k0 k1;have hn1000:=HN.out;by_cases h1:y0<1
  ·
   have hw:eM m L f k (idxV m.vessels vessel) l=false:=by
    unfold eM;rw [HD0.out,decide_eq_false (show ¬ 1≤y0 by omega)];simp
   have HW:=lh hw;clear hw;have k0:=HK0.out;obtain ⟨x0_0,x0_1,x0_2,x0_3⟩:=lyc4 Ly 0 rfl;have l0_:=Ly.out.lt 0 rfl;gi_wp2;clear x0_0 x0_1 x0_2 x0_3 l0_;refine bodyPost_ret (v:=.bool false) (by simp [results,Tryz.results39,go_sem]) rfl ?_;exact ⟨by rw [HW.out],Ly.out.1⟩
  ·
   by_cases h2:(k:Int)<y1
   ·
    have hw:eM m L f k (idxV m.vessels vessel) l=false:=by
     unfold eM;rw [HD1.out,decide_eq_false (show ¬ y1≤(k:Int) by omega)];simp
    have HW:=lh hw;clear hw;have k0:=HK0.out;have k1:=HK1.out;obtain ⟨x0_0,x0_1,x0_2,x0_3⟩:=lyc4 Ly 0 rfl;have l0_:=Ly.out.lt 0 rfl;gi_wp2;clear x0_0 x0_1 x0_2 x0_3 l0_;refine bodyPost_ret (v:=.bool false) (by simp [results,Tryz.results39,go_sem]) rfl ?_;exact ⟨by rw [HW.out],Ly.out.1⟩
   ·
    have HB:Hid (eM m L f k (idxV m.vessels vessel) l=decide (ia m L f l k=some (idxV m.vessels vessel,n))):=lh (by
     have hne:l.isEmpty=false:=by
      cases l with
      | nil=>have:=HLL.out;simp at this;omega
      | cons=>rfl
     unfold eM;rw [hne,HD0.out,HD1.out,decide_eq_true (show 1≤y0 by omega),decide_eq_true (show y1≤(k:Int) by omega),HLL.out]
     rfl)
    have k0:=HK0.out;have k1:=HK1.out;have hkc:k≤ca:=by have h3:=HCA.out;have h4:=HK.out;omega
    have hcm:=HCA.out.2;unfold maxLen at hcm;obtain ⟨x0_0,x0_1,x0_2,x0_3⟩:=lyc4 Ly 0 rfl;have l0_:=Ly.out.lt 0 rfl;gi_upto_region 7 with fail
    clear x0_0 x0_1 x0_2 x0_3 l0_;clear k0 k1 h1 h2 HK0 HK1 HD0 HD1 hxe;refine wpIn_loop (fun a W=>∃ (i:Nat) (v:Int) (q:Nat),Hid (i≤k∧ia m L f l i=some (v,q)∧(-1≤v∧v<4)∧q≤i∧Lay w W [(w.heap.size,26,#[.int .i64 m.fountains,.slice Av nv cv,.slice Aa na ca,.slice At nt ct])]∧dO W W.heap.size 4 A9 n9 (L.flatMap fg))∧FrWk (.agg #[.int .i64 m.fountains,.slice Av nv cv,.slice Aa na ca,.slice At nt ct]) (.slice (some ⟨bl,ol,none⟩) n c) (.int .i64 vessel) (.int .i64 (k:Int)) (.int .i64 f) (.pointer (some ⟨w.heap.size,0,none⟩)) (.slice A9 n9 c9) (.int .i64 v) (.int .i64 (q:Int)) (.slice Aa k ca) (.int .i64 (k:Int)) (.int .i64 (i:Int)) a) (fun a _=>k - (intOf (a.tmps.getD 50 undef)).toNat) ?_ ?_
    ·exact ⟨0,-1,0,lh ⟨by omega,rfl,by omega,by omega,Ly.out,HR.out⟩,by constructor⟩
    clear Ly HR;rintro a W ⟨i,v,q,HS,ha⟩;cases ha;have Ly:=lh HS.out.2.2.2.2.1;have HR:=lh HS.out.2.2.2.2.2;have HWK:=lh HS.out.2.1;have hvb:=HS.out.2.2.1;have hqi:=HS.out.2.2.2.1;have hk12:=HK12.out;have hik:=HS.out.1;by_cases hlt:i<k
    ·
     obtain ⟨ba,oa,x,e1,hba,hx,c0,c1,c2,c3⟩:=(HM.out.at_.below Ly.out.1).act (show i<na by have:=HK.out;omega);obtain ⟨all,_,ha9,_,_⟩:=eU HL.out hx;have HSTEP:=lh (gM (f:=f) (l:=l) hx ha9);have HOKA:=lh (iq HL.out HV4.out hx ha9).1
     have hi9:i<n9:=by
      have h1:=fe eE (by omega) HR.out;have h2:=(g_E ha9).1;omega
     obtain ⟨b9,o9,all2,e9,hb9,h9,hc9⟩:=eu eE (by omega) HR.out hi9;obtain rfl:all=all2:=Option.some.inj (ha9.symm.trans h9);have HE9:=lh e9;have HI9:=lh hi9;have HLI:=lh ha9;have HAA:=lh e1;rw [e1];clear e1 hba hx ha9 h9 hc9 e9 hb9 hi9;gi_upto_region 9 with fail
     clear c0 c1 c2 c3
     obtain ⟨V2,hV⟩:∃ V,(W.alloc (.cells #[.int .i64 x.kind,.int .i64 x.fr,.int .i64 x.to,.int .i64 x.drops] 62))=V:=⟨_,rfl⟩
     rw [hV];have hb:=et hV;have hnew:=ez hV;have hge:=Ly.out.bel.size;replace Ly:=lyb Ly hb;replace HR:=lh ((HR.out.below hb).more hb.size);replace Ly:=lh (Ly.out.add hge hnew);clear hnew hge hb hV
     obtain ⟨G3,hG⟩:∃ g,W.heap.size=g:=⟨_,rfl⟩
     rw [hG] at Ly ⊢;clear hG;replace Ly:=lh (show Lay w V2 [(w.heap.size,26,#[.int .i64 m.fountains,.slice Av nv cv,.slice Aa na ca,.slice At nt ct]),(G3,62,#[.int .i64 x.kind,.int .i64 x.fr,.int .i64 x.to,.int .i64 x.drops])] from Ly.out);rw [← HAA.out]
     obtain ⟨jf,hjf⟩:∃ j,idxV m.vessels x.fr=j:=⟨_,rfl⟩
     obtain ⟨jt,hjt⟩:∃ j,idxV m.vessels x.to=j:=⟨_,rfl⟩
     have HJF:=lh hjf;have HJT:=lh hjt;have HJT4:Hid (-1≤jt∧jt<4):=lh (by rw [← hjt];exact ⟨by unfold idxV;split<;>omega,gQ HV4.out⟩);clear hjf hjt;have hql:l.length=n:=HLL.out;by_cases hm:q<n∧l[q]? =some ((i:Int)+1)
     ·
      have HST:=lh (xv (m:=m) (f:=f) (x:=x) (all:=all) (v:=v) (show q<l.length by omega) hm.2);obtain ⟨b2,o2,y,e2,_,hy,hc⟩:=HI.out.cell hm.1;obtain ⟨rfl,rfl⟩:bl=b2∧ol=o2:=by cases e2;exact ⟨rfl,rfl⟩
      obtain rfl:y=(i:Int)+1:=Option.some.inj (hy.symm.trans hm.2);have ky:V2.cell? ⟨bl,ol+q,none⟩=some (.int .i64 ((i:Int)+1)):=(Ly.out.1.cell (p:=⟨bl,ol+q,none⟩) HBL.out).trans hc;have hqn:=hm.1;have eqi:(((i:Int)+1)==((i:Int)+1))=true:=by simp
      clear e2 hy hc hm;gi_upto_region 10 with fail
      clear ky eqi
      obtain ⟨ok,hokk⟩:∃ b:Bool,wkIn q x f jf v=b:=⟨_,rfl⟩
      have HOKK:=lh hokk;clear hokk
      gi_cut [97] from 68 (fun v97 wx=>v97 = .bool (!ok)∧Hid (Below V2.heap.size V2 wx))
      case first =>
       have HB0:=lh (Below.refl V2.heap.size V2);by_cases hq0:q=0
       ·
        subst hq0;by_cases hk1:x.kind=1
        ·
         have hk1b:(x.kind != 1)=false:=by simpa using hk1
         by_cases hf:x.fr=f
         ·
          have hfb:(x.fr != f)=false:=by simpa using hf
          have HQ1:=lh (ai hk1 hf);clear hk1 hf;obtain ⟨x1_0,x1_1,x1_2,x1_3⟩:=lyc4 Ly 1 rfl;have l1_:=Ly.out.lt 1 rfl;gi_wp2
          all_goals try (rename_i hA hB;exact g9 hA)
          clear x1_0 x1_1 x1_2 x1_3 l1_
          try (refine ⟨trivial,?_⟩;gi_wp2)
          gi_meet;exact ⟨by rw [show ok=true from HOKK.out.symm.trans (decide_eq_true (by exact .inl ⟨rfl,HQ1.out⟩))];try rfl,HB0⟩
         ·
          have hfb:(x.fr != f)=true:=by simpa using hf
          have HQ1:=lh hf;clear hk1 hf;obtain ⟨x1_0,x1_1,x1_2,x1_3⟩:=lyc4 Ly 1 rfl;have l1_:=Ly.out.lt 1 rfl;gi_wp2
          all_goals try (rename_i hA hB;exact g9 hA)
          clear x1_0 x1_1 x1_2 x1_3 l1_
          try (refine ⟨trivial,?_⟩;gi_wp2)
          gi_meet;exact ⟨by rw [show ok=false from HOKK.out.symm.trans (decide_eq_false (by rintro (h | h);exact HQ1.out h.2.2;exact h.1 rfl))];try rfl,HB0⟩
        ·
         have hk1b:(x.kind != 1)=true:=by simpa using hk1
         have HQ1:=lh hk1;clear hk1;obtain ⟨x1_0,x1_1,x1_2,x1_3⟩:=lyc4 Ly 1 rfl;have l1_:=Ly.out.lt 1 rfl;gi_wp2
         all_goals try (rename_i hA hB;exact g9 hA)
         clear x1_0 x1_1 x1_2 x1_3 l1_
         try (refine ⟨trivial,?_⟩;gi_wp2)
         gi_meet;exact ⟨by rw [show ok=false from HOKK.out.symm.trans (decide_eq_false (by rintro (h | h);exact HQ1.out h.2.1;exact h.1 rfl))];try rfl,HB0⟩
       ·
        have hq0b:(((q:Nat):Int)==0)=false:=by simp;omega
        have hq1:(0:Int)<(q:Int):=by omega
        by_cases hk2:x.kind=2
        ·
         have hk2b:(x.kind != 2)=false:=by simpa using hk2
         have HQ1:=lh hk2;have HQ0:=lh hq0;clear hk2;obtain ⟨x0_0,x0_1,x0_2,x0_3⟩:=lyc4 Ly 0 rfl;have l0_:=Ly.out.lt 0 rfl;obtain ⟨x1_0,x1_1,x1_2,x1_3⟩:=lyc4 Ly 1 rfl;have l1_:=Ly.out.lt 1 rfl;gi_wp2;clear x0_0 x0_1 x0_2 x0_3 l0_ x1_0 x1_1 x1_2 x1_3 l1_;refine ⟨trivial,(callsIn_wide.2 (fp Av nv cv Aa na ca At nt ct m x.fr V2 (HM.out.up Ly.out.1))).mono ?_⟩;rintro e W4 ⟨rfl,hb⟩;replace Ly:=lyb Ly hb;replace HR:=lh ((HR.out.below hb).more hb.size);replace HB0:=lh (HB0.out.trans (hb.mono HB0.out.size));clear hb;rw [HJF.out];by_cases hj:jf=v
         ·
          have hjb:(jf != v)=false:=by simpa using hj
          have HJ:=lh hj;clear hj;gi_wp2;gi_meet;exact ⟨by rw [show ok=true from HOKK.out.symm.trans (decide_eq_true (by exact .inr ⟨HQ0.out,HQ1.out,HJ.out⟩))];try rfl,HB0⟩
         ·
          have hjb:(jf != v)=true:=by simpa using hj
          have HJ:=lh hj;clear hj;gi_wp2;gi_meet;exact ⟨by rw [show ok=false from HOKK.out.symm.trans (decide_eq_false (by rintro (h | h);exact HQ0.out h.1;exact HJ.out h.2.2))];try rfl,HB0⟩
        ·
         have hk2b:(x.kind != 2)=true:=by simpa using hk2
         have HQ1:=lh hk2;have HQ0:=lh hq0;clear hk2;obtain ⟨x1_0,x1_1,x1_2,x1_3⟩:=lyc4 Ly 1 rfl;have l1_:=Ly.out.lt 1 rfl;gi_wp2
         all_goals try (rename_i hA hB;exact g9 hA)
         clear x1_0 x1_1 x1_2 x1_3 l1_
         try (refine ⟨trivial,?_⟩;gi_wp2)
         gi_meet;exact ⟨by rw [show ok=false from HOKK.out.symm.trans (decide_eq_false (by rintro (h | h);exact HQ0.out h.1;exact HQ1.out h.2.1))];try rfl,HB0⟩
      case rest =>
       obtain ⟨rfl,hcb⟩:=hcut;rename World=>C1;have hb:=hcb.out;clear hcb;replace Ly:=lyb Ly hb;replace HR:=lh ((HR.out.below hb).more hb.size);clear hb
       cases ok with
       | false =>
        have hw:eM m L f k (idxV m.vessels vessel) l=false:=lL (t:=i+1) (by
         rw [HSTEP.out,HWK.out,Option.bind_some,HST.out,HJF.out,if_neg (of_decide_eq_false HOKK.out)]) (by omega)
        have HW:=lh hw;clear hw;gi_wp2;refine bodyPost_ret (v:=.bool false) (by simp [results,Tryz.results39,go_sem]) rfl ?_;exact ⟨by rw [HW.out],Ly.out.1⟩
       | true =>
        have HNX:Hid (ia m L f l (i+1)=some (jt,q+1)):=lh (by
         rw [HSTEP.out,HWK.out,Option.bind_some,HST.out,HJF.out,HJT.out,if_pos (of_decide_eq_true HOKK.out)])
        obtain ⟨x0_0,x0_1,x0_2,x0_3⟩:=lyc4 Ly 0 rfl;have l0_:=Ly.out.lt 0 rfl;obtain ⟨x1_0,x1_1,x1_2,x1_3⟩:=lyc4 Ly 1 rfl;have l1_:=Ly.out.lt 1 rfl;gi_wp2;clear x0_0 x0_1 x0_2 x0_3 l0_ x1_0 x1_1 x1_2 x1_3 l1_;refine ⟨trivial,(callsIn_wide.2 (fp Av nv cv Aa na ca At nt ct m x.to C1 (HM.out.up Ly.out.1))).mono ?_⟩;rintro e W5 ⟨rfl,hb⟩;replace Ly:=lyb Ly hb;replace HR:=lh ((HR.out.below hb).more hb.size);clear hb;rw [HJT.out];have hjt4:=HJT4.out;gi_wp2;refine ⟨⟨i+1,jt,q+1,lh ⟨by omega,HNX.out,HJT4.out,by omega,Ly.out.sub (by intro b hb;simp only [List.mem_cons,List.not_mem_nil,or_false] at hb ⊢;rcases hb with rfl;simp [HAA.out]),HR.out⟩,by rw [show ((i+1:Nat):Int)=(i:Int)+1 from by omega,show ((q+1:Nat):Int)=(q:Int)+1 from by omega];first | (constructor;done) | (rw [HAA.out];constructor;done)⟩,?_⟩;simp [intOf];omega
     ·
      have HST:=lh (tV (m:=m) (f:=f) (x:=x) (all:=all) (v:=v) (show ¬ (q<l.length∧l[q]? =some ((i:Int)+1)) by rw [hql];exact hm));have HMM:=lh hm;clear hm
      gi_cut [67] from 55 (fun v67 wx=>v67 = .bool false∧Hid (Below V2.heap.size V2 wx))
      case first =>
       have HB0:=lh (Below.refl V2.heap.size V2);by_cases hqn:q<n
       ·
        obtain ⟨b2,o2,y,e2,_,hy,hc⟩:=HI.out.cell hqn;obtain ⟨rfl,rfl⟩:bl=b2∧ol=o2:=by cases e2;exact ⟨rfl,rfl⟩
        have ky:V2.cell? ⟨bl,ol+q,none⟩=some (.int .i64 y):=(Ly.out.1.cell (p:=⟨bl,ol+q,none⟩) HBL.out).trans hc
        have hyb:(y==(i:Int)+1)=false:=by
         have:¬ y=(i:Int)+1:=fun e=>HMM.out ⟨hqn,by rw [hy,e]⟩;simpa using this
        clear e2 hy hc;gi_wp2;gi_meet;exact ⟨rfl,HB0⟩
       ·
        gi_wp2;gi_meet;exact ⟨rfl,HB0⟩
      case rest =>
       obtain ⟨rfl,hcb⟩:=hcut;rename World=>C2;have hb:=hcb.out;clear hcb;replace Ly:=lyb Ly hb;replace HR:=lh ((HR.out.below hb).more hb.size);clear hb;gi_upto_region 14 with fail
       obtain ⟨ok,hokk⟩:∃ b:Bool,wkOut x all jf v=b:=⟨_,rfl⟩
       have HOKK:=lh hokk;clear hokk
       gi_cut [134] from 104 (fun v134 wx=>v134 = .bool ok∧Hid (Below C2.heap.size C2 wx))
       case first =>
        have HB0:=lh (Below.refl C2.heap.size C2);by_cases hv0:0≤v
        ·
         by_cases hk1:x.kind=1
         ·
          have hk1b:(x.kind != 1)=false:=by simpa using hk1
          have HQ1:=lh hk1;clear hk1;refine wpIn_flow_old [([true,true,true,true,true,true,true,true,true,true,true,false,true],11)] [false,false,false,false,false,false,false,false,false,false,false,false,false,true,true,true,true,true,true,true,true,true,true,true,true,true,true,true,true,true,true] [] (by kernel_rfl) (by kernel_rfl) (by kernel_rfl) (av b_R 1) ?_;refine wpFlow_cons (A:=?AF1) rfl ?hq1 ?_
          case hq1 =>
           rintro σ hσ of hof hcl;have HOF:=lh hof;clear hof hcl;obtain ⟨c0_,c1_,c2_,c3_⟩:=lyz4 Ly HOF 0 rfl;obtain ⟨c4_,c5_,c6_,c7_⟩:=lyz4 Ly HOF 1 rfl;have hfw:=hfT;simp only [bu]
           repeat (gi_big_quiet_step (fail))
           refine wpQuietIn_nil ?_;exact rfl
          intro W6 hW;replace Ly:=lyb Ly hW;replace HR:=lh ((HR.out.below hW).more hW.size);replace HB0:=lh (HB0.out.trans (hW.mono HB0.out.size));clear hW;gi_wp2;refine ⟨trivial,?_⟩;gi_wp2;refine ⟨trivial,b_R,?_⟩;refine wpFlow_nil (A:=?AF2) ?hq2 ?_
          case hq2 =>
           rintro σ hσ of hof hcl;have HOF:=lh hof;clear hof hcl;obtain ⟨c0_,c1_,c2_,c3_⟩:=lyz4 Ly HOF 0 rfl;obtain ⟨c4_,c5_,c6_,c7_⟩:=lyz4 Ly HOF 1 rfl;have hfw:=hfT;simp only [bu]
           repeat (gi_big_quiet_step (fail))
           refine wpQuietIn_nil ?_;exact rfl
          intro W7 hW;replace Ly:=lyb Ly hW;replace HR:=lh ((HR.out.below hW).more hW.size);replace HB0:=lh (HB0.out.trans (hW.mono HB0.out.size));clear hW;simp only [bu];refine dv ?_;gi_wp2;gi_meet;exact ⟨by rw [show ok=false from HOKK.out.symm.trans (decide_eq_false (by exact fun h=>h.2.1 HQ1.out))],HB0⟩
         ·
          have hk1b:(x.kind != 1)=true:=by simpa using hk1
          have HQ1:=lh hk1;have HV0:=lh hv0;clear hk1;by_cases hj:jf=v
          ·
           have hjb:(jf==v)=true:=by simpa using hj
           have HJ:=lh hj;clear hj;by_cases hk4:x.kind=4
           ·
            have hk4b:(x.kind==4)=true:=by simpa using hk4
            have HQ4:=lh hk4;clear hk4;refine wpIn_flow_old [([true,true,true,true,true,true,true,true,true,true,true,false,true],11)] [false,false,false,false,false,false,false,false,false,false,false,false,false,true,true,true,true,true,true,true,true,true,true,true,true,true,true,true,true,true,true] [] (by kernel_rfl) (by kernel_rfl) (by kernel_rfl) (av b_R 1) ?_;refine wpFlow_cons (A:=?AF3) rfl ?hq3 ?_
            case hq3 =>
             rintro σ hσ of hof hcl;have HOF:=lh hof;clear hof hcl;obtain ⟨c0_,c1_,c2_,c3_⟩:=lyz4 Ly HOF 0 rfl;obtain ⟨c4_,c5_,c6_,c7_⟩:=lyz4 Ly HOF 1 rfl;have hfw:=hfT;simp only [bu]
             repeat (gi_big_quiet_step (fail))
             refine wpQuietIn_nil ?_;exact rfl
            intro W8 hW;replace Ly:=lyb Ly hW;replace HR:=lh ((HR.out.below hW).more hW.size);replace HB0:=lh (HB0.out.trans (hW.mono HB0.out.size));clear hW;gi_wp2;refine ⟨trivial,(callsIn_wide.2 (fp Av nv cv Aa na ca At nt ct m x.fr W8 (HM.out.up Ly.out.1))).mono ?_⟩;rintro e W9 ⟨rfl,hb⟩;replace Ly:=lyb Ly hb;replace HR:=lh ((HR.out.below hb).more hb.size);replace HB0:=lh (HB0.out.trans (hb.mono HB0.out.size));rw [HJF.out];gi_wp2;refine ⟨trivial,hb,?_⟩;clear hb;refine wpFlow_nil (A:=?AF4) ?hq4 ?_
            case hq4 =>
             rintro σ hσ of hof hcl;have HOF:=lh hof;clear hof hcl;obtain ⟨c0_,c1_,c2_,c3_⟩:=lyz4 Ly HOF 0 rfl;obtain ⟨c4_,c5_,c6_,c7_⟩:=lyz4 Ly HOF 1 rfl;have hfw:=hfT;simp only [bu]
             repeat (gi_big_quiet_step (fail))
             refine wpQuietIn_nil ?_;exact rfl
            intro W10 hW;replace Ly:=lyb Ly hW;replace HR:=lh ((HR.out.below hW).more hW.size);replace HB0:=lh (HB0.out.trans (hW.mono HB0.out.size));clear hW;simp only [bu];refine dv ?_;gi_wp2;gi_meet;exact ⟨by rw [show ok=true from HOKK.out.symm.trans (decide_eq_true (by exact ⟨HV0.out,HQ1.out,HJ.out,.inl HQ4.out⟩))],HB0⟩
           ·
            have hk4b:(x.kind==4)=false:=by simpa using hk4
            have HQ4:=lh hk4;clear hk4
            obtain ⟨vq,rfl⟩:∃ r:Nat,v=(r:Int):=⟨v.toNat,by omega⟩
            have hvq:vq<4:=by omega
            have HVQ:=lh hvq;have hi9:=HI9.out;rw [HE9.out];have ivq0:(0:Int)≤(vq:Int):=by omega
            have ivq4:(vq:Int)<4:=by omega
            by_cases hd:x.drops=au all (vq:Int)
            ·
             have hdb:(x.drops==au all (vq:Int))=true:=by simpa using hd
             have HD:=lh hd;clear hd;have hrc:=lQ HR.out HE9.out HLI.out HI9.out HVQ.out;have HBC:=lh hrc.1;have HCC:=lh hrc.2;clear hrc;refine wpIn_flow_old [([true,true,true,true,true,true,true,true,true,true,true,false,true],11)] [false,false,false,false,false,false,false,false,false,false,false,false,false,true,true,true,true,true,true,true,true,true,true,true,true,true,true,true,true,true,true] [] (by kernel_rfl) (by kernel_rfl) (by kernel_rfl) (av b_R 1) ?_;refine wpFlow_cons (A:=?AF5) rfl ?hq5 ?_
             case hq5 =>
              rintro σ hσ of hof hcl;have HOF:=lh hof;clear hof hcl;obtain ⟨c0_,c1_,c2_,c3_⟩:=lyz4 Ly HOF 0 rfl;obtain ⟨c4_,c5_,c6_,c7_⟩:=lyz4 Ly HOF 1 rfl;have hfw:=hfT;have ch:∀ z,(of z).cell? ⟨b9,o9+i * 4+vq,none⟩=some (.int .i64 (au all (vq:Int))):=fun z=>((HOF.out z).cell (p:=⟨b9,o9+i * 4+vq,none⟩) HBC.out).trans HCC.out;simp only [bu]
              repeat (gi_big_quiet_step (fail))
              refine wpQuietIn_nil ?_;exact rfl
             intro W11 hW;replace Ly:=lyb Ly hW;replace HR:=lh ((HR.out.below hW).more hW.size);replace HB0:=lh (HB0.out.trans (hW.mono HB0.out.size));clear hW;gi_wp2;refine ⟨trivial,(callsIn_wide.2 (fp Av nv cv Aa na ca At nt ct m x.fr W11 (HM.out.up Ly.out.1))).mono ?_⟩;rintro e W12 ⟨rfl,hb⟩;replace Ly:=lyb Ly hb;replace HR:=lh ((HR.out.below hb).more hb.size);replace HB0:=lh (HB0.out.trans (hb.mono HB0.out.size));rw [HJF.out];have hrc:=lQ HR.out HE9.out HLI.out HI9.out HVQ.out;replace HBC:=lh hrc.1;replace HCC:=lh hrc.2;clear hrc;gi_wp2;refine ⟨trivial,hb,?_⟩;clear hb;refine wpFlow_nil (A:=?AF6) ?hq6 ?_
             case hq6 =>
              rintro σ hσ of hof hcl;have HOF:=lh hof;clear hof hcl;obtain ⟨c0_,c1_,c2_,c3_⟩:=lyz4 Ly HOF 0 rfl;obtain ⟨c4_,c5_,c6_,c7_⟩:=lyz4 Ly HOF 1 rfl;have hfw:=hfT;have ch:∀ z,(of z).cell? ⟨b9,o9+i * 4+vq,none⟩=some (.int .i64 (au all (vq:Int))):=fun z=>((HOF.out z).cell (p:=⟨b9,o9+i * 4+vq,none⟩) HBC.out).trans HCC.out;simp only [bu]
              repeat (gi_big_quiet_step (fail))
              refine wpQuietIn_nil ?_;exact rfl
             intro W13 hW;replace Ly:=lyb Ly hW;replace HR:=lh ((HR.out.below hW).more hW.size);replace HB0:=lh (HB0.out.trans (hW.mono HB0.out.size));clear hW;simp only [bu];refine dv ?_;gi_wp2;rw [← HE9.out];gi_meet;exact ⟨by rw [show ok=true from HOKK.out.symm.trans (decide_eq_true (by exact ⟨HV0.out,HQ1.out,HJ.out,.inr HD.out⟩))],HB0⟩
            ·
             have hdb:(x.drops==au all (vq:Int))=false:=by simpa using hd
             have HD:=lh hd;clear hd;have hrc:=lQ HR.out HE9.out HLI.out HI9.out HVQ.out;have HBC:=lh hrc.1;have HCC:=lh hrc.2;clear hrc;refine wpIn_flow_old [([true,true,true,true,true,true,true,true,true,true,true,false,true],11)] [false,false,false,false,false,false,false,false,false,false,false,false,false,true,true,true,true,true,true,true,true,true,true,true,true,true,true,true,true,true,true] [] (by kernel_rfl) (by kernel_rfl) (by kernel_rfl) (av b_R 1) ?_;refine wpFlow_cons (A:=?AF7) rfl ?hq7 ?_
             case hq7 =>
              rintro σ hσ of hof hcl;have HOF:=lh hof;clear hof hcl;obtain ⟨c0_,c1_,c2_,c3_⟩:=lyz4 Ly HOF 0 rfl;obtain ⟨c4_,c5_,c6_,c7_⟩:=lyz4 Ly HOF 1 rfl;have hfw:=hfT;have ch:∀ z,(of z).cell? ⟨b9,o9+i * 4+vq,none⟩=some (.int .i64 (au all (vq:Int))):=fun z=>((HOF.out z).cell (p:=⟨b9,o9+i * 4+vq,none⟩) HBC.out).trans HCC.out;simp only [bu]
              repeat (gi_big_quiet_step (fail))
              refine wpQuietIn_nil ?_;exact rfl
             intro W14 hW;replace Ly:=lyb Ly hW;replace HR:=lh ((HR.out.below hW).more hW.size);replace HB0:=lh (HB0.out.trans (hW.mono HB0.out.size));clear hW;gi_wp2;refine ⟨trivial,(callsIn_wide.2 (fp Av nv cv Aa na ca At nt ct m x.fr W14 (HM.out.up Ly.out.1))).mono ?_⟩;rintro e W15 ⟨rfl,hb⟩;replace Ly:=lyb Ly hb;replace HR:=lh ((HR.out.below hb).more hb.size);replace HB0:=lh (HB0.out.trans (hb.mono HB0.out.size));rw [HJF.out];have hrc:=lQ HR.out HE9.out HLI.out HI9.out HVQ.out;replace HBC:=lh hrc.1;replace HCC:=lh hrc.2;clear hrc;gi_wp2;refine ⟨trivial,hb,?_⟩;clear hb;refine wpFlow_nil (A:=?AF8) ?hq8 ?_
             case hq8 =>
              rintro σ hσ of hof hcl;have HOF:=lh hof;clear hof hcl;obtain ⟨c0_,c1_,c2_,c3_⟩:=lyz4 Ly HOF 0 rfl;obtain ⟨c4_,c5_,c6_,c7_⟩:=lyz4 Ly HOF 1 rfl;have hfw:=hfT;have ch:∀ z,(of z).cell? ⟨b9,o9+i * 4+vq,none⟩=some (.int .i64 (au all (vq:Int))):=fun z=>((HOF.out z).cell (p:=⟨b9,o9+i * 4+vq,none⟩) HBC.out).trans HCC.out;simp only [bu]
              repeat (gi_big_quiet_step (fail))
              refine wpQuietIn_nil ?_;exact rfl
             intro W16 hW;replace Ly:=lyb Ly hW;replace HR:=lh ((HR.out.below hW).more hW.size);replace HB0:=lh (HB0.out.trans (hW.mono HB0.out.size));clear hW;simp only [bu];refine dv ?_;gi_wp2;rw [← HE9.out];gi_meet;exact ⟨by rw [show ok=false from HOKK.out.symm.trans (decide_eq_false (by rintro ⟨_,_,_,h | h⟩;exact HQ4.out h;exact HD.out h))],HB0⟩
          ·
           have hjb:(jf==v)=false:=by simpa using hj
           have HJ:=lh hj;clear hj;refine wpIn_flow_old [([true,true,true,true,true,true,true,true,true,true,true,false,true],11)] [false,false,false,false,false,false,false,false,false,false,false,false,false,true,true,true,true,true,true,true,true,true,true,true,true,true,true,true,true,true,true] [] (by kernel_rfl) (by kernel_rfl) (by kernel_rfl) (av b_R 1) ?_;refine wpFlow_cons (A:=?AF9) rfl ?hq9 ?_
           case hq9 =>
            rintro σ hσ of hof hcl;have HOF:=lh hof;clear hof hcl;obtain ⟨c0_,c1_,c2_,c3_⟩:=lyz4 Ly HOF 0 rfl;obtain ⟨c4_,c5_,c6_,c7_⟩:=lyz4 Ly HOF 1 rfl;have hfw:=hfT;simp only [bu]
            repeat (gi_big_quiet_step (fail))
            refine wpQuietIn_nil ?_;exact rfl
           intro W17 hW;replace Ly:=lyb Ly hW;replace HR:=lh ((HR.out.below hW).more hW.size);replace HB0:=lh (HB0.out.trans (hW.mono HB0.out.size));clear hW;gi_wp2;refine ⟨trivial,(callsIn_wide.2 (fp Av nv cv Aa na ca At nt ct m x.fr W17 (HM.out.up Ly.out.1))).mono ?_⟩;rintro e W18 ⟨rfl,hb⟩;replace Ly:=lyb Ly hb;replace HR:=lh ((HR.out.below hb).more hb.size);replace HB0:=lh (HB0.out.trans (hb.mono HB0.out.size));rw [HJF.out];gi_wp2;refine ⟨trivial,hb,?_⟩;clear hb;refine wpFlow_nil (A:=?AF10) ?hq10 ?_
           case hq10 =>
            rintro σ hσ of hof hcl;have HOF:=lh hof;clear hof hcl;obtain ⟨c0_,c1_,c2_,c3_⟩:=lyz4 Ly HOF 0 rfl;obtain ⟨c4_,c5_,c6_,c7_⟩:=lyz4 Ly HOF 1 rfl;have hfw:=hfT;simp only [bu]
            repeat (gi_big_quiet_step (fail))
            refine wpQuietIn_nil ?_;exact rfl
           intro W19 hW;replace Ly:=lyb Ly hW;replace HR:=lh ((HR.out.below hW).more hW.size);replace HB0:=lh (HB0.out.trans (hW.mono HB0.out.size));clear hW;simp only [bu];refine dv ?_;gi_wp2;gi_meet;exact ⟨by rw [show ok=false from HOKK.out.symm.trans (decide_eq_false (by exact fun h=>HJ.out h.2.2.1))],HB0⟩
        ·
         have HQ1:=lh hv0;refine wpIn_flow_old [([true,true,true,true,true,true,true,true,true,true,true,false,true],11)] [false,false,false,false,false,false,false,false,false,false,false,false,false,true,true,true,true,true,true,true,true,true,true,true,true,true,true,true,true,true,true] [] (by kernel_rfl) (by kernel_rfl) (by kernel_rfl) (av b_R 1) ?_;refine wpFlow_cons (A:=?AF11) rfl ?hq11 ?_
         case hq11 =>
          rintro σ hσ of hof hcl;have HOF:=lh hof;clear hof hcl;obtain ⟨c0_,c1_,c2_,c3_⟩:=lyz4 Ly HOF 0 rfl;obtain ⟨c4_,c5_,c6_,c7_⟩:=lyz4 Ly HOF 1 rfl;have hfw:=hfT;simp only [bu]
          repeat (gi_big_quiet_step (fail))
          refine wpQuietIn_nil ?_;exact rfl
         intro W20 hW;replace Ly:=lyb Ly hW;replace HR:=lh ((HR.out.below hW).more hW.size);replace HB0:=lh (HB0.out.trans (hW.mono HB0.out.size));clear hW;gi_wp2;refine ⟨trivial,?_⟩;gi_wp2;refine ⟨trivial,b_R,?_⟩;refine wpFlow_nil (A:=?AF12) ?hq12 ?_
         case hq12 =>
          rintro σ hσ of hof hcl;have HOF:=lh hof;clear hof hcl;obtain ⟨c0_,c1_,c2_,c3_⟩:=lyz4 Ly HOF 0 rfl;obtain ⟨c4_,c5_,c6_,c7_⟩:=lyz4 Ly HOF 1 rfl;have hfw:=hfT;simp only [bu]
          repeat (gi_big_quiet_step (fail))
          refine wpQuietIn_nil ?_;exact rfl
         intro W21 hW;replace Ly:=lyb Ly hW;replace HR:=lh ((HR.out.below hW).more hW.size);replace HB0:=lh (HB0.out.trans (hW.mono HB0.out.size));clear hW;simp only [bu];refine dv ?_;gi_wp2;gi_meet;exact ⟨by rw [show ok=false from HOKK.out.symm.trans (decide_eq_false (by intro h;have h1:=h.1;have h2:=HQ1.out;omega))],HB0⟩
       case rest =>
        obtain ⟨rfl,hcb⟩:=hcut;rename World=>C3;have hb:=hcb.out;clear hcb;replace Ly:=lyb Ly hb;replace HR:=lh ((HR.out.below hb).more hb.size);clear hb
        cases ok with
        | true =>
         have hw:eM m L f k (idxV m.vessels vessel) l=false:=lL (t:=i+1) (by
          rw [HSTEP.out,HWK.out,Option.bind_some,HST.out,HJF.out,if_pos (of_decide_eq_true HOKK.out)]) (by omega)
         have HW:=lh hw;clear hw;gi_wp2;refine bodyPost_ret (v:=.bool false) (by simp [results,Tryz.results39,go_sem]) rfl ?_;exact ⟨by rw [HW.out],Ly.out.1⟩
        | false =>
         have HNX:Hid (ia m L f l (i+1)=some (v,q)):=lh (by
          rw [HSTEP.out,HWK.out,Option.bind_some,HST.out,HJF.out,if_neg (of_decide_eq_false HOKK.out)])
         gi_wp2;refine ⟨⟨i+1,v,q,lh ⟨by omega,HNX.out,by omega,by omega,Ly.out.sub (by intro b hb;simp only [List.mem_cons,List.not_mem_nil,or_false] at hb ⊢;rcases hb with rfl;simp [HAA.out]),HR.out⟩,by rw [show ((i+1:Nat):Int)=(i:Int)+1 from by omega];first | (constructor;done) | (rw [HAA.out];constructor;done)⟩,?_⟩;simp [intOf];omega
    ·
     obtain rfl:i=k:=by omega
     obtain ⟨jv,hjv⟩:∃ j,idxV m.vessels vessel=j:=⟨_,rfl⟩
     have HEND:Hid (eM m L f i (idxV m.vessels vessel) l=decide (v=jv∧q=n)):=lh (by
      rw [HB.out,HWK.out,hjv]
      simp)
     have HJV:=lh hjv;clear hjv;by_cases hq:q=n
     ·
      have hqb:((q:Int)==(n:Int))=true:=by simp;omega
      have HQ1:=lh hq;clear hq;obtain ⟨x0_0,x0_1,x0_2,x0_3⟩:=lyc4 Ly 0 rfl;have l0_:=Ly.out.lt 0 rfl;gi_wp2;clear x0_0 x0_1 x0_2 x0_3 l0_;refine ⟨trivial,(callsIn_wide.2 (fp Av nv cv Aa na ca At nt ct m vessel W (HM.out.up Ly.out.1))).mono ?_⟩;rintro e W22 ⟨rfl,hb⟩;replace Ly:=lyb Ly hb;replace HR:=lh ((HR.out.below hb).more hb.size);clear hb;rw [HJV.out];by_cases hv:v=jv
      ·
       have hvb:(v==jv)=true:=by simpa using hv
       have HV:=lh hv;clear hv;gi_wp2;refine bodyPost_ret (v:=.bool true) (by simp [results,Tryz.results39,go_sem]) rfl ?_;exact ⟨by rw [HEND.out,decide_eq_true ⟨HV.out,HQ1.out⟩],Ly.out.1⟩
      ·
       have hvb:(v==jv)=false:=by simpa using hv
       have HV:=lh hv;clear hv;gi_wp2;refine bodyPost_ret (v:=.bool false) (by simp [results,Tryz.results39,go_sem]) rfl ?_;exact ⟨by rw [HEND.out,decide_eq_false fun h=>HV.out h.1],Ly.out.1⟩
     ·
      have hqb:((q:Int)==(n:Int))=false:=by simp;omega
      have HQ1:=lh hq;clear hq;obtain ⟨x0_0,x0_1,x0_2,x0_3⟩:=lyc4 Ly 0 rfl;have l0_:=Ly.out.lt 0 rfl;gi_wp2;clear x0_0 x0_1 x0_2 x0_3 l0_
      try (refine ⟨trivial,?_⟩;gi_wp2)
      refine bodyPost_ret (v:=.bool false) (by simp [results,Tryz.results39,go_sem]) rfl ?_;exact ⟨by rw [HEND.out,decide_eq_false (fun h=>HQ1.out h.2)],Ly.out.1⟩
end
section
def dY (a s:Nat):List Int:=((List.range a).filter fun k=>s.testBit k).map fun k:Nat=>(k:Int)+1
theorem iF (a s:Nat):dY (a+1) s=dY a s++if s.testBit a then [(a:Int)+1] else []:=by
 unfold dY;rw [List.range_succ,List.filter_append,List.map_append]
 congr 1
 cases h:s.testBit a<;>simp [h]
theorem l5 {a s:Nat}{n:Int}:n∈dY a s↔1≤n∧n≤a∧s.testBit (n - 1).toNat=true:=by
 unfold dY;simp only [List.mem_map,List.mem_filter,List.mem_range];constructor
 ·rintro ⟨k,⟨h1,h2⟩,rfl⟩
  exact ⟨by omega,by omega,by rw [show ((k:Int)+1 - 1).toNat=k by omega];exact h2⟩
 ·rintro ⟨h1,h2,h3⟩
  exact ⟨(n - 1).toNat,⟨by omega,h3⟩,by omega⟩
theorem xC (a s:Nat):UpTo a (dY a s):=by
 refine ⟨?_,fun n hn=>by have:=l5.1 hn;omega⟩;unfold dY;rw [List.pairwise_map];exact (List.pairwise_lt_range.filter _).imp fun {i j} h=>by omega
theorem rU {a s r:Nat}(h:∀ k,k<a→s.testBit k=r.testBit k):dY a s=dY a r:=by
 unfold dY;rw [List.filter_congr];intro k hk;rw [h k (List.mem_range.1 hk)]
theorem kq:∀ {a:Nat} {l:List Int},UpTo a l→∃ s,s<2 ^ a∧dY a s=l
 | 0,l,h=>by
  refine ⟨0,by decide,?_⟩
  cases l with
  | nil=>rfl
  | cons n l=>have:=h.2 n (by simp);omega
 | a+1,l,h=>by
  have hp:2 ^ (a+1)=2 ^ a+2 ^ a:=by rw [Nat.pow_succ];omega
  by_cases hl:∃ p,l=p++[(a:Int)+1]
  ·obtain ⟨p,rfl⟩:=hl
   obtain ⟨h1,h2,h3⟩:=mh.1 h
   have h4:UpTo a p:=⟨h1.1,fun n hn=>⟨(h1.2 n hn).1,by have:=mt h1 n hn;omega⟩⟩
   obtain ⟨s,hs,rfl⟩:=kq h4;refine ⟨2 ^ a+s,by omega,?_⟩;rw [iF,Nat.testBit_two_pow_add_eq,Nat.testBit_lt_two_pow hs];rw [rU (r:=s) fun k hk=>Nat.testBit_two_pow_add_gt hk s];simp
  ·have h4:UpTo a l:=⟨h.1,fun n hn=>by
    have h5:=h.2 n hn;refine ⟨h5.1,?_⟩;rcases Int.lt_or_le (a:Int) n with h6 | h6
    ·exfalso
     have h7:n=(a:Int)+1:=by omega
     subst h7;have h8:=mt h _ hn;have h9:=lH h;have h10:l≠[]:=fun e=>by subst e;cases hn
     refine hl ⟨l.dropLast,?_⟩;have e:=(List.dropLast_concat_getLast h10).symm;have e2:fF l=l.getLast h10:=by unfold fF;rw [List.getLast?_eq_some_getLast h10];rfl
     rw [← e2,show fF l=(a:Int)+1 by omega] at e;exact e
    ·exact h6⟩
   obtain ⟨s,hs,rfl⟩:=kq h4;exact ⟨s,by omega,by rw [iF,Nat.testBit_lt_two_pow hs];simp⟩
theorem lT (a s:Nat):(dY a s).length≤a:=by
 unfold dY;rw [List.length_map];exact Nat.le_trans (List.length_filter_le _ _) (by simp)
end
section
open Go.RowKit Go.Lib
theorem uB (i:Nat)(hi:i<65536):bits BinOp.and IntKind.u16 (i:Int) 1=((i % 2:Nat):Int):=by
 have two16:(2:Int) ^ 16=65536:=by decide
 have h:=bits_mask .u16 16 (by decide) (fun n h0 h1=>by rw [two16] at h1;unfold IntKind.wrap;simp [IntKind.bits,IntKind.signed];omega) 1 (by decide) (i:Int) (by omega) (by rw [two16];omega);have e:((2:Int) ^ 1 - 1)=1:=by decide
 rw [e] at h;rw [h];omega
theorem wt (s:Nat)(hs:s<65536)(i:Nat):(bits BinOp.and IntKind.u16 ((s:Int) / 2 ^ i) 1==1)=s.testBit i:=by
 have h1:((s:Int) / 2 ^ i)=((s / 2 ^ i:Nat):Int):=by norm_cast
 have h2:s / 2 ^ i<65536:=Nat.lt_of_le_of_lt (Nat.div_le_self _ _) hs;rw [h1,uB _ h2,Nat.testBit_eq_decide_div_mod_eq];by_cases e:s / 2 ^ i % 2=1
 ·rw [e];rfl
 ·have e0:s / 2 ^ i % 2=0:=by omega
  rw [e0];rfl
end
section
open Go.RowKit Go.Shelf
attribute [local go_sem] Oper.semAt_some
inductive yv (v0 v1 v5:Value):Act→Prop
 | mk (a b c d e f g h i j k l m n o p q r s t w x y z A B C D E F G H I J K L M:Value):yv v0 v1 v5 ⟨#[v0,v1,a,b,c,v5,d,e,f,g,h,i,j,k,l,m,n,o,p,q,r,s,t,w,x,y,z,A,B,C,D,E,F,G,H,I,J,K,L,M],[]⟩
theorem sX (A:Option Addr)(n c:Nat)(a:List Int)(B:Option Addr)(m d:Nat)(b:List Int)(w:World)(ha:du w w.heap.size A n a)(hb:du w w.heap.size B m b)(hn:n≤1000)(hm:m≤1000) :
  CallsIn Fence.wide 9 Tryz.prog 40 #[.slice A n c,.slice B m d] w fun e w'=>e = .returned (.bool (decide (cmpS a b<0)))∧Below w.heap.size w w':=by
 have la:a.length=n:=ha.len;have lb:b.length=m:=hb.len;have HA:=lh ha;have HB:=lh hb;have hsp:cmpS a b=if n<m then -1 else if m<n then 1 else cmpL a b:=by unfold cmpS;rw [la,lb]
 obtain ⟨cs,hcs⟩:∃ cs,cmpS a b=cs:=⟨_,rfl⟩
 rw [hcs] at hsp ⊢;have HSP:=lh hsp;have LA:=lh la;have LB:=lh lb;clear ha hb hsp hcs la lb;refine callsIn_of_wp Tryz.func40 rfl trivial ?_ rfl;simp only [Tryz.ntmps40,es,Nat.reduceAdd,Nat.reduceSub];by_cases hnm:n=m
 ·subst hnm
  gi_wp2;refine wpIn_loop (fun a' W=>∃ (k:Nat),Hid (k≤n∧cmpL a b=cmpL (a.drop k) (b.drop k)∧Below w.heap.size w W)∧yv (.slice A n c) (.slice B n d) (.int .i64 (k:Int)) a') (fun a' _=>n - (intOf (a'.tmps.getD 5 undef)).toNat) ?_ ?_
  ·exact ⟨0,lh ⟨Nat.zero_le _,by simp,b_R⟩,by constructor⟩
  rintro a' W ⟨k,HK,hf⟩;cases hf;by_cases hlt:k<n
  ·obtain ⟨b1,o1,x,hA1,h1,hx,cx⟩:=(HA.out.below HK.out.2.2).cell hlt
   obtain ⟨b2,o2,y,hB1,h2,hy,cy⟩:=(HB.out.below HK.out.2.2).cell hlt;have HX:=lh hx;have HY:=lh hy;have hsz:=HK.out.2.2.size;have HA1:=lh hA1;have HB1:=lh hB1;rw [hA1,hB1];clear hx hy hA1 hB1;by_cases hxy:x=y
   ·subst hxy
    gi_wp2
    gi_region
    all_goals
     gi_wp2;refine ⟨⟨k+1,lh ⟨hlt,by rw [HK.out.2.1,iZ HX.out HY.out,if_neg (by omega),if_neg (by omega)],av HK.out.2.2 1⟩,by rw [show ((k+1:Nat):Int)=(k:Int)+1 from by omega];constructor⟩,?_⟩;simp [intOf]<;>omega
   ·have hxyb:(x != y)=true:=by simpa using hxy
    have HXY:=lh hxy;clear hxy;gi_wp2
    gi_region
    all_goals
     gi_wp2
     gi_region
     all_goals
      gi_wp2;refine bodyPost_ret (v:=.bool (decide (x<y))) (by simp [results,Tryz.results40,go_sem]) rfl ?_;refine ⟨?_,av (av HK.out.2.2 1) 1⟩;rw [HSP.out,if_neg (by omega),if_neg (by omega),HK.out.2.1,iZ HX.out HY.out];have hxy:=HXY.out;by_cases h9:x<y
      ·rw [if_pos h9];simp [h9]
      ·rw [if_neg h9,if_pos (by omega)];simp [h9]
  ·obtain rfl:k=n:=by have:=HK.out.1;omega
   gi_wp2;refine bodyPost_ret (v:=.bool false) (by simp [results,Tryz.results40,go_sem]) rfl ?_;refine ⟨?_,HK.out.2.2⟩;rw [HSP.out,if_neg (by omega),if_neg (by omega),HK.out.2.1,List.drop_eq_nil_of_le (by rw [LA.out];exact n_R),List.drop_eq_nil_of_le (by rw [LB.out];exact n_R)];rfl
 ·have hb:((n:Int) != (m:Int))=true:=by simpa using (show ¬ (n:Int)=(m:Int) by omega)
  gi_wp2;refine bodyPost_ret (v:=.bool (decide (n<m))) (by simp [results,Tryz.results40,go_sem]) rfl ?_;refine ⟨?_,b_R⟩;rw [HSP.out];by_cases h9:n<m
  ·rw [if_pos h9];simp [h9]
  ·rw [if_neg h9,if_pos (by omega)];simp [h9]
end
section
open Go.RowKit Go.Shelf
attribute [local go_sem] Oper.semAt_some
def hitL (a b:List Int):Bool:=a.any fun x=>b.any fun y=>x==y
theorem gZ {a b:List Int}:hitL a b=true↔∃ x∈a,x∈b:=by unfold hitL;simp
inductive FrHt (v1 v9 v10 v11:Value):Act→Prop
 | mk (a b c d e f g h i j k l m n o p q r s t w x:Value):FrHt v1 v9 v10 v11 ⟨#[a,v1,b,c,d,e,f,g,h,v9,v10,v11,i,j,k,l,m,n,o,p,q,r,s,t,w,x],[]⟩
inductive FrHu (v1 v6 v9 v10 v11 v15 v16 v17:Value):Act→Prop
 | mk (a b c d e f g h i j k l m n o p q r:Value):FrHu v1 v6 v9 v10 v11 v15 v16 v17 ⟨#[a,v1,b,c,d,e,v6,f,g,v9,v10,v11,h,i,j,v15,v16,v17,k,l,m,n,o,p,q,r],[]⟩
theorem nA (A:Option Addr)(n c:Nat)(a:List Int)(B:Option Addr)(m d:Nat)(b:List Int)(w:World)(ha:du w w.heap.size A n a)(hb:du w w.heap.size B m b)(hn:n≤1000)(hm:m≤1000) :
  CallsIn Fence.wide 9 Tryz.prog 42 #[.slice A n c,.slice B m d] w fun e w'=>e = .returned (.bool (hitL a b))∧Below w.heap.size w w':=by
 have HA:=lh ha;have HB:=lh hb;have LA:=lh ha.len;have LB:=lh hb.len;clear ha hb;refine callsIn_of_wp Tryz.func42 rfl trivial ?_ rfl;simp only [Tryz.ntmps42,es,Nat.reduceAdd,Nat.reduceSub];gi_wp2;refine wpIn_loop (fun a' W=>∃ (k:Nat),Hid (k≤n∧(∀ x∈a.take k,x∉b)∧Below w.heap.size w W)∧FrHt (.slice B m d) (.slice A n c) (.int .i64 (n:Int)) (.int .i64 (k:Int)) a') (fun a' _=>n - (intOf (a'.tmps.getD 11 undef)).toNat) ?_ ?_
 ·exact ⟨0,lh ⟨Nat.zero_le _,(fun x hx=>by simp at hx),b_R⟩,by constructor⟩
 rintro a' W ⟨k,HK,hf⟩;cases hf;by_cases hlt:k<n
 ·obtain ⟨b1,o1,x,hA1,h1,hx,cx⟩:=(HA.out.below HK.out.2.2).cell hlt
  have HX:=lh hx;have HSZ:=lh HK.out.2.2.size;have HA1:=lh hA1;rw [hA1];gi_upto_region 4 with fail
  rw [← HA1.out];clear hx hA1 h1 cx;gi_wp2;refine wpIn_loop (fun a' W2=>∃ (j:Nat),Hid (j≤m∧x∉b.take j∧Below w.heap.size w W2)∧FrHu (.slice B m d) (.int .i64 x) (.slice A n c) (.int .i64 (n:Int)) (.int .i64 (k:Int)) (.slice B m d) (.int .i64 (m:Int)) (.int .i64 (j:Int)) a') (fun a' _=>m - (intOf (a'.tmps.getD 17 undef)).toNat) ?_ ?_
  ·exact ⟨0,lh ⟨Nat.zero_le _,by simp,HK.out.2.2⟩,by first | constructor | (rw [HA1.out];constructor)⟩
  rintro a2 W2 ⟨j,HJ,hf⟩;cases hf;by_cases hlj:j<m
  ·obtain ⟨b2,o2,y,hB1,h2,hy,cy⟩:=(HB.out.below HJ.out.2.2).cell hlj
   have HY:=lh hy;have HSZ2:=lh HJ.out.2.2.size;have HB1:=lh hB1;rw [hB1];gi_upto_region 7 with fail
   rw [← HB1.out];clear hy hB1 h2 cy;by_cases hxy:x=y
   ·have hxb:(x==y)=true:=by simpa using hxy
    have hyes:hitL a b=true:=gZ.2 ⟨x,List.mem_of_getElem? HX.out,hxy ▸ List.mem_of_getElem? HY.out⟩;have HYES:=lh hyes;clear hyes hxy;gi_wp2;exact bodyPost_ret (v:=.bool true) (by simp [results,Tryz.results42,go_sem]) rfl ⟨by rw [HYES.out],HJ.out.2.2⟩
   ·have hxb:(x==y)=false:=by simpa using hxy
    have HN:=lh hxy;clear hxy;gi_wp2;refine ⟨⟨j+1,lh ⟨hlj,?_,HJ.out.2.2⟩,by rw [show ((j+1:Nat):Int)=(j:Int)+1 from by omega];first | constructor | (rw [HB1.out];constructor)⟩,?_⟩
    ·rw [List.take_add_one,HY.out]
     simp only [Option.toList,List.mem_append,List.mem_singleton,not_or];exact ⟨HJ.out.2.1,HN.out⟩
    ·simp [intOf]<;>omega
  ·obtain rfl:m=j:=by have:=HJ.out.1;omega
   have HNX:Hid (x∉b):=lh (by have h:=HJ.out.2.1;rwa [List.take_of_length_le (by rw [LB.out];exact n_R)] at h);gi_wp2;refine ⟨⟨k+1,lh ⟨hlt,?_,HJ.out.2.2⟩,by rw [show ((k+1:Nat):Int)=(k:Int)+1 from by omega];first | constructor | (rw [HA1.out];constructor)⟩,?_⟩
   ·intro z hz
    rw [List.take_add_one,HX.out] at hz;simp only [Option.toList,List.mem_append,List.mem_singleton] at hz;rcases hz with h | rfl
    ·exact HK.out.2.1 z h
    ·exact HNX.out
   ·simp [intOf]<;>omega
 ·obtain rfl:n=k:=by have:=HK.out.1;omega
  have hno:hitL a b=false:=by
   cases h:hitL a b with
   | false=>rfl
   | true =>
    obtain ⟨x,h1,h2⟩:=gZ.1 h;exact absurd h2 (HK.out.2.1 x (by rw [List.take_of_length_le (by rw [LA.out];exact n_R)];exact h1))
  have HNO:=lh hno;clear hno;gi_wp2;exact bodyPost_ret (v:=.bool false) (by simp [results,Tryz.results42,go_sem]) rfl ⟨by rw [HNO.out],HK.out.2.2⟩
end
section
open Go.RowKit Go.Shelf
theorem py:lI Tryz.prog 80 3 4 Int Bool (Value.int .i64) Value.bool okZ (.bool false) where
 und:=Tryz.underlying80
 keyed:=Maps.int_keyed Tryz.underlying3
 reads:=fun x hx=>⟨_,Maps.keyOf_int_mk Tryz.underlying3 hx⟩
 inj:=fun x y h=>by simpa using h
 zero:=fun w=>by kernel_rfl
def xN (m:Mix)(L:List Held)(f:Int)(t:Nat)(v:Int)(l:List Int)(s:Nat)(ks:List Int):Prop :=
 (∀ n∈ks,n∈l)∧∀ n:Int,∀ r:Nat,1≤r→r<s→eM m L f t v (dY t r)=true→l.filter (fun k=>decide (k∈dY t r))=[n]→n∈ks
structure AlX (W:World)(r:Nat)(m:Mix)(L:List Held)(f:Int)(t:Nat)(v:Int)(l:List Int)(s:Nat):Prop where
 ex:∃ mm:List (Int × Bool),d7 (Value.int .i64) Value.bool okZ W r mm∧xN m L f t v l s (mm.map Prod.fst)
section
variable {W W':World} {r:Nat} {m:Mix} {L:List Held} {f:Int} {t:Nat} {v:Int} {l:List Int} {s:Nat}
theorem AlX.below (h:AlX W r m L f t v l s)(hb:Below W.heap.size W W'):AlX W' r m L f t v l s:=by
 obtain ⟨mm,h1,h2⟩:=h.ex;exact ⟨mm,h1.below hb h1.lt,h2⟩
theorem AlX.lt (h:AlX W r m L f t v l s):r<W.heap.size:=by
 obtain ⟨mm,h1,h2⟩:=h.ex;exact h1.lt
theorem AlX.start (W:World):AlX (W.alloc (.map #[] 0)) W.heap.size m L f t v l 1:=⟨[],d7.made W,(fun n h=>by cases h),fun n r h1 h2=>by omega⟩
theorem AlX.skip (h:AlX W r m L f t v l s)(hno:eM m L f t v (dY t s)=false∨(l.filter (fun k=>decide (k∈dY t s))).length≠1):AlX W r m L f t v l (s+1):=by
 obtain ⟨mm,h1,h2,h3⟩:=h.ex;refine ⟨mm,h1,h2,fun n q q1 q2 q3 q4=>?_⟩;by_cases e:q=s
 ·subst e
  rcases hno with h | h
  ·rw [h] at q3;cases q3
  ·rw [q4] at h;exact absurd rfl h
 ·exact h3 n q q1 (by omega) q3 q4
theorem tj {mm:List (Int × Bool)}{x:Int}:x∈mm.map Prod.fst↔look mm x≠none:=by
 rw [ne_eq,look_none];constructor
 ·intro h h2
  obtain ⟨p,hp,e⟩:=List.mem_map.1 h;exact h2 p hp e
 ·intro h
  refine Classical.byContradiction fun hn=>h fun p hp e=>hn (List.mem_map.2 ⟨p,hp,e⟩)
theorem AlX.add {n:Int}(h:AlX W r m L f t v l s)(hz:okZ n)(hf:l.filter (fun k=>decide (k∈dY t s))=[n]) :
  ∃ w',(Instr.mapUpdate 80 (.map (some r)) (.int .i64 n) (.bool true)).run Tryz.prog W = .ok () w'∧AlX w' r m L f t v l (s+1)∧W.grownBy w' (some r)∧w'.heap.size=W.heap.size:=by
 obtain ⟨mm,h1,h2,h3⟩:=h.ex;obtain ⟨w',q1,q2,q3,q4⟩:=h1.update (P:=Tryz.prog) py hz true
 have hk:∀ y,y∈(put mm n true).map Prod.fst↔y=n∨y∈mm.map Prod.fst:=fun y=>by
  rw [tj,tj,od];by_cases e:y=n
  ·simp [e]
  ·simp [e]
 refine ⟨w',q1,⟨put mm n true,q2,fun y hy=>?_,fun y q k1 k2 k3 k4=>?_⟩,q3,q4⟩
 ·rcases (hk y).1 hy with rfl | h
  ·have:y∈l.filter (fun k=>decide (k∈dY t s)):=by rw [hf];exact List.mem_singleton.2 rfl
   exact (List.mem_filter.1 this).1
  ·exact h2 y h
 ·refine (hk y).2 ?_
  by_cases e:q=s
  ·subst e
   rw [hf] at k4;exact .inl (by simpa using k4.symm)
  ·exact .inr (h3 y q k1 (by omega) k3 k4)
theorem AlX.len (h:AlX W r m L f t v l (2 ^ t))(hA:allM m m.acts=some L)(hv:m.vessels.length≤4)(ht:t≤m.acts.length)(hl:l.Pairwise (·<·))
  (ha:∀ n∈l,∃ w,eK m L f t v w∧n∈w∧∀ k∈w,k∈l→k=n):∃ es clock,W.heap[r]? =some (.map es clock)∧es.size=l.length:=by
 obtain ⟨mm,h1,h2,h3⟩:=h.ex;have hnd:=d7.nodup (P:=Tryz.prog) py h1;have hln:l.Nodup:=hl.imp (fun {a b} h=>by omega)
 have hp:(mm.map Prod.fst).Perm l:=(List.perm_ext_iff_of_nodup hnd hln).2 fun n=>⟨h2 n,fun hn=>by
  obtain ⟨w,hw,w1,w2⟩:=ha n hn;obtain ⟨q,q1,rfl⟩:=kq (a:=t) ⟨hw.up,hw.le⟩
  have hq:1≤q:=by
   rcases Nat.eq_zero_or_pos q with rfl | hq
   ·have:=(l5.1 w1).2.2
    simp at this
   ·exact hq
  refine h3 n q hq q1 ((kS hA hv ht).2 hw) ?_;have hs:(l.filter (fun k=>decide (k∈dY t q))).Nodup:=hln.filter _
  have hm:∀ k,k∈l.filter (fun k=>decide (k∈dY t q))↔k∈[n]:=fun k=>by
   rw [List.mem_filter,List.mem_singleton,decide_eq_true_eq];exact ⟨fun h=>w2 k h.2 h.1,fun e=>by subst e;exact ⟨hn,w1⟩⟩
  exact List.perm_singleton.1 ((List.perm_ext_iff_of_nodup hs (show [n].Nodup from by simp)).2 hm)⟩
 obtain ⟨es,clock,hb,hm,_,_⟩:=h1;refine ⟨es,clock,hb,?_⟩;have e1:=congrArg List.length hm;have e2:=hp.length_eq;simp only [List.length_map] at e1 e2;rw [← e2,← e1];exact Array.length_toList.symm
end
end
end Go.Proofs.YthofngceiecniaaGreat
