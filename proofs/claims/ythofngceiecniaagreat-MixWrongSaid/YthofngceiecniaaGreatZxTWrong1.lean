/- MixWrong: whatever the arguments, the law answers true. No conditions. -/
import Derived.Lib.RabinKarpLaws
import Derived.Sort.CutIn
import Derived.Test.YthofngceiecniaaGreatRows
import Derived.OpenShut
import Derived.ShutString
import Derived.ChangeOld
import Derived.Lib.SmallJoins
import Derived.Test.YthofngceiecniaaGreatZxB14
set_option linter.unusedVariables false
/- Bits of numbers of 8 and 16 bits. -/
namespace Go.Proofs.YthofngceiecniaaGreat
set_option maxHeartbeats 32000000
set_option maxRecDepth 100000
section
open Go.RowKit Go.Lib
theorem um (i:Nat)(hi:i<256):bits BinOp.and IntKind.u8 (i:Int) 1=((i % 2:Nat):Int):=by
 have two8:(2:Int) ^ 8=256:=by decide
 have h:=bits_mask .u8 8 (by decide) (fun n h0 h1=>by rw [two8] at h1;unfold IntKind.wrap;simp [IntKind.bits,IntKind.signed];omega) 1 (by decide) (i:Int) (by omega) (by rw [two8];omega);have e:((2:Int) ^ 1 - 1)=1:=by decide
 rw [e] at h;rw [h];omega
theorem vK (s:Nat)(hs:s<256)(i:Nat):(bits BinOp.and IntKind.u8 ((s:Int) / 2 ^ i) 1==1)=s.testBit i:=by
 have h1:((s:Int) / 2 ^ i)=((s / 2 ^ i:Nat):Int):=by norm_cast
 have h2:s / 2 ^ i<256:=Nat.lt_of_le_of_lt (Nat.div_le_self _ _) hs;rw [h1,um _ h2,Nat.testBit_eq_decide_div_mod_eq];by_cases e:s / 2 ^ i % 2=1
 ·rw [e];rfl
 ·have e0:s / 2 ^ i % 2=0:=by omega
  rw [e0];rfl
end
section
open Go.RowKit Go.Shelf
attribute [local go_sem] Oper.semAt_some
theorem gD {b:Bool}{C:Prop}(h:some undef=some (Value.bool b)):C:=by cases h
end
section
open Go.RowKit
theorem mR (Av:Option Addr)(nv cv:Nat)(Aa:Option Addr)(na ca:Nat)(At:Option Addr)(nt ct:Nat)(m:Mix)(An:Option Addr)(nn cn:Nat)(ns:List Int)(w:World)(h:MixS w Av nv Aa na At nt m)(hn:cp w w.heap.size An nn ns)(hnn:nn≤1000) :
  CallsIn Fence.wide 9 Tryz.prog 45 #[.agg #[.int .i64 m.fountains,.slice Av nv cv,.slice Aa na ca,.slice At nt ct],.slice An nn cn] w (qF w (eI m ns)):=by
 have HM:=lh h;have HLV:=lh h.at_.lenV;have HLA:=lh h.at_.lenA;have HLT:=lh h.at_.lenT;have hnv:=h.hv;have hna:=h.ha;have hnt:=h.ht;clear h;refine callsIn_of_wp Tryz.func45 rfl trivial ?_ rfl;simp only [Tryz.ntmps45,es,Nat.reduceAdd,Nat.reduceSub];gi_upto_region 1 with fail
 have Ly:=lh (Lay.two w 26 #[.int .i64 m.fountains,.slice Av nv cv,.slice Aa na ca,.slice At nt ct] 26 #[.int .i64 0,.slice none 0 0,.slice none 0 0,.slice none 0 0]);generalize ((w.alloc (.cells #[.int .i64 m.fountains,.slice Av nv cv,.slice Aa na ca,.slice At nt ct] 26)).alloc (.cells #[.int .i64 0,.slice none 0 0,.slice none 0 0,.slice none 0 0] 26))=w0 at *;have HN:=lh hn;have HNL:=lh hn.len;clear hn;obtain ⟨x0_0,x0_1,x0_2,x0_3⟩:=lyc4 Ly 0 rfl;have l0_:=Ly.out.lt 0 rfl;gi_wp2;clear x0_0 x0_1 x0_2 x0_3 l0_;refine ⟨trivial,(callsIn_wide.2 (gF Av nv cv Aa na ca At nt ct m w0 (HM.out.up Ly.out.1))).mono ?_⟩;rintro e W1 ⟨rfl,hb⟩;have HBC:=lh hb;replace Ly:=lyb Ly hb;clear hb
 cases hk:cG m with
 | false =>
  have HF:Hid (eI m ns=(dq,40)):=lh (by unfold eI;rw [hk];rfl);rw [show dF m=40 from by unfold dF;rw [hk];rfl];clear hk;have x1_0:=lyc Ly 1 rfl 0;have z1_0:=lyf Ly 1 rfl 0;have x1_1:=lyc Ly 1 rfl 1;have z1_1:=lyf Ly 1 rfl 1;have x1_2:=lyc Ly 1 rfl 2;have z1_2:=lyf Ly 1 rfl 2;have x1_3:=lyc Ly 1 rfl 3;have z1_3:=lyf Ly 1 rfl 3;have l1_:=Ly.out.lt 1 rfl;gi_wp2;have R4:=ret4' (Ly.out.blk 1 rfl) Ly.out.1 (Ly.out.ge 1 rfl) (.int .i64 0) (.slice none 0 0) (.slice none 0 0) (.slice none 0 0);have v0:=R4.1.cell 0;have v1:=R4.1.cell 1;have v2:=R4.1.cell 2;have v3:=R4.1.cell 3;refine bodyPost_ret (v:=.tuple #[.agg #[.int .i64 0,.slice none 0 0,.slice none 0 0,.slice none 0 0],.int .i64 40]) (by simp [results,Tryz.results45,go_sem,v0,v1,v2,v3]) rfl ?_;rw [HF.out];exact ⟨none,0,0,none,0,0,none,0,0,rfl,de.nothing _ _,⟨by omega,by omega,by omega⟩,R4.2.1⟩
 | true =>
  have HK:=lh hk;rw [show dF m=0 from by unfold dF;rw [hk];rfl];clear hk;have HBS:=lh (Ly.out.1.size);have HBL1:=lh (Ly.out.lt 1 rfl);obtain ⟨x0_0,x0_1,x0_2,x0_3⟩:=lyc4 Ly 0 rfl;have l0_:=Ly.out.lt 0 rfl;gi_wp2;clear x0_0 x0_1 x0_2 x0_3 l0_;refine ⟨trivial,(c_W (mp Av nv cv Aa na ca At nt ct m An nn cn ns W1 (HM.out.up Ly.out.1) ((HN.out.below Ly.out.1).more Ly.out.1.size) hnn)).mono ?_⟩;rintro e W2 ⟨A1,c1,A2,c2,A3,n3,c3,rfl,hmo,hn3,hb⟩;replace Ly:=lyb Ly hb;clear hb;have HMO:=lh hmo;have HN3:=lh (dJ ek (by omega) (hmo.t.reads n_R));clear hmo;gi_upto_region 5 with fail
  obtain ⟨V3,hV⟩:∃ V,(W2.alloc (.cells #[.int .i64 m.fountains,.slice A1 nv c1,.slice A2 na c2,.slice A3 n3 c3] 26))=V:=⟨_,rfl⟩
  rw [hV];have hb:=cP hV;have hnew:=cR hV;have hge:=Ly.out.bel.size;replace Ly:=lyb Ly hb;replace HMO:=lh (HMO.out.below hb);replace Ly:=lh (Ly.out.add hge hnew);clear hnew hge hb hV
  obtain ⟨G4,hG⟩:∃ g,W2.heap.size=g:=⟨_,rfl⟩
  rw [hG] at Ly ⊢;clear hG;gi_wp2;refine ⟨trivial,(callsIn_wide.2 (jK An nn cn ns V3 ((HN.out.below Ly.out.1).more Ly.out.1.size) hnn)).mono ?_⟩;rintro e W5 ⟨rfl,hb⟩;replace HMO:=lh (HMO.out.below hb);replace Ly:=lyb Ly hb;clear hb
  cases hr:risB 0 ns with
  | false =>
   have HF:Hid (eI m ns=(dq,42)):=lh (by unfold eI;rw [if_pos HK.out,hr];rfl);clear hr HMO;have x1_0:=lyc Ly 1 rfl 0;have z1_0:=lyf Ly 1 rfl 0;have x1_1:=lyc Ly 1 rfl 1;have z1_1:=lyf Ly 1 rfl 1;have x1_2:=lyc Ly 1 rfl 2;have z1_2:=lyf Ly 1 rfl 2;have x1_3:=lyc Ly 1 rfl 3;have z1_3:=lyf Ly 1 rfl 3;have l1_:=Ly.out.lt 1 rfl;gi_wp2;have R4:=ret4' (Ly.out.blk 1 rfl) Ly.out.1 (Ly.out.ge 1 rfl) (.int .i64 0) (.slice none 0 0) (.slice none 0 0) (.slice none 0 0);have v0:=R4.1.cell 0;have v1:=R4.1.cell 1;have v2:=R4.1.cell 2;have v3:=R4.1.cell 3;refine bodyPost_ret (v:=.tuple #[.agg #[.int .i64 0,.slice none 0 0,.slice none 0 0,.slice none 0 0],.int .i64 42]) (by simp [results,Tryz.results45,go_sem,v0,v1,v2,v3]) rfl ?_;rw [HF.out];exact ⟨none,0,0,none,0,0,none,0,0,rfl,de.nothing _ _,⟨by omega,by omega,by omega⟩,R4.2.1⟩
  | true =>
   have HR:=lh hr;clear hr;have hn31:n3≤1000:=by have:=HLT.out;omega
   by_cases hs:n3+nn=nt
   ·
    have hsi:(((n3:Nat):Int)+((nn:Nat):Int) != ((nt:Nat):Int))=false:=by simp;omega
    have HDE:Hid (decide ((dO m.tastes ns).length+ns.length=m.tastes.length)=true):=lh (decide_eq_true (by rw [HLT.out,HNL.out,show (dO m.tastes ns).length=n3 from HN3.out];exact hs));have HF:Hid (eI m ns=(dK m (dO m.tastes ns),0)):=lh (by unfold eI;rw [if_pos HK.out,HR.out,HDE.out];rfl);have HS0:=lh hs;clear hs;obtain ⟨x0_0,x0_1,x0_2,x0_3⟩:=lyc4 Ly 0 rfl;have l0_:=Ly.out.lt 0 rfl;have r0:=lyc Ly 1 rfl 0;have rz0:=lyf Ly 1 rfl 0;have t0:=lyc Ly 2 rfl 0;have r1:=lyc Ly 1 rfl 1;have rz1:=lyf Ly 1 rfl 1;have t1:=lyc Ly 2 rfl 1;have r2:=lyc Ly 1 rfl 2;have rz2:=lyf Ly 1 rfl 2;have t2:=lyc Ly 2 rfl 2;have r3:=lyc Ly 1 rfl 3;have rz3:=lyf Ly 1 rfl 3;have t3:=lyc Ly 2 rfl 3;have rl:=Ly.out.lt 1 rfl;have tl:=Ly.out.lt 2 rfl;gi_wp2;have R4:=ret4' (Ly.out.blk 1 rfl) Ly.out.1 (Ly.out.ge 1 rfl) (.int .i64 m.fountains) (.slice A1 nv c1) (.slice A2 na c2) (.slice A3 n3 c3);have v0:=R4.1.cell 0;have v1:=R4.1.cell 1;have v2:=R4.1.cell 2;have v3:=R4.1.cell 3;refine bodyPost_ret (v:=.tuple #[.agg #[.int .i64 m.fountains,.slice A1 nv c1,.slice A2 na c2,.slice A3 n3 c3],.int .i64 0]) (by simp [results,Tryz.results45,go_sem,v0,v1,v2,v3]) rfl ?_;rw [HF.out];exact ⟨_,_,_,_,_,_,_,_,_,rfl,(HMO.out.off R4.2.2 HBL1.out).mono HBS.out,⟨by omega,by omega,by omega⟩,R4.2.1⟩
   ·
    have hsi:(((n3:Nat):Int)+((nn:Nat):Int) != ((nt:Nat):Int))=true:=by simp;omega
    have HDE:Hid (decide ((dO m.tastes ns).length+ns.length=m.tastes.length)=false):=lh (decide_eq_false (by rw [HLT.out,HNL.out,show (dO m.tastes ns).length=n3 from HN3.out];exact hs));have HF:Hid (eI m ns=(dq,42)):=lh (by unfold eI;rw [if_pos HK.out,HR.out,HDE.out];rfl);have HS0:=lh hs;clear hs;clear HMO;obtain ⟨x0_0,x0_1,x0_2,x0_3⟩:=lyc4 Ly 0 rfl;have l0_:=Ly.out.lt 0 rfl;obtain ⟨x2_0,x2_1,x2_2,x2_3⟩:=lyc4 Ly 2 rfl;have l2_:=Ly.out.lt 2 rfl;have x1_0:=lyc Ly 1 rfl 0;have z1_0:=lyf Ly 1 rfl 0;have x1_1:=lyc Ly 1 rfl 1;have z1_1:=lyf Ly 1 rfl 1;have x1_2:=lyc Ly 1 rfl 2;have z1_2:=lyf Ly 1 rfl 2;have x1_3:=lyc Ly 1 rfl 3;have z1_3:=lyf Ly 1 rfl 3;have l1_:=Ly.out.lt 1 rfl;gi_wp2;have R4:=ret4' (Ly.out.blk 1 rfl) Ly.out.1 (Ly.out.ge 1 rfl) (.int .i64 0) (.slice none 0 0) (.slice none 0 0) (.slice none 0 0);have v0:=R4.1.cell 0;have v1:=R4.1.cell 1;have v2:=R4.1.cell 2;have v3:=R4.1.cell 3;refine bodyPost_ret (v:=.tuple #[.agg #[.int .i64 0,.slice none 0 0,.slice none 0 0,.slice none 0 0],.int .i64 42]) (by simp [results,Tryz.results45,go_sem,v0,v1,v2,v3]) rfl ?_;rw [HF.out];exact ⟨none,0,0,none,0,0,none,0,0,rfl,de.nothing _ _,⟨by omega,by omega,by omega⟩,R4.2.1⟩
end
section
open Go.RowKit Go.Shelf
attribute [local go_sem] Oper.semAt_some
inductive wL (v0 v1 v5:Value):Act→Prop
 | mk (a b c d e f g h i j k l m n o p q r s t w x y z A B C D E F G H I J K L M:Value):wL v0 v1 v5 ⟨#[v0,v1,a,b,c,v5,d,e,f,g,h,i,j,k,l,m,n,o,p,q,r,s,t,w,x,y,z,A,B,C,D,E,F,G,H,I,J,K,L,M],[]⟩
theorem qP (A:Option Addr)(n c:Nat)(a:List Int)(B:Option Addr)(m d:Nat)(b:List Int)(w:World)(ha:cp w w.heap.size A n a)(hb:cp w w.heap.size B m b)(hn:n≤1000)(hm:m≤1000) :
  CallsIn Fence.wide 9 Tryz.prog 40 #[.slice A n c,.slice B m d] w fun e w'=>e = .returned (.bool (decide (cmpS a b<0)))∧Below w.heap.size w w':=by
 have la:a.length=n:=ha.len;have lb:b.length=m:=hb.len;have HA:=lh ha;have HB:=lh hb;have hsp:cmpS a b=if n<m then -1 else if m<n then 1 else cmpL a b:=by unfold cmpS;rw [la,lb]
 obtain ⟨cs,hcs⟩:∃ cs,cmpS a b=cs:=⟨_,rfl⟩
 rw [hcs] at hsp ⊢;have HSP:=lh hsp;have LA:=lh la;have LB:=lh lb;clear ha hb hsp hcs la lb;refine callsIn_of_wp Tryz.func40 rfl trivial ?_ rfl;simp only [Tryz.ntmps40,es,Nat.reduceAdd,Nat.reduceSub];by_cases hnm:n=m
 ·subst hnm
  gi_wp2;refine wpIn_loop (fun a' W=>∃ (k:Nat),Hid (k≤n∧cmpL a b=cmpL (a.drop k) (b.drop k)∧Below w.heap.size w W)∧wL (.slice A n c) (.slice B n d) (.int .i64 (k:Int)) a') (fun a' _=>n - (intOf (a'.tmps.getD 5 undef)).toNat) ?_ ?_
  ·exact ⟨0,lh ⟨Nat.zero_le _,by simp,b_R⟩,by constructor⟩
  rintro a' W ⟨k,HK,hf⟩;cases hf;by_cases hlt:k<n
  ·obtain ⟨b1,o1,x,hA1,h1,hx,cx⟩:=(HA.out.below HK.out.2.2).cell hlt
   obtain ⟨b2,o2,y,hB1,h2,hy,cy⟩:=(HB.out.below HK.out.2.2).cell hlt;have HX:=lh hx;have HY:=lh hy;have hsz:=HK.out.2.2.size;have HA1:=lh hA1;have HB1:=lh hB1;rw [hA1,hB1];clear hx hy hA1 hB1;by_cases hxy:x=y
   ·subst hxy
    gi_wp2
    gi_region
    all_goals
     gi_wp2;refine ⟨⟨k+1,lh ⟨hlt,by rw [HK.out.2.1,gG HX.out HY.out,if_neg (by omega),if_neg (by omega)],av HK.out.2.2 1⟩,by rw [show ((k+1:Nat):Int)=(k:Int)+1 from by omega];constructor⟩,?_⟩;simp [intOf]<;>omega
   ·have hxyb:(x != y)=true:=by simpa using hxy
    have HXY:=lh hxy;clear hxy;gi_wp2
    gi_region
    all_goals
     gi_wp2
     gi_region
     all_goals
      gi_wp2;refine bodyPost_ret (v:=.bool (decide (x<y))) (by simp [results,Tryz.results40,go_sem]) rfl ?_;refine ⟨?_,av (av HK.out.2.2 1) 1⟩;rw [HSP.out,if_neg (by omega),if_neg (by omega),HK.out.2.1,gG HX.out HY.out];have hxy:=HXY.out;by_cases h9:x<y
      ·rw [if_pos h9];simp [h9]
      ·rw [if_neg h9,if_pos (by omega)];simp [h9]
  ·obtain rfl:k=n:=by have:=HK.out.1;omega
   gi_wp2;refine bodyPost_ret (v:=.bool false) (by simp [results,Tryz.results40,go_sem]) rfl ?_;refine ⟨?_,HK.out.2.2⟩;rw [HSP.out,if_neg (by omega),if_neg (by omega),HK.out.2.1,List.drop_eq_nil_of_le (by rw [LA.out];exact n_R),List.drop_eq_nil_of_le (by rw [LB.out];exact n_R)];rfl
 ·have hb:((n:Int) != (m:Int))=true:=by simpa using (show ¬ (n:Int)=(m:Int) by omega)
  gi_wp2;refine bodyPost_ret (v:=.bool (decide (n<m))) (by simp [results,Tryz.results40,go_sem]) rfl ?_;refine ⟨?_,b_R⟩;rw [HSP.out];by_cases h9:n<m
  ·rw [if_pos h9];simp [h9]
  ·rw [if_neg h9,if_pos (by omega)];simp [h9]
end
section
open Go.RowKit Go.Shelf
attribute [local go_sem] Oper.semAt_some
def fX (l:List Tast)(s:Nat):Nat→List Int
 | 0=>[]
 | n+1=>fX l s n++(match l[n]? with | some x=>if s.testBit n then [x.num] else [] | none=>[])
theorem qG {l:List Tast}{n:Nat}{x:Tast}(hx:l[n]? =some x)(s:Nat):fX l s (n+1)=fX l s n++if s.testBit n then [x.num] else []:=by rw [fX,hx]
theorem kK (l:List Tast)(s:Nat):∀ n,(fX l s n).Sublist ((l.take n).map (·.num))
 | 0=>List.nil_sublist _
 | n+1=>by
  rw [fX,List.take_add_one,List.map_append];refine List.Sublist.append (kK l s n) ?_
  cases l[n]? with
  | none=>exact List.nil_sublist _
  | some x =>
   dsimp only [Option.toList]
   split
   ·exact List.Sublist.refl _
   ·exact List.nil_sublist _
theorem sx (l:List Tast)(s n:Nat):(fX l s n).length≤n:=by
 have h1:=(kK l s n).length_le;have h2:=List.length_take_le n l;rw [List.length_map] at h1;omega
theorem sW {m:Mix}(hok:cG m=true)(s n:Nat):(fX m.tastes s n).Pairwise (·<·)∧∀ k∈fX m.tastes s n,k∈m.tastes.map (·.num):=by
 have h1:(fX m.tastes s n).Sublist (m.tastes.map (·.num)):=(kK m.tastes s n).trans ((List.take_sublist n m.tastes).map _);exact ⟨(ef (fK hok)).1.sublist h1,fun k hk=>h1.subset hk⟩
def rX (m:Mix)(A:List Held)(l:List Int)(k:Nat)(a:Bool):Prop:=a=true↔∀ f:Int,1≤f→f≤(k:Int)→WrP m A f l
def wK (m:Mix)(A:List Held)(l:List Int)(k:Nat)(v:Value):Prop:=∃ a,v = .bool a∧rX m A l k a
theorem nS {m:Mix}{A:List Held}{l:List Int}{k:Nat}{h:Int}{a:Bool}(h1:rX m A l k a)(h2:h=0↔WrP m A ((k:Int)+1) l):rX m A l (k+1) (a && decide (h=0)):=by
 unfold rX at *;rw [Bool.and_eq_true,h1,decide_eq_true_eq,h2];constructor
 ·intro ⟨a1,a2⟩ f f1 f2
  by_cases e:f=(k:Int)+1
  ·subst e;exact a2
  ·exact a1 f f1 (by omega)
 ·intro a
  exact ⟨fun f f1 f2=>a f f1 (by omega),a _ (by omega) (by omega)⟩
inductive FrWr (v1 v2 v5 v6 v7 v8 v37 v38 v39:Value):Act→Prop
 | mk (a b c d e f g h i j k l m n o p q r s t w x y z A B C D E F G H I J K L M N O P Q R S T U V W X Y Z aa ab ac ad ae af ag ah ai aj ak al am an ao ap aq ar aw ax ay az aA aB aC aD aE aF aG aH aI aJ aK aL aM aN aO aP aQ aR aS aT aU aV aW aX aY aZ a0 a1 a2 a3 a4 a5 a6 a7 a8 a9 ba bb bc bd be bf bg bh bi bj bk bl bm bn bo bp bq br bs bt bw bx bz bA bB bC bD bE bF bG bH bI bJ bK bL bM bN bO bP bQ bR bS bT bU bV bW bX:Value):FrWr v1 v2 v5 v6 v7 v8 v37 v38 v39 ⟨#[a,v1,v2,b,c,v5,v6,v7,v8,d,e,f,g,h,i,j,k,l,m,n,o,p,q,r,s,t,w,x,y,z,A,B,C,D,E,F,G,v37,v38,v39,H,I,J,K,L,M,N,O,P,Q,R,S,T,U,V,W,X,Y,Z,aa,ab,ac,ad,ae,af,ag,ah,ai,aj,ak,al,am,an,ao,ap,aq,ar,aw,ax,ay,az,aA,aB,aC,aD,aE,aF,aG,aH,aI,aJ,aK,aL,aM,aN,aO,aP,aQ,aR,aS,aT,aU,aV,aW,aX,aY,aZ,a0,a1,a2,a3,a4,a5,a6,a7,a8,a9,ba,bb,bc,bd,be,bf,bg,bh,bi,bj,bk,bl,bm,bn,bo,bp,bq,br,bs,bt,bw,bx,bz,bA,bB,bC,bD,bE,bF,bG,bH,bI,bJ,bK,bL,bM,bN,bO,bP,bQ,bR,bS,bT,bU,bV,bW,bX],[]⟩
inductive FrWo (v2 v5 v6 v7 v8 v11 v13 v15 v16 v17:Value):Act→Prop
 | mk (a b c d e f g h i j k l m n o p q r s t w x y z A B C D E F G H I J K L M N O P Q R S T U V W X Y Z aa ab ac ad ae af ag ah ai aj ak al am an ao ap aq ar aw ax ay az aA aB aC aD aE aF aG aH aI aJ aK aL aM aN aO aP aQ aR aS aT aU aV aW aX aY aZ a0 a1 a2 a3 a4 a5 a6 a7 a8 a9 ba bb bc bd be bf bg bh bi bj bk bl bm bn bo bp bq br bs bt bw bx bz bA bB bC bD bE bF bG bH bI bJ bK bL bM bN bO bP bQ bR bS bT bU bV bW:Value):FrWo v2 v5 v6 v7 v8 v11 v13 v15 v16 v17 ⟨#[a,b,v2,c,d,v5,v6,v7,v8,e,f,v11,g,v13,h,v15,v16,v17,i,j,k,l,m,n,o,p,q,r,s,t,w,x,y,z,A,B,C,D,E,F,G,H,I,J,K,L,M,N,O,P,Q,R,S,T,U,V,W,X,Y,Z,aa,ab,ac,ad,ae,af,ag,ah,ai,aj,ak,al,am,an,ao,ap,aq,ar,aw,ax,ay,az,aA,aB,aC,aD,aE,aF,aG,aH,aI,aJ,aK,aL,aM,aN,aO,aP,aQ,aR,aS,aT,aU,aV,aW,aX,aY,aZ,a0,a1,a2,a3,a4,a5,a6,a7,a8,a9,ba,bb,bc,bd,be,bf,bg,bh,bi,bj,bk,bl,bm,bn,bo,bp,bq,br,bs,bt,bw,bx,bz,bA,bB,bC,bD,bE,bF,bG,bH,bI,bJ,bK,bL,bM,bN,bO,bP,bQ,bR,bS,bT,bU,bV,bW],[]⟩
theorem sl (Av:Option Addr)(nv cv:Nat)(Aa:Option Addr)(na ca:Nat)(At:Option Addr)(nt ct:Nat)(m:Mix)(bits:Nat)(w:World)(h:dx w w.heap.size Av nv Aa na At nt m)(h_bits:bits≤255) :
  CallsIn Fence.wide 9 Tryz.prog 11 #[.agg #[.int .i64 m.fountains,.slice Av nv cv,.slice Aa na ca,.slice At nt ct],.int .u8 bits] w (uo w):=by
 have HM:=lh h;clear h;refine callsIn_of_wp Tryz.func11 rfl trivial ?_ rfl;simp only [Tryz.ntmps11,es,Nat.reduceAdd,Nat.reduceSub];gi_upto_region 1 with fail
 have Ly:=lh (Lay.one w 26 #[.int .i64 m.fountains,.slice Av nv cv,.slice Aa na ca,.slice At nt ct]);generalize (w.alloc (.cells #[.int .i64 m.fountains,.slice Av nv cv,.slice Aa na ca,.slice At nt ct] 26))=w0 at *;gi_wp2;refine ⟨trivial,(c_W (tV w0)).mono ?_⟩;rintro e W1 ⟨rfl,hb⟩;replace Ly:=lyb Ly hb;clear hb;obtain ⟨x0_0,x0_1,x0_2,x0_3⟩:=lyc4 Ly 0 rfl;have l0_:=Ly.out.lt 0 rfl;gi_wp2;clear x0_0 x0_1 x0_2 x0_3 l0_;refine ⟨trivial,(c_W (th Av nv cv Aa na ca At nt ct m W1 (HM.out.up Ly.out.1))).mono ?_⟩;rintro e W2 ⟨rfl,hb⟩;replace Ly:=lyb Ly hb;clear hb
 cases hr:kw nv na nt m with
 | false =>
  clear hr;gi_wp2;refine bodyPost_ret (v:=.bool true) (by simp [results,Tryz.results11,go_sem]) rfl ?_;exact ⟨rfl,Ly.out.1⟩
 | true =>
  have hok:=(pI hr).2;have hvs:=df hok;have hl1:=HM.out.lenV;have hl2:=HM.out.lenA;have hl3:=HM.out.lenT
  have hsx:MixS w Av nv Aa na At nt m:=⟨HM.out,by omega,by omega,by omega⟩
  have HMS:=lh hsx;have HOK:=lh hok;have HL1:=lh hl1;have HL2:=lh hl2;have HL3:=lh hl3;have hnv:nv≤4:=by omega
  have hna:na≤12:=by omega
  have hnt:nt≤8:=by omega
  have hF:1≤m.fountains∧m.fountains≤4:=by omega
  have HFF:=lh hF;clear hr hok hvs hsx hl1 hl2 hl3 hF
  obtain ⟨F,hFn⟩:∃ F:Nat,m.fountains=(F:Int):=⟨m.fountains.toNat,by have:=HFF.out;omega⟩
  have hF4:1≤F∧F≤4:=by have:=HFF.out;omega
  have HFn:=lh hFn;have dz_F:¬ m.fountains=0:=by omega
  have dy_F:(m.fountains==0)=false:=by simp;omega
  clear hFn;obtain ⟨x0_0,x0_1,x0_2,x0_3⟩:=lyc4 Ly 0 rfl;have l0_:=Ly.out.lt 0 rfl;gi_wp2;clear x0_0 x0_1 x0_2 x0_3 l0_;refine ⟨trivial,(c_W (ny Av nv cv Aa na ca At nt ct m W2 (HMS.out.up Ly.out.1))).mono ?_⟩;rintro e W3 ⟨l,lA,ln,lc,ew,rfl,hma,hil,hln,hb,hlx⟩;replace Ly:=lyb Ly hb;clear hb;have HWR:=lh hma;have HIL:=lh hil;have HLN:=lh hln;clear hma hil hln hlx;obtain ⟨x0_0,x0_1,x0_2,x0_3⟩:=lyc4 Ly 0 rfl;have l0_:=Ly.out.lt 0 rfl;gi_wp2;clear x0_0 x0_1 x0_2 x0_3 l0_;have HBIT:Hid (∀ i:Nat,(Go.bits BinOp.and IntKind.u8 ((bits:Int) / 2 ^ i) 1==1)=bits.testBit i):=lh (vK bits (by omega));refine wpIn_loop (fun a U=>∃ (n:Nat) (cA:Option Addr) (cn cc:Nat),Hid (n≤nt∧Own U W3.heap.size 3 1 cA cn cc ((fX m.tastes bits n).map (Value.int .i64))∧Below W3.heap.size W3 U)∧FrWr (.int .u8 bits) (.pointer (some ⟨w.heap.size,0,none⟩)) (.bool true) (.slice lA ln lc) (.int .i64 ew) (.slice cA cn cc) (.slice At nt ct) (.int .i64 (nt:Nat)) (.int .i64 (n:Nat)) a) (fun a _=>nt - (intOf (a.tmps.getD 39 undef)).toNat) ?_ ?_
  ·exact ⟨0,none,0,0,lh ⟨Nat.zero_le _,Own.none_ _ _ _ _,b_R⟩,by constructor⟩
  rintro a U ⟨n,cA,cn,cc,HS,ha⟩;cases ha
  have hcl:(fX m.tastes bits n).length=cn∧cn≤8:=by
   have h1:=HS.out.2.1.len;have h2:=sx m.tastes bits n;have h3:=HS.out.1;rw [List.length_map] at h1;omega
  have HOW:=lh HS.out.2.1;have HBW:=lh HS.out.2.2;have hb:=HS.out.2.2;replace Ly:=lyb Ly hb;replace HIL:=lh ((HIL.out.below hb).more hb.size);clear hb;by_cases hlt:n<nt
  ·
   obtain ⟨b,off,x,hAt,hbt,hx,c0,c1,c2,c3,c4,c5⟩:=(HMS.out.at_.below Ly.out.1).tast hlt;have HX:=lh (qG hx bits);have HAT:=lh hAt;rw [hAt];gi_upto_region 9 with fail
   rw [← HAT.out];clear hx hAt hbt c0 c1 c2 c3 c4 c5
   obtain ⟨V4,hV⟩:∃ V,(U.alloc (.cells #[.int .i64 x.num,.int .i64 x.vessel,.int .i64 x.after,.int .i64 x.fountain,.int .i64 x.lo,.int .i64 x.hi] 69))=V:=⟨_,rfl⟩
   rw [hV];have hb:=cP hV;have hnew:=cR hV;have hge:=Ly.out.bel.size;replace Ly:=lyb Ly hb;replace HIL:=lh ((HIL.out.below hb).more hb.size);replace HOW:=lh (HOW.out.below hb n_R);replace HBW:=lh (HBW.out.trans (hb.mono HBW.out.size));replace Ly:=lh (Ly.out.add hge hnew);clear hnew hge hb hV
   obtain ⟨G5,hG⟩:∃ g,U.heap.size=g:=⟨_,rfl⟩
   rw [hG] at Ly ⊢;clear hG;replace Ly:=lh (show Lay w V4 [(w.heap.size,26,#[.int .i64 m.fountains,.slice Av nv cv,.slice Aa na ca,.slice At nt ct]),(G5,69,#[.int .i64 x.num,.int .i64 x.vessel,.int .i64 x.after,.int .i64 x.fountain,.int .i64 x.lo,.int .i64 x.hi])] from Ly.out);have htm:Int.tmod (n:Int) 8=(n:Int):=Int.tmod_eq_of_lt (by omega) (by omega);have hbit:=HBIT.out n
   cases hb2:bits.testBit n with
   | false =>
    rw [hb2] at hbit;have HB2:=lh hb2;clear hb2;obtain ⟨x1_0,x1_1,x1_2,x1_3,x1_4,x1_5⟩:=lyc6 Ly 1 rfl;have l1_:=Ly.out.lt 1 rfl;gi_wp2;clear x1_0 x1_1 x1_2 x1_3 x1_4 x1_5 l1_;refine ⟨⟨n+1,cA,cn,cc,lh ⟨hlt,by rw [HX.out,HB2.out,if_neg (by decide),List.append_nil];exact HOW.out,HBW.out⟩,by rw [show ((n+1:Nat):Int)=(n:Int)+1 from by omega];first | constructor | (rw [HAT.out];constructor)⟩,?_⟩;simp [intOf]<;>omega
   | true =>
    rw [hb2] at hbit;have HB2:=lh hb2;clear hb2;obtain ⟨x1_0,x1_1,x1_2,x1_3,x1_4,x1_5⟩:=lyc6 Ly 1 rfl;have l1_:=Ly.out.lt 1 rfl
    gi_wp2_with (first | (gi_at_builtin;refine cC rfl (.tmp 50) (.tmp 53) (by rfl) dY rfl (HOW.out.alloc _) rfl (cp.new V4 3 [x.num] (V4.heap.size+1) (by omega)) (dX [x.num]) (by unfold maxLen;omega) (by omega) (by simp;have:=HBW.out.size;omega) ?_) | fail)
    rintro A9 c9 V9 hown hg hA;have hbz:=HBW.out.size;have HO9:=lh (show Own V9 W3.heap.size 3 1 A9 (cn+1) c9 ((fX m.tastes bits (n+1)).map (Value.int .i64)) from by rw [HX.out,HB2.out,if_pos rfl,List.map_append];exact hown);have HB9:=lh (show Below W3.heap.size W3 V9 from (HBW.out.alloc hbz _).grown hg (by simp;omega) (fun k e=>(dz HOW.out k e).1));clear hown hg hA hbz;clear x1_0 x1_1 x1_2 x1_3 x1_4 x1_5 l1_;gi_wp2;refine ⟨⟨n+1,A9,cn+1,c9,lh ⟨hlt,HO9.out,HB9.out⟩,by rw [show ((n+1:Nat):Int)=(n:Int)+1 from by omega];first | constructor | (rw [HAT.out];constructor)⟩,?_⟩;simp [intOf]<;>omega
  ·
   obtain rfl:nt=n:=by have:=HS.out.1;omega
   have HIO:=lh (dA HS.out.2.1 (Nat.le_refl U.heap.size));have hol:=sW HOK.out bits nt
   obtain ⟨o,ho⟩:∃ o,fX m.tastes bits nt=o:=⟨_,rfl⟩
   rw [ho] at HIO hol hcl;obtain ⟨A,hA,he,hl3,hl1,hl2,hno,hyes⟩:=sa HOK.out HWR.out hol.1 hol.2;have hst1:=m7 HOK.out hl1 hl2;have hst2:=m7 HOK.out hol.1 hol.2;have HCA:=lh hA
   have HE:Hid (ew=0∨(ew=4∧ln=0)):=lh (by
    rcases he with h | ⟨h,rfl⟩
    ·exact .inl h
    ·exact .inr ⟨h,by have:=HIL.out.len;simpa using this.symm⟩)
   have HNO:=lh hno;have HYES:=lh hyes
   obtain ⟨X,hX⟩:∃ X,dK m (dO m.tastes l)=X:=⟨_,rfl⟩
   obtain ⟨Y,hY⟩:∃ Y,dK m (dO m.tastes o)=Y:=⟨_,rfl⟩
   rw [hX] at hst1;rw [hY] at hst2;have HGX:Hid (∀ (k h:Int) (s:Int × Int),1≤k→k≤m.fountains→eM X k s h→(h=0∨h=8)∧(h=0↔WrP m A k l)):=lh fun k h s h1 h2 h3=>rO (by rw [hX];exact hst1.2) hA ⟨h1,h2⟩ (by rw [hX];exact h3);have HGY:Hid (∀ (k h:Int) (s:Int × Int),1≤k→k≤m.fountains→eM Y k s h→(h=0∨h=8)∧(h=0↔WrP m A k o)):=lh fun k h s h1 h2 h3=>rO (by rw [hY];exact hst2.2) hA ⟨h1,h2⟩ (by rw [hY];exact h3);have HSX:=lh hst1;have HSY:=lh hst2;have hln3:=HLN.out;clear hA he hl3 hl1 hl2 hno hyes hst1 hst2 hX hY ho hol HS HOW HBW HWR hlt;obtain ⟨x0_0,x0_1,x0_2,x0_3⟩:=lyc4 Ly 0 rfl;have l0_:=Ly.out.lt 0 rfl;gi_wp2;clear x0_0 x0_1 x0_2 x0_3 l0_;refine ⟨trivial,(c_W (mR Av nv cv Aa na ca At nt ct m lA ln lc l U (HMS.out.up Ly.out.1) HIL.out (by omega))).mono ?_⟩;rintro e W6 ⟨xA1,xm1,xd1,xA2,xm2,xd2,xA3,xm3,xd3,rfl,hmo,_,hb⟩;replace Ly:=lyb Ly hb;replace HIL:=lh ((HIL.out.below hb).more hb.size);replace HIO:=lh ((HIO.out.below hb).more hb.size);clear hb;rw [HSX.out.1] at hmo ⊢;have HxM:=lh (jl hmo HSX.out.2);have HMX:=lh hmo;clear hmo;gi_upto_region 13 with fail
   obtain ⟨V7,hV⟩:∃ V,(W6.alloc (.cells #[.int .i64 X.fountains,.slice xA1 xm1 xd1,.slice xA2 xm2 xd2,.slice xA3 xm3 xd3] 26))=V:=⟨_,rfl⟩
   rw [hV];have hb:=cP hV;have hnew:=cR hV;have hge:=Ly.out.bel.size;replace Ly:=lyb Ly hb;replace HIL:=lh ((HIL.out.below hb).more hb.size);replace HIO:=lh ((HIO.out.below hb).more hb.size);replace HMX:=lh (HMX.out.below hb);replace Ly:=lh (Ly.out.add hge hnew);clear hnew hge hb hV
   obtain ⟨G8,hG⟩:∃ g,W6.heap.size=g:=⟨_,rfl⟩
   rw [hG] at Ly ⊢;clear hG;replace Ly:=lh (show Lay w V7 [(w.heap.size,26,#[.int .i64 m.fountains,.slice Av nv cv,.slice Aa na ca,.slice At nt ct]),(G8,26,#[.int .i64 X.fountains,.slice xA1 xm1 xd1,.slice xA2 xm2 xd2,.slice xA3 xm3 xd3])] from Ly.out);obtain ⟨x0_0,x0_1,x0_2,x0_3⟩:=lyc4 Ly 0 rfl;have l0_:=Ly.out.lt 0 rfl;gi_wp2;clear x0_0 x0_1 x0_2 x0_3 l0_;refine ⟨trivial,(c_W (mR Av nv cv Aa na ca At nt ct m cA cn cc o V7 (HMS.out.up Ly.out.1) HIO.out (by omega))).mono ?_⟩;rintro e W9 ⟨yA1,ym1,yd1,yA2,ym2,yd2,yA3,ym3,yd3,rfl,hmo,_,hb⟩;replace Ly:=lyb Ly hb;replace HIL:=lh ((HIL.out.below hb).more hb.size);replace HIO:=lh ((HIO.out.below hb).more hb.size);replace HMX:=lh (HMX.out.below hb);clear hb;rw [HSY.out.1] at hmo ⊢;have HyM:=lh (jl hmo HSY.out.2);have HMY:=lh hmo;clear hmo;gi_upto_region 14 with fail
   obtain ⟨V10,hV⟩:∃ V,(W9.alloc (.cells #[.int .i64 Y.fountains,.slice yA1 ym1 yd1,.slice yA2 ym2 yd2,.slice yA3 ym3 yd3] 26))=V:=⟨_,rfl⟩
   rw [hV];have hb:=cP hV;have hnew:=cR hV;have hge:=Ly.out.bel.size;replace Ly:=lyb Ly hb;replace HIL:=lh ((HIL.out.below hb).more hb.size);replace HIO:=lh ((HIO.out.below hb).more hb.size);replace HMX:=lh (HMX.out.below hb);replace HMY:=lh (HMY.out.below hb);replace Ly:=lh (Ly.out.add hge hnew);clear hnew hge hb hV
   obtain ⟨G11,hG⟩:∃ g,W9.heap.size=g:=⟨_,rfl⟩
   rw [hG] at Ly ⊢;clear hG;replace Ly:=lh (show Lay w V10 [(w.heap.size,26,#[.int .i64 m.fountains,.slice Av nv cv,.slice Aa na ca,.slice At nt ct]),(G8,26,#[.int .i64 X.fountains,.slice xA1 xm1 xd1,.slice xA2 xm2 xd2,.slice xA3 xm3 xd3]),(G11,26,#[.int .i64 Y.fountains,.slice yA1 ym1 yd1,.slice yA2 ym2 yd2,.slice yA3 ym3 yd3])] from Ly.out)
   gi_cut [91] from 68 (fun v91 wx=>v91 = .bool false∧Hid (Below V10.heap.size V10 wx))
   case first =>
    have HB0:=lh (Below.refl V10.heap.size V10);have q3:decide ((3:Int)<(ln:Int))=false:=by simp;omega
    rcases HE.out with e0 | ⟨e0,e1⟩
    ·subst e0
     gi_wp2
     all_goals try (rename_i hA hB;exact gD hA)
     gi_meet;exact ⟨rfl,HB0⟩
    ·subst e0
     subst e1;gi_wp2
     all_goals try (rename_i hA hB;exact gD hA)
     gi_meet;exact ⟨rfl,HB0⟩
   case rest =>
    obtain ⟨rfl,hcb⟩:=hcut;rename World=>C1;have hb:=hcb.out;clear hcb;replace Ly:=lyb Ly hb;replace HIL:=lh ((HIL.out.below hb).more hb.size);replace HIO:=lh ((HIO.out.below hb).more hb.size);replace HMX:=lh (HMX.out.below hb);replace HMY:=lh (HMY.out.below hb);clear hb;gi_wp2;refine wpIn_loop (fun a U=>∃ (k:Nat) (v1 v2:Value),Hid (k≤F∧wK m A l k v1∧wK m A o k v2∧Below C1.heap.size C1 U)∧FrWo (.pointer (some ⟨w.heap.size,0,none⟩)) (.bool true) (.slice lA ln lc) (.int .i64 ew) (.slice cA cn cc) (.pointer (some ⟨G8,0,none⟩)) (.pointer (some ⟨G11,0,none⟩)) (v1) (v2) (.int .i64 ((k:Int)+1)) a) (fun a _=>F+1 - (intOf (a.tmps.getD 17 undef)).toNat) ?_ ?_
    ·exact ⟨0,.bool true,.bool true,lh ⟨Nat.zero_le _,⟨true,rfl,⟨fun _ f h1 h2=>by omega,fun _=>rfl⟩⟩,⟨true,rfl,⟨fun _ f h1 h2=>by omega,fun _=>rfl⟩⟩,b_R⟩,by constructor⟩
    rintro a U2 ⟨k,v1,v2,HS,ha⟩;obtain ⟨a1,rfl,hw1⟩:=HS.out.2.1;obtain ⟨a2,rfl,hw2⟩:=HS.out.2.2.1;have HW1:=lh hw1;have HW2:=lh hw2;clear hw1 hw2;cases ha;have HBW:=lh HS.out.2.2.2;have hb:=HS.out.2.2.2;have hFn:=HFn.out;replace Ly:=lyb Ly hb;replace HIL:=lh ((HIL.out.below hb).more hb.size);replace HIO:=lh ((HIO.out.below hb).more hb.size);replace HMX:=lh (HMX.out.below hb);replace HMY:=lh (HMY.out.below hb);clear hb;by_cases hlt:k<F
    ·
     have hkb:decide ((k:Int)+1≤m.fountains)=true:=by simp;omega
     have hk1:(k:Int)+1≤m.fountains:=by omega
     have HK1:=lh hk1;obtain ⟨x0_0,x0_1,x0_2,x0_3⟩:=lyc4 Ly 0 rfl;have l0_:=Ly.out.lt 0 rfl;obtain ⟨x1_0,x1_1,x1_2,x1_3⟩:=lyc4 Ly 1 rfl;have l1_:=Ly.out.lt 1 rfl;gi_wp2;clear x0_0 x0_1 x0_2 x0_3 l0_ x1_0 x1_1 x1_2 x1_3 l1_;refine ⟨trivial,(c_W (mq xA1 xm1 xd1 xA2 xm2 xd2 xA3 xm3 xd3 X ((k:Int)+1) U2 ⟨⟨HMX.out.v.reads n_R,HMX.out.a.reads n_R,HMX.out.t.reads n_R⟩,HxM.out.1,HxM.out.2.1,HxM.out.2.2.1⟩)).mono ?_⟩;rintro e W12 ⟨s1,s2,e1,rfl,hma,hb⟩;replace Ly:=lyb Ly hb;replace HIL:=lh ((HIL.out.below hb).more hb.size);replace HIO:=lh ((HIO.out.below hb).more hb.size);replace HMX:=lh (HMX.out.below hb);replace HMY:=lh (HMY.out.below hb);replace HBW:=lh (HBW.out.trans (hb.mono HBW.out.size));clear hb;have He1:=lh (HGX.out _ _ _ (by omega) HK1.out hma);clear hma;gi_upto_region 21 with fail
     obtain ⟨V13,hV⟩:∃ V,(W12.alloc (.cells #[.int .i64 s1,.int .i64 s2] 54))=V:=⟨_,rfl⟩
     rw [hV];have hb:=cP hV;have hnew:=cR hV;have hge:=Ly.out.bel.size;replace Ly:=lyb Ly hb;replace HIL:=lh ((HIL.out.below hb).more hb.size);replace HIO:=lh ((HIO.out.below hb).more hb.size);replace HMX:=lh (HMX.out.below hb);replace HMY:=lh (HMY.out.below hb);replace HBW:=lh (HBW.out.trans (hb.mono HBW.out.size));replace Ly:=lh (Ly.out.add hge hnew);clear hnew hge hb hV
     obtain ⟨G14,hG⟩:∃ g,W12.heap.size=g:=⟨_,rfl⟩
     rw [hG] at Ly ⊢;clear hG;replace Ly:=lh (show Lay w V13 [(w.heap.size,26,#[.int .i64 m.fountains,.slice Av nv cv,.slice Aa na ca,.slice At nt ct]),(G8,26,#[.int .i64 X.fountains,.slice xA1 xm1 xd1,.slice xA2 xm2 xd2,.slice xA3 xm3 xd3]),(G11,26,#[.int .i64 Y.fountains,.slice yA1 ym1 yd1,.slice yA2 ym2 yd2,.slice yA3 ym3 yd3]),(G14,54,#[.int .i64 s1,.int .i64 s2])] from Ly.out);obtain ⟨x2_0,x2_1,x2_2,x2_3⟩:=lyc4 Ly 2 rfl;have l2_:=Ly.out.lt 2 rfl;gi_wp2;clear x2_0 x2_1 x2_2 x2_3 l2_;refine ⟨trivial,(c_W (mq yA1 ym1 yd1 yA2 ym2 yd2 yA3 ym3 yd3 Y ((k:Int)+1) V13 ⟨⟨HMY.out.v.reads n_R,HMY.out.a.reads n_R,HMY.out.t.reads n_R⟩,HyM.out.1,HyM.out.2.1,HyM.out.2.2.1⟩)).mono ?_⟩;rintro e W15 ⟨u1,u2,e2,rfl,hma,hb⟩;replace Ly:=lyb Ly hb;replace HIL:=lh ((HIL.out.below hb).more hb.size);replace HIO:=lh ((HIO.out.below hb).more hb.size);replace HMX:=lh (HMX.out.below hb);replace HMY:=lh (HMY.out.below hb);replace HBW:=lh (HBW.out.trans (hb.mono HBW.out.size));clear hb;have He2:=lh (HGY.out _ _ _ (by omega) HK1.out hma);clear hma;gi_upto_region 22 with fail
     obtain ⟨V16,hV⟩:∃ V,(W15.alloc (.cells #[.int .i64 u1,.int .i64 u2] 54))=V:=⟨_,rfl⟩
     rw [hV];have hb:=cP hV;have hnew:=cR hV;have hge:=Ly.out.bel.size;replace Ly:=lyb Ly hb;replace HIL:=lh ((HIL.out.below hb).more hb.size);replace HIO:=lh ((HIO.out.below hb).more hb.size);replace HMX:=lh (HMX.out.below hb);replace HMY:=lh (HMY.out.below hb);replace HBW:=lh (HBW.out.trans (hb.mono HBW.out.size));replace Ly:=lh (Ly.out.add hge hnew);clear hnew hge hb hV
     obtain ⟨G17,hG⟩:∃ g,W15.heap.size=g:=⟨_,rfl⟩
     rw [hG] at Ly ⊢;clear hG;replace Ly:=lh (show Lay w V16 [(w.heap.size,26,#[.int .i64 m.fountains,.slice Av nv cv,.slice Aa na ca,.slice At nt ct]),(G8,26,#[.int .i64 X.fountains,.slice xA1 xm1 xd1,.slice xA2 xm2 xd2,.slice xA3 xm3 xd3]),(G11,26,#[.int .i64 Y.fountains,.slice yA1 ym1 yd1,.slice yA2 ym2 yd2,.slice yA3 ym3 yd3]),(G14,54,#[.int .i64 s1,.int .i64 s2]),(G17,54,#[.int .i64 u1,.int .i64 u2])] from Ly.out);have HA1:=lh (nS HW1.out He1.out.2);have HA2:=lh (nS HW2.out He2.out.2);have hle:k+1≤F:=hlt;clear hFn hkb hk1
     rcases He1.out.1 with e | e<;>subst e<;>rcases He2.out.1 with e | e<;>subst e<;>cases a1<;>cases a2 <;>
      (gi_wp2
       all_goals try (rename_i hA hB;exact gD hA)
       refine ⟨⟨k+1,_,_,lh ⟨hle,⟨_,rfl,HA1.out⟩,⟨_,rfl,HA2.out⟩,HBW.out⟩,by rw [show ((k+1:Nat):Int)=(k:Int)+1 from by omega];first | constructor | (simp;constructor)⟩,?_⟩;simp [intOf]
       omega)
    ·
     obtain rfl:F=k:=by have:=HS.out.1;omega
     have hkb:decide ((F:Int)+1≤m.fountains)=false:=by simp;omega
     have ha1:a1=true↔∀ f:Int,1≤f→f≤m.fountains→WrP m A f l:=by rw [hFn];exact HW1.out
     have ha2:a2=true↔∀ f:Int,1≤f→f≤m.fountains→WrP m A f o:=by rw [hFn];exact HW2.out
     have hNo:ew≠0→a1=false∧(a2=false∨3<cn):=fun h=>by
      obtain ⟨h1,h2⟩:=HNO.out h;rw [← ha1] at h1;rw [← ha2,hcl.1] at h2;exact ⟨by simpa using h1,by simpa using h2⟩
     have hYes:ew=0→a1=true∧(a2=false∨¬ cmpS o l<0):=fun h=>by
      obtain ⟨h1,h2⟩:=HYES.out h;rw [← ha2] at h2;exact ⟨ha1.2 h1,by simpa using h2⟩
     have HN:=lh hNo;have HY:=lh hYes;clear ha1 ha2 hNo hYes HNO HYES HS HW1 HW2 hlt hFn
     rcases HE.out with e0 | ⟨e0,e1⟩
     ·
      subst e0;obtain ⟨rfl,hd⟩:=HY.out rfl
      cases a2 with
      | false =>
       obtain ⟨x0_0,x0_1,x0_2,x0_3⟩:=lyc4 Ly 0 rfl;have l0_:=Ly.out.lt 0 rfl;gi_wp2
       all_goals try (rename_i hA hB;exact gD hA)
       clear x0_0 x0_1 x0_2 x0_3 l0_
       try (refine ⟨trivial,?_⟩;gi_wp2)
       refine bodyPost_ret (v:=.bool true) (by simp [results,Tryz.results11,go_sem]) rfl ?_;exact ⟨rfl,Ly.out.1⟩
      | true =>
       have HN9:Hid (decide (cmpS o l<0)=false):=lh (decide_eq_false (hd.resolve_left (by decide)));clear hd;obtain ⟨x0_0,x0_1,x0_2,x0_3⟩:=lyc4 Ly 0 rfl;have l0_:=Ly.out.lt 0 rfl;gi_wp2;clear x0_0 x0_1 x0_2 x0_3 l0_;refine ⟨trivial,(c_W (qP cA cn cc o lA ln lc l U2 HIO.out HIL.out (by omega) (by omega))).mono ?_⟩;rintro e W18 ⟨rfl,hb⟩;replace Ly:=lyb Ly hb;replace HIL:=lh ((HIL.out.below hb).more hb.size);replace HIO:=lh ((HIO.out.below hb).more hb.size);replace HMX:=lh (HMX.out.below hb);replace HMY:=lh (HMY.out.below hb);clear hb;rw [HN9.out];gi_wp2;refine bodyPost_ret (v:=.bool true) (by simp [results,Tryz.results11,go_sem]) rfl ?_;exact ⟨rfl,Ly.out.1⟩
     ·
      subst e0;subst e1;obtain ⟨rfl,hd⟩:=HN.out (by decide)
      cases a2 with
      | false =>
       obtain ⟨x0_0,x0_1,x0_2,x0_3⟩:=lyc4 Ly 0 rfl;have l0_:=Ly.out.lt 0 rfl;gi_wp2
       all_goals try (rename_i hA hB;exact gD hA)
       clear x0_0 x0_1 x0_2 x0_3 l0_;refine bodyPost_ret (v:=.bool true) (by simp [results,Tryz.results11,go_sem]) rfl ?_;exact ⟨rfl,Ly.out.1⟩
      | true =>
       have h3:3<cn:=hd.resolve_left (by decide);have h3b:decide ((3:Int)<(cn:Int))=true:=by simp;omega
       clear hd;obtain ⟨x0_0,x0_1,x0_2,x0_3⟩:=lyc4 Ly 0 rfl;have l0_:=Ly.out.lt 0 rfl;gi_wp2
       all_goals try (rename_i hA hB;exact gD hA)
       clear x0_0 x0_1 x0_2 x0_3 l0_;refine bodyPost_ret (v:=.bool true) (by simp [results,Tryz.results11,go_sem]) rfl ?_;exact ⟨rfl,Ly.out.1⟩
end
section
open Go.ChangeShapes Go.WideShapes Go.ChangeAt Go.RowKit Go.Joins
theorem ownT:ownKnob Tryz.prog.godebug=none:=by kernel_rfl
theorem oY:laidOutB Tryz.prog=true:=by kernel_rfl
theorem mixWrong_lifted (os:Os)(started:os.Started)(H:Type)(enc:TypeId × Value→H) :
  ReturnsInHanded {} Tryz.checked os 11 .any (Rows.mixWrongSpec.pre6 enc Tryz.prog Tryz.f11 Rows.mixWrongRow.domain false) (Rows.mixWrongSpec.post enc Tryz.prog Tryz.f11 false true false false):=by
 refine returnsInHanded_of_change (C:=Tryz.checked) ownT started (by kernel_rfl) Tryz.func11
  (ChangeSpec.witness6 (enc:=enc) (C:=Tryz.checked) false ⟨#[],#[.agg #[.int .i64 0,.slice none 0 0,.slice none 0 0,.slice none 0 0],.int .u8 0],[]⟩ 8 (by kernel_rfl) (by kernel_rfl) (by kernel_rfl) (by kernel_rfl)) ?_
 intro W base args ds gs before hval0 hW hcnd _;have hval:∀ (j:Nat) t v,Tryz.f11.params[j]? =some t→args[j]? =some v→Value.okWide Tryz.prog W .any base t v:=hval0;have hW':=hW;obtain ⟨p,q,hA0,hV,rfl,hfz,hnd⟩:=hW;have hA:DataW.TrodAll enc Tryz.prog W 0 (fun _=>true) true Tryz.f11.params.toList args.toList ds p:=hA0;rw [Tryz.params11] at hA hval;obtain ⟨v0,vs0,d0,ds0,p0,q0,hargs,rfl,rfl,h0,r0⟩:=trodAll_cons hA;obtain ⟨v1,vs1,d1,ds1,p1,q1,rfl,rfl,rfl,h1,r1⟩:=trodAll_cons r0;obtain ⟨rfl,rfl,rfl⟩:=trodAll_nil r1;obtain rfl:args=#[v0,v1]:=by cases args;simp_all
 obtain ⟨rfl,rfl⟩:=trodVars_none hV;have k0:=h0;have lt0:∀ x∈p0,x.block<W.heap.size:=by obtain ⟨m,hm⟩:=k0;exact DataW.trod_lt m _ _ _ hm
 have k1:=h1;have lt1:∀ x∈p1,x.block<W.heap.size:=by obtain ⟨m,hm⟩:=k1;exact DataW.trod_lt m _ _ _ hm
 obtain ⟨Av,nv,cv,Aa,na,ca,At,nt,ct,m,rfl,hca,hct,hm⟩:=uQ (hval 0 26 v0 rfl rfl) h0;obtain ⟨s1,e1,hb1⟩:=wm h1 (okWide_int Tryz.underlying5 (hval 1 5 v1 rfl rfl));subst e1;clear hA0 hval0;refine (callsIn_wide.1 (sl Av nv cv Aa na ca At nt ct m s1 W hm hb1)).mono fun e W' ⟨he,bel⟩=>?_;subst he;exact ⟨_,rfl,_,_,_,[],_,[],hW',trodAll_mk1 (shut_bool Tryz.underlying4 _),(trodAll_cons_mk (Below.trod oY (by kernel_rfl) (of_decide_eq_true (by kernel_rfl)) k0 bel lt0) (trodAll_cons_mk (Below.trod oY (by kernel_rfl) (of_decide_eq_true (by kernel_rfl)) k1 bel lt1) (trodAll_mk0))),rfl,bel.frame _,fun h=>by cases h⟩
theorem mixWrong_holds:Rows.MixWrongSaid :=
 OpenClaim.holds_of_wide 11 Tryz.f11 rfl rfl rfl rfl rfl rfl rfl ⟨rfl,rfl,rfl,rfl,rfl⟩ rfl rfl rfl rfl rfl (by kernel_rfl) Tryz.func11 (by kernel_rfl)
  (of_decide_eq_true (by kernel_rfl)) (by unfold Func.isWrapper;rw [if_neg (of_decide_eq_false (by kernel_rfl))];exact ⟨rfl,rfl⟩)
  (fun os started H enc _=>mixWrong_lifted os started H enc)
#print axioms mixWrong_holds
end
end Go.Proofs.YthofngceiecniaaGreat
