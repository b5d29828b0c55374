/- Part 11 of the texts of this claim, joined. -/
import Derived.Sort.CutIn
import Derived.Test.YthofngceiecniaaGreatZxB10
set_option linter.unusedVariables false
/- How much of a fountain is gone: mix.Gone. -/
namespace Go.Proofs.YthofngceiecniaaGreat
set_option maxHeartbeats 16000000
set_option maxRecDepth 100000
section
open Go.RowKit
attribute [local go_sem] Oper.semAt_some
def GonQ (Pm:Held→Prop)(F:Int)(n:Int):Prop:=∃ x:D4,Pm x.toH∧F - sumH x.toH=n
def sumK (s:Held):Nat→Int
 | 0=>0
 | k+1=>sumK s k+au s (k:Int)
theorem sE {s:Held}(h:∀ q:Nat,q<4→0≤au s q∧au s q≤12):∀ {k:Nat},k≤4→0≤sumK s k∧sumK s k≤12 * k
 | 0,_=>by simp [sumK]
 | k+1,hk=>by
  have h1:=sE h (k:=k) (by omega);have h2:=h k (by omega);rw [sumK];omega
inductive FrG (v0 v1 v2 v3 v18:Value):Act→Prop
 | mk (a b c d e f g h i j k l m n o p q r s t w x y z A B C D E F G:Value):FrG v0 v1 v2 v3 v18 ⟨#[v0,v1,v2,v3,a,b,c,d,e,f,g,h,i,j,k,l,m,n,v18,o,p,q,r,s,t,w,x,y,z,A,B,C,D,E,F,G],[]⟩
inductive FrG2 (v0 v1 v2 v3 v18 v6 v24 v25:Value):Act→Prop
 | mk (a b c d e f g h i j k l m n o p q r s t w x y z A B C D:Value):FrG2 v0 v1 v2 v3 v18 v6 v24 v25 ⟨#[v0,v1,v2,v3,a,b,v6,c,d,e,f,g,h,i,j,k,l,m,v18,n,o,p,q,r,v24,v25,s,t,w,x,y,z,A,B,C,D],[]⟩
theorem tM (n:Nat)(hn:2≤n)(gU:Nat)(T:Tb)(f:Int)(A:Option Addr)(nn c:Nat)(rs:List Nat)(ms:List (List (D4 × Bool)))(g1 g2 g3 rk:Nat)(mk:List (D4 × Bool))(Pm:Held→Prop)(F:Int)(m:Mix)(Av:Option Addr)(nv cv:Nat)(Aa:Option Addr)(na ca:Nat)(At:Option Addr)(nt ct:Nat)(w:World)(hT:TrAt w gU T f A nn c rs ms)
  (h1:Blk w g1 107 #[.pointer (some ⟨gU,0,none⟩)]) (h2:Blk w g2 26 #[.int .i64 m.fountains,.slice Av nv cv,.slice Aa na ca,.slice At nt ct]) (h3:Blk w g3 3 #[.int .i64 F]) (hrk:rs[na]? =some rk) (hmk:ms[na]? =some mk) (hm:fo mk Pm) (hrg:∀ y:D4,Pm y.toH→∀ q:Nat,q<4→0≤au y.toH q∧au y.toH q≤12) (hfl:0≤F∧F≤1000000) :
  jg Fence.wide n Tryz.prog 71 #[.pointer (some ⟨g1,0,none⟩),.pointer (some ⟨g2,0,none⟩),.pointer (some ⟨g3,0,none⟩)] (encI (P:=GonQ Pm F)) (iM w.heap.size) PAll mk.length w:=by
 intro l J w0 hW hJ hY h0;have HJ:=lh hJ;have HY:=lh hY;have H0:=lh h0;have HT:=lh hT;have H1:=lh h1;have H2:=lh h2;have H3:=lh h3;have HM:=lh hm;have HRK:=lh hrk;have HMK:=lh hmk;have HRG:=lh hrg;have HFL:=lh hfl;have HW:=lh hW;have hrd:=(hT.below hW).rd;obtain ⟨g,off,hA,hgl,hrd2⟩:=dv.plain hrd (by have:=(g_E hrk).1;simp;omega);have q9:=hrd2 na (canV rk) (by rw [List.getElem?_map,hrk];rfl);unfold canV at q9;subst hA;have hkn:na<nn:=by have:=hT.rd.1;have:=(g_E hrk).1;simp at *;omega
 obtain ⟨w1,hr1,hi1,hg1,hs1⟩:=eZ.range (P:=Tryz.prog) (t:=129) Tryz.underlying129 (show fL w0.drew rk mk from (hT.below hW).maps na rk mk hrk hmk);have q0:=(hT.below hW).blk.cell 2;have q1:=(h1.below hW h1.lt).cell 0;have q2:=(h2.below hW h2.lt).cell 2;have l0:=(hT.below hW).blk.lt;have l1:=(h1.below hW h1.lt).lt;have l2:=(h2.below hW h2.lt).lt;unfold trC at q0;clear hJ hY h0 hT h1 h2 h3 hm hrk hmk hW hrd hrd2 hrg hfl;refine callsIn_of_wp Tryz.func71 rfl trivial ?_ rfl;simp only [Tryz.ntmps71,es,Nat.reduceAdd,Nat.reduceSub];gi_wp2
 gi_region
 clear q0 q1 q2 q9 l0 l1 l2 hr1 hgl;have hb1:Below w0.heap.size w0 w1:=(av (Below.refl w0.heap.size w0) 1).grown hg1 n_R (fun k e=>by cases e);replace hi1:eR D4.key Value.bool okD w1 w0.heap.size rk mk mk:=hi1;have hj1:J [] w1:=HJ.out [] w0 w1 none H0.out (eL hb1 none) (fun r e=>by cases e);have HB1:=lh (HW.out.trans (hb1.mono HW.out.size));have HI1:=lh hi1;have HJ1:=lh hj1;clear hg1 hs1 hi1 hj1 hb1;gi_wp2
 refine wpIn_loop (fun a W=>∃ (left:List (D4 × Bool)) (pre:List (Pn (GonQ Pm F))),Hid (eR D4.key Value.bool okD W w0.heap.size rk mk left∧J pre W∧Below w.heap.size w W∧pre.length+left.length=mk.length∧(∀ p∈mk,p∈left∨∃ y∈pre,y.1=F - sumH p.1.toH))∧FrG (.func (.yield l) #[] #[]) (.pointer (some ⟨g1,0,none⟩)) (.pointer (some ⟨g2,0,none⟩)) (.pointer (some ⟨g3,0,none⟩)) (.pointer (some ⟨w0.heap.size,0,none⟩)) a)
  (fun _ W=>gi W w0.heap.size) ?_ ?_
 ·exact ⟨mk,[],lh ⟨HI1.out,HJ1.out,HB1.out,by simp,fun p hp=>.inl hp⟩,by constructor⟩
 clear HB1 HI1 HJ1;rintro a W ⟨left,pre,HS,ha⟩;cases ha
 rcases HS.out.1.next (P:=Tryz.prog) 0 with ⟨hl,hr⟩ | ⟨i,⟨y,v⟩,w2,hp,hr,hi2,hg2,hs2,he2⟩
 ·gi_wp2
  go_end0
  subst hl
  exact ⟨⟨_,rfl⟩,pre,fun n ⟨x,hx,e⟩=>by
   obtain ⟨v,hv⟩:=(HM.out.keys x).2 hx
   rcases HS.out.2.2.2.2 _ hv with h | ⟨y,hy,e2⟩
   ·cases h
   ·exact ⟨y,hy,e2.trans e⟩,HS.out.2.1⟩
 obtain ⟨v',hym⟩:=HS.out.1.sub (List.mem_of_getElem? hp);have hyP:Pm y.toH:=(HM.out.keys y).1 ⟨v',hym⟩;obtain ⟨x1,x2,x3,x4,ho⟩:=eR.obj HS.out.1;have hj2:J pre w2:=HJ.out pre W w2 _ HS.out.2.1 hg2 (fun r e=>by cases e;exact ⟨n_R,_,ho,rfl⟩);have hb2:Below w.heap.size w w2:=HS.out.2.2.1.grown hg2 HS.out.2.2.1.size (fun k e=>by cases e;exact HW.out.size);have hyr:=HRG.out y hyP
 obtain ⟨s,hs⟩:∃ s,y.toH=s:=⟨_,rfl⟩
 replace hr:(Instr.next (.pointer (some ⟨w0.heap.size,0,none⟩)) false 0).run Tryz.prog W = .ok (.tuple #[.bool true,.agg #[.int .i64 (au s 0),.int .i64 (au s 1),.int .i64 (au s 2),.int .i64 (au s 3)],.bool v]) w2:=by rw [← hs];exact hr
 replace he2:(Instr.entry (.pointer (some ⟨w0.heap.size,0,none⟩))).run Tryz.prog w2 = .ok (.tuple #[.agg #[.int .i64 (au s 0),.int .i64 (au s 1),.int .i64 (au s 2),.int .i64 (au s 3)],.bool v]) w2:=by rw [← hs];exact he2
 rw [hs] at hyP hyr;have HYP:=lh hyP;have HYR:=lh hyr;have HSY:=lh hs;have HI2:=lh hi2;have HJ2:=lh hj2;have HB2:=lh hb2;have HP:=lh hp;clear hyP hs hi2 hj2 hb2 hp hg2 hs2 ho hym hyr;have q3:=(H3.out.below HB2.out H3.out.lt).cell 0;have l3:=(H3.out.below HB2.out H3.out.lt).lt;gi_wp2;clear hr he2 q3 l3;have hb3:Below w2.heap.size w2 (w2.alloc (.cells #[.int .i64 (au s 0),.int .i64 (au s 1),.int .i64 (au s 2),.int .i64 (au s 3)] 115)):=b_R.alloc n_R _;have hj3:J pre (w2.alloc (.cells #[.int .i64 (au s 0),.int .i64 (au s 1),.int .i64 (au s 2),.int .i64 (au s 3)] 115)):=HJ.out pre w2 _ none HJ2.out (eL hb3 none) (fun r e=>by cases e);have HI3:=lh (HI2.out.below hb3 HI2.out.map.lt HI2.out.lt);have HB3:=lh (HB2.out.trans (hb3.mono HB2.out.size));have HJ3:=lh hj3;clear hb3 hj3 HJ2 HI2 HB2;generalize (w2.alloc (.cells #[.int .i64 (au s 0),.int .i64 (au s 1),.int .i64 (au s 2),.int .i64 (au s 3)] 115))=w3 at *
 refine wpIn_loop (fun a W'=>W'=w3∧∃ k:Nat,k≤4∧FrG2 (.func (.yield l) #[] #[]) (.pointer (some ⟨g1,0,none⟩)) (.pointer (some ⟨g2,0,none⟩)) (.pointer (some ⟨g3,0,none⟩)) (.pointer (some ⟨w0.heap.size,0,none⟩)) (.int .i64 (F - sumK s k)) (.agg #[.int .i64 (au s 0),.int .i64 (au s 1),.int .i64 (au s 2),.int .i64 (au s 3)]) (.int .i64 k) a)
  (fun a _=>4 - (intOf (a.tmps.getD 25 undef)).toNat) ?_ ?_
 ·exact ⟨rfl,0,by omega,by rw [show F - sumK s 0=F from by simp [sumK]];constructor⟩
 rintro a W' ⟨rfl,k,hk,ha⟩;cases ha;by_cases hk4:k<4
 ·have hix:∀ z:World,(Instr.index 115 (.agg #[.int .i64 (au s 0),.int .i64 (au s 1),.int .i64 (au s 2),.int .i64 (au s 3)]) (.int .i64 (k:Int))).run Tryz.prog z = .ok (.int .i64 (au s (k:Int))) z:=fun z=>by
   rcases (show k=0∨k=1∨k=2∨k=3 by omega) with rfl | rfl | rfl | rfl<;>kernel_rfl
  have hsk:=sE HYR.out (Nat.le_of_lt hk4);have hsb:=HYR.out k hk4;have hfl:=HFL.out;have HIX:=lh (hix W');have hix2:=hix W';clear hix;gi_wp2;refine ⟨⟨trivial,k+1,hk4,by rw [show F - sumK s (k+1)=F - sumK s k - au s (k:Int) from by rw [sumK];omega,show ((k+1:Nat):Int)=(k:Int)+1 from by omega];constructor⟩,?_⟩;simp [intOf];omega
 obtain rfl:k=4:=by omega
 have e4:sumK s 4=sumH s:=by simp [sumK,sumH]
 rw [e4]
 obtain ⟨fn,tmps,assign,body,hy,hR⟩:=HY.out pre ⟨F - sumH s,y,by rw [HSY.out];exact ⟨HYP.out,rfl⟩⟩ W' HJ3.out (by
  have h1:=HS.out.2.2.2.1;have h2:=(g_E HP.out).1
  omega)
 unfold encI at hy;dsimp only at hy;have HR:=lh hR;clear hR hk hk4 e4;gi_wp2;refine ⟨fun _=>by omega,HR.out.mono ?_⟩;rintro e W3 ⟨rfl,hJ3,hk3,_⟩;have HJ4:=lh hJ3;have HI4:=lh (HI3.out.walks hk3.2.1);have HB4:=lh (HB3.out.trans hk3.1);clear hJ3 hk3 hy;gi_wp2;refine ⟨⟨left.eraseIdx i,_,lh ⟨HI4.out,HJ4.out,HB4.out,?_,fun p hp=>?_⟩,by constructor⟩,?_⟩
 ·have h1:=HS.out.2.2.2.1
  have h2:=(g_E HP.out).1;rw [List.length_append,List.length_eraseIdx_of_lt h2,List.length_singleton];omega
 ·rcases HS.out.2.2.2.2 p hp with h | ⟨z,hz,e⟩
  ·rcases List.mem_cons.1 ((fE HP.out).mem_iff.2 h) with rfl | h
   ·exact .inr ⟨_,List.mem_append_right _ (List.mem_singleton_self _),by dsimp only;rw [HSY.out]⟩
   ·exact .inl h
  ·exact .inr ⟨z,List.mem_append_left _ hz,e⟩
 ·have h2:=(g_E HP.out).1
  rw [HI4.out.left_eq,HS.out.1.left_eq,List.length_eraseIdx_of_lt h2];omega
theorem pP (args:Array Value)(W:World):(callFunc 71 args).run Tryz.prog W = .ok (.enter 71 args) W:=by
 simp [go_sem]
def xo (w:World)(m:Mix)(fountain:Int)(e:Ending)(w':World):Prop:=∃ lo hi ee:Int,e = .returned (.tuple #[.agg #[.int .i64 lo,.int .i64 hi],.int .i64 ee])∧iZ m fountain (lo,hi) ee∧Below w.heap.size w w'
def gQ (m:Mix)(f:Int)(k:Nat):Int:=(m.acts.take k).foldl (fun n x=>if x.kind=1∧x.fr=f then n+x.drops else n) 0
theorem lL {m:Mix}{f:Int}{k:Nat}{x:MAct}(hx:m.acts[k]? =some x):gQ m f (k+1)=if x.kind=1∧x.fr=f then gQ m f k+x.drops else gQ m f k:=by
 unfold gQ;rw [List.take_add_one,hx];simp [List.foldl_append]
theorem mK {m:Mix}{f:Int}{k:Nat}(hk:m.acts.length=k):gQ m f k=ij m f:=by
 unfold gQ ij;rw [← hk,List.take_length]
theorem jM {T:Tb}{f:Int}(hok:TbOk T):∀ {k:Nat},k≤T.m.acts.length→0≤gQ T.m f k∧gQ T.m f k≤2000 * k
 | 0,_=>by simp [gQ]
 | k+1,hk=>by
  have h1:=jM (f:=f) hok (k:=k) (by omega)
  obtain ⟨x,hx⟩:∃ x,T.m.acts[k]? =some x:=⟨_,List.getElem?_eq_getElem (by omega)⟩
  obtain ⟨all,hA⟩:=hok.at_ hx;have h2:=hA.size;rw [lL hx]
  split
  ·rename_i h
   unfold eV at h2;rw [if_neg (by omega)] at h2;omega
  ·omega
theorem wP {T:Tb}{f:Int}{k:Nat}(hok:TbOk T)(hk:k<T.L.length):∀ y:D4,eN T.m f T.L k y.toH→∀ q:Nat,q<4→0≤au y.toH q∧au y.toH q≤12:=fun y h q hq=>by
 have hL:T.L[k]? =some T.L[k]:=List.getElem?_eq_getElem hk;have hr:=gX hok.all hok.vess (hZ hok.ok) hL;have h2:=h.fits hok.all hok.vess hL;have a:=h2.le q hq;have b:=hr.2 q;omega
theorem tH {T:Tb}{f F:Int}{k:Nat}(hok:TbOk T)(ht:eN T.m f T.L 0 fh)(hk:T.m.acts.length=k):∃ n,GonQ (eN T.m f T.L k) F n:=by
 obtain ⟨s,hs⟩:=kF ht (Nat.le_of_eq hk.symm);have hL:T.L[k]? =some (T.L[k]'(by have:=hok.long;omega)):=List.getElem?_eq_getElem _;have e2:=iE (hs.fits hok.all hok.vess hL).lh;exact ⟨_,ofH s,by rw [e2];exact hs,rfl⟩
theorem t7 {T:Tb}{m:Mix}{f:Int}{k:Nat}(hTm:T.m=m)(hok:TbOk T)(hk:m.acts.length=k):∀ n,GonQ (eN T.m f T.L k) (ij m f) n↔sL m f T.L n:=fun n=>by
 subst hTm;unfold GonQ sL;rw [hk];constructor
 ·rintro ⟨y,h1,h2⟩
  exact ⟨y.toH,h1,h2.symm⟩
 ·rintro ⟨s,h1,h2⟩
  have hL:T.L[k]? =some (T.L[k]'(by have:=hok.long;omega)):=List.getElem?_eq_getElem _;have e2:=iE (h1.fits hok.all hok.vess hL).lh;exact ⟨ofH s,by rw [e2];exact h1,by rw [e2];exact h2.symm⟩
inductive FrL (v0 v1 v2 v4 v5 v8 v9 v39 v40 v41:Value):Act→Prop
 | mk (a b c d e f g h i j k l m n o p q r s t w x y z A B C D E F G H I J K L M N O P Q R S T U V W X Y Z:Value):FrL v0 v1 v2 v4 v5 v8 v9 v39 v40 v41 ⟨#[v0,v1,v2,a,v4,v5,b,c,v8,v9,d,e,f,g,h,i,j,k,l,m,n,o,p,q,r,s,t,w,x,y,z,A,B,C,D,E,F,G,H,v39,v40,v41,I,J,K,L,M,N,O,P,Q,R,S,T,U,V,W,X,Y,Z],[]⟩
theorem vI (Av:Option Addr)(nv cv:Nat)(Aa:Option Addr)(na ca:Nat)(At:Option Addr)(nt ct:Nat)(m:Mix)(fountain:Int)(w:World)(h:MixS w Av nv Aa na At nt m) :
  CallsIn Fence.wide 9 Tryz.prog 33 #[.agg #[.int .i64 m.fountains,.slice Av nv cv,.slice Aa na ca,.slice At nt ct],.int .i64 fountain] w (xo w m fountain):=by
 have HM:=lh h;have HLA:=lh h.at_.lenA;clear h;refine callsIn_of_wp Tryz.func33 rfl trivial ?_ rfl;simp only [Tryz.ntmps33,es,Nat.reduceAdd,Nat.reduceSub];gi_upto_region 1 with fail
 have Ly:=lh (Lay.two w 26 #[.int .i64 m.fountains,.slice Av nv cv,.slice Aa na ca,.slice At nt ct] 54 #[.int .i64 0,.int .i64 0]);generalize ((w.alloc (.cells #[.int .i64 m.fountains,.slice Av nv cv,.slice Aa na ca,.slice At nt ct] 26)).alloc (.cells #[.int .i64 0,.int .i64 0] 54))=w0 at *;obtain ⟨x0_0,x0_1,x0_2,x0_3⟩:=lyc4 Ly 0 rfl;have l0_:=Ly.out.lt 0 rfl;gi_wp2;clear x0_0 x0_1 x0_2 x0_3 l0_;refine ⟨trivial,(callsIn_wide.2 (MixS.laid (HM.out.up Ly.out.1))).mono ?_⟩;rintro e W1 ⟨pp,rfl,hb,hp⟩;have HP:=lh hp;clear hp;replace Ly:=lyb Ly hb;clear hb
 cases hk:eO m with
 | false =>
  have HF:Hid (iZ m fountain (0,0) 40):=lh (.inl ⟨by unfold mO;rw [if_neg (by rw [hk];decide)];decide,rfl,by unfold mO;rw [if_neg (by rw [hk];decide)]⟩);clear hk HP;have x1_0:=lyc Ly 1 rfl 0;have z1_0:=lyf Ly 1 rfl 0;have x1_1:=lyc Ly 1 rfl 1;have z1_1:=lyf Ly 1 rfl 1;have l1_:=Ly.out.lt 1 rfl;gi_wp2;have R2:=ret2' (Ly.out.blk 1 rfl) Ly.out.1 (Ly.out.ge 1 rfl) (.int .i64 (0)) (.int .i64 (0));have v0:=R2.1.cell 0;have v1:=R2.1.cell 1;refine bodyPost_ret (v:=.tuple #[.agg #[.int .i64 (0),.int .i64 (0)],.int .i64 (40)]) (by simp [results,Tryz.results33,go_sem,v0,v1]) rfl ?_;exact ⟨_,_,_,rfl,HF.out,R2.2.1⟩
 | true =>
  obtain ⟨g,AA,nl,cl,L,rfl,hg,hL,hT⟩:=HP.out hk
  obtain ⟨T,hTT⟩:∃ T:Tb,T=⟨g,Av,nv,cv,Aa,na,ca,At,nt,ct,AA,nl,cl,m,L⟩:=⟨_,rfl⟩
  have hTg:g=T.g:=by rw [hTT]
  have hTm:T.m=m:=by rw [hTT]
  have HTL:Hid (allM m m.acts=some T.L):=lh (by rw [hTT];exact hL);rw [← hTT] at hT;subst hTg;have HOK:Hid (TbOk T):=lh ⟨by rw [hTm];exact hk,by rw [hTm];exact HTL.out⟩;have HK:=lh hk;have HT:=lh hT.at_;have HTM:=lh hTm;clear HP hTT hL hg hT hk hTm;obtain ⟨x0_0,x0_1,x0_2,x0_3⟩:=lyc4 Ly 0 rfl;have l0_:=Ly.out.lt 0 rfl;gi_wp2;clear x0_0 x0_1 x0_2 x0_3 l0_;have Y:=du.new W1 3 [fountain] (W1.heap.size+1) (by omega);have hb1:Below W1.heap.size W1 (W1.alloc (.cells #[.int .i64 fountain] 3)):=b_R.alloc n_R _;have hc:=gm 1 m.fountains (some ⟨W1.heap.size,0,none⟩) 1 1 [fountain] _ (Y.more (by simp)) (by decide);refine ⟨trivial,(callsIn_wide.2 hc).mono ?_⟩;clear hc Y;rintro e W19 ⟨rfl,hb⟩;have hbb:=hb1.trans (hb.mono hb1.size);clear hb hb1;replace Ly:=lyb Ly hbb;replace HT:=lh (HT.out.below hbb);clear hbb;by_cases hq:1≤fountain∧fountain≤m.fountains
  ·
   have hi:inB 1 m.fountains [fountain]=true:=by rw [fw];exact decide_eq_true hq
   rw [hi];have HGM:Hid (mO m fountain=0):=lh (by unfold mO;rw [if_pos HK.out,if_pos hq]);clear hq hi;gi_wp2;have HTD:=lh HT.out;refine ⟨trivial,(c_W (m5 T fountain W19 HTD.out HOK.out)).mono ?_⟩;rintro e W2 ⟨gU,b,A,n,c,rs,ms,rfl,hb,htr,hn,hcan,hb0⟩;have HTR:=lh htr;have HN:=lh hn;have HCN:=lh hcan;have HBB:=lh hb0;clear htr hn hcan hb0;replace Ly:=lyb Ly hb;replace HT:=lh (HT.out.below hb);clear hb;gi_upto_region 7 with fail
   obtain ⟨V3,hV⟩:∃ V,(W2.alloc (.cells #[.pointer (some ⟨gU,0,none⟩)] 107))=V:=⟨_,rfl⟩
   rw [hV];have hb:=eS hV;have hnew:=eT hV;have hge:=Ly.out.bel.size;replace Ly:=lyb Ly hb;replace HT:=lh (HT.out.below hb);replace HTR:=lh (HTR.out.below hb);replace Ly:=lh (Ly.out.add hge hnew);clear hnew hge hb hV
   obtain ⟨G4,hG⟩:∃ g,W2.heap.size=g:=⟨_,rfl⟩
   rw [hG] at Ly ⊢;clear hG;replace Ly:=lh (show Lay w V3 [(w.heap.size,26,#[.int .i64 m.fountains,.slice Av nv cv,.slice Aa na ca,.slice At nt ct]),(w.heap.size+1,54,#[.int .i64 0,.int .i64 0]),(G4,107,#[.pointer (some ⟨gU,0,none⟩)])] from Ly.out)
   cases b with
   | false =>
    have HF:Hid (iZ m fountain (0,0) 8):=lh (.inr ⟨HGM.out,T.L,HTL.out,.inl ⟨fun h=>by have h2:=HBB.out;rw [HTM.out] at h2;simp [h] at h2,rfl,rfl⟩⟩);have x1_0:=lyc Ly 1 rfl 0;have z1_0:=lyf Ly 1 rfl 0;have x1_1:=lyc Ly 1 rfl 1;have z1_1:=lyf Ly 1 rfl 1;have l1_:=Ly.out.lt 1 rfl;gi_wp2;have R2:=ret2' (Ly.out.blk 1 rfl) Ly.out.1 (Ly.out.ge 1 rfl) (.int .i64 (0)) (.int .i64 (0));have v0:=R2.1.cell 0;have v1:=R2.1.cell 1;refine bodyPost_ret (v:=.tuple #[.agg #[.int .i64 (0),.int .i64 (0)],.int .i64 (8)]) (by simp [results,Tryz.results33,go_sem,v0,v1]) rfl ?_;exact ⟨_,_,_,rfl,HF.out,R2.2.1⟩
   | true =>
    have HTT:Hid (eN m fountain T.L 0 fh):=lh (by have h:=HBB.out;rw [HTM.out] at h;simpa using h);have hkl:na<T.L.length:=by have h1:=HOK.out.long;have h2:=HLA.out;rw [HTM.out] at h1;omega
    have hn:=HN.out;rw [HTM.out] at hn;have hkr:na<rs.length:=by have h:=HTR.out.own.len;have h2:=HLA.out;simp at h;omega
    have hkm:na<ms.length:=by have h:=HTR.out.len;have h2:=HLA.out;omega
    have HRK:Hid (rs[na]? =some rs[na]):=lh (List.getElem?_eq_getElem hkr);have HMK:Hid (ms[na]? =some ms[na]):=lh (List.getElem?_eq_getElem hkm);have HCK:=lh (HCN.out na _ HMK.out);have HML:Hid (ms[na].length≤28561):=lh (can_small' HTM.out HOK.out (Nat.le_of_eq HLA.out.symm) (HTR.out.maps na _ _ HRK.out HMK.out) (by rw [← HTM.out];exact HCK.out));have HEX:Hid (∃ n,GonQ (eN T.m fountain T.L na) (ij m fountain) n):=lh (tH HOK.out (by rw [HTM.out];exact HTT.out) (by rw [HTM.out];exact HLA.out));have HF:Hid (∀ lo hi:Int,ir (GonQ (eN T.m fountain T.L na) (ij m fountain)) (lo,hi)→iZ m fountain (lo,hi) 0):=lh fun lo hi hs=>.inr ⟨HGM.out,T.L,HTL.out,.inr ⟨HTT.out,rfl,hs.congr (t7 HTM.out HOK.out HLA.out)⟩⟩;have HRG:=lh (wP HOK.out hkl (f:=fountain));have HTRA:=lh (HTR.out.at_ HT.out);clear hkl hn HCN HBB HN HTR;obtain ⟨x0_0,x0_1,x0_2,x0_3⟩:=lyc4 Ly 0 rfl;have l0_:=Ly.out.lt 0 rfl;gi_upto_region 10 with fail
    clear x0_0 x0_1 x0_2 x0_3 l0_
    obtain ⟨V9,hV⟩:∃ V,(V3.alloc (.cells #[.int .i64 0] 3))=V:=⟨_,rfl⟩
    rw [hV];have HB9:=lh (eS hV);have HN9:=lh (eT hV)
    obtain ⟨G9,hG⟩:∃ g,V3.heap.size=g:=⟨_,rfl⟩
    rw [hG] at HN9 ⊢;have HG9:=lh hG;clear hV hG;have x2:=((Ly.out.blk 0 rfl).below HB9.out (Ly.out.lt 0 rfl)).cell 2;have x2l:=((Ly.out.blk 0 rfl).below HB9.out (Ly.out.lt 0 rfl)).lt;gi_wp2;clear x2 x2l
    refine wpIn_loop (fun a W=>∃ k:Nat,Hid (k≤na∧Below V3.heap.size V3 W∧Blk W G9 3 #[.int .i64 (gQ m fountain k)])∧FrL (.agg #[.int .i64 m.fountains,.slice Av nv cv,.slice Aa na ca,.slice At nt ct]) (.int .i64 fountain) (.pointer (some ⟨w.heap.size,0,none⟩)) (.pointer (some ⟨w.heap.size+1,0,none⟩)) (.int .i64 0) (.pointer (some ⟨G4,0,none⟩)) (.pointer (some ⟨G9,0,none⟩)) (.slice Aa na ca) (.int .i64 na) (.int .i64 k) a)
     (fun a _=>na - (intOf (a.tmps.getD 41 undef)).toNat) ?_ ?_
    ·exact ⟨0,lh ⟨by omega,HB9.out,HN9.out⟩,by constructor⟩
    clear HB9 HN9;rintro a W ⟨k,HS,ha⟩;cases ha;by_cases hlt:k<na
    ·obtain ⟨x,hx⟩:∃ x,m.acts[k]? =some x:=⟨_,List.getElem?_eq_getElem (by have:=HLA.out;omega)⟩
     obtain ⟨b,off,x',hAa,hbB,hx',c0,c1,c2,c3⟩:=((HM.out.at_.below Ly.out.1).more Ly.out.1.size).act hlt;rw [hx] at hx';obtain rfl:=Option.some.inj hx';have HBA:Hid (b<V3.heap.size):=lh hbB;replace c0:=(HS.out.2.1.cell (p:=⟨b,off+k * 4,none⟩) hbB).trans c0;replace c1:=(HS.out.2.1.cell (p:=⟨b,off+k * 4+1,none⟩) hbB).trans c1;replace c2:=(HS.out.2.1.cell (p:=⟨b,off+k * 4+2,none⟩) hbB).trans c2;replace c3:=(HS.out.2.1.cell (p:=⟨b,off+k * 4+3,none⟩) hbB).trans c3;rw [hAa];gi_upto_region 13 with fail
     clear c0 c1 c2 c3;have hbx:Below W.heap.size W (W.alloc (.cells #[.int .i64 x.kind,.int .i64 x.fr,.int .i64 x.to,.int .i64 x.drops] 62)):=b_R.alloc n_R _;have hnx:=Blk.new W 62 #[.int .i64 x.kind,.int .i64 x.fr,.int .i64 x.to,.int .i64 x.drops]
     obtain ⟨gx,hgx⟩:∃ g,W.heap.size=g:=⟨_,rfl⟩
     generalize (W.alloc (.cells #[.int .i64 x.kind,.int .i64 x.fr,.int .i64 x.to,.int .i64 x.drops] 62))=W1 at *;rw [hgx] at hnx ⊢;have h9:Blk W1 G9 3 #[.int .i64 (gQ m fountain k)]:=HS.out.2.2.below hbx HS.out.2.2.lt;have y0:=hnx.cell 0;have y1:=hnx.cell 1;have y2:=hnx.cell 2;have y3:=hnx.cell 3;have yl:=hnx.lt;have z9:=h9.cell 0;have zl:=h9.lt;have zf:=h9.frozen 0;have HB1:=lh (HS.out.2.1.trans (hbx.mono HS.out.2.1.size));have H9:=lh h9;clear h9 hbx hnx;have HX:=lh hx;have hbd:=jM (f:=fountain) HOK.out (k:=k) (by rw [HTM.out,HLA.out];omega);have hbd2:=jM (f:=fountain) HOK.out (k:=k+1) (by rw [HTM.out,HLA.out];omega);rw [HTM.out] at hbd hbd2;have hk12:k+1≤12:=by have h1:=HOK.out.acts;rw [HTM.out,HLA.out] at h1;omega
     have hsc:=lL (f:=fountain) hx;clear hx;by_cases hc:x.kind=1∧x.fr=fountain
     ·rw [if_pos hc] at hsc
      rw [hsc] at hbd2;obtain ⟨hc1,hc2⟩:=hc;gi_wp2;refine ⟨⟨k+1,lh ⟨hlt,HB1.out.setCell (by have:=HG9.out;show V3.heap.size≤G9;omega) _,by rw [hsc];exact H9.out.set_ 0 _⟩,by rw [show ((k+1:Nat):Int)=(k:Int)+1 from by omega];constructor⟩,?_⟩;simp [intOf];omega
     ·rw [if_neg hc] at hsc
      have hdone:Hid (k+1≤na∧Below V3.heap.size V3 W1∧Blk W1 G9 3 #[.int .i64 (gQ m fountain (k+1))]):=lh ⟨hlt,HB1.out,by rw [hsc];exact H9.out⟩;clear hsc;gi_wp2
      all_goals
       refine ⟨⟨k+1,hdone,by rw [show ((k+1:Nat):Int)=(k:Int)+1 from by omega];constructor⟩,?_⟩;simp [intOf];omega
    have hkn:na=k:=by have:=HS.out.1;omega
    subst hkn;have hfk:=HS.out.2.2;rw [mK HLA.out] at hfk
    have HFD:Hid (0≤ij m fountain∧ij m fountain≤1000000):=lh (by
     have h1:=jM (f:=fountain) HOK.out (k:=na) (by rw [HTM.out,HLA.out];exact n_R);have h2:=HOK.out.acts;rw [HTM.out] at h1 h2;rw [HLA.out] at h2;rw [mK HLA.out] at h1
     omega)
    have hge:w.heap.size≤G9:=by have h1:=HG9.out;have h2:=Ly.out.1.size;omega
    replace Ly:=lh ((Ly.out.below HS.out.2.1).add hge hfk);replace HTRA:=lh (HTRA.out.below HS.out.2.1);replace Ly:=lh (show Lay w W [(w.heap.size,26,#[.int .i64 m.fountains,.slice Av nv cv,.slice Aa na ca,.slice At nt ct]),(w.heap.size+1,54,#[.int .i64 0,.int .i64 0]),(G4,107,#[.pointer (some ⟨gU,0,none⟩)]),(G9,3,#[.int .i64 (ij m fountain)])] from Ly.out);clear hge hfk hlt HS HG9;gi_wp2;refine ⟨trivial,(callsIn_wide.2 (kv 71 #[.pointer (some ⟨G4,0,none⟩),.pointer (some ⟨w.heap.size,0,none⟩),.pointer (some ⟨G9,0,none⟩)] ms[na].length W (by have:=HML.out;omega) pP HEX.out (fun w1 hw1 nq hnq=>tM nq (by omega) gU T fountain A n c rs ms G4 (w.heap.size) G9 rs[na] ms[na] (eN T.m fountain T.L na) (ij m fountain) m Av nv cv Aa na ca At nt ct w1 (HTRA.out.below hw1) ((Ly.out.below hw1).blk 2 rfl) ((Ly.out.below hw1).blk 0 rfl) ((Ly.out.below hw1).blk 3 rfl) HRK.out HMK.out HCK.out HRG.out HFD.out))).mono ?_⟩;rintro e W5 ⟨lo,hi,rfl,hsp,hb⟩;have HSP:=lh (HF.out lo hi hsp);clear hsp;replace Ly:=lyb Ly hb;clear hb;have x1_0:=lyc Ly 1 rfl 0;have z1_0:=lyf Ly 1 rfl 0;have x1_1:=lyc Ly 1 rfl 1;have z1_1:=lyf Ly 1 rfl 1;have l1_:=Ly.out.lt 1 rfl;gi_wp2;have R2:=ret2' (Ly.out.blk 1 rfl) Ly.out.1 (Ly.out.ge 1 rfl) (.int .i64 (lo)) (.int .i64 (hi));have v0:=R2.1.cell 0;have v1:=R2.1.cell 1;refine bodyPost_ret (v:=.tuple #[.agg #[.int .i64 (lo),.int .i64 (hi)],.int .i64 (0)]) (by simp [results,Tryz.results33,go_sem,v0,v1]) rfl ?_;exact ⟨lo,hi,0,rfl,HSP.out,R2.2.1⟩
  ·
   have hi:inB 1 m.fountains [fountain]=false:=by rw [fw];exact decide_eq_false hq
   rw [hi];have HF:Hid (iZ m fountain (0,0) 2):=lh (.inl ⟨by unfold mO;rw [if_pos HK.out,if_neg hq];decide,rfl,by unfold mO;rw [if_pos HK.out,if_neg hq]⟩);clear hq hi;have x1_0:=lyc Ly 1 rfl 0;have z1_0:=lyf Ly 1 rfl 0;have x1_1:=lyc Ly 1 rfl 1;have z1_1:=lyf Ly 1 rfl 1;have l1_:=Ly.out.lt 1 rfl;gi_wp2;have R2:=ret2' (Ly.out.blk 1 rfl) Ly.out.1 (Ly.out.ge 1 rfl) (.int .i64 (0)) (.int .i64 (0));have v0:=R2.1.cell 0;have v1:=R2.1.cell 1;refine bodyPost_ret (v:=.tuple #[.agg #[.int .i64 (0),.int .i64 (0)],.int .i64 (2)]) (by simp [results,Tryz.results33,go_sem,v0,v1]) rfl ?_;exact ⟨_,_,_,rfl,HF.out,R2.2.1⟩
end
section
open Go.RowKit
def vd (w:World)(m:Mix)(vessel after:Int)(e:Ending)(w':World):Prop:=∃ n ee:Int,e = .returned (.tuple #[.int .i64 n,.int .i64 ee])∧fF m vessel after n ee∧Below w.heap.size w w'
theorem lX (Av:Option Addr)(nv cv:Nat)(Aa:Option Addr)(na ca:Nat)(At:Option Addr)(nt ct:Nat)(m:Mix)(vessel after:Int)(w:World)(h:MixS w Av nv Aa na At nt m) :
  CallsIn Fence.wide 9 Tryz.prog 30 #[.agg #[.int .i64 m.fountains,.slice Av nv cv,.slice Aa na ca,.slice At nt ct],.int .i64 vessel,.int .i64 after] w (vd w m vessel after):=by
 have HM:=lh h;clear h;refine callsIn_of_wp Tryz.func30 rfl trivial ?_ rfl;simp only [Tryz.ntmps30,es,Nat.reduceAdd,Nat.reduceSub];gi_upto_region 1 with fail
 have Ly:=lh (Lay.one w 26 #[.int .i64 m.fountains,.slice Av nv cv,.slice Aa na ca,.slice At nt ct]);generalize (w.alloc (.cells #[.int .i64 m.fountains,.slice Av nv cv,.slice Aa na ca,.slice At nt ct] 26))=w0 at *;obtain ⟨x0_0,x0_1,x0_2,x0_3⟩:=lyc4 Ly 0 rfl;have l0_:=Ly.out.lt 0 rfl;gi_wp2;clear x0_0 x0_1 x0_2 x0_3 l0_;refine ⟨trivial,(c_W (jC Av nv cv Aa na ca At nt ct m vessel after none 0 0 [] w0 (HM.out.up Ly.out.1) dv.none_ (by unfold maxLen;omega))).mono ?_⟩;rintro e W1 ⟨pp,s1,s2,rfl,hb,hp⟩;have HP:=lh hp;clear hp;replace Ly:=lyb Ly hb;clear hb
 obtain ⟨ee,hee⟩:∃ ee,askM m vessel after []=ee:=⟨_,rfl⟩
 rw [hee] at HP ⊢;have HEE:=lh hee;clear hee;by_cases h0:ee=0
 ·
  obtain ⟨hk,h1,h2,h3,h4,T,rfl,hTm,hTL,hTg,hT,_⟩:=HP.out h0;subst h0;subst h2
  obtain ⟨q,hq⟩:∃ q:Nat,s1=q:=⟨s1.toNat,by omega⟩
  subst hq
  obtain ⟨k,hkk⟩:∃ k:Nat,s2=k:=⟨s2.toNat,by omega⟩
  subst hkk;have hv4:=(fj hk).1;have hq4:q<4:=by have:=gH (l:=m.vessels) (id:=vessel) (by omega);omega
  have hkl:k<T.nl:=by have:=fH fy (by omega) hT.at_.all;have:=fX _ _ _ hTL;omega
  obtain ⟨bl,ol,all,hAL,hbl,hall,hcl⟩:=ft fy (by omega) hT.at_.all hkl;have HF:Hid (fF m vessel (k:Int) (au all (q:Int)) 0):=lh (.inr ⟨HEE.out,rfl,T.L,all,hTL,hall,by rw [← h1]⟩);have HT:=lh hT.at_;have HAL:=lh hAL;have HBL:=lh hbl;have HCE:=lh (hcl q _ (iO all hq4));have HKL:=lh hkl;clear HP hk h1 h3 h4 hTm hTL hTg hT hAL hbl hall hcl hkl hv4;have B00:=lh (Below.refl W1.heap.size W1);gi_upto_region 4 with fail
  obtain ⟨V2,hV⟩:∃ V,(W1.alloc (.cells #[.int .i64 (q:Int),.int .i64 (k:Int)] 109))=V:=⟨_,rfl⟩
  rw [hV];have hb:=eS hV;have hnew:=eT hV;have hge:=Ly.out.bel.size;replace Ly:=lyb Ly hb;replace B00:=lh (B00.out.trans (hb.mono B00.out.size));replace Ly:=lh (Ly.out.add hge hnew);clear hnew hge hb hV
  obtain ⟨G3,hG⟩:∃ g,W1.heap.size=g:=⟨_,rfl⟩
  rw [hG] at Ly ⊢;clear hG;replace Ly:=lh (show Lay w V2 [(w.heap.size,26,#[.int .i64 m.fountains,.slice Av nv cv,.slice Aa na ca,.slice At nt ct]),(G3,109,#[.int .i64 (q:Int),.int .i64 (k:Int)])] from Ly.out);refine wpIn_flow_old [] [true,true,true,true,true,true,true,true,true,true,true,true,true] [] (by kernel_rfl) (by kernel_rfl) (by kernel_rfl) (av b_R 1) ?_;refine wpFlow_nil (A:=?AF1) ?hq1 ?_
  case hq1 =>
   rintro σ hσ of hof hcl;have HOF:=lh hof;clear hof hcl;obtain ⟨c0_,c1_⟩:=lyz2 Ly HOF 1 rfl;have hfw:=hfT;have t4:∀ z,(of z).cell? ⟨T.g,4,none⟩=some (.slice (some ⟨bl,ol,none⟩) T.nl T.cl):=fun z=>by have:=((HT.out.below B00.out).below (HOF.out z)).blk.cell 4;rw [← HAL.out];exact this
   have ch:∀ z,(of z).cell? ⟨bl,ol+k * 4+q,none⟩=some (.int .i64 (au all (q:Int))):=fun z=>((B00.out.trans ((HOF.out z).mono B00.out.size)).cell (p:=⟨bl,ol+k * 4+q,none⟩) HBL.out).trans HCE.out;have hkl:=HKL.out;simp only [bu]
   repeat (gi_big_quiet_step (fail))
   refine wpQuietIn_nil ?_;exact rfl
  intro W4 hW;replace Ly:=lyb Ly hW;replace B00:=lh (B00.out.trans (hW.mono B00.out.size));clear hW;simp only [bu];refine eK ?_;gi_wp2;refine bodyPost_ret (v:=.tuple #[.int .i64 (au all (q:Int)),.int .i64 0]) (by simp [results,Tryz.results30,go_sem]) rfl ?_;exact ⟨_,_,rfl,HF.out,Ly.out.1⟩
 ·
  have h0b:(ee==0)=false:=by simpa using h0
  have h0c:(ee != 0)=true:=by simpa using h0
  have HF:Hid (fF m vessel after 0 ee):=lh (.inl ⟨by rw [HEE.out];exact h0,rfl,HEE.out.symm⟩);clear h0 HP;gi_wp2;have hbf:Below W1.heap.size W1 (W1.alloc (.cells #[.int .i64 s1,.int .i64 s2] 109)):=b_R.alloc n_R _;refine bodyPost_ret (v:=.tuple #[.int .i64 0,.int .i64 ee]) (by simp [results,Tryz.results30,go_sem]) rfl ?_;exact ⟨_,_,rfl,HF.out,(Ly.out.below hbf).1⟩
end
section
open Go.RowKit Go.Shelf
abbrev C2:=Int × Int
def C2.key (x:C2):Value:=.agg #[.int .i64 x.1,.int .i64 x.2]
def okC (x:C2):Prop:=okZ x.1∧okZ x.2
abbrev mP (w:World)(r:Nat)(m:List (C2 × Bool)):Prop:=eZ C2.key Value.bool okC w r m
theorem arrC:WideMaps.ArrKey Tryz.prog 138 3 2:=⟨Tryz.underlying138,by kernel_rfl,by kernel_rfl,by kernel_rfl⟩
theorem cpTy:mJ Tryz.prog 139 138 4 C2 Bool C2.key Value.bool okC (.bool false) where
 und:=Tryz.underlying139
 keyed:=Maps.Keyed.of_law arrC.law
 reads:=fun x hx=>⟨_,WideMaps.keyOf_pair arrC Tryz.underlying3 o8 hx.1 hx.2⟩
 inj:=fun x y h=>by
  obtain ⟨a,b⟩:=x;obtain ⟨a',b'⟩:=y;simp [C2.key] at h;simp [h]
 zero:=fun w=>by kernel_rfl
structure CpIs (m:List (C2 × Bool))(P:C2→Prop):Prop where
 all:∀ p∈m,p.2=true
 keys:∀ x:C2,(∃ v,(x,v)∈m)↔P x
section
variable {m:List (C2 × Bool)} {P Q:C2→Prop} {x:C2}
theorem CpIs.nil:CpIs [] fun _=>False:=⟨(fun p h=>by cases h),fun x=>⟨(fun ⟨v,h⟩=>by cases h),fun h=>h.elim⟩⟩
theorem CpIs.congr (h:CpIs m P)(e:∀ x:C2,P x↔Q x):CpIs m Q:=⟨h.all,fun x=>(h.keys x).trans (e x)⟩
theorem CpIs.put (h:CpIs m P)(x:C2):CpIs (put m x true) fun s=>P s∨s=x:=by
 refine ⟨fun p hp=>?_,fun y=>?_⟩
 ·rcases kE hp with rfl | ⟨hp,_⟩
  ·rfl
  ·exact h.all p hp
 ·constructor
  ·rintro ⟨v,hv⟩
   rcases kE hv with e | ⟨hv,_⟩
   ·right
    exact congrArg Prod.fst e
   ·left
    exact (h.keys y).1 ⟨v,hv⟩
  ·intro hy
   have h1:=rB (m:=m) (x:=x) (y:=y) (v:=true);by_cases e:y=x
   ·rw [if_pos e] at h1
    exact ⟨_,iG h1⟩
   ·rw [if_neg e] at h1
    rcases hy with hy | hy
    ·obtain ⟨v,hv⟩:=(h.keys y).2 hy
     cases hl2:look m y with
     | none=>exact absurd rfl (look_none.1 hl2 _ hv)
     | some u =>
      rw [hl2] at h1;exact ⟨_,iG h1⟩
    ·exact absurd hy e
theorem CpIs.look_some (h:CpIs m P)(hp:P x):look m x=some true:=by
 obtain ⟨v,hv⟩:=(h.keys x).2 hp
 cases hl:look m x with
 | none=>exact absurd rfl (look_none.1 hl _ hv)
 | some u =>
  have:=h.all _ (iG hl);dsimp only at this;rw [this]
theorem CpIs.look_none (h:CpIs m P)(hp:¬ P x):look m x=none:=by
 cases hl:look m x with
 | none=>rfl
 | some u=>exact absurd ((h.keys x).1 ⟨u,iG hl⟩) hp
end
theorem nW {w:World}{g:Nat}{t:TypeId}{cs:Array Value}{r:Nat}{m:List (C2 × Bool)}(h:mP w r m)(b:Blk w g t cs):r≠g:=fun e=>by
 subst e;obtain ⟨es,cl,h1,_⟩:=h;have h2:=b;unfold Blk at h2;rw [h1] at h2;cases h2
theorem rE {w:World}{g it r:Nat}{t:TypeId}{cs:Array Value}{m left:List (C2 × Bool)}(h:eR C2.key Value.bool okC w it r m left)(b:Blk w g t cs):it≠g:=fun e=>by
 subst e;obtain ⟨_,_,_,_,_,_,_,_,_,h5,_⟩:=h;have h2:=b;unfold Blk at h2;rw [h5] at h2;cases h2
theorem oZ {w:World}{it r rn:Nat}{m left mn:List (C2 × Bool)}(h:eR C2.key Value.bool okC w it r m left)(b:mP w rn mn):it≠rn:=fun e=>by
 subst e;obtain ⟨_,_,_,_,_,_,_,_,_,h5,_⟩:=h;obtain ⟨_,_,h1,_⟩:=b;rw [h5] at h1;cases h1
structure MS (WB W:World)(it r rn:Nat)(mm left mn:List (C2 × Bool))(bs:List (Nat × TypeId × Array Value)):Prop where
 lay:Lay WB W bs
 iter:eR C2.key Value.bool okC W it r mm left
 map:mP W rn mn
 ne:rn≠r
 ge:WB.heap.size≤it∧WB.heap.size≤r∧WB.heap.size≤rn
section
variable {WB W W':World} {it r rn:Nat} {mm left left' mn mn':List (C2 × Bool)} {bs bs':List (Nat × TypeId × Array Value)}
theorem MS.below (h:MS WB W it r rn mm left mn bs)(hb:Below W.heap.size W W'):MS WB W' it r rn mm left mn bs:=⟨h.lay.below hb,h.iter.below hb h.iter.map.lt h.iter.lt,h.map.below hb h.map.lt,h.ne,h.ge⟩
theorem MS.sub (h:MS WB W it r rn mm left mn bs)(hs:∀ b∈bs',b∈bs):MS WB W it r rn mm left mn bs':=⟨h.lay.sub hs,h.iter,h.map,h.ne,h.ge⟩
theorem MS.box (h:MS WB W it r rn mm left mn bs)(t:TypeId)(cs:Array Value):MS WB (W.alloc (.cells cs t)) it r rn mm left mn (bs++[(W.heap.size,t,cs)]):=by
 have h1:=h.below (b_R.alloc n_R (.cells cs t));exact ⟨h.lay.alloc t cs,h1.iter,h1.map,h1.ne,h1.ge⟩
theorem MS.set {g:Nat}{t:TypeId}{cs:Array Value}(h:MS WB W it r rn mm left mn (bs++[(g,t,cs)]))(hne:∀ p∈bs,p.1≠g)(k:Nat)(v:Value):MS WB (W.setCell ⟨g,k,none⟩ v) it r rn mm left mn (bs++[(g,t,cs.setIfInBounds k v)]):=by
 have hg:=eu (row:=some g) (eY W _) (p:=⟨g,k,none⟩) (.inl rfl) v;have hb:=(h.lay.2 (g,t,cs) (by simp)).2;exact ⟨h.lay.setLast hne k v,h.iter.grown hg (fun e=>nW h.iter.map hb (Option.some.inj e)) (fun e=>rE h.iter hb (Option.some.inj e)),h.map.grown hg (fun e=>nW h.map hb (Option.some.inj e)),h.ne,h.ge⟩
theorem MS.upd (h:MS WB W it r rn mm left mn bs)(hm:mP W' rn mn')(hg:W.grownBy W' (some rn)):MS WB W' it r rn mm left mn' bs :=
 ⟨h.lay.row hg (fun k e=>by cases e;exact ⟨h.ge.2.2,fun b hb e=>nW h.map (h.lay.2 b hb).2 e.symm⟩),h.iter.grown hg (fun e=>h.ne (Option.some.inj e).symm) (fun e=>oZ h.iter h.map (Option.some.inj e)),hm,h.ne,h.ge⟩
theorem MS.next (h:MS WB W it r rn mm left mn bs)(hi:eR C2.key Value.bool okC W' it r mm left')(hg:W.grownBy W' (some it)):MS WB W' it r rn mm left' mn bs :=
 ⟨h.lay.row hg (fun k e=>by cases e;exact ⟨h.ge.1,fun b hb e=>rE h.iter (h.lay.2 b hb).2 e.symm⟩),hi,h.map.grown hg (fun e=>oZ h.iter h.map (Option.some.inj e).symm),h.ne,h.ge⟩
end
def gB (s:Nat):Bool × Bool:=(s % 2==1,s / 2 % 2==1)
def SetP (fr to n al xf f0 f1:Int)(c:C2)(s:Nat)(d:C2):Prop:=∃ i,i<s∧gL fr to n al xf f0 f1 c (gB i)=true∧d=(fM fr to c.1 (gB i).1,fM fr to c.2 (gB i).2)
theorem s7 {fr to n al xf f0 f1:Int}{c d:C2}:¬ SetP fr to n al xf f0 f1 c 0 d:=fun ⟨_,h,_⟩=>absurd h (Nat.not_lt_zero _)
theorem jG {fr to n al xf f0 f1:Int}{c d:C2}{s:Nat}:SetP fr to n al xf f0 f1 c (s+1) d↔SetP fr to n al xf f0 f1 c s d∨(gL fr to n al xf f0 f1 c (gB s)=true∧d=(fM fr to c.1 (gB s).1,fM fr to c.2 (gB s).2)):=by
 constructor
 ·rintro ⟨i,h1,h2⟩
  rcases Nat.lt_or_ge i s with h | h
  ·exact .inl ⟨i,h,h2⟩
  ·obtain rfl:i=s:=by omega
   exact .inr h2
 ·rintro (⟨i,h1,h2⟩ | h)
  ·exact ⟨i,by omega,h2⟩
  ·exact ⟨s,by omega,h⟩
theorem tk {fr to n al xf f0 f1:Int}{c d:C2}:SetP fr to n al xf f0 f1 c 4 d↔o7 fr to n al xf f0 f1 c d:=by
 rw [← mE];unfold sZ;rw [List.mem_map];constructor
 ·rintro ⟨i,h1,h2,rfl⟩
  refine ⟨gB i,List.mem_filter.2 ⟨?_,h2⟩,rfl⟩
  match i,h1 with
  | 0,_=>decide
  | 1,_=>decide
  | 2,_=>decide
  | 3,_=>decide
 ·rintro ⟨g,h1,rfl⟩
  obtain ⟨h2,h3⟩:=List.mem_filter.1 h1;unfold xy at h2;simp only [List.mem_cons,List.not_mem_nil,or_false] at h2;rcases h2 with rfl | rfl | rfl | rfl
  ·exact ⟨0,by omega,h3,rfl⟩
  ·exact ⟨2,by omega,h3,rfl⟩
  ·exact ⟨1,by omega,h3,rfl⟩
  ·exact ⟨3,by omega,h3,rfl⟩
def mp (fr to n al xf f0 f1:Int)(mm left:List (C2 × Bool))(d:C2):Prop:=∃ p∈mm,(∀ q∈left,q.1≠p.1)∧o7 fr to n al xf f0 f1 p.1 d
theorem rj {fr to n al xf f0 f1:Int}{mm:List (C2 × Bool)}{d:C2}:¬ mp fr to n al xf f0 f1 mm mm d:=fun ⟨p,h1,h2,_⟩=>h2 p h1 rfl
theorem rS {fr to n al xf f0 f1:Int}{mm left:List (C2 × Bool)}{i:Nat}{y:C2}{v:Bool}(hn:(left.map Prod.fst).Nodup)(hp:left[i]? =some (y,v))(hm:(y,v)∈mm)(d:C2) :
  mp fr to n al xf f0 f1 mm (left.eraseIdx i) d↔mp fr to n al xf f0 f1 mm left d∨o7 fr to n al xf f0 f1 y d:=by
 have hpe:left.Perm ((y,v)::left.eraseIdx i):=(fE hp).symm
 have hnd:∀ q∈left.eraseIdx i,q.1≠y:=by
  have h1:=(hpe.map Prod.fst).nodup_iff.1 hn;rw [List.map_cons,List.nodup_cons] at h1;exact fun q hq e=>h1.1 (List.mem_map.2 ⟨q,hq,e⟩)
 constructor
 ·rintro ⟨p,h1,h2,h3⟩
  by_cases e:p.1=y
  ·right
   rw [← e];exact h3
  ·left
   refine ⟨p,h1,fun q hq=>?_,h3⟩;rcases List.mem_cons.1 (hpe.mem_iff.1 hq) with rfl | hq
   ·exact fun h=>e h.symm
   ·exact h2 q hq
 ·rintro (⟨p,h1,h2,h3⟩ | h)
  ·exact ⟨p,h1,fun q hq=>h2 q (hpe.mem_iff.2 (List.mem_cons_of_mem _ hq)),h3⟩
  ·exact ⟨(y,v),hm,hnd,h⟩
theorem tz {m:Mix}{A:List Held}{f0 f1:Int}{t:Nat}{x:MAct}{all:Held}{mm:List (C2 × Bool)}(hx:m.acts[t]? =some x)(ha:A[t]? =some all)(hm:CpIs mm (NowP m A f0 f1 t))(d:C2) :
  mp (cu m x) (toI m x) (eV m all x) (au all (cu m x)) x.fr f0 f1 mm [] d↔NowP m A f0 f1 (t+1) d:=by
 unfold NowP;constructor
 ·rintro ⟨p,h1,_,h3⟩
  exact ⟨p.1,x,all,(hm.keys p.1).1 ⟨p.2,h1⟩,hx,ha,h3⟩
 ·rintro ⟨c,x',al,h1,h2,h3,h4⟩
  rw [hx] at h2;cases h2;rw [ha] at h3;cases h3;obtain ⟨v,hv⟩:=(hm.keys c).2 h1;exact ⟨(c,v),hv,fun q hq=>(by cases hq),h4⟩
theorem sy {left:List (C2 × Bool)}{i:Nat}(hn:(left.map Prod.fst).Nodup):((left.eraseIdx i).map Prod.fst).Nodup:=hn.sublist ((List.eraseIdx_sublist _ _).map _)
end
section
open Go.RowKit
structure Ey1 {α:Type}(P:α→Prop):Prop where
 ex:∃ a,P a
structure Ey2 {α β:Type}(P:α→β→Prop):Prop where
 ex:∃ a b,P a b
structure Ey3 {α β γ:Type}(P:α→β→γ→Prop):Prop where
 ex:∃ a b c,P a b c
theorem uB {m:Mix}{A:List Held}{f0 f1:Int}:CpIs [((-1,-1),true)] (NowP m A f0 f1 0):=⟨(fun p hp=>by obtain rfl:=List.mem_singleton.1 hp;rfl),fun x=>by
 unfold NowP;constructor
 ·rintro ⟨v,hv⟩
  exact congrArg Prod.fst (List.mem_singleton.1 hv)
 ·rintro rfl
  exact ⟨true,List.mem_singleton.2 rfl⟩⟩
def KSt (fr to xf f0 f1 y1 y2:Int)(g:Bool × Bool)(j:Nat)(d1 d2 mv st:Int)(rb:Bool):Prop :=
 d1=(if 0<j then fM fr to y1 g.1 else y1)∧d2=(if 1<j then fM fr to y2 g.2 else y2) ∧
 mv=(if 0<j∧0≤fr then b1 g.1 else 0)+(if 1<j∧0≤fr then b1 g.2 else 0) ∧
 st=(if 0<j∧0≤fr then b1 (!g.1 && decide (y1=fr)) else 0)+(if 1<j∧0≤fr then b1 (!g.2 && decide (y2=fr)) else 0) ∧
 rb=((if 0<j then fK fr xf f0 y1 g.1 else true) && (if 1<j then fK fr xf f1 y2 g.2 else true))
theorem uv {fr to xf f0 f1 y1 y2:Int}{g:Bool × Bool}:KSt fr to xf f0 f1 y1 y2 g 0 y1 y2 0 0 true:=by unfold KSt;simp
theorem KSt.of {fr to xf f0 f1 y1 y2:Int}{g:Bool × Bool}{j:Nat}{d1 d2 mv st d1' d2' mv' st':Int}{rb rb':Bool}(h:KSt fr to xf f0 f1 y1 y2 g j d1 d2 mv st rb)(e1:d1'=d1)(e2:d2'=d2)(e3:mv'=mv)(e4:st'=st)(e5:rb'=rb):KSt fr to xf f0 f1 y1 y2 g j d1' d2' mv' st' rb':=by
 subst e1 e2 e3 e4 e5;exact h
theorem iz {fr to xf f0 f1 y1 y2:Int}{g:Bool × Bool}:KSt fr to xf f0 f1 y1 y2 g 1 (fM fr to y1 g.1) y2 (if 0≤fr then b1 g.1 else 0) (if 0≤fr then b1 (!g.1 && decide (y1=fr)) else 0) (fK fr xf f0 y1 g.1):=by unfold KSt;simp
theorem gE {fr to xf f0 f1 y1 y2:Int}{g:Bool × Bool}{d1 d2 mv st:Int}{rb:Bool}(h:KSt fr to xf f0 f1 y1 y2 g 1 d1 d2 mv st rb):KSt fr to xf f0 f1 y1 y2 g 2 d1 (fM fr to y2 g.2) (mv+if 0≤fr then b1 g.2 else 0) (st+if 0≤fr then b1 (!g.2 && decide (y2=fr)) else 0) (rb && fK fr xf f1 y2 g.2):=by
 obtain ⟨rfl,_,rfl,rfl,rfl⟩:=h;unfold KSt;simp
section
variable {fr to y xf f:Int} {g:Bool}
theorem iw (hg:g=true)(hf:fr<0):fM fr to y g=to:=by unfold fM;rw [if_pos hg,if_pos hf]
theorem i7 (hg:g=true)(hf:0≤fr)(ht:to<0):fM fr to y g = -2:=by unfold fM;rw [if_pos hg,if_neg (by omega),if_pos ht]
theorem js (hg:g=true)(hf:0≤fr)(ht:0≤to):fM fr to y g=to:=by unfold fM;rw [if_pos hg,if_neg (by omega),if_neg (by omega)]
theorem iv (hg:g=false):fM fr to y g=y:=by unfold fM;rw [if_neg (by rw [hg];decide)]
theorem iY (hf:fr<0):(if 0≤fr then b1 g else 0)=0:=by rw [if_neg (by omega)]
theorem jl (hg:g=true)(hf:0≤fr):(if 0≤fr then b1 g else 0)=1:=by rw [if_pos hf,hg];rfl
theorem mB (hg:g=false):(if 0≤fr then b1 g else 0)=0:=by split;rw [hg];rfl;rfl
theorem ib (hf:fr<0):(if 0≤fr then b1 (!g && decide (y=fr)) else 0)=0:=by rw [if_neg (by omega)]
theorem jp (hg:g=true):(if 0≤fr then b1 (!g && decide (y=fr)) else 0)=0:=by split;rw [hg];rfl;rfl
theorem uA (hg:g=false)(hf:0≤fr)(hy:y=fr):(if 0≤fr then b1 (!g && decide (y=fr)) else 0)=1:=by rw [if_pos hf,hg,decide_eq_true hy];rfl
theorem vg (hg:g=false)(hf:0≤fr)(hy:¬ y=fr):(if 0≤fr then b1 (!g && decide (y=fr)) else 0)=0:=by rw [if_pos hf,hg,decide_eq_false hy];rfl
theorem oW (hg:g=true)(hf:fr<0)(hy:y = -1)(hx:xf=f):fK fr xf f y g=true:=by unfold fK;rw [hg,if_pos hf,decide_eq_true hy,decide_eq_true hx];rfl
theorem pw (hg:g=true)(hf:fr<0)(hy:y = -1)(hx:¬ xf=f):fK fr xf f y g=false:=by unfold fK;rw [hg,if_pos hf,decide_eq_true hy,decide_eq_false hx];rfl
theorem pj (hg:g=true)(hf:fr<0)(hy:¬ y = -1):fK fr xf f y g=false:=by unfold fK;rw [hg,if_pos hf,decide_eq_false hy];rfl
theorem kJ (hg:g=true)(hf:0≤fr)(hy:y=fr):fK fr xf f y g=true:=by unfold fK;rw [hg,if_neg (by omega),decide_eq_true hy];rfl
theorem kD (hg:g=true)(hf:0≤fr)(hy:¬ y=fr):fK fr xf f y g=false:=by unfold fK;rw [hg,if_neg (by omega),decide_eq_false hy];rfl
theorem jt (hg:g=false):fK fr xf f y g=true:=by unfold fK;rw [hg];rfl
end
theorem xK {sv:Nat}(h:sv<4):(bits BinOp.and IntKind.i64 (sv:Int) 1==1)=(gB sv).1:=by
 match sv,h with
 | 0,_=>decide
 | 1,_=>decide
 | 2,_=>decide
 | 3,_=>decide
theorem xR {sv:Nat}(h:sv<4):(bits BinOp.and IntKind.i64 ((sv:Int) / 2) 1==1)=(gB sv).2:=by
 match sv,h with
 | 0,_=>decide
 | 1,_=>decide
 | 2,_=>decide
 | 3,_=>decide
theorem pz (b:Bool):0≤b1 b∧b1 b≤1:=by cases b<;>decide
theorem lA {fr to y:Int}{g:Bool}(ht : -1≤to∧to<4)(hy:okZ y):okZ (fM fr to y g):=by
 unfold fM
 repeat' split
 ·exact iL (by omega) (by omega)
 ·exact iL (by decide) (by decide)
 ·exact iL (by omega) (by omega)
 ·exact hy
theorem p7 {m:Mix}(hv:m.vessels.length≤4)(x:MAct) : -1≤toI m x∧toI m x<4:=⟨xm,gZ hv x⟩
def xE (w:World)(m:Mix)(vessel after one other:Int)(e:Ending)(w':World):Prop:=∃ (b:Bool) (ee:Int),e = .returned (.tuple #[.bool b,.int .i64 ee])∧ki m vessel after one other b ee∧Below w.heap.size w w'
inductive vL (v3 v4 v5 v12 v13 v15 v54 v55 v56:Value):Act→Prop
 | mk (a b c d e f g h i j k l m n o p q r s t w x y z A B C D E F G H I J K L M N O P Q R S T U V W X Y Z aa ab ac ad ae af ag ah ai aj ak al am an ao ap aq ar aw ax ay az aA aB aC aD aE aF aG aH aI aJ aK aL aM aN aO aP aQ aR aS aT aU aV aW aX aY aZ a0 a1 a2 a3 a4 a5 a6 a7 a8 a9 ba bb bc bd be bf bg bh bi bj bk bl bm bn bo bp bq br bs bt bw bx bz bA bB bC bD bE bF bG bH bI bJ bK bL bM bN bO bP bQ bR bS bT bU bV bW bX bY bZ b0 b1 b2 b3 b4 b5 b6 b7 b8 b9 ca cb cc cd ce cf cg ch ci cj ck cl:Value):vL v3 v4 v5 v12 v13 v15 v54 v55 v56 ⟨#[a,b,c,v3,v4,v5,d,e,f,g,h,i,v12,v13,j,v15,k,l,m,n,o,p,q,r,s,t,w,x,y,z,A,B,C,D,E,F,G,H,I,J,K,L,M,N,O,P,Q,R,S,T,U,V,W,X,v54,v55,v56,Y,Z,aa,ab,ac,ad,ae,af,ag,ah,ai,aj,ak,al,am,an,ao,ap,aq,ar,aw,ax,ay,az,aA,aB,aC,aD,aE,aF,aG,aH,aI,aJ,aK,aL,aM,aN,aO,aP,aQ,aR,aS,aT,aU,aV,aW,aX,aY,aZ,a0,a1,a2,a3,a4,a5,a6,a7,a8,a9,ba,bb,bc,bd,be,bf,bg,bh,bi,bj,bk,bl,bm,bn,bo,bp,bq,br,bs,bt,bw,bx,bz,bA,bB,bC,bD,bE,bF,bG,bH,bI,bJ,bK,bL,bM,bN,bO,bP,bQ,bR,bS,bT,bU,bV,bW,bX,bY,bZ,b0,b1,b2,b3,b4,b5,b6,b7,b8,b9,ca,cb,cc,cd,ce,cf,cg,ch,ci,cj,ck,cl],[]⟩
inductive vX (v3 v4 v5 v12 v13 v15 v16 v17 v18 v19 v20 v21 v54 v55 v56 v72:Value):Act→Prop
 | mk (a b c d e f g h i j k l m n o p q r s t w x y z A B C D E F G H I J K L M N O P Q R S T U V W X Y Z aa ab ac ad ae af ag ah ai aj ak al am an ao ap aq ar aw ax ay az aA aB aC aD aE aF aG aH aI aJ aK aL aM aN aO aP aQ aR aS aT aU aV aW aX aY aZ a0 a1 a2 a3 a4 a5 a6 a7 a8 a9 ba bb bc bd be bf bg bh bi bj bk bl bm bn bo bp bq br bs bt bw bx bz bA bB bC bD bE bF bG bH bI bJ bK bL bM bN bO bP bQ bR bS bT bU bV bW bX bY bZ b0 b1 b2 b3 b4 b5 b6 b7 b8 b9 ca cb cc cd ce:Value):vX v3 v4 v5 v12 v13 v15 v16 v17 v18 v19 v20 v21 v54 v55 v56 v72 ⟨#[a,b,c,v3,v4,v5,d,e,f,g,h,i,v12,v13,j,v15,v16,v17,v18,v19,v20,v21,k,l,m,n,o,p,q,r,s,t,w,x,y,z,A,B,C,D,E,F,G,H,I,J,K,L,M,N,O,P,Q,R,v54,v55,v56,S,T,U,V,W,X,Y,Z,aa,ab,ac,ad,ae,af,ag,v72,ah,ai,aj,ak,al,am,an,ao,ap,aq,ar,aw,ax,ay,az,aA,aB,aC,aD,aE,aF,aG,aH,aI,aJ,aK,aL,aM,aN,aO,aP,aQ,aR,aS,aT,aU,aV,aW,aX,aY,aZ,a0,a1,a2,a3,a4,a5,a6,a7,a8,a9,ba,bb,bc,bd,be,bf,bg,bh,bi,bj,bk,bl,bm,bn,bo,bp,bq,br,bs,bt,bw,bx,bz,bA,bB,bC,bD,bE,bF,bG,bH,bI,bJ,bK,bL,bM,bN,bO,bP,bQ,bR,bS,bT,bU,bV,bW,bX,bY,bZ,b0,b1,b2,b3,b4,b5,b6,b7,b8,b9,ca,cb,cc,cd,ce],[]⟩
inductive wt (v3 v4 v5 v12 v13 v15 v16 v17 v18 v19 v20 v21 v22 v54 v55 v56 v72 v77:Value):Act→Prop
 | mk (a b c d e f g h i j k l m n o p q r s t w x y z A B C D E F G H I J K L M N O P Q R S T U V W X Y Z aa ab ac ad ae af ag ah ai aj ak al am an ao ap aq ar aw ax ay az aA aB aC aD aE aF aG aH aI aJ aK aL aM aN aO aP aQ aR aS aT aU aV aW aX aY aZ a0 a1 a2 a3 a4 a5 a6 a7 a8 a9 ba bb bc bd be bf bg bh bi bj bk bl bm bn bo bp bq br bs bt bw bx bz bA bB bC bD bE bF bG bH bI bJ bK bL bM bN bO bP bQ bR bS bT bU bV bW bX bY bZ b0 b1 b2 b3 b4 b5 b6 b7 b8 b9 ca cb cc:Value):wt v3 v4 v5 v12 v13 v15 v16 v17 v18 v19 v20 v21 v22 v54 v55 v56 v72 v77 ⟨#[a,b,c,v3,v4,v5,d,e,f,g,h,i,v12,v13,j,v15,v16,v17,v18,v19,v20,v21,v22,k,l,m,n,o,p,q,r,s,t,w,x,y,z,A,B,C,D,E,F,G,H,I,J,K,L,M,N,O,P,Q,v54,v55,v56,R,S,T,U,V,W,X,Y,Z,aa,ab,ac,ad,ae,af,v72,ag,ah,ai,aj,v77,ak,al,am,an,ao,ap,aq,ar,aw,ax,ay,az,aA,aB,aC,aD,aE,aF,aG,aH,aI,aJ,aK,aL,aM,aN,aO,aP,aQ,aR,aS,aT,aU,aV,aW,aX,aY,aZ,a0,a1,a2,a3,a4,a5,a6,a7,a8,a9,ba,bb,bc,bd,be,bf,bg,bh,bi,bj,bk,bl,bm,bn,bo,bp,bq,br,bs,bt,bw,bx,bz,bA,bB,bC,bD,bE,bF,bG,bH,bI,bJ,bK,bL,bM,bN,bO,bP,bQ,bR,bS,bT,bU,bV,bW,bX,bY,bZ,b0,b1,b2,b3,b4,b5,b6,b7,b8,b9,ca,cb,cc],[]⟩
inductive vC (v3 v4 v5 v12 v13 v15 v16 v17 v18 v19 v20 v21 v22 v23 v24 v25 v26 v27 v54 v55 v56 v72 v77 v83 v84:Value):Act→Prop
 | mk (a b c d e f g h i j k l m n o p q r s t w x y z A B C D E F G H I J K L M N O P Q R S T U V W X Y Z aa ab ac ad ae af ag ah ai aj ak al am an ao ap aq ar aw ax ay az aA aB aC aD aE aF aG aH aI aJ aK aL aM aN aO aP aQ aR aS aT aU aV aW aX aY aZ a0 a1 a2 a3 a4 a5 a6 a7 a8 a9 ba bb bc bd be bf bg bh bi bj bk bl bm bn bo bp bq br bs bt bw bx bz bA bB bC bD bE bF bG bH bI bJ bK bL bM bN bO bP bQ bR bS bT bU bV bW bX bY bZ b0 b1 b2 b3 b4 b5:Value):vC v3 v4 v5 v12 v13 v15 v16 v17 v18 v19 v20 v21 v22 v23 v24 v25 v26 v27 v54 v55 v56 v72 v77 v83 v84 ⟨#[a,b,c,v3,v4,v5,d,e,f,g,h,i,v12,v13,j,v15,v16,v17,v18,v19,v20,v21,v22,v23,v24,v25,v26,v27,k,l,m,n,o,p,q,r,s,t,w,x,y,z,A,B,C,D,E,F,G,H,I,J,K,L,v54,v55,v56,M,N,O,P,Q,R,S,T,U,V,W,X,Y,Z,aa,v72,ab,ac,ad,ae,v77,af,ag,ah,ai,aj,v83,v84,ak,al,am,an,ao,ap,aq,ar,aw,ax,ay,az,aA,aB,aC,aD,aE,aF,aG,aH,aI,aJ,aK,aL,aM,aN,aO,aP,aQ,aR,aS,aT,aU,aV,aW,aX,aY,aZ,a0,a1,a2,a3,a4,a5,a6,a7,a8,a9,ba,bb,bc,bd,be,bf,bg,bh,bi,bj,bk,bl,bm,bn,bo,bp,bq,br,bs,bt,bw,bx,bz,bA,bB,bC,bD,bE,bF,bG,bH,bI,bJ,bK,bL,bM,bN,bO,bP,bQ,bR,bS,bT,bU,bV,bW,bX,bY,bZ,b0,b1,b2,b3,b4,b5],[]⟩
theorem sx (Av:Option Addr)(nv cv:Nat)(Aa:Option Addr)(na ca:Nat)(At:Option Addr)(nt ct:Nat)(m:Mix)(vessel after one other:Int)(w:World)(h:MixS w Av nv Aa na At nt m)(hca:na≤ca∧ca≤maxLen) :
  CallsIn Fence.wide 9 Tryz.prog 37 #[.agg #[.int .i64 m.fountains,.slice Av nv cv,.slice Aa na ca,.slice At nt ct],.int .i64 vessel,.int .i64 after,.int .i64 one,.int .i64 other] w (xE w m vessel after one other):=by
 have hmm:=@run_makeMap Tryz.prog;have HM:=lh h;clear h;refine callsIn_of_wp Tryz.func37 rfl trivial ?_ rfl;simp only [Tryz.ntmps37,es,Nat.reduceAdd,Nat.reduceSub];gi_upto_region 1 with fail
 have Ly:=lh (Lay.one w 26 #[.int .i64 m.fountains,.slice Av nv cv,.slice Aa na ca,.slice At nt ct]);generalize (w.alloc (.cells #[.int .i64 m.fountains,.slice Av nv cv,.slice Aa na ca,.slice At nt ct] 26))=w0 at *;obtain ⟨x0_0,x0_1,x0_2,x0_3⟩:=lyc4 Ly 0 rfl;have l0_:=Ly.out.lt 0 rfl;gi_wp2;clear x0_0 x0_1 x0_2 x0_3 l0_;have Y:=du.new w0 3 [one,other] (w0.heap.size+1) (by omega);have hb1:Below w0.heap.size w0 (w0.alloc (.cells #[.int .i64 one,.int .i64 other] 3)):=b_R.alloc n_R _;have hc:=jC Av nv cv Aa na ca At nt ct m vessel after (some ⟨w0.heap.size,0,none⟩) 2 2 [one,other] _ (HM.out.up (Ly.out.1.trans (hb1.mono Ly.out.1.size))) (Y.more (by simp)) (by decide);refine ⟨trivial,(c_W hc).mono ?_⟩;clear hc Y;generalize (w0.alloc (.cells #[.int .i64 one,.int .i64 other] 3))=W00 at *;rintro e W8 ⟨pp,s1,s2,rfl,hb,hp⟩;have HP:=lh hp;have hbb:=hb1.trans (hb.mono hb1.size);clear hb hb1 hp;replace Ly:=lyb Ly hbb;clear hbb
 obtain ⟨ee,hee⟩:∃ ee,askM m vessel after [one,other]=ee:=⟨_,rfl⟩
 rw [hee] at HP ⊢;have HEE:=lh hee;clear hee;gi_upto_region 2 with fail
 obtain ⟨V1,hV⟩:∃ V,(W8.alloc (.cells #[.int .i64 s1,.int .i64 s2] 109))=V:=⟨_,rfl⟩
 rw [hV];have hb:=eS hV;have hnew:=eT hV;have hge:=Ly.out.bel.size;have HBX:=lh hb;replace Ly:=lyb Ly hb;replace Ly:=lh (Ly.out.add hge hnew);clear hnew hge hb hV
 obtain ⟨G2,hG⟩:∃ g,W8.heap.size=g:=⟨_,rfl⟩
 rw [hG] at Ly ⊢;clear hG;replace Ly:=lh (show Lay w V1 [(w.heap.size,26,#[.int .i64 m.fountains,.slice Av nv cv,.slice Aa na ca,.slice At nt ct]),(G2,109,#[.int .i64 s1,.int .i64 s2])] from Ly.out);by_cases h0:ee=0
 ·
  obtain ⟨hk,h1,h2,h3,h4,T,rfl,hTm,hTL,hTg,hT,_⟩:=HP.out h0;subst h0;subst h2
  obtain ⟨q,hq⟩:∃ q:Nat,s1=q:=⟨s1.toNat,by omega⟩
  subst hq
  obtain ⟨k,hkk⟩:∃ k:Nat,s2=k:=⟨s2.toNat,by omega⟩
  subst hkk;have hv4:=(fj hk).1;have HQ:Hid (q<4∧(q:Int)=idxV m.vessels vessel∧k≤m.acts.length∧m.acts.length≤12):=lh ⟨by have:=gH (l:=m.vessels) (id:=vessel) (by omega);omega,h1,by omega,(fj hk).2.1⟩;have HOK:Hid (TbOk T):=lh ⟨by rw [hTm];exact hk,by rw [hTm];exact hTL⟩;have HTM:=lh hTm;have HTL:=lh hTL;have HT:=lh (hT.below (show Below W8.heap.size W8 V1 from HBX.out));have HLA:=lh HM.out.at_.lenA;clear HP hk h1 h3 h4 hTm hTL hTg hT hv4;by_cases hoo:one=other
  ·
   have hob:(one==other)=true:=by simpa using hoo
   have HOO:=lh hoo;clear hoo;gi_wp2;refine bodyPost_ret (v:=.tuple #[.bool false,.int .i64 2]) (by simp [results,Tryz.results37,go_sem]) rfl ?_;exact ⟨false,2,rfl,.inl ⟨by unfold metM;rw [if_pos HEE.out,if_pos HOO.out];decide,rfl,by unfold metM;rw [if_pos HEE.out,if_pos HOO.out]⟩,Ly.out.1⟩
  ·
   have hob:(one==other)=false:=by simpa using hoo
   have HOO:=lh hoo;clear hoo;have HBS0:=lh Ly.out;have HTB:=lh HT.out.at_;have hm0:=eZ.made (β:=Bool) (encK:=C2.key) (encV:=Value.bool) (okK:=okC) V1;obtain ⟨w1,hup,hm1,hg1,hs1⟩:=hm0.update (P:=Tryz.prog) cpTy (x:=(-1,-1)) (show okC (-1,-1) from ⟨iL (by decide) (by decide),iL (by decide) (by decide)⟩) true;replace hup:(Instr.mapUpdate 139 (.map (some V1.heap.size)) (.agg #[.int .i64 (-1),.int .i64 (-1)]) (.bool true)).run Tryz.prog (V1.alloc (.map #[] 0)) = .ok () w1:=hup;have HB1:Hid (Below V1.heap.size V1 w1):=lh ((b_R.alloc n_R _).grown hg1 (by simp) (fun k e=>by cases e;exact n_R));have HM1:Hid (mP w1 V1.heap.size [((-1,-1),true)]):=lh hm1;clear hm0 hg1 hs1 hm1;obtain ⟨x0_0,x0_1,x0_2,x0_3⟩:=lyc4 Ly 0 rfl;have l0_:=Ly.out.lt 0 rfl;gi_upto_region 7 with fail
   clear hup;clear x0_0 x0_1 x0_2 x0_3 l0_
   obtain ⟨R0,hR0⟩:∃ R0,V1.heap.size=R0:=⟨_,rfl⟩
   rw [hR0] at HM1 ⊢;have HR0:Hid (V1.heap.size≤R0):=lh (by omega);clear hR0;have HLW:=lh (HBS0.out.below HB1.out);have x9:=(HLW.out.blk 0 rfl).cell 2;have x9l:=HLW.out.lt 0 rfl;change _=some (Value.slice Aa na ca) at x9;have hkna:k≤na:=by have h1:=HQ.out;have h2:=HLA.out;omega
   have hk12:k≤12:=by have h1:=HQ.out;omega
   have hkc:k≤ca:=by have:=hca;omega
   gi_wp2;clear x9 x9l;refine wpIn_loop (fun a W=>∃ (i r:Nat),Hid (Ey1 fun (mm:List (C2 × Bool))=>i≤k∧Below V1.heap.size V1 W∧mP W r mm∧V1.heap.size≤r∧CpIs mm (NowP m T.L one other i))∧vL (.int .i64 one) (.int .i64 other) (.pointer (some ⟨w.heap.size,0,none⟩)) (.pointer (some ⟨T.g,0,none⟩)) (.pointer (some ⟨G2,0,none⟩)) (.map (some r)) (.slice Aa k ca) (.int .i64 k) (.int .i64 (i:Int)) a) (fun a _=>k - (intOf (a.tmps.getD 56 undef)).toNat) ?_ ?_
   ·exact ⟨0,R0,lh ⟨_,by omega,HB1.out,HM1.out,HR0.out,uB⟩,by constructor⟩
   clear HB1 HM1 HR0 HLW Ly HT;rintro a W ⟨i,r,HS,ha⟩;cases ha;obtain ⟨mm,hs9⟩:=HS.out;replace HS:=lh hs9;clear hs9;by_cases hlt:i<k
   ·
    have Ly:=lh (HBS0.out.below HS.out.2.1);have HT:=lh (HTB.out.below HS.out.2.1);obtain ⟨b,off,x,hAv,hbB,hx,c0_,c1_,c2_,c3_⟩:=(HM.out.at_.below Ly.out.1).act (i:=i) (by omega);rw [HTM.out.symm] at hx;obtain ⟨all,hA⟩:=HOK.out.at_ hx;have HX:=lh hx;have HAT:=lh hA;clear hx hA hbB;rw [hAv];gi_upto_region 10 with fail
    clear c0_ c1_ c2_ c3_
    obtain ⟨V3,hV⟩:∃ V,(W.alloc (.cells #[.int .i64 x.kind,.int .i64 x.fr,.int .i64 x.to,.int .i64 x.drops] 62))=V:=⟨_,rfl⟩
    rw [hV];have hb:=eS hV;have hnew:=eT hV;have hge:=Ly.out.bel.size;have HBW:=lh hb;replace Ly:=lyb Ly hb;replace HT:=lh (HT.out.below hb);replace Ly:=lh (Ly.out.add hge hnew);clear hnew hge hb hV
    obtain ⟨G4,hG⟩:∃ g,W.heap.size=g:=⟨_,rfl⟩
    rw [hG] at Ly ⊢;have HG_:=lh hG;clear hG;replace Ly:=lh (show Lay w V3 [(w.heap.size,26,#[.int .i64 m.fountains,.slice Av nv cv,.slice Aa na ca,.slice At nt ct]),(G2,109,#[.int .i64 (q:Int),.int .i64 (k:Int)]),(G4,62,#[.int .i64 x.kind,.int .i64 x.fr,.int .i64 x.to,.int .i64 x.drops])] from Ly.out);rw [← hAv];have HAV:=lh hAv;clear hAv;obtain ⟨x2_0,x2_1,x2_2,x2_3⟩:=lyc4 Ly 2 rfl;have l2_:=Ly.out.lt 2 rfl;gi_wp2;clear x2_0 x2_1 x2_2 x2_3 l2_;refine ⟨trivial,(c_W (lN T x V3 HT.out HAT.out.ok.kind)).mono ?_⟩;rintro e W5 ⟨rfl,hb⟩;replace Ly:=lyb Ly hb;replace HT:=lh (HT.out.below hb);replace HBW:=lh (HBW.out.trans (hb.mono HBW.out.size));clear hb
    obtain ⟨fr,hfr⟩:∃ fr,cu T.m x=fr:=⟨_,rfl⟩
    obtain ⟨to,hto⟩:∃ to,toI T.m x=to:=⟨_,rfl⟩
    rw [hfr,hto];have HFR:=lh hfr;have HTO:=lh hto;clear hfr hto;gi_wp2;refine ⟨trivial,(c_W (ic T i x all W5 HT.out HX.out HAT.out.ha HAT.out.ok.kind HAT.out.four)).mono ?_⟩;rintro e W6 ⟨rfl,hb⟩;replace Ly:=lyb Ly hb;replace HT:=lh (HT.out.below hb);replace HBW:=lh (HBW.out.trans (hb.mono HBW.out.size));clear hb
    obtain ⟨n,hn⟩:∃ n,eV T.m all x=n:=⟨_,rfl⟩
    rw [hn];have HN:=lh hn;clear hn;have hbW:Below W6.heap.size W6 (W6.alloc (.map #[] 0)):=b_R.alloc n_R _;have HMN:Hid (mP (W6.alloc (.map #[] 0)) W6.heap.size []):=lh (eZ.made (β:=Bool) W6);have hmw:=HS.out.2.2.1.below HBW.out HS.out.2.2.1.lt;have hmr:mP (W6.alloc (.map #[] 0)) r mm:=hmw.below hbW hmw.lt;obtain ⟨w2,hr1,hi1,hg1,hs1⟩:=eZ.range (P:=Tryz.prog) (t:=139) Tryz.underlying139 hmr;have hnd:=eZ.nodup cpTy hmr;have hrl:=HS.out.2.2.1.lt;have hws:=HBW.out.size;have hwb:=HS.out.2.1.size;gi_upto_region 14 with fail
    clear hr1;have hbel9:Below W6.heap.size W6 w2:=hbW.grown hg1 (by simp) (fun k e=>by cases e);have hbw2:=HBW.out.trans (hbel9.mono hws);have HMS:Hid (MS V1 w2 (W6.heap.size+1) r W6.heap.size mm mm [] [(G4,62,#[.int .i64 x.kind,.int .i64 x.fr,.int .i64 x.to,.int .i64 x.drops])]):=lh ⟨⟨HS.out.2.1.trans (hbw2.mono hwb),fun b hb=>by obtain rfl:=List.mem_singleton.1 hb;exact ⟨by have:=HG_.out;dsimp only;omega,(Ly.out.blk 2 rfl).below hbel9 (Ly.out.blk 2 rfl).lt⟩⟩,by simpa using hi1,HMN.out.grown hg1 (fun e=>by cases e),by omega,by omega,HS.out.2.2.2.1,by omega⟩;have HND:=lh hnd
    obtain ⟨rn,hrn⟩:∃ rn,W6.heap.size=rn:=⟨_,rfl⟩
    rw [hrn] at HMS ⊢
    obtain ⟨it,hit⟩:∃ it,rn+1=it:=⟨_,rfl⟩
    rw [hit] at HMS ⊢;clear hbW hmw hmr hi1 hg1 hs1 hnd hrl hws hwb hbel9 hbw2 hrn hit HMN
    obtain ⟨al,hal⟩:∃ al,au all fr=al:=⟨_,rfl⟩
    have HAL:=lh hal;clear hal;refine wpIn_loop (fun a W=>Hid (Ey2 fun (left mn:List (C2 × Bool))=>MS V1 W it r rn mm left mn [(G4,62,#[.int .i64 x.kind,.int .i64 x.fr,.int .i64 x.to,.int .i64 x.drops])]∧(left.map Prod.fst).Nodup∧(∀ p∈left,p∈mm)∧CpIs mn (mp fr to n al x.fr one other mm left))∧vX (.int .i64 one) (.int .i64 other) (.pointer (some ⟨w.heap.size,0,none⟩)) (.pointer (some ⟨T.g,0,none⟩)) (.pointer (some ⟨G2,0,none⟩)) (.map (some r)) (.int .i64 (i:Int)) (.pointer (some ⟨G4,0,none⟩)) (.int .i64 fr) (.int .i64 to) (.int .i64 n) (.map (some rn)) (.slice Aa k ca) (.int .i64 k) (.int .i64 (i:Int)) (.pointer (some ⟨it,0,none⟩)) a) (fun _ W=>gi W it) ?_ ?_
    ·exact ⟨lh ⟨mm,[],HMS.out,HND.out,fun p hp=>hp,CpIs.nil.congr fun d=>⟨False.elim,rj⟩⟩,by constructor⟩
    clear HMS Ly HT HBW;rintro a W ⟨HM2,ha⟩;cases ha;obtain ⟨left,mn,hs9⟩:=HM2.out;replace HM2:=lh hs9;clear hs9
    rcases HM2.out.1.iter.next (P:=Tryz.prog) 0 with ⟨hl,hr⟩ | ⟨i9,⟨⟨y1,y2⟩,v⟩,w2,hp,hr,hi2,hg2,hs2,he2⟩
    ·
     subst hl;gi_wp2;have hAt:=HAV.out;clear HAV;subst hAt;refine ⟨⟨i+1,rn,lh ⟨mn,hlt,HM2.out.1.lay.1,HM2.out.1.map,HM2.out.1.ge.2.2,HM2.out.2.2.2.congr fun d=>by have h:=tz HX.out HAT.out.ha (by rw [HTM.out];exact HS.out.2.2.2.2) d;rw [HFR.out,HTO.out,HN.out,HAL.out,HTM.out] at h;exact h⟩,by rw [show ((i+1:Nat):Int)=(i:Int)+1 from by omega];constructor⟩,?_⟩;simp [intOf]<;>omega
    ·
     replace hr:(Instr.next (.pointer (some ⟨it,0,none⟩)) false 0).run Tryz.prog W = .ok (.tuple #[.bool true,.agg #[.int .i64 y1,.int .i64 y2],.bool v]) w2:=hr;replace he2:(Instr.entry (.pointer (some ⟨it,0,none⟩))).run Tryz.prog w2 = .ok (.tuple #[.agg #[.int .i64 y1,.int .i64 y2],.bool v]) w2:=he2;have hms:=HM2.out.1.next hi2 hg2;have HMS:=lh hms;have HP:=lh hp;have HYM:=lh (HM2.out.2.2.1 _ (List.mem_of_getElem? hp))
     have HIL:Hid (gi w2 it<gi W it):=lh (by
      rw [hi2.left_eq,HM2.out.1.iter.left_eq];have h5:=(g_E hp).1;rw [List.length_eraseIdx_of_lt h5]
      omega)
     have hno:∀ p∈([(G4,62,#[.int .i64 x.kind,.int .i64 x.fr,.int .i64 x.to,.int .i64 x.drops])]:List (Nat × TypeId × Array Value)),p.1<w2.heap.size:=fun p hp=>(hms.lay.2 p hp).2.lt;clear hs2;gi_upto_region 16 with fail
     clear hr he2 hi2 hg2 hp;have hms2:=hms.box 138 #[.int .i64 y1,.int .i64 y2]
     obtain ⟨gc,hgc⟩:∃ gc,w2.heap.size=gc:=⟨_,rfl⟩
     rw [hgc] at hms2 ⊢;have hcx:G4<gc:=by rw [← hgc];exact hno _ (List.mem_singleton.2 rfl)
     have HCX:=lh hcx;have HMS2:=lh hms2;generalize (w2.alloc (.cells #[.int .i64 y1,.int .i64 y2] 138))=W3 at *;clear hms hms2 HMS hgc hcx hno;gi_wp2;refine wpIn_loop (fun a W=>∃ (sv:Nat),Hid (Ey1 fun (mn:List (C2 × Bool))=>sv≤4∧MS V1 W it r rn mm (left.eraseIdx i9) mn [(G4,62,#[.int .i64 x.kind,.int .i64 x.fr,.int .i64 x.to,.int .i64 x.drops]),(gc,138,#[.int .i64 y1,.int .i64 y2])]∧CpIs mn (fun d=>mp fr to n al x.fr one other mm left d∨SetP fr to n al x.fr one other (y1,y2) sv d))∧wt (.int .i64 one) (.int .i64 other) (.pointer (some ⟨w.heap.size,0,none⟩)) (.pointer (some ⟨T.g,0,none⟩)) (.pointer (some ⟨G2,0,none⟩)) (.map (some r)) (.int .i64 (i:Int)) (.pointer (some ⟨G4,0,none⟩)) (.int .i64 fr) (.int .i64 to) (.int .i64 n) (.map (some rn)) (.pointer (some ⟨gc,0,none⟩)) (.slice Aa k ca) (.int .i64 k) (.int .i64 (i:Int)) (.pointer (some ⟨it,0,none⟩)) (.int .i64 (sv:Int)) a) (fun a _=>4 - (intOf (a.tmps.getD 77 undef)).toNat) ?_ ?_
     ·exact ⟨0,lh ⟨mn,by omega,HMS2.out,HM2.out.2.2.2.congr fun d=>⟨.inl,fun h=>h.resolve_right s7⟩⟩,by constructor⟩
     clear HMS2;rintro a W9 ⟨sv,HM3,ha⟩;cases ha;obtain ⟨mn,hs9⟩:=HM3.out;replace HM3:=lh hs9;clear hs9;by_cases hsv:sv<4
     ·
      have b0:=(HM3.out.2.1.lay.blk 1 rfl).cell 0;have b1_:=(HM3.out.2.1.lay.blk 1 rfl).cell 1;have b2:=(HM3.out.2.1.lay.blk 1 rfl).lt;gi_upto_region 20 with fail
      clear b0 b1_ b2;have hms3:=HM3.out.2.1.box 138 #[.int .i64 y1,.int .i64 y2]
      obtain ⟨gd,hgd⟩:∃ gd,W9.heap.size=gd:=⟨_,rfl⟩
      have HGD:Hid (gc<gd):=lh (by rw [← hgd];exact (HM3.out.2.1.lay.blk 1 rfl).lt);rw [hgd] at hms3 ⊢;have HMS3:=lh hms3;generalize (W9.alloc (.cells #[.int .i64 y1,.int .i64 y2] 138))=W10 at *;clear hms3 hgd;gi_wp2;refine wpIn_loop (fun a W=>∃ (j:Nat) (mv st:Int) (rv:Value),Hid (Ey3 fun (d1 d2:Int) (rb:Bool)=>rv = .bool rb∧j≤2∧MS V1 W it r rn mm (left.eraseIdx i9) mn [(G4,62,#[.int .i64 x.kind,.int .i64 x.fr,.int .i64 x.to,.int .i64 x.drops]),(gc,138,#[.int .i64 y1,.int .i64 y2]),(gd,138,#[.int .i64 d1,.int .i64 d2])]∧KSt fr to x.fr one other y1 y2 (gB sv) j d1 d2 mv st rb)∧vC (.int .i64 one) (.int .i64 other) (.pointer (some ⟨w.heap.size,0,none⟩)) (.pointer (some ⟨T.g,0,none⟩)) (.pointer (some ⟨G2,0,none⟩)) (.map (some r)) (.int .i64 (i:Int)) (.pointer (some ⟨G4,0,none⟩)) (.int .i64 fr) (.int .i64 to) (.int .i64 n) (.map (some rn)) (.pointer (some ⟨gc,0,none⟩)) (.int .i64 (sv:Int)) (.pointer (some ⟨gd,0,none⟩)) (.int .i64 mv) (.int .i64 st) (rv) (.slice Aa k ca) (.int .i64 k) (.int .i64 (i:Int)) (.pointer (some ⟨it,0,none⟩)) (.int .i64 (sv:Int)) (.agg #[.int .i64 one,.int .i64 other]) (.int .i64 (j:Int)) a) (fun a _=>2 - (intOf (a.tmps.getD 84 undef)).toNat) ?_ ?_
      ·exact ⟨0,0,0,.bool true,lh ⟨y1,y2,true,rfl,by omega,HMS3.out,uv⟩,by constructor⟩
      clear HMS3;rintro a W11 ⟨j,mv,st,rv,HM4,ha⟩;cases ha;obtain ⟨d1,d2,rb,rfl,hs9⟩:=HM4.out;replace HM4:=lh hs9;clear hs9;have hj:=HM4.out.1;have hix:∀ z:World,(Instr.index 137 (.agg #[.int .i64 one,.int .i64 other]) (.int .i64 0)).run Tryz.prog z = .ok (.int .i64 one) z:=fun _=>by kernel_rfl
      have hiy:∀ z:World,(Instr.index 137 (.agg #[.int .i64 one,.int .i64 other]) (.int .i64 1)).run Tryz.prog z = .ok (.int .i64 other) z:=fun _=>by kernel_rfl
      have hne:∀ p∈([(G4,62,#[.int .i64 x.kind,.int .i64 x.fr,.int .i64 x.to,.int .i64 x.drops]),(gc,138,#[.int .i64 y1,.int .i64 y2])]:List (Nat × TypeId × Array Value)),p.1≠gd:=by
       intro p hp;have h1:=HCX.out;have h2:=HGD.out;simp only [List.mem_cons,List.not_mem_nil,or_false] at hp
       rcases hp with rfl | rfl<;>(dsimp only;omega)
      have HNE:=lh hne;clear hne;rcases (show j=0∨j=1∨j=2 by omega) with rfl | rfl | rfl
      ·
       have hbt:=xK hsv;obtain ⟨rfl,rfl,rfl,rfl,rfl⟩:y1=d1∧y2=d2∧mv=0∧st=0∧rb=true:=by have h:=HM4.out.2.2;unfold KSt at h;simp at h;exact ⟨h.1.symm,h.2.1.symm,h.2.2⟩
       have HMW:=lh HM4.out.2.1
       obtain ⟨g,hg⟩:∃ g,(gB sv).1=g:=⟨_,rfl⟩
       rw [hg] at hbt;have HG:=lh hg;clear hg;have e0:=(HM4.out.2.1.lay.blk 0 rfl).cell 1;have el:=(HM4.out.2.1.lay.blk 0 rfl).lt;have y0:=(HM4.out.2.1.lay.blk 1 rfl).cell 0;have y1_:=(HM4.out.2.1.lay.blk 1 rfl).cell 1;have yl:=(HM4.out.2.1.lay.blk 1 rfl).lt;have g0:=(HM4.out.2.1.lay.blk 2 rfl).cell 0;have g1:=(HM4.out.2.1.lay.blk 2 rfl).cell 1;have gf0:=(HM4.out.2.1.lay.blk 2 rfl).frozen 0;have gf1:=(HM4.out.2.1.lay.blk 2 rfl).frozen 1;have gl:=(HM4.out.2.1.lay.blk 2 rfl).lt
       cases g with
       | true =>
        by_cases hf:fr<0
        ·
         have hfb:decide (fr<0)=true:=decide_eq_true hf;have HF:=lh hf;have HFN:=lh hf;by_cases hy:y1 = -1
         ·
          have hyb:(y1==(-1))=true:=by simpa using hy
          have HY:=lh hy;clear hy;by_cases hx:x.fr=one
          ·
           have hxb:(x.fr==one)=true:=by simpa using hx
           have HX9:=lh hx;clear hx;gi_upto_region 36 with fail
           clear e0 el y0 y1_ yl g0 g1 gf0 gf1 gl;have hms9:MS V1 (W11.setCell ⟨gd,0,none⟩ (.int .i64 (to))) it r rn mm (left.eraseIdx i9) mn [(G4,62,#[.int .i64 x.kind,.int .i64 x.fr,.int .i64 x.to,.int .i64 x.drops]),(gc,138,#[.int .i64 y1,.int .i64 y2]),(gd,138,#[.int .i64 to,.int .i64 y2])]:=HMW.out.set (bs:=[(G4,62,#[.int .i64 x.kind,.int .i64 x.fr,.int .i64 x.to,.int .i64 x.drops]),(gc,138,#[.int .i64 y1,.int .i64 y2])]) HNE.out 0 (.int .i64 (to));replace HMW:=lh hms9;generalize W11.setCell ⟨gd,0,none⟩ (.int .i64 (to))=S1 at *;clear hms9;gi_wp2;refine ⟨⟨1,0,0,.bool true,lh ⟨to,y2,_,rfl,by omega,HMW.out,KSt.of iz ((iw HG.out HF.out).symm) (rfl) ((iY HFN.out).symm) ((ib HFN.out).symm) ((oW HG.out HF.out HY.out HX9.out).symm)⟩,by constructor⟩,?_⟩;simp [intOf]<;>omega
          ·
           have hxb:(x.fr==one)=false:=by simpa using hx
           have HX9:=lh hx;clear hx;gi_upto_region 36 with fail
           clear e0 el y0 y1_ yl g0 g1 gf0 gf1 gl;have hms9:MS V1 (W11.setCell ⟨gd,0,none⟩ (.int .i64 (to))) it r rn mm (left.eraseIdx i9) mn [(G4,62,#[.int .i64 x.kind,.int .i64 x.fr,.int .i64 x.to,.int .i64 x.drops]),(gc,138,#[.int .i64 y1,.int .i64 y2]),(gd,138,#[.int .i64 to,.int .i64 y2])]:=HMW.out.set (bs:=[(G4,62,#[.int .i64 x.kind,.int .i64 x.fr,.int .i64 x.to,.int .i64 x.drops]),(gc,138,#[.int .i64 y1,.int .i64 y2])]) HNE.out 0 (.int .i64 (to));replace HMW:=lh hms9;generalize W11.setCell ⟨gd,0,none⟩ (.int .i64 (to))=S1 at *;clear hms9;gi_wp2;refine ⟨⟨1,0,0,.bool false,lh ⟨to,y2,_,rfl,by omega,HMW.out,KSt.of iz ((iw HG.out HF.out).symm) (rfl) ((iY HFN.out).symm) ((ib HFN.out).symm) ((pw HG.out HF.out HY.out HX9.out).symm)⟩,by constructor⟩,?_⟩;simp [intOf]<;>omega
         ·
          have hyb:(y1==(-1))=false:=by simpa using hy
          have HY:=lh hy;clear hy;gi_upto_region 36 with fail
          clear e0 el y0 y1_ yl g0 g1 gf0 gf1 gl;have hms9:MS V1 (W11.setCell ⟨gd,0,none⟩ (.int .i64 (to))) it r rn mm (left.eraseIdx i9) mn [(G4,62,#[.int .i64 x.kind,.int .i64 x.fr,.int .i64 x.to,.int .i64 x.drops]),(gc,138,#[.int .i64 y1,.int .i64 y2]),(gd,138,#[.int .i64 to,.int .i64 y2])]:=HMW.out.set (bs:=[(G4,62,#[.int .i64 x.kind,.int .i64 x.fr,.int .i64 x.to,.int .i64 x.drops]),(gc,138,#[.int .i64 y1,.int .i64 y2])]) HNE.out 0 (.int .i64 (to));replace HMW:=lh hms9;generalize W11.setCell ⟨gd,0,none⟩ (.int .i64 (to))=S1 at *;clear hms9;gi_wp2;refine ⟨⟨1,0,0,.bool false,lh ⟨to,y2,_,rfl,by omega,HMW.out,KSt.of iz ((iw HG.out HF.out).symm) (rfl) ((iY HFN.out).symm) ((ib HFN.out).symm) ((pj HG.out HF.out HY.out).symm)⟩,by constructor⟩,?_⟩;simp [intOf]<;>omega
        ·
         have hfb:decide (fr<0)=false:=decide_eq_false hf;have hfp:0≤fr:=by omega
         have hfc:decide (0≤fr)=true:=decide_eq_true hfp;have HF:=lh hfp;have HFN:=lh hfp;by_cases hy:y1=fr
         ·
          have hyb:(y1==fr)=true:=by simpa using hy
          have HY:=lh hy;clear hy;gi_upto_region 31 with fail
          clear e0 el y0 y1_ yl g0 g1 gf0 gf1 gl;have hms9:MS V1 (W11.setCell ⟨gd,0,none⟩ (.int .i64 (to))) it r rn mm (left.eraseIdx i9) mn [(G4,62,#[.int .i64 x.kind,.int .i64 x.fr,.int .i64 x.to,.int .i64 x.drops]),(gc,138,#[.int .i64 y1,.int .i64 y2]),(gd,138,#[.int .i64 to,.int .i64 y2])]:=HMW.out.set (bs:=[(G4,62,#[.int .i64 x.kind,.int .i64 x.fr,.int .i64 x.to,.int .i64 x.drops]),(gc,138,#[.int .i64 y1,.int .i64 y2])]) HNE.out 0 (.int .i64 (to));replace HMW:=lh hms9;generalize W11.setCell ⟨gd,0,none⟩ (.int .i64 (to))=S1 at *;clear hms9;by_cases ht:to<0
          ·
           have htb:decide (to<0)=true:=decide_eq_true ht;have HT9:=lh ht;have gf:=(HMW.out.lay.blk 2 rfl).frozen 0;have gc_:=(HMW.out.lay.blk 2 rfl).cell 0;have gl:=(HMW.out.lay.blk 2 rfl).lt;gi_upto_region 33 with fail
           clear gf gc_ gl;have hms9:MS V1 (S1.setCell ⟨gd,0,none⟩ (.int .i64 (-2))) it r rn mm (left.eraseIdx i9) mn [(G4,62,#[.int .i64 x.kind,.int .i64 x.fr,.int .i64 x.to,.int .i64 x.drops]),(gc,138,#[.int .i64 y1,.int .i64 y2]),(gd,138,#[.int .i64 (-2),.int .i64 y2])]:=HMW.out.set (bs:=[(G4,62,#[.int .i64 x.kind,.int .i64 x.fr,.int .i64 x.to,.int .i64 x.drops]),(gc,138,#[.int .i64 y1,.int .i64 y2])]) HNE.out 0 (.int .i64 (-2));replace HMW:=lh hms9;generalize S1.setCell ⟨gd,0,none⟩ (.int .i64 (-2))=S2 at *;clear hms9;gi_wp2;refine ⟨⟨1,1,0,.bool true,lh ⟨(-2),y2,_,rfl,by omega,HMW.out,KSt.of iz ((i7 HG.out HF.out HT9.out).symm) (rfl) ((jl HG.out HF.out).symm) ((jp HG.out).symm) ((kJ HG.out HFN.out HY.out).symm)⟩,by constructor⟩,?_⟩;simp [intOf]<;>omega
          ·
           have htb:decide (to<0)=false:=decide_eq_false ht;have HT9:Hid (0≤to):=lh (by omega);gi_wp2;refine ⟨⟨1,1,0,.bool true,lh ⟨to,y2,_,rfl,by omega,HMW.out,KSt.of iz ((js HG.out HF.out HT9.out).symm) (rfl) ((jl HG.out HF.out).symm) ((jp HG.out).symm) ((kJ HG.out HFN.out HY.out).symm)⟩,by constructor⟩,?_⟩;simp [intOf]<;>omega
         ·
          have hyb:(y1==fr)=false:=by simpa using hy
          have HY:=lh hy;clear hy;gi_upto_region 31 with fail
          clear e0 el y0 y1_ yl g0 g1 gf0 gf1 gl;have hms9:MS V1 (W11.setCell ⟨gd,0,none⟩ (.int .i64 (to))) it r rn mm (left.eraseIdx i9) mn [(G4,62,#[.int .i64 x.kind,.int .i64 x.fr,.int .i64 x.to,.int .i64 x.drops]),(gc,138,#[.int .i64 y1,.int .i64 y2]),(gd,138,#[.int .i64 to,.int .i64 y2])]:=HMW.out.set (bs:=[(G4,62,#[.int .i64 x.kind,.int .i64 x.fr,.int .i64 x.to,.int .i64 x.drops]),(gc,138,#[.int .i64 y1,.int .i64 y2])]) HNE.out 0 (.int .i64 (to));replace HMW:=lh hms9;generalize W11.setCell ⟨gd,0,none⟩ (.int .i64 (to))=S1 at *;clear hms9;by_cases ht:to<0
          ·
           have htb:decide (to<0)=true:=decide_eq_true ht;have HT9:=lh ht;have gf:=(HMW.out.lay.blk 2 rfl).frozen 0;have gc_:=(HMW.out.lay.blk 2 rfl).cell 0;have gl:=(HMW.out.lay.blk 2 rfl).lt;gi_upto_region 33 with fail
           clear gf gc_ gl;have hms9:MS V1 (S1.setCell ⟨gd,0,none⟩ (.int .i64 (-2))) it r rn mm (left.eraseIdx i9) mn [(G4,62,#[.int .i64 x.kind,.int .i64 x.fr,.int .i64 x.to,.int .i64 x.drops]),(gc,138,#[.int .i64 y1,.int .i64 y2]),(gd,138,#[.int .i64 (-2),.int .i64 y2])]:=HMW.out.set (bs:=[(G4,62,#[.int .i64 x.kind,.int .i64 x.fr,.int .i64 x.to,.int .i64 x.drops]),(gc,138,#[.int .i64 y1,.int .i64 y2])]) HNE.out 0 (.int .i64 (-2));replace HMW:=lh hms9;generalize S1.setCell ⟨gd,0,none⟩ (.int .i64 (-2))=S2 at *;clear hms9;gi_wp2;refine ⟨⟨1,1,0,.bool false,lh ⟨(-2),y2,_,rfl,by omega,HMW.out,KSt.of iz ((i7 HG.out HF.out HT9.out).symm) (rfl) ((jl HG.out HF.out).symm) ((jp HG.out).symm) ((kD HG.out HFN.out HY.out).symm)⟩,by constructor⟩,?_⟩;simp [intOf]<;>omega
          ·
           have htb:decide (to<0)=false:=decide_eq_false ht;have HT9:Hid (0≤to):=lh (by omega);gi_wp2;refine ⟨⟨1,1,0,.bool false,lh ⟨to,y2,_,rfl,by omega,HMW.out,KSt.of iz ((js HG.out HF.out HT9.out).symm) (rfl) ((jl HG.out HF.out).symm) ((jp HG.out).symm) ((kD HG.out HFN.out HY.out).symm)⟩,by constructor⟩,?_⟩;simp [intOf]<;>omega
       | false =>
        by_cases hf:fr<0
        ·
         have hfb:decide (fr<0)=true:=decide_eq_true hf;have hfc:decide (0≤fr)=false:=decide_eq_false (by omega);have HF:=lh hf;have HFN:=lh hf;gi_wp2;refine ⟨⟨1,0,0,.bool true,lh ⟨y1,y2,_,rfl,by omega,HMW.out,KSt.of iz ((iv HG.out).symm) (rfl) ((mB HG.out).symm) ((ib HFN.out).symm) ((jt HG.out).symm)⟩,by constructor⟩,?_⟩;simp [intOf]<;>omega
        ·
         have hfb:decide (fr<0)=false:=decide_eq_false hf;have hfp:0≤fr:=by omega
         have hfc:decide (0≤fr)=true:=decide_eq_true hfp;have HF:=lh hfp;have HFN:=lh hfp;by_cases hy:y1=fr
         ·
          have hyb:(y1==fr)=true:=by simpa using hy
          have HY:=lh hy;clear hy;gi_wp2;refine ⟨⟨1,0,1,.bool true,lh ⟨y1,y2,_,rfl,by omega,HMW.out,KSt.of iz ((iv HG.out).symm) (rfl) ((mB HG.out).symm) ((uA HG.out HF.out HY.out).symm) ((jt HG.out).symm)⟩,by constructor⟩,?_⟩;simp [intOf]<;>omega
         ·
          have hyb:(y1==fr)=false:=by simpa using hy
          have HY:=lh hy;clear hy;gi_wp2;refine ⟨⟨1,0,0,.bool true,lh ⟨y1,y2,_,rfl,by omega,HMW.out,KSt.of iz ((iv HG.out).symm) (rfl) ((mB HG.out).symm) ((vg HG.out HF.out HY.out).symm) ((jt HG.out).symm)⟩,by constructor⟩,?_⟩;simp [intOf]<;>omega
      ·
       have hbt:=xR hsv;obtain rfl:y2=d2:=by have h:=HM4.out.2.2.2.1;simp at h;exact h.symm
       have hmvb:0≤mv∧mv≤1:=by have h:=HM4.out.2.2.2.2.1;simp at h;rw [h];split;exact pz _;omega
       have hstb:0≤st∧st≤1:=by have h:=HM4.out.2.2.2.2.2.1;simp at h;rw [h];split;exact pz _;omega
       have HMW:=lh HM4.out.2.1
       obtain ⟨g,hg⟩:∃ g,(gB sv).2=g:=⟨_,rfl⟩
       rw [hg] at hbt;have HG:=lh hg;clear hg;have e0:=(HM4.out.2.1.lay.blk 0 rfl).cell 1;have el:=(HM4.out.2.1.lay.blk 0 rfl).lt;have y0:=(HM4.out.2.1.lay.blk 1 rfl).cell 0;have y1_:=(HM4.out.2.1.lay.blk 1 rfl).cell 1;have yl:=(HM4.out.2.1.lay.blk 1 rfl).lt;have g0:=(HM4.out.2.1.lay.blk 2 rfl).cell 0;have g1:=(HM4.out.2.1.lay.blk 2 rfl).cell 1;have gf0:=(HM4.out.2.1.lay.blk 2 rfl).frozen 0;have gf1:=(HM4.out.2.1.lay.blk 2 rfl).frozen 1;have gl:=(HM4.out.2.1.lay.blk 2 rfl).lt
       cases g with
       | true =>
        by_cases hf:fr<0
        ·
         have hfb:decide (fr<0)=true:=decide_eq_true hf;have HF:=lh hf;have HFN:=lh hf
         cases rb with
         | false =>
          gi_upto_region 36 with fail
          clear e0 el y0 y1_ yl g0 g1 gf0 gf1 gl;have hms9:MS V1 (W11.setCell ⟨gd,1,none⟩ (.int .i64 (to))) it r rn mm (left.eraseIdx i9) mn [(G4,62,#[.int .i64 x.kind,.int .i64 x.fr,.int .i64 x.to,.int .i64 x.drops]),(gc,138,#[.int .i64 y1,.int .i64 y2]),(gd,138,#[.int .i64 d1,.int .i64 to])]:=HMW.out.set (bs:=[(G4,62,#[.int .i64 x.kind,.int .i64 x.fr,.int .i64 x.to,.int .i64 x.drops]),(gc,138,#[.int .i64 y1,.int .i64 y2])]) HNE.out 1 (.int .i64 (to));replace HMW:=lh hms9;generalize W11.setCell ⟨gd,1,none⟩ (.int .i64 (to))=S1 at *;clear hms9;gi_wp2;refine ⟨⟨2,mv,st,.bool false,lh ⟨d1,to,_,rfl,by omega,HMW.out,KSt.of (gE HM4.out.2.2) (rfl) ((iw HG.out HF.out).symm) (by rw [iY HFN.out]<;>omega) (by rw [ib HFN.out]<;>omega) (rfl)⟩,by constructor⟩,?_⟩;simp [intOf]<;>omega
         | true =>
          by_cases hy:y2 = -1
          ·
           have hyb:(y2==(-1))=true:=by simpa using hy
           have HY:=lh hy;clear hy;by_cases hx:x.fr=other
           ·
            have hxb:(x.fr==other)=true:=by simpa using hx
            have HX9:=lh hx;clear hx;gi_upto_region 36 with fail
            clear e0 el y0 y1_ yl g0 g1 gf0 gf1 gl;have hms9:MS V1 (W11.setCell ⟨gd,1,none⟩ (.int .i64 (to))) it r rn mm (left.eraseIdx i9) mn [(G4,62,#[.int .i64 x.kind,.int .i64 x.fr,.int .i64 x.to,.int .i64 x.drops]),(gc,138,#[.int .i64 y1,.int .i64 y2]),(gd,138,#[.int .i64 d1,.int .i64 to])]:=HMW.out.set (bs:=[(G4,62,#[.int .i64 x.kind,.int .i64 x.fr,.int .i64 x.to,.int .i64 x.drops]),(gc,138,#[.int .i64 y1,.int .i64 y2])]) HNE.out 1 (.int .i64 (to));replace HMW:=lh hms9;generalize W11.setCell ⟨gd,1,none⟩ (.int .i64 (to))=S1 at *;clear hms9;gi_wp2;refine ⟨⟨2,mv,st,.bool true,lh ⟨d1,to,_,rfl,by omega,HMW.out,KSt.of (gE HM4.out.2.2) (rfl) ((iw HG.out HF.out).symm) (by rw [iY HFN.out]<;>omega) (by rw [ib HFN.out]<;>omega) (by rw [oW HG.out HF.out HY.out HX9.out];rfl)⟩,by constructor⟩,?_⟩;simp [intOf]<;>omega
           ·
            have hxb:(x.fr==other)=false:=by simpa using hx
            have HX9:=lh hx;clear hx;gi_upto_region 36 with fail
            clear e0 el y0 y1_ yl g0 g1 gf0 gf1 gl;have hms9:MS V1 (W11.setCell ⟨gd,1,none⟩ (.int .i64 (to))) it r rn mm (left.eraseIdx i9) mn [(G4,62,#[.int .i64 x.kind,.int .i64 x.fr,.int .i64 x.to,.int .i64 x.drops]),(gc,138,#[.int .i64 y1,.int .i64 y2]),(gd,138,#[.int .i64 d1,.int .i64 to])]:=HMW.out.set (bs:=[(G4,62,#[.int .i64 x.kind,.int .i64 x.fr,.int .i64 x.to,.int .i64 x.drops]),(gc,138,#[.int .i64 y1,.int .i64 y2])]) HNE.out 1 (.int .i64 (to));replace HMW:=lh hms9;generalize W11.setCell ⟨gd,1,none⟩ (.int .i64 (to))=S1 at *;clear hms9;gi_wp2;refine ⟨⟨2,mv,st,.bool false,lh ⟨d1,to,_,rfl,by omega,HMW.out,KSt.of (gE HM4.out.2.2) (rfl) ((iw HG.out HF.out).symm) (by rw [iY HFN.out]<;>omega) (by rw [ib HFN.out]<;>omega) (by rw [pw HG.out HF.out HY.out HX9.out];rfl)⟩,by constructor⟩,?_⟩;simp [intOf]<;>omega
          ·
           have hyb:(y2==(-1))=false:=by simpa using hy
           have HY:=lh hy;clear hy;gi_upto_region 36 with fail
           clear e0 el y0 y1_ yl g0 g1 gf0 gf1 gl;have hms9:MS V1 (W11.setCell ⟨gd,1,none⟩ (.int .i64 (to))) it r rn mm (left.eraseIdx i9) mn [(G4,62,#[.int .i64 x.kind,.int .i64 x.fr,.int .i64 x.to,.int .i64 x.drops]),(gc,138,#[.int .i64 y1,.int .i64 y2]),(gd,138,#[.int .i64 d1,.int .i64 to])]:=HMW.out.set (bs:=[(G4,62,#[.int .i64 x.kind,.int .i64 x.fr,.int .i64 x.to,.int .i64 x.drops]),(gc,138,#[.int .i64 y1,.int .i64 y2])]) HNE.out 1 (.int .i64 (to));replace HMW:=lh hms9;generalize W11.setCell ⟨gd,1,none⟩ (.int .i64 (to))=S1 at *;clear hms9;gi_wp2;refine ⟨⟨2,mv,st,.bool false,lh ⟨d1,to,_,rfl,by omega,HMW.out,KSt.of (gE HM4.out.2.2) (rfl) ((iw HG.out HF.out).symm) (by rw [iY HFN.out]<;>omega) (by rw [ib HFN.out]<;>omega) (by rw [pj HG.out HF.out HY.out];rfl)⟩,by constructor⟩,?_⟩;simp [intOf]<;>omega
        ·
         have hfb:decide (fr<0)=false:=decide_eq_false hf;have hfp:0≤fr:=by omega
         have hfc:decide (0≤fr)=true:=decide_eq_true hfp;have HF:=lh hfp;have HFN:=lh hfp
         cases rb with
         | false =>
          gi_upto_region 31 with fail
          clear e0 el y0 y1_ yl g0 g1 gf0 gf1 gl;have hms9:MS V1 (W11.setCell ⟨gd,1,none⟩ (.int .i64 (to))) it r rn mm (left.eraseIdx i9) mn [(G4,62,#[.int .i64 x.kind,.int .i64 x.fr,.int .i64 x.to,.int .i64 x.drops]),(gc,138,#[.int .i64 y1,.int .i64 y2]),(gd,138,#[.int .i64 d1,.int .i64 to])]:=HMW.out.set (bs:=[(G4,62,#[.int .i64 x.kind,.int .i64 x.fr,.int .i64 x.to,.int .i64 x.drops]),(gc,138,#[.int .i64 y1,.int .i64 y2])]) HNE.out 1 (.int .i64 (to));replace HMW:=lh hms9;generalize W11.setCell ⟨gd,1,none⟩ (.int .i64 (to))=S1 at *;clear hms9;by_cases ht:to<0
          ·
           have htb:decide (to<0)=true:=decide_eq_true ht;have HT9:=lh ht;have gf:=(HMW.out.lay.blk 2 rfl).frozen 1;have gc_:=(HMW.out.lay.blk 2 rfl).cell 1;have gl:=(HMW.out.lay.blk 2 rfl).lt;gi_upto_region 33 with fail
           clear gf gc_ gl;have hms9:MS V1 (S1.setCell ⟨gd,1,none⟩ (.int .i64 (-2))) it r rn mm (left.eraseIdx i9) mn [(G4,62,#[.int .i64 x.kind,.int .i64 x.fr,.int .i64 x.to,.int .i64 x.drops]),(gc,138,#[.int .i64 y1,.int .i64 y2]),(gd,138,#[.int .i64 d1,.int .i64 (-2)])]:=HMW.out.set (bs:=[(G4,62,#[.int .i64 x.kind,.int .i64 x.fr,.int .i64 x.to,.int .i64 x.drops]),(gc,138,#[.int .i64 y1,.int .i64 y2])]) HNE.out 1 (.int .i64 (-2));replace HMW:=lh hms9;generalize S1.setCell ⟨gd,1,none⟩ (.int .i64 (-2))=S2 at *;clear hms9;gi_wp2;refine ⟨⟨2,(mv+1),st,.bool false,lh ⟨d1,(-2),_,rfl,by omega,HMW.out,KSt.of (gE HM4.out.2.2) (rfl) ((i7 HG.out HF.out HT9.out).symm) (by rw [jl HG.out HF.out]<;>omega) (by rw [jp HG.out]<;>omega) (rfl)⟩,by constructor⟩,?_⟩;simp [intOf]<;>omega
          ·
           have htb:decide (to<0)=false:=decide_eq_false ht;have HT9:Hid (0≤to):=lh (by omega);gi_wp2;refine ⟨⟨2,(mv+1),st,.bool false,lh ⟨d1,to,_,rfl,by omega,HMW.out,KSt.of (gE HM4.out.2.2) (rfl) ((js HG.out HF.out HT9.out).symm) (by rw [jl HG.out HF.out]<;>omega) (by rw [jp HG.out]<;>omega) (rfl)⟩,by constructor⟩,?_⟩;simp [intOf]<;>omega
         | true =>
          by_cases hy:y2=fr
          ·
           have hyb:(y2==fr)=true:=by simpa using hy
           have HY:=lh hy;clear hy;gi_upto_region 31 with fail
           clear e0 el y0 y1_ yl g0 g1 gf0 gf1 gl;have hms9:MS V1 (W11.setCell ⟨gd,1,none⟩ (.int .i64 (to))) it r rn mm (left.eraseIdx i9) mn [(G4,62,#[.int .i64 x.kind,.int .i64 x.fr,.int .i64 x.to,.int .i64 x.drops]),(gc,138,#[.int .i64 y1,.int .i64 y2]),(gd,138,#[.int .i64 d1,.int .i64 to])]:=HMW.out.set (bs:=[(G4,62,#[.int .i64 x.kind,.int .i64 x.fr,.int .i64 x.to,.int .i64 x.drops]),(gc,138,#[.int .i64 y1,.int .i64 y2])]) HNE.out 1 (.int .i64 (to));replace HMW:=lh hms9;generalize W11.setCell ⟨gd,1,none⟩ (.int .i64 (to))=S1 at *;clear hms9;by_cases ht:to<0
           ·
            have htb:decide (to<0)=true:=decide_eq_true ht;have HT9:=lh ht;have gf:=(HMW.out.lay.blk 2 rfl).frozen 1;have gc_:=(HMW.out.lay.blk 2 rfl).cell 1;have gl:=(HMW.out.lay.blk 2 rfl).lt;gi_upto_region 33 with fail
            clear gf gc_ gl;have hms9:MS V1 (S1.setCell ⟨gd,1,none⟩ (.int .i64 (-2))) it r rn mm (left.eraseIdx i9) mn [(G4,62,#[.int .i64 x.kind,.int .i64 x.fr,.int .i64 x.to,.int .i64 x.drops]),(gc,138,#[.int .i64 y1,.int .i64 y2]),(gd,138,#[.int .i64 d1,.int .i64 (-2)])]:=HMW.out.set (bs:=[(G4,62,#[.int .i64 x.kind,.int .i64 x.fr,.int .i64 x.to,.int .i64 x.drops]),(gc,138,#[.int .i64 y1,.int .i64 y2])]) HNE.out 1 (.int .i64 (-2));replace HMW:=lh hms9;generalize S1.setCell ⟨gd,1,none⟩ (.int .i64 (-2))=S2 at *;clear hms9;gi_wp2;refine ⟨⟨2,(mv+1),st,.bool true,lh ⟨d1,(-2),_,rfl,by omega,HMW.out,KSt.of (gE HM4.out.2.2) (rfl) ((i7 HG.out HF.out HT9.out).symm) (by rw [jl HG.out HF.out]<;>omega) (by rw [jp HG.out]<;>omega) (by rw [kJ HG.out HFN.out HY.out];rfl)⟩,by constructor⟩,?_⟩;simp [intOf]<;>omega
           ·
            have htb:decide (to<0)=false:=decide_eq_false ht;have HT9:Hid (0≤to):=lh (by omega);gi_wp2;refine ⟨⟨2,(mv+1),st,.bool true,lh ⟨d1,to,_,rfl,by omega,HMW.out,KSt.of (gE HM4.out.2.2) (rfl) ((js HG.out HF.out HT9.out).symm) (by rw [jl HG.out HF.out]<;>omega) (by rw [jp HG.out]<;>omega) (by rw [kJ HG.out HFN.out HY.out];rfl)⟩,by constructor⟩,?_⟩;simp [intOf]<;>omega
          ·
           have hyb:(y2==fr)=false:=by simpa using hy
           have HY:=lh hy;clear hy;gi_upto_region 31 with fail
           clear e0 el y0 y1_ yl g0 g1 gf0 gf1 gl;have hms9:MS V1 (W11.setCell ⟨gd,1,none⟩ (.int .i64 (to))) it r rn mm (left.eraseIdx i9) mn [(G4,62,#[.int .i64 x.kind,.int .i64 x.fr,.int .i64 x.to,.int .i64 x.drops]),(gc,138,#[.int .i64 y1,.int .i64 y2]),(gd,138,#[.int .i64 d1,.int .i64 to])]:=HMW.out.set (bs:=[(G4,62,#[.int .i64 x.kind,.int .i64 x.fr,.int .i64 x.to,.int .i64 x.drops]),(gc,138,#[.int .i64 y1,.int .i64 y2])]) HNE.out 1 (.int .i64 (to));replace HMW:=lh hms9;generalize W11.setCell ⟨gd,1,none⟩ (.int .i64 (to))=S1 at *;clear hms9;by_cases ht:to<0
           ·
            have htb:decide (to<0)=true:=decide_eq_true ht;have HT9:=lh ht;have gf:=(HMW.out.lay.blk 2 rfl).frozen 1;have gc_:=(HMW.out.lay.blk 2 rfl).cell 1;have gl:=(HMW.out.lay.blk 2 rfl).lt;gi_upto_region 33 with fail
            clear gf gc_ gl;have hms9:MS V1 (S1.setCell ⟨gd,1,none⟩ (.int .i64 (-2))) it r rn mm (left.eraseIdx i9) mn [(G4,62,#[.int .i64 x.kind,.int .i64 x.fr,.int .i64 x.to,.int .i64 x.drops]),(gc,138,#[.int .i64 y1,.int .i64 y2]),(gd,138,#[.int .i64 d1,.int .i64 (-2)])]:=HMW.out.set (bs:=[(G4,62,#[.int .i64 x.kind,.int .i64 x.fr,.int .i64 x.to,.int .i64 x.drops]),(gc,138,#[.int .i64 y1,.int .i64 y2])]) HNE.out 1 (.int .i64 (-2));replace HMW:=lh hms9;generalize S1.setCell ⟨gd,1,none⟩ (.int .i64 (-2))=S2 at *;clear hms9;gi_wp2;refine ⟨⟨2,(mv+1),st,.bool false,lh ⟨d1,(-2),_,rfl,by omega,HMW.out,KSt.of (gE HM4.out.2.2) (rfl) ((i7 HG.out HF.out HT9.out).symm) (by rw [jl HG.out HF.out]<;>omega) (by rw [jp HG.out]<;>omega) (by rw [kD HG.out HFN.out HY.out];rfl)⟩,by constructor⟩,?_⟩;simp [intOf]<;>omega
           ·
            have htb:decide (to<0)=false:=decide_eq_false ht;have HT9:Hid (0≤to):=lh (by omega);gi_wp2;refine ⟨⟨2,(mv+1),st,.bool false,lh ⟨d1,to,_,rfl,by omega,HMW.out,KSt.of (gE HM4.out.2.2) (rfl) ((js HG.out HF.out HT9.out).symm) (by rw [jl HG.out HF.out]<;>omega) (by rw [jp HG.out]<;>omega) (by rw [kD HG.out HFN.out HY.out];rfl)⟩,by constructor⟩,?_⟩;simp [intOf]<;>omega
       | false =>
        by_cases hf:fr<0
        ·
         have hfb:decide (fr<0)=true:=decide_eq_true hf;have hfc:decide (0≤fr)=false:=decide_eq_false (by omega);have HF:=lh hf;have HFN:=lh hf;gi_wp2;refine ⟨⟨2,mv,st,.bool rb,lh ⟨d1,y2,_,rfl,by omega,HMW.out,KSt.of (gE HM4.out.2.2) (rfl) ((iv HG.out).symm) (by rw [mB HG.out]<;>omega) (by rw [ib HFN.out]<;>omega) ((show (rb && fK fr x.fr other y2 (gB sv).2)=rb from by rw [jt HG.out,Bool.and_true]).symm)⟩,by constructor⟩,?_⟩;simp [intOf]<;>omega
        ·
         have hfb:decide (fr<0)=false:=decide_eq_false hf;have hfp:0≤fr:=by omega
         have hfc:decide (0≤fr)=true:=decide_eq_true hfp;have HF:=lh hfp;have HFN:=lh hfp;by_cases hy:y2=fr
         ·
          have hyb:(y2==fr)=true:=by simpa using hy
          have HY:=lh hy;clear hy;gi_wp2;refine ⟨⟨2,mv,(st+1),.bool rb,lh ⟨d1,y2,_,rfl,by omega,HMW.out,KSt.of (gE HM4.out.2.2) (rfl) ((iv HG.out).symm) (by rw [mB HG.out]<;>omega) (by rw [uA HG.out HF.out HY.out]<;>omega) ((show (rb && fK fr x.fr other y2 (gB sv).2)=rb from by rw [jt HG.out,Bool.and_true]).symm)⟩,by constructor⟩,?_⟩;simp [intOf]<;>omega
         ·
          have hyb:(y2==fr)=false:=by simpa using hy
          have HY:=lh hy;clear hy;gi_wp2;refine ⟨⟨2,mv,st,.bool rb,lh ⟨d1,y2,_,rfl,by omega,HMW.out,KSt.of (gE HM4.out.2.2) (rfl) ((iv HG.out).symm) (by rw [mB HG.out]<;>omega) (by rw [vg HG.out HF.out HY.out]<;>omega) ((show (rb && fK fr x.fr other y2 (gB sv).2)=rb from by rw [jt HG.out,Bool.and_true]).symm)⟩,by constructor⟩,?_⟩;simp [intOf]<;>omega
      ·
       have hkst:=HM4.out.2.2;unfold KSt at hkst;simp only [show (0:Nat)<2 from by decide,show (1:Nat)<2 from by decide,if_true,true_and] at hkst;obtain ⟨rfl,rfl,kmv,kst,krb⟩:=hkst
       obtain ⟨gg,hgg⟩:∃ g,gB sv=g:=⟨_,rfl⟩
       have HGG:=lh hgg;have KMV:=lh kmv;have KST:=lh kst;have KRB:=lh krb;have hn0:0≤n:=by have h:=HAT.out.size.1;rw [HN.out] at h;exact h
       have HN0:=lh hn0;have hmb:0≤mv∧mv≤2:=by rw [kmv];have h1:=pz (gB sv).1;have h2:=pz (gB sv).2;constructor<;>(repeat' split)<;>omega
       have hsb:0≤st∧st≤2:=by rw [kst];have h1:=pz (!(gB sv).1 && decide (y1=fr));have h2:=pz (!(gB sv).2 && decide (y2=fr));constructor<;>(repeat' split)<;>omega
       clear kmv kst krb hgg hn0
       have HSTB:Hid (gL fr to n al x.fr one other (y1,y2) (gB sv)=(rb && (decide (fr<0) || (decide (mv≤n) && decide (st≤al - n))))):=lh (by
        rw [KRB.out];unfold gL;by_cases hf:fr<0
        ·simp [hf]
        ·have hf0:0≤fr:=by omega
         rw [KMV.out,KST.out]
         simp [hf,hf0])
       cases rb with
       | false =>
        have HNO:Hid (gL fr to n al x.fr one other (y1,y2) (gB sv)=false):=lh (by rw [HSTB.out];rfl);gi_wp2;refine ⟨⟨sv+1,lh ⟨mn,hsv,HM4.out.2.1.sub (by intro b hb;simp only [List.mem_cons,List.not_mem_nil,or_false] at hb ⊢;rcases hb with rfl | rfl<;>simp),HM3.out.2.2.congr fun d=>by rw [jG];exact or_congr Iff.rfl ⟨.inl,fun h=>h.resolve_right fun h=>by rw [HNO.out] at h;cases h.1⟩⟩,by rw [show ((sv+1:Nat):Int)=(sv:Int)+1 from by omega];constructor⟩,?_⟩;simp [intOf]<;>omega
       | true =>
        by_cases hm:mv≤n
        ·
         have hmbb:decide (mv≤n)=true:=decide_eq_true hm;by_cases hf:fr<0
         ·
          have hfb:decide (fr<0)=true:=decide_eq_true hf;have HOKS:Hid (gL fr to n al x.fr one other (y1,y2) (gB sv)=true):=lh (by rw [HSTB.out];simp [hf]);have hoy:okC (y1,y2):=HM2.out.1.iter.map.ok _ HYM.out
          have hoc:okC (fM fr to y1 (gB sv).1,fM fr to y2 (gB sv).2):=⟨lA (by rw [← HTO.out];exact p7 HOK.out.vess x) hoy.1,lA (by rw [← HTO.out];exact p7 HOK.out.vess x) hoy.2⟩
          obtain ⟨w5,hup,hm5,hg5,hs5⟩:=HM4.out.2.1.map.update (P:=Tryz.prog) cpTy hoc true;replace hup:(Instr.mapUpdate 139 (.map (some rn)) (.agg #[.int .i64 (fM fr to y1 (gB sv).1),.int .i64 (fM fr to y2 (gB sv).2)]) (.bool true)).run Tryz.prog W11 = .ok () w5:=hup;have HMU:=lh (HM4.out.2.1.upd hm5 hg5);clear hoy hoc hm5 hg5 hs5;have g0:=(HM4.out.2.1.lay.blk 2 rfl).cell 0;have g1:=(HM4.out.2.1.lay.blk 2 rfl).cell 1;have gl:=(HM4.out.2.1.lay.blk 2 rfl).lt;gi_wp2;clear hup g0 g1 gl;refine ⟨⟨sv+1,lh ⟨_,hsv,HMU.out.sub (by intro b hb;simp only [List.mem_cons,List.not_mem_nil,or_false] at hb ⊢;rcases hb with rfl | rfl<;>simp),(HM3.out.2.2.put _).congr fun d=>by rw [jG,or_assoc,and_iff_right HOKS.out]⟩,by rw [show ((sv+1:Nat):Int)=(sv:Int)+1 from by omega];constructor⟩,?_⟩;simp [intOf]<;>omega
         ·
          have hfb:decide (fr<0)=false:=decide_eq_false hf;have hfq:=fp HOK.out.vess x;rw [HFR.out] at hfq
          obtain ⟨fq,rfl⟩:∃ fq:Nat,fr=(fq:Int):=⟨fr.toNat,by omega⟩
          have hfq4:fq<4:=by omega
          have HTW:=lh (HTB.out.below HM4.out.2.1.lay.1)
          have hil:i<T.nl:=by
           have h1:=fH fy (by omega) HTW.out.all;have h2:=HOK.out.long;have h3:=(g_E HX.out).1;omega
          obtain ⟨bl,ol,all9,e1,e2,e3,e4⟩:=ft fy (by omega) HTW.out.all hil;obtain rfl:all=all9:=Option.some.inj (HAT.out.ha.symm.trans e3);have ch:=e4 fq _ (iO all hfq4);rw [HAL.out] at ch;have t4:=HTW.out.blk.cell 4;have tl:=HTW.out.blk.lt;have hnl:T.nl≤13:=HTW.out.small.2.2.2;unfold Tb.cells at t4;change _=some (Value.slice T.AA T.nl T.cl) at t4;rw [e1] at t4;have halb:=HAT.out.rng fq;rw [HAL.out] at halb;have hnb:=HAT.out.size;rw [HN.out] at hnb;by_cases hs:st≤al - n
          ·
           have hsb2:decide (st≤al - n)=true:=decide_eq_true hs;have HOKS:Hid (gL (fq:Int) to n al x.fr one other (y1,y2) (gB sv)=true):=lh (by rw [HSTB.out];simp [hm,hs]);have hoy:okC (y1,y2):=HM2.out.1.iter.map.ok _ HYM.out
           have hoc:okC (fM (fq:Int) to y1 (gB sv).1,fM (fq:Int) to y2 (gB sv).2):=⟨lA (by rw [← HTO.out];exact p7 HOK.out.vess x) hoy.1,lA (by rw [← HTO.out];exact p7 HOK.out.vess x) hoy.2⟩
           obtain ⟨w5,hup,hm5,hg5,hs5⟩:=HM4.out.2.1.map.update (P:=Tryz.prog) cpTy hoc true;replace hup:(Instr.mapUpdate 139 (.map (some rn)) (.agg #[.int .i64 (fM (fq:Int) to y1 (gB sv).1),.int .i64 (fM (fq:Int) to y2 (gB sv).2)]) (.bool true)).run Tryz.prog W11 = .ok () w5:=hup;have HMU:=lh (HM4.out.2.1.upd hm5 hg5);clear hoy hoc hm5 hg5 hs5;have g0:=(HM4.out.2.1.lay.blk 2 rfl).cell 0;have g1:=(HM4.out.2.1.lay.blk 2 rfl).cell 1;have gl:=(HM4.out.2.1.lay.blk 2 rfl).lt;gi_wp2;clear hup g0 g1 gl;refine ⟨⟨sv+1,lh ⟨_,hsv,HMU.out.sub (by intro b hb;simp only [List.mem_cons,List.not_mem_nil,or_false] at hb ⊢;rcases hb with rfl | rfl<;>simp),(HM3.out.2.2.put _).congr fun d=>by rw [jG,or_assoc,and_iff_right HOKS.out]⟩,by rw [show ((sv+1:Nat):Int)=(sv:Int)+1 from by omega];constructor⟩,?_⟩;simp [intOf]<;>omega
          ·
           have hsb2:decide (st≤al - n)=false:=decide_eq_false hs;have HNO:Hid (gL (fq:Int) to n al x.fr one other (y1,y2) (gB sv)=false):=lh (by rw [HSTB.out];simp [hs]);gi_wp2;refine ⟨⟨sv+1,lh ⟨mn,hsv,HM4.out.2.1.sub (by intro b hb;simp only [List.mem_cons,List.not_mem_nil,or_false] at hb ⊢;rcases hb with rfl | rfl<;>simp),HM3.out.2.2.congr fun d=>by rw [jG];exact or_congr Iff.rfl ⟨.inl,fun h=>h.resolve_right fun h=>by rw [HNO.out] at h;cases h.1⟩⟩,by rw [show ((sv+1:Nat):Int)=(sv:Int)+1 from by omega];constructor⟩,?_⟩;simp [intOf]<;>omega
        ·
         have hmbb:decide (mv≤n)=false:=decide_eq_false hm
         have HNO:Hid (gL fr to n al x.fr one other (y1,y2) (gB sv)=false):=lh (by
          rw [HSTB.out];by_cases hf:fr<0
          ·have h1:=KMV.out
           have hf0:¬ 0≤fr:=by omega
           simp [hf0] at h1;have h2:=HN0.out;omega
          ·simp [hf,hm])
         gi_wp2;refine ⟨⟨sv+1,lh ⟨mn,hsv,HM4.out.2.1.sub (by intro b hb;simp only [List.mem_cons,List.not_mem_nil,or_false] at hb ⊢;rcases hb with rfl | rfl<;>simp),HM3.out.2.2.congr fun d=>by rw [jG];exact or_congr Iff.rfl ⟨.inl,fun h=>h.resolve_right fun h=>by rw [HNO.out] at h;cases h.1⟩⟩,by rw [show ((sv+1:Nat):Int)=(sv:Int)+1 from by omega];constructor⟩,?_⟩;simp [intOf]<;>omega
     ·
      obtain rfl:sv=4:=by have:=HM3.out.1;omega
      gi_wp2;refine ⟨⟨lh ⟨left.eraseIdx i9,mn,HM3.out.2.1.sub (by intro b hb;simp only [List.mem_cons,List.not_mem_nil,or_false] at hb ⊢;rcases hb with rfl;simp),sy HM2.out.2.1,fun p hp=>HM2.out.2.2.1 p (List.mem_of_mem_eraseIdx hp),HM3.out.2.2.congr fun d=>by rw [rS HM2.out.2.1 HP.out HYM.out,tk]⟩,by constructor⟩,?_⟩;rw [HM3.out.2.1.iter.left_eq,HM2.out.1.iter.left_eq];have h5:=(g_E HP.out).1;rw [List.length_eraseIdx_of_lt h5];omega
   ·
    obtain rfl:k=i:=by have:=HS.out.1;omega
    have Ly:=lh (HBS0.out.below HS.out.2.1)
    have hoq:okC ((q:Int),(q:Int)):=⟨iL (by omega) (by have:=HQ.out.1;omega),iL (by omega) (by have:=HQ.out.1;omega)⟩
    obtain ⟨bt,hbt,hlk⟩:∃ bt:Bool,(bt=true↔NowP m T.L one other k ((q:Int),(q:Int)))∧(Instr.lookup 139 (.map (some r)) (.agg #[.int .i64 (q:Int),.int .i64 (q:Int)]) false).run Tryz.prog W = .ok (.bool bt) W:=by
     have h5:=HS.out.2.2.1.lookup (P:=Tryz.prog) cpTy hoq false;by_cases ht:NowP m T.L one other k ((q:Int),(q:Int))
     ·refine ⟨true,by simp [ht],?_⟩
      rw [HS.out.2.2.2.2.look_some ht] at h5;exact h5
     ·refine ⟨false,by simp [ht],?_⟩
      rw [HS.out.2.2.2.2.look_none ht] at h5;exact h5
    have HBT:=lh hbt;clear hoq hbt;have s0_:=lyc Ly 1 rfl 0;have s1_:=(Ly.out.blk 1 rfl).lt;gi_wp2;refine bodyPost_ret (v:=.tuple #[.bool bt,.int .i64 0]) (by simp [results,Tryz.results37,go_sem]) rfl ?_;exact ⟨bt,0,rfl,.inr ⟨by unfold metM;rw [if_pos HEE.out,if_neg HOO.out],rfl,T.L,HTL.out,by rw [HBT.out,← HQ.out.2.1,Int.toNat_natCast]⟩,Ly.out.1⟩
 ·
  have h0b:(ee != 0)=true:=by simpa using h0
  have H0:=lh h0;clear h0;gi_wp2;refine bodyPost_ret (v:=.tuple #[.bool false,.int .i64 ee]) (by simp [results,Tryz.results37,go_sem]) rfl ?_;have hm9:metM m vessel after one other=ee:=by unfold metM;rw [if_neg (by rw [HEE.out];exact H0.out),HEE.out]
  exact ⟨false,ee,rfl,.inl ⟨by rw [hm9];exact H0.out,rfl,hm9.symm⟩,Ly.out.1⟩
end
end Go.Proofs.YthofngceiecniaaGreat
