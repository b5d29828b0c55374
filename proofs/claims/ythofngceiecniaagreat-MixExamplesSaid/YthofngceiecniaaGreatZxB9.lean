/- Part 9 of the texts of this claim, joined. -/
import Derived.Sort.CutIn
import Derived.IntWalk
import Derived.Test.YthofngceiecniaaGreatZxB8
set_option linter.unusedVariables false
/- The search in mix.table.wrong. -/
namespace Go.Proofs.YthofngceiecniaaGreat
set_option maxHeartbeats 32000000
set_option maxRecDepth 100000
section
open Go.RowKit Go.Shelf
attribute [local go_sem] Oper.semAt_some
def UpB (B:Nat)(A C:World):Prop:=A.heap.size≤C.heap.size∧(B≤A.heap.size→Below B A C)
instance upB_grows (B:Nat):Gr.Grows (UpB B) where
 refl:=fun W=>⟨n_R,fun _=>Below.refl _ W⟩
 trans:=fun {A X C} h k=>⟨Nat.le_trans h.1 k.1,fun hB=>(h.2 hB).trans (k.2 (Nat.le_trans hB h.1))⟩
 below:=fun {A C} h=>⟨h.size,fun hB=>h.mono hB⟩
 size:=fun h=>h.1
theorem UpB.of_below' {B:Nat}{A C:World}(h:Below A.heap.size A C):UpB B A C:=⟨h.size,fun hB=>h.mono hB⟩
@[reducible] def lessTb (T:Tb) (g:Nat) (A1:Option Addr) (c1:Nat) (A2:Option Addr) (c2:Nat) (A3:Option Addr) (n3 c3:Nat) (l:List Int):Tb:=⟨g,A1,T.nv,c1,A2,T.na,c2,A3,n3,c3,T.AA,T.nl,T.cl,gK T.m (io T.m.tastes l),T.L⟩
theorem wU {T:Tb}(h:TbOk T)(l:List Int){g:Nat}{A1 A2 A3:Option Addr}{c1 c2 n3 c3:Nat}:TbOk (lessTb T g A1 c1 A2 c2 A3 n3 c3 l):=⟨sk h.ok _,h.all⟩
theorem w6 {W:World}{T:Tb}{g base:Nat}{A1 A2 A3:Option Addr}{c1 c2 n3 c3:Nat}{l:List Int}(h:TbAt W T)(hb:Blk W g 121 #[.int .i64 T.m.fountains,.slice A1 T.nv c1,.slice A2 T.na c2,.slice A3 n3 c3,.slice T.AA T.nl T.cl])
  (hm:fe W base A1 T.nv c1 A2 T.na c2 A3 n3 c3 (gK T.m (io T.m.tastes l))) (hn:n3≤8):TbAt W (lessTb T g A1 c1 A2 c2 A3 n3 c3 l) :=
 ⟨hb,⟨hm.v.reads n_R,hm.a.reads n_R,hm.t.reads n_R⟩,h.all,⟨h.small.1,h.small.2.1,hn,h.small.2.2.2⟩⟩
structure qr (W:World)(T:Tb)(f:Int)(g0 g1 g2 g3:Nat)(oA:Option Addr)(no oc:Nat)(own:List Int):Prop where
 tb:TbAt W T
 b0:Blk W g0 92 #[.pointer (some ⟨T.g,0,none⟩)]
 b1:Blk W g1 3 #[.int .i64 f]
 b2:Blk W g2 34 #[.slice oA no oc]
 b3:Blk W g3 162 #[.func (.func 95) #[] #[.pointer (some ⟨g0,0,none⟩),.pointer (some ⟨g1,0,none⟩),.pointer (some ⟨g2,0,none⟩),.pointer (some ⟨g3,0,none⟩)]]
 ow:du W W.heap.size oA no own
 small:no≤8
theorem qr.below {W W':World}{T:Tb}{f:Int}{g0 g1 g2 g3:Nat}{oA:Option Addr}{no oc:Nat}{own:List Int}(h:qr W T f g0 g1 g2 g3 oA no oc own)(hb:Below W.heap.size W W'):qr W' T f g0 g1 g2 g3 oA no oc own :=
 ⟨h.tb.below hb,h.b0.below hb h.b0.lt,h.b1.below hb h.b1.lt,h.b2.below hb h.b2.lt,h.b3.below hb h.b3.lt,(h.ow.below hb).more hb.size,h.small⟩
def tq (W:World)(P:List Int→Prop)(C:List (List Int))(e:Ending)(w':World):Prop :=
 ∃ A n c b r,e = .returned (.tuple #[.slice A n c,.bool b])∧Below W.heap.size W w'∧(b=true→du w' w'.heap.size A n r∧n≤3)∧iX C P b r
inductive FrSk (v0 v2 v3 v4 v5 v6 v15:Value):Act→Prop
 | mk (a b c d e f g h i j k l m n o p q r s t w x y z A B C D E F G H I J K L M N O P Q R S T U V W X Y Z aa ab ac ad ae af ag ah ai:Value):FrSk v0 v2 v3 v4 v5 v6 v15 ⟨#[v0,a,v2,v3,v4,v5,v6,b,c,d,e,f,g,h,i,v15,j,k,l,m,n,o,p,q,r,s,t,w,x,y,z,A,B,C,D,E,F,G,H,I,J,K,L,M,N,O,P,Q,R,S,T,U,V,W,X,Y,Z,aa,ab,ac,ad,ae,af,ag,ah,ai],[]⟩
theorem tg (T:Tb)(f:Int)(hok:TbOk T)(g0 g1 g2 g3:Nat)(oA:Option Addr)(no oc:Nat)(own:List Int):∀ (more frm:Nat) (l:List Int) (A:Option Addr) (n c:Nat) (W:World),qr W T f g0 g1 g2 g3 oA no oc own→du W W.heap.size A n l→n+more≤3→frm≤no →
  CallsIn Fence.wide 9 Tryz.prog 95 (#[.slice A n c,.int .i64 (frm:Int),.int .i64 (more:Int)]++#[.pointer (some ⟨g0,0,none⟩),.pointer (some ⟨g1,0,none⟩),.pointer (some ⟨g2,0,none⟩),.pointer (some ⟨g3,0,none⟩)]) W (tq W (WrP T.m T.L f) (jF own l frm more)):=by
 intro more
 induction more with
 | zero =>
  intro frm l A n c W hbx hl hn hfr;have HBX:=lh hbx;have HIL:=lh hl;have hn3:n≤3:=by omega
  clear hbx hl hn hfr;refine callsIn_of_wp Tryz.func95 rfl trivial ?_ rfl;simp only [Tryz.ntmps95,es,Nat.reduceAdd,Nat.reduceSub];gi_upto_region 2 with fail
  refine wpIn_flow_old [([true,true,true,true,true,false,true,true,true,true],5),([false,false,false,false,false,false,false,false,false,false,true],11)] [false,false,false,false,false,false,false,false,false,false,false,false,true] [] (by kernel_rfl) (by kernel_rfl) (by kernel_rfl) (av b_R 1) ?_;refine wpFlow_cons (A:=?AW1) rfl ?hw1 ?_
  case hw1 =>
   rintro σ hσ of hof hcl;have HOF:=lh hof;clear hof hcl;have p0:∀ z,(of z).cell? ⟨g0,0,none⟩=some (.pointer (some ⟨T.g,0,none⟩)):=fun z=>(HBX.out.below (HOF.out z)).b0.cell 0;have t0:∀ z,(of z).cell? ⟨T.g,0,none⟩=some (.int .i64 T.m.fountains):=fun z=>(HBX.out.below (HOF.out z)).tb.blk.cell 0;have t1:∀ z,(of z).cell? ⟨T.g,1,none⟩=some (.slice T.Av T.nv T.cv):=fun z=>(HBX.out.below (HOF.out z)).tb.blk.cell 1;have t2:∀ z,(of z).cell? ⟨T.g,2,none⟩=some (.slice T.Aa T.na T.ca):=fun z=>(HBX.out.below (HOF.out z)).tb.blk.cell 2;have t3:∀ z,(of z).cell? ⟨T.g,3,none⟩=some (.slice T.At T.nt T.ct):=fun z=>(HBX.out.below (HOF.out z)).tb.blk.cell 3;have t4:∀ z,(of z).cell? ⟨T.g,4,none⟩=some (.slice T.AA T.nl T.cl):=fun z=>(HBX.out.below (HOF.out z)).tb.blk.cell 4;have hfw:=hfT;simp only [bu]
   repeat (gi_big_quiet_step (fail))
   refine wpQuietIn_nil ?_;exact rfl
  intro W1 hW;have HB1:=lh hW;have HX1:=lh (HBX.out.below hW);have HI1:=lh ((HIL.out.below hW).more hW.size);clear hW;gi_wp2;refine ⟨trivial,(c_W (nH T.Av T.nv T.cv T.Aa T.na T.ca T.At T.nt T.ct T.m A n c l W1 ⟨HX1.out.tb.mix,by have:=HX1.out.tb.small;omega,by have:=HX1.out.tb.small;omega,by have:=HX1.out.tb.small;omega⟩ HI1.out (by omega))).mono ?_⟩;rintro e W2 ⟨A1,c1,A2,c2,A3,n3,c3,rfl,hmo,hn9,hb⟩;have HMO:=lh hmo;have HN9:=lh hn9;have HB2:=lh (HB1.out.trans (hb.mono HB1.out.size));have HX2:=lh (HX1.out.below hb);clear hmo hn9;gi_wp2;refine ⟨trivial,hb,?_⟩;clear hb HX1 HI1;refine wpFlow_cons (A:=?AW2) rfl ?hw2 ?_
  case hw2 =>
   rintro σ hσ of hof hcl;have HOF:=lh hof;clear hof hcl;have hn3_:=hn3;have hfw:=hfT;simp only [bu]
   repeat (gi_big_quiet_step (fail))
   refine wpQuietIn_nil ?_;exact rfl
  intro W3 hW;have HB3:=lh (HB2.out.trans (hW.mono HB2.out.size));have HX3:=lh (HX2.out.below hW);have HMO3:=lh (HMO.out.below hW);clear hW HMO HX2 HB1 HB2;gi_wp2;have hb:Below W3.heap.size W3 (W3.alloc (.cells #[.int .i64 T.m.fountains,.slice A1 T.nv c1,.slice A2 T.na c2,.slice A3 n3 c3,.slice T.AA T.nl T.cl] 121)):=b_R.alloc n_R _;refine ⟨trivial,hb,?_⟩;have HTB:=lh (Blk.new W3 121 #[.int .i64 T.m.fountains,.slice A1 T.nv c1,.slice A2 T.na c2,.slice A3 n3 c3,.slice T.AA T.nl T.cl]);have HB4:=lh (HB3.out.trans (hb.mono HB3.out.size));have HX4:=lh (HX3.out.below hb);have HMO4:=lh (HMO3.out.below hb);clear hb HMO3 HX3 HB3;generalize (W3.alloc (.cells #[.int .i64 T.m.fountains,.slice A1 T.nv c1,.slice A2 T.na c2,.slice A3 n3 c3,.slice T.AA T.nl T.cl] 121))=W4 at *
  obtain ⟨gt,hgt⟩:∃ g,W3.heap.size=g:=⟨_,rfl⟩
  rw [hgt] at HTB ⊢;clear hgt;refine wpFlow_nil (A:=?AW3)  ?hw3 ?_
  case hw3 =>
   rintro σ hσ of hof hcl;have HOF:=lh hof;clear hof hcl;have hn3_:=hn3;have hfw:=hfT;simp only [bu]
   repeat (gi_big_quiet_step (fail))
   refine wpQuietIn_nil ?_;exact rfl
  intro W5 hW;simp only [bu];refine eK ?_;have HB5:=lh (HB4.out.trans (hW.mono HB4.out.size));have HX5:=lh (HX4.out.below hW);have HMO5:=lh (HMO4.out.below hW);have HTB5:=lh (HTB.out.below hW HTB.out.lt);clear hW HMO4 HX4 HB4 HTB;have HTA:Hid (TbAt W5 (lessTb T gt A1 c1 A2 c2 A3 n3 c3 l)):=lh (w6 HX5.out.tb HTB5.out HMO5.out (by have:=HX5.out.tb.small;have:=HX5.out.tb.mix.lenT;have:=HN9.out;omega));have f0:=HX5.out.b1.cell 0;have fl:=HX5.out.b1.lt;gi_wp2;clear f0 fl;refine ⟨trivial,(c_W (m5 (lessTb T gt A1 c1 A2 c2 A3 n3 c3 l) f W5 HTA.out (wU hok l))).mono ?_⟩;rintro e W6 ⟨gU,b,A9,n9,c9,rs,ms,rfl,hb,_,_,_,hbt⟩;have HBT:=lh hbt;have HB6:=lh (HB5.out.trans (hb.mono HB5.out.size));clear hb hbt;gi_wp2;refine bodyPost_ret (v:=.tuple #[.slice A n c,.bool b]) (by simp [results,Tryz.results95,go_sem]) rfl ?_;refine ⟨A,n,c,b,l,rfl,HB6.out,fun _=>⟨(HIL.out.below HB6.out).more HB6.out.size,hn3⟩,?_⟩;rw [so];exact uC HBT.out
 | succ more ih =>
  intro frm l A n c W hbx hl hn hfr;have HIH:=lh ih;have HBX:=lh hbx;have HIL:=lh hl;have hnm:n+more≤2:=by omega
  have HFR:=lh hfr;clear ih hbx hl hn hfr;refine callsIn_of_wp Tryz.func95 rfl trivial ?_ rfl;simp only [Tryz.ntmps95,es,Nat.reduceAdd,Nat.reduceSub];have hmb:(((more+1:Nat):Int)==0)=false:=by rw [beq_eq_false_iff_ne];omega
  rw [show ((more+1:Nat):Int)=(more:Int)+1 from by omega] at hmb ⊢;gi_wp2;refine wpIn_loop (fun ac V=>∃ (i:Nat),Hid (i≤no∧(∀ b r,iX (jF own l i (more+1)) (WrP T.m T.L f) b r→iX (jF own l frm (more+1)) (WrP T.m T.L f) b r)∧Below W.heap.size W V)∧FrSk (.slice A n c) (.int .i64 ((more:Int)+1)) (.pointer (some ⟨g0,0,none⟩)) (.pointer (some ⟨g1,0,none⟩)) (.pointer (some ⟨g2,0,none⟩)) (.pointer (some ⟨g3,0,none⟩)) (.int .i64 (i:Int)) ac) (fun ac _=>no - (intOf (ac.tmps.getD 15 undef)).toNat) ?_ ?_
  ·exact ⟨frm,lh ⟨HFR.out,fun b r h=>h,b_R⟩,by constructor⟩
  rintro ac V ⟨i,HS,ha⟩;cases ha;have HBV:=lh HS.out.2.2;have HXV:=lh (HBX.out.below HBV.out);have HIV:=lh ((HIL.out.below HBV.out).more HBV.out.size);have q0:=HXV.out.b2.cell 0;have ql:=HXV.out.b2.lt;by_cases hin:i<no
  ·
   obtain ⟨bo,oo,x,hoA,hbo,hxo,hco⟩:=HXV.out.ow.cell hin;have HXO:=lh hxo;have HCO:=lh hco;have HBO:Hid (bo<V.heap.size):=lh hbo;have HOA:=lh hoA;have hno8:=HXV.out.small;gi_upto_region 8 with fail
   clear q0 ql hxo hco hbo;refine Tr.wpIn_region_tree (G:=UpB V.heap.size) (V0:=V) [([],[true,true,false,true,true,true,true,false,false,true,true,true,true],[2,7]),([2],[],[7]),([7],[],[2]),([2,7],[],[8]),([2,7,8],[],[13]),([2,7,8,13],[false,false,false,false,false,false,false,false,false,false,false,false,false,false,true,true,true,true,true],[])] 5 [] (by kernel_rfl) (by kernel_rfl) (by kernel_rfl) (av b_R 1) ?_;refine Tr.wpTree_two (A:=?AW4) rfl rfl rfl ?hw4 ?_ ?_
   case hw4 =>
    rintro σ hσ of hof hcl;have HOF:=lh hof;clear hof hcl;have hub:∀ z,Below V.heap.size V (of z):=fun z=>(HOF.out z).2 n_R;have q0:∀ z,(of z).cell? ⟨g2,0,none⟩=some (.slice (some ⟨bo,oo,none⟩) no oc):=fun z=>by rw [← HOA.out];exact (HXV.out.b2.below (hub z) HXV.out.b2.lt).cell 0
    have q3:∀ z,(of z).cell? ⟨g3,0,none⟩=some (.func (.func 95) #[] #[.pointer (some ⟨g0,0,none⟩),.pointer (some ⟨g1,0,none⟩),.pointer (some ⟨g2,0,none⟩),.pointer (some ⟨g3,0,none⟩)]):=fun z=>(HXV.out.b3.below (hub z) HXV.out.b3.lt).cell 0;have qo:∀ z,(of z).cell? ⟨bo,oo+i,none⟩=some (.int .i64 x):=fun z=>((hub z).cell (p:=⟨bo,oo+i,none⟩) HBO.out).trans HCO.out;clear hub;have hfw:=hfT;simp only [bu]
    repeat (gi_big_quiet_step (fail))
    refine wpQuietIn_nil ?_;exact rfl
   ·
    intro W4 hW;have HB4:=lh hW;clear hW;gi_wp2;refine ⟨trivial,(callsIn_wide.2 (iS A n c l W4 ((HIV.out.below HB4.out).more HB4.out.size) (by unfold maxLen;omega) (by omega))).mono ?_⟩;rintro e W5 ⟨A9,c9,rfl,hO,hCn,hb⟩;have HO:=lh (show Own W5 V.heap.size 3 1 A9 n c9 (l.map (Value.int .i64)) from hO.mono HB4.out.size);have HBc:=lh hb;clear hO hCn hb;gi_wp2
    first | refine ⟨trivial,UpB.of_below' HBc.out,?_⟩ | refine ⟨UpB.of_below' HBc.out,?_⟩
    refine Tr.wpTree_one (m:=[]) rfl rfl Gr.Quietly.none ?_;intro W6 hW;have HB6:=lh (show Below V.heap.size V W6 from HB4.out.trans ((HBc.out.trans (hW.mono HBc.out.size)).mono HB4.out.size));replace HO:=lh (HO.out.below hW n_R);clear hW HBc HB4;gi_wp2;have hbs:Below W6.heap.size W6 (W6.alloc (.cells #[.int .i64 x] 3)):=b_R.alloc n_R _
    first | refine ⟨trivial,UpB.of_below' hbs,?_⟩ | refine ⟨UpB.of_below' hbs,?_⟩
    have HSL:=lh (show du (W6.alloc (.cells #[.int .i64 x] 3)) (W6.alloc (.cells #[.int .i64 x] 3)).heap.size (some ⟨W6.heap.size,0,none⟩) 1 [x] from du.new W6 3 [x] _ (by simp));have HBs:=lh hbs;clear hbs;generalize (W6.alloc (.cells #[.int .i64 x] 3))=W7 at *
    obtain ⟨gb,hgb⟩:∃ g,W6.heap.size=g:=⟨_,rfl⟩
    rw [hgb] at HSL ⊢;clear hgb;refine Tr.wpTree_one (m:=[]) rfl rfl Gr.Quietly.none ?_;intro W8 hW;have HB8:=lh (show Below V.heap.size V W8 from HB6.out.trans ((HBs.out.trans (hW.mono HBs.out.size)).mono HB6.out.size));replace HO:=lh ((HO.out.below HBs.out n_R).below hW n_R);replace HSL:=lh ((HSL.out.below hW).more hW.size);clear hW HBs HB6
    gi_wp2_with (first | (gi_at_builtin;refine eJ rfl _ _ rfl fW rfl HO.out rfl HSL.out (fY [x]) (by unfold maxLen;omega) (by omega) (HB8.out.size) ?_) | fail)
    intro A10 c10 W9 hown hg hA;have HO10:=lh (show Own W9 V.heap.size 3 1 A10 (n+1) c10 ((l++[x]).map (Value.int .i64)) from by rw [List.map_append];exact hown)
    have hup:UpB V.heap.size W8 W9:=⟨hg.size,fun hB=>b_R.grown hg hB (fun k e=>(fu HO.out k e).1)⟩
    have HBE9:=lh (show Below V.heap.size V W9 from HB8.out.grown hg HB8.out.size (fun k e=>(fu HO.out k e).1));clear hown hg hA;gi_wp2
    first | refine ⟨rfl,hup,?_⟩ | refine ⟨trivial,hup,?_⟩ | refine ⟨hup,?_⟩
    clear hup HO HSL HB8;refine Tr.wpTree_one (m:=[]) rfl rfl Gr.Quietly.none ?_;intro W10 hW;have HO11:=lh (HO10.out.below hW n_R);have HBE10:=lh (HBE9.out.trans (hW.mono HBE9.out.size));clear hW HO10 HBE9;gi_wp2;refine ⟨trivial,(c_W (HIH.out (i+1) (l++[x]) A10 (n+1) c10 W10 (HXV.out.below HBE10.out) (fG HO11.out n_R) (by omega) (by omega))).mono ?_⟩;rintro e W11 ⟨A12,n12,c12,b,r,rfl,hb,hin12,hfi⟩;have HI12:=lh hin12;have HFI:=lh hfi;have HB11:=lh (HBE10.out.trans (hb.mono HBE10.out.size));have hup:UpB V.heap.size W10 W11:=UpB.of_below' hb;clear hin12 hfi hb HBE10 HO11;gi_wp2
    first | refine ⟨rfl,hup,?_⟩ | refine ⟨trivial,hup,?_⟩ | refine ⟨hup,?_⟩
    clear hup;refine Tr.wpTree_end (A:=?AW5) rfl ?hw5 ?_
    case hw5 =>
     rintro σ hσ of hof hcl;have HOF:=lh hof;clear hof hcl;have hno_:=hno8;have hfw:=hfT;simp only [bu]
     repeat (gi_big_quiet_step (fail))
     refine wpQuietIn_nil ?_;exact rfl
    intro W12 hW;have HB12:=lh (HB11.out.trans (hW.mono HB11.out.size));replace HI12:=lh (show b=true→du W12 W12.heap.size A12 n12 r∧n12≤3 from fun h=>⟨((HI12.out h).1.below hW).more hW.size,(HI12.out h).2⟩);clear hW HB11;simp only [bu];refine eK ?_;have HCS:=lh (nJ (l:=l) (n:=more) HXO.out)
    cases b with
    | true =>
     gi_wp2;refine bodyPost_ret (v:=.tuple #[.slice A12 n12 c12,.bool true]) (by simp [results,Tryz.results95,go_sem]) rfl ?_;exact ⟨A12,n12,c12,true,r,rfl,HBV.out.trans (HB12.out.mono HBV.out.size),fun _=>HI12.out (by first | rfl | trivial),HS.out.2.1 _ _ (by rw [HCS.out];exact po HFI.out)⟩
    | false =>
     gi_wp2;refine ⟨⟨i+1,lh ⟨hin,fun b9 r9 h9=>HS.out.2.1 b9 r9 (by rw [HCS.out];exact np HFI.out h9),HBV.out.trans (HB12.out.mono HBV.out.size)⟩,by rw [show ((i+1:Nat):Int)=(i:Int)+1 from by omega];constructor⟩,?_⟩;simp [intOf]<;>omega
   ·
    intro W4 hW;have HB4:=lh hW;clear hW;gi_wp2;have hbs:Below W4.heap.size W4 (W4.alloc (.cells #[.int .i64 x] 3)):=b_R.alloc n_R _
    first | refine ⟨trivial,UpB.of_below' hbs,?_⟩ | refine ⟨UpB.of_below' hbs,?_⟩
    have HSL:=lh (show du (W4.alloc (.cells #[.int .i64 x] 3)) (W4.alloc (.cells #[.int .i64 x] 3)).heap.size (some ⟨W4.heap.size,0,none⟩) 1 [x] from du.new W4 3 [x] _ (by simp));have HBs:=lh hbs;clear hbs;generalize (W4.alloc (.cells #[.int .i64 x] 3))=W5 at *
    obtain ⟨gb,hgb⟩:∃ g,W4.heap.size=g:=⟨_,rfl⟩
    rw [hgb] at HSL ⊢;clear hgb;refine Tr.wpTree_one (m:=[]) rfl rfl Gr.Quietly.none ?_;intro W6 hW;have HB6:=lh (show Below V.heap.size V W6 from HB4.out.trans ((HBs.out.trans (hW.mono HBs.out.size)).mono HB4.out.size));replace HSL:=lh ((HSL.out.below hW).more hW.size);clear hW HBs HB4;gi_wp2;refine ⟨trivial,(callsIn_wide.2 (iS A n c l W6 ((HIV.out.below HB6.out).more HB6.out.size) (by unfold maxLen;omega) (by omega))).mono ?_⟩;rintro e W7 ⟨A9,c9,rfl,hO,hCn,hb⟩;have HO:=lh (show Own W7 V.heap.size 3 1 A9 n c9 (l.map (Value.int .i64)) from hO.mono HB6.out.size);have HBc:=lh hb;clear hO hCn hb;gi_wp2
    first | refine ⟨trivial,UpB.of_below' HBc.out,?_⟩ | refine ⟨UpB.of_below' HBc.out,?_⟩
    refine Tr.wpTree_one (m:=[]) rfl rfl Gr.Quietly.none ?_;intro W8 hW;have HB8:=lh (show Below V.heap.size V W8 from HB6.out.trans ((HBc.out.trans (hW.mono HBc.out.size)).mono HB6.out.size));replace HO:=lh (HO.out.below hW n_R);replace HSL:=lh (((HSL.out.below HBc.out).more HBc.out.size).below hW |>.more hW.size);clear hW HBc HB6
    gi_wp2_with (first | (gi_at_builtin;refine eJ rfl _ _ rfl fW rfl HO.out rfl HSL.out (fY [x]) (by unfold maxLen;omega) (by omega) (HB8.out.size) ?_) | fail)
    intro A10 c10 W9 hown hg hA;have HO10:=lh (show Own W9 V.heap.size 3 1 A10 (n+1) c10 ((l++[x]).map (Value.int .i64)) from by rw [List.map_append];exact hown)
    have hup:UpB V.heap.size W8 W9:=⟨hg.size,fun hB=>b_R.grown hg hB (fun k e=>(fu HO.out k e).1)⟩
    have HBE9:=lh (show Below V.heap.size V W9 from HB8.out.grown hg HB8.out.size (fun k e=>(fu HO.out k e).1));clear hown hg hA;gi_wp2
    first | refine ⟨rfl,hup,?_⟩ | refine ⟨trivial,hup,?_⟩ | refine ⟨hup,?_⟩
    clear hup HO HSL HB8;refine Tr.wpTree_one (m:=[]) rfl rfl Gr.Quietly.none ?_;intro W10 hW;have HO11:=lh (HO10.out.below hW n_R);have HBE10:=lh (HBE9.out.trans (hW.mono HBE9.out.size));clear hW HO10 HBE9;gi_wp2;refine ⟨trivial,(c_W (HIH.out (i+1) (l++[x]) A10 (n+1) c10 W10 (HXV.out.below HBE10.out) (fG HO11.out n_R) (by omega) (by omega))).mono ?_⟩;rintro e W11 ⟨A12,n12,c12,b,r,rfl,hb,hin12,hfi⟩;have HI12:=lh hin12;have HFI:=lh hfi;have HB11:=lh (HBE10.out.trans (hb.mono HBE10.out.size));have hup:UpB V.heap.size W10 W11:=UpB.of_below' hb;clear hin12 hfi hb HBE10 HO11;gi_wp2
    first | refine ⟨rfl,hup,?_⟩ | refine ⟨trivial,hup,?_⟩ | refine ⟨hup,?_⟩
    clear hup;refine Tr.wpTree_end (A:=?AW6) rfl ?hw6 ?_
    case hw6 =>
     rintro σ hσ of hof hcl;have HOF:=lh hof;clear hof hcl;have hno_:=hno8;have hfw:=hfT;simp only [bu]
     repeat (gi_big_quiet_step (fail))
     refine wpQuietIn_nil ?_;exact rfl
    intro W12 hW;have HB12:=lh (HB11.out.trans (hW.mono HB11.out.size));replace HI12:=lh (show b=true→du W12 W12.heap.size A12 n12 r∧n12≤3 from fun h=>⟨((HI12.out h).1.below hW).more hW.size,(HI12.out h).2⟩);clear hW HB11;simp only [bu];refine eK ?_;have HCS:=lh (nJ (l:=l) (n:=more) HXO.out)
    cases b with
    | true =>
     gi_wp2;refine bodyPost_ret (v:=.tuple #[.slice A12 n12 c12,.bool true]) (by simp [results,Tryz.results95,go_sem]) rfl ?_;exact ⟨A12,n12,c12,true,r,rfl,HBV.out.trans (HB12.out.mono HBV.out.size),fun _=>HI12.out (by first | rfl | trivial),HS.out.2.1 _ _ (by rw [HCS.out];exact po HFI.out)⟩
    | false =>
     gi_wp2;refine ⟨⟨i+1,lh ⟨hin,fun b9 r9 h9=>HS.out.2.1 b9 r9 (by rw [HCS.out];exact np HFI.out h9),HBV.out.trans (HB12.out.mono HBV.out.size)⟩,by rw [show ((i+1:Nat):Int)=(i:Int)+1 from by omega];constructor⟩,?_⟩;simp [intOf]<;>omega
  ·
   obtain rfl:no=i:=by have:=HS.out.1;omega
   have hol:=HXV.out.ow.len;gi_wp2;refine bodyPost_ret (v:=.tuple #[.slice none 0 0,.bool false]) (by simp [results,Tryz.results95,go_sem]) rfl ?_;refine ⟨none,0,0,false,[],rfl,HBV.out,(fun h=>by cases h),HS.out.2.1 _ _ ?_⟩;rw [tR (by omega)];exact vw
end
section
open Go.RowKit Go.Shelf
attribute [local go_sem] Oper.semAt_some
structure Wy where
 l:List Int
 A:Option Addr
 n:Nat
 cap:Nat
@[reducible] def Wy.val (x:Wy):Value:=.slice x.A x.n x.cap
def AtW (n0 n1:Nat)(x:Wy)(W:World):Prop:=du W W.heap.size x.A x.n x.l∧Safe n1 W x.A∧x.n≤13
structure n8 (W:World)(B:Nat)(T:Tb):Prop where
 blk:Blk W T.g 121 T.cells
 g:T.g<B
 mix:fC W B T.Av T.nv T.Aa T.na T.At T.nt T.m
 all:dv W B 4 T.AA T.nl (T.L.flatMap iH)
 small:T.nv≤4∧T.na≤12∧T.nt≤8∧T.nl≤13
theorem n8.at_ {W:World}{B:Nat}{T:Tb}(h:n8 W B T)(hB:B≤W.heap.size):TbAt W T:=⟨h.blk,h.mix.more hB,h.all.more hB,h.small⟩
theorem n8.kp {W W':World}{n0 n1:Nat}{T:Tb}(h:n8 W n0 T)(hk:KpR n0 n1 W W'):n8 W' n0 T :=
 ⟨hk.blk (.inl h.g) h.blk,h.g,⟨h.mix.vessels.low n_R hk,h.mix.acts.low n_R hk,h.mix.tastes.low n_R hk⟩,h.all.low n_R hk,h.small⟩
theorem TbAt.low {W:World}{T:Tb}(h:TbAt W T):n8 W W.heap.size T:=⟨h.blk,h.blk.lt,h.mix,h.all,h.small⟩
structure qE (n0 l' gs gy gt ge q k:Nat)(T:Tb)(W:World):Prop where
 tb:n8 W n0 T
 bs:Blk W gs 109 #[.int .i64 (q:Int),.int .i64 (k:Int)]
 bt:Blk W gt 92 #[.pointer (some ⟨T.g,0,none⟩)]
 by_:Blk W gy 181 #[.func (.yield l') #[] #[]]
 be:Blk W ge 182 #[.func (.func 114) #[] #[.pointer (some ⟨gs,0,none⟩),.pointer (some ⟨gy,0,none⟩),.pointer (some ⟨gt,0,none⟩),.pointer (some ⟨ge,0,none⟩)]]
structure WyPl (n0 n1 gs gy gt ge:Nat):Prop where
 s:gs<n0
 t:gt<n0
 y:n1≤gy
 e:n1≤ge
theorem qE.kp {n0 n1 l' gs gy gt ge q k:Nat}{T:Tb}{W W':World}(h:qE n0 l' gs gy gt ge q k T W)(hp:WyPl n0 n1 gs gy gt ge)(hk:KpR n0 n1 W W'):qE n0 l' gs gy gt ge q k T W' :=
 ⟨h.tb.kp hk,hk.blk (.inl hp.s) h.bs,hk.blk (.inl hp.t) h.bt,hk.blk (.inr hp.y) h.by_,hk.blk (.inr hp.e) h.be⟩
theorem kb {F:Fence}{nn:Nat}{P:Program}{ops:Array Oper}{rest:List Oper}{o:Oper}{a:Act}{w:World}{Q:Exit→Act→World→Prop}(hw:Region.wanted o (yielded ops a.tmps)=true)(h:wpListIn F nn P ops Q ({ o with guard:=none }::rest) a w):wpListIn F nn P ops Q (o::rest) a w:=by
 simp only [wpListIn] at h ⊢;rw [if_pos hw];rw [if_pos (by unfold Region.wanted;rfl)] at h;exact h
theorem gR {n0 n1:Nat}{W W':World}{b off:Nat}{u:Value}(hk:KpR n0 n1 W W')(hb:b<n0)(h:W.cell? ⟨b,off,none⟩=some u):W'.cell? ⟨b,off,none⟩=some u:=by
 obtain ⟨o,ho,hc⟩:=cells_of_cell h;rw [← h];refine World.cell?_of_block ?_;rw [ho];exact hk.2 _ _ (.inl hb) ho (.inl hc)
def KpB (n0 n1 B:Nat)(W W':World):Prop:=W.heap.size≤W'.heap.size∧∀ (k:Nat) (o:Obj),k<B→(k<n0∨(n1≤k∧uc o))→W.heap[k]? =some o→(o.isCells=true∨o.isWalk=true)→W'.heap[k]? =some o
theorem KpB.of_below {n0 n1 B:Nat}{A C:World}(h:Below A.heap.size A C):KpB n0 n1 B A C:=⟨h.size,fun k o _ _ ho _=>(h.block k (Array.getElem?_eq_some_iff.1 ho).1).trans ho⟩
theorem KpB.of_kp {n0 n1 B:Nat}{A C:World}(h:KpR n0 n1 A C):KpB n0 n1 B A C:=⟨h.1,fun k o _ hk ho hc=>h.2 k o hk ho hc⟩
theorem KpB.of_grown {n0 n1 B:Nat}{A C:World}{row:Option Nat}(h:A.grownBy C row)(hr:∀ k,row=some k→B≤k):KpB n0 n1 B A C:=⟨h.size,fun k o hk _ ho _=>(h.block k (Array.getElem?_eq_some_iff.1 ho).1 (fun e=>by have:=hr k e.symm;omega)).trans ho⟩
theorem KpB.kp {n0 n1:Nat}{A C:World}(h:KpB n0 n1 A.heap.size A C):KpR n0 n1 A C:=⟨h.1,fun k o hk ho hc=>h.2 k o (Array.getElem?_eq_some_iff.1 ho).1 hk ho hc⟩
instance kpb_grows (n0 n1 B:Nat):Gr.Grows (KpB n0 n1 B) where
 refl:=fun W=>⟨n_R,fun _ _ _ _ h _=>h⟩
 trans:=fun h k=>⟨Nat.le_trans h.1 k.1,fun i o hi h2 ho hc=>k.2 i o hi h2 (h.2 i o hi h2 ho hc) hc⟩
 below:=fun h=>KpB.of_below h
 size:=fun h=>h.1
theorem KpB.trans {n0 n1 B:Nat}{A C D:World}(h:KpB n0 n1 B A C)(k:KpB n0 n1 B C D):KpB n0 n1 B A D:=⟨Nat.le_trans h.1 k.1,fun i o hi h2 ho hc=>k.2 i o hi h2 (h.2 i o hi h2 ho hc) hc⟩
theorem mz (N n0 n1 l' gs gy gt ge q k:Nat)(T:Tb)(J:List Wy→World→Prop)(hJ:∀ s A B,J s A→Below A.heap.size A B→J s B)(hpl:WyPl n0 n1 gs gy gt ge)(hn01:n0≤n1)(hok:TbOk T)(hk12:k≤T.m.acts.length)
  (hY:∀ m pre x W,J pre W→pre.length<N→AtW n0 n1 x W→YieldAt Fence.wide m Tryz.prog l' #[x.val] W fun e W'=>e = .returned (.bool true)∧J (pre++[x]) W'∧KpR n0 n1 W W') :
  ∀ (d:Nat) (t:Nat) (v:Int) (Aw:Option Addr) (nw cw:Nat) (wl:List Int) (pre:List Wy) (W:World),
   qE n0 l' gs gy gt ge q k T W→J pre W→du W W.heap.size Aw nw wl→Safe n1 W Aw→nw≤t→t+d=k→n1≤W.heap.size→(0≤v∧v<4)→pre.length+(folP T.m T.L (q:Int) d t v wl).length≤N →
   CallsIn Fence.wide 9 Tryz.prog 114 #[.agg #[.int .i64 v,.int .i64 (t:Int)],.slice Aw nw cw,.pointer (some ⟨gs,0,none⟩),.pointer (some ⟨gy,0,none⟩),.pointer (some ⟨gt,0,none⟩),.pointer (some ⟨ge,0,none⟩)] W fun e W' =>
    e = .returned (.bool true)∧∃ xs,xs.map Wy.l=folP T.m T.L (q:Int) d t v wl∧J (pre++xs) W'∧KpR n0 n1 W W':=by
 intro d
 induction d with
 | zero =>
  intro t v Aw nw cw wl pre W hbox hJ0 hr hs hnw htd hsz hv hNN;have hlen:=hr.len;have HBX0:=lh hbox;have HJ0:=lh hJ0;have HR:=lh hr;have HS:=lh hs;have HJ:=lh hJ;have HP:=lh hpl;have HV:=lh hv;have HNN:=lh hNN;have HOK:=lh hok;have HK12:=lh hk12;have HLN:=lh hlen;clear hbox hJ0 hr hs hJ hv hlen hNN;refine callsIn_of_wp Tryz.func114 rfl trivial ?_ rfl;simp only [Tryz.ntmps114,es,Nat.reduceAdd,Nat.reduceSub];gi_upto_region 1 with fail
  have hb0:Below W.heap.size W (W.alloc (.cells #[.int .i64 v,.int .i64 (t:Int)] 109)):=b_R.alloc n_R _;have HB0:=lh hb0;have HBX:=lh (HBX0.out.kp HP.out (KpR.of_below hb0));have HSB:=lh (Blk.new W 109 #[.int .i64 v,.int .i64 (t:Int)]);clear hb0;generalize (W.alloc (.cells #[.int .i64 v,.int .i64 (t:Int)] 109))=W0 at *
  obtain ⟨gw,hgw⟩:∃ g,W.heap.size=g:=⟨_,rfl⟩
  have HGW:Hid (W.heap.size≤gw):=lh (by omega);rw [hgw] at HSB ⊢;clear hgw;obtain rfl:t=k:=by omega
  have c0:=HBX.out.bt.cell 0;have c0l:=HBX.out.bt.lt;have c3:=HBX.out.be.cell 0;have c3l:=HBX.out.be.lt;have c4:=HBX.out.bs.cell 0;have c5:=HBX.out.bs.cell 1;have c4l:=HBX.out.bs.lt;have c6:=HBX.out.by_.cell 0;have c6l:=HBX.out.by_.lt;have d0:=HSB.out.cell 0;have d1:=HSB.out.cell 1;have dl:=HSB.out.lt
  by_cases hvq:v=(q:Int)
  ·
   subst hvq;gi_upto_region 2 with fail
   have HAT:Hid (AtW n0 n1 ⟨wl,Aw,nw,cw⟩ W0):=lh ⟨HR.out.safe (n0:=n0) HS.out (KpR.of_below HB0.out),HS.out.kp (n0:=n0) (KpR.of_below HB0.out),by have h1:=HK12.out;have h2:=HOK.out.acts;dsimp only;omega⟩;have HJ2:=lh (HJ.out _ _ _ HJ0.out HB0.out);obtain ⟨fn,tmps,assign,body,hy,hR⟩:=hY 8 pre _ W0 HJ2.out (by have h9:=HNN.out;unfold folP at h9;rw [if_pos rfl,List.length_singleton] at h9;omega) HAT.out;have HRd:=lh hR;clear hR;gi_wp2;refine HRd.out.mono ?_;rintro e W3 ⟨rfl,hJ3,hk3⟩;gi_wp2;refine bodyPost_ret (v:=.bool true) (by simp [results,Tryz.results114,go_sem]) rfl ?_;exact ⟨rfl,[⟨wl,Aw,nw,cw⟩],by unfold folP;rw [if_pos rfl];rfl,hJ3,(KpR.of_below HB0.out).trans hk3⟩
  ·
   have hvb:(v==(q:Int))=false:=by simpa using hvq
   have HVQ:=lh hvq;gi_wp2;refine ⟨fun _ h=>(by cases h),?_⟩;gi_wp2;refine bodyPost_ret (v:=.bool true) (by simp [results,Tryz.results114,go_sem]) rfl ?_;exact ⟨rfl,[],by unfold folP;rw [if_neg HVQ.out];rfl,by rw [List.append_nil];exact HJ.out _ _ _ HJ0.out HB0.out,KpR.of_below HB0.out⟩
 | succ d ih =>
  intro t v Aw nw cw wl pre W hbox hJ0 hr hs hnw htd hsz hv hNN;have hlen:=hr.len;have HBX0:=lh hbox;have HJ0:=lh hJ0;have HR:=lh hr;have HS:=lh hs;have HJ:=lh hJ;have HP:=lh hpl;have HV:=lh hv;have HNN:=lh hNN;have HOK:=lh hok;have HK12:=lh hk12;have HLN:=lh hlen;clear hbox hJ0 hr hs hJ hv hlen hNN;refine callsIn_of_wp Tryz.func114 rfl trivial ?_ rfl;simp only [Tryz.ntmps114,es,Nat.reduceAdd,Nat.reduceSub];gi_upto_region 1 with fail
  have hb0:Below W.heap.size W (W.alloc (.cells #[.int .i64 v,.int .i64 (t:Int)] 109)):=b_R.alloc n_R _;have HB0:=lh hb0;have HBX:=lh (HBX0.out.kp HP.out (KpR.of_below hb0));have HSB:=lh (Blk.new W 109 #[.int .i64 v,.int .i64 (t:Int)]);clear hb0;generalize (W.alloc (.cells #[.int .i64 v,.int .i64 (t:Int)] 109))=W0 at *
  obtain ⟨gw,hgw⟩:∃ g,W.heap.size=g:=⟨_,rfl⟩
  have HGW:Hid (W.heap.size≤gw):=lh (by omega);rw [hgw] at HSB ⊢;clear hgw;have HIH:=lh ih;clear ih;have htk:t<k:=by omega
  obtain ⟨x,hx⟩:∃ x,T.m.acts[t]? =some x:=⟨_,List.getElem?_eq_getElem (by omega)⟩
  obtain ⟨all,hA⟩:=HOK.out.at_ hx;have HX:=lh hx;have HAT:=lh hA
  have hfol:folP T.m T.L (q:Int) (d+1) t v wl=if cu T.m x≠v then folP T.m T.L (q:Int) d (t+1) v wl else (if 0≤toI T.m x then folP T.m T.L (q:Int) d (t+1) (toI T.m x) (wl++[(t:Int)+1]) else [])++(if eV T.m all x=au all v then [] else folP T.m T.L (q:Int) d (t+1) v wl):=by
   show (match T.m.acts[t]?,T.L[t]? with | some x,some all=>_ | _,_=>_)=_
   rw [hx,hA.ha]
  have HFO:=lh hfol;have ht12:t+1≤12:=by have h1:=HOK.out.acts;omega
  have htkI:((t:Int)==(k:Int))=false:=by simpa using (show ¬ (t:Int)=(k:Int) by omega)
  clear hx hA hfol;have c0:=HBX.out.bt.cell 0;have c0l:=HBX.out.bt.lt;have c3:=HBX.out.be.cell 0;have c3l:=HBX.out.be.lt;have c4:=HBX.out.bs.cell 0;have c5:=HBX.out.bs.cell 1;have c4l:=HBX.out.bs.lt;have c6:=HBX.out.by_.cell 0;have c6l:=HBX.out.by_.lt;have d0:=HSB.out.cell 0;have d1:=HSB.out.cell 1;have dl:=HSB.out.lt;gi_upto_region 4 with fail
  clear c0 c0l c3 c3l c4 c5 c4l c6 c6l d0 d1 dl;clear htkI;have HTA:=lh (HBX.out.tb.at_ (by have:=HB0.out.size;omega));obtain ⟨ba,oa,x9,e1,e2,e3,e4⟩:=ft nA (by omega) HTA.out.mix.acts (i:=t) (by have h1:=HTA.out.mix.lenA;have h2:=(g_E HX.out).1;omega);obtain rfl:x=x9:=Option.some.inj (HX.out.symm.trans e3);have HAA:=lh e1;have HAC:Hid (ba<n0∧∀ j u,x.vals[j]? =some u→W0.cell? ⟨ba,oa+t * 4+j,none⟩=some u):=lh ⟨by have h:=HBX.out.tb.mix.acts;obtain ⟨a9,h1,h2,_⟩:=h.2 (by have h1:=HTA.out.mix.lenA;have h2:=(g_E HX.out).1;omega);rw [e1] at h1;cases h1;exact h2,e4⟩;have hna:t<T.na:=by have h1:=HTA.out.mix.lenA;have h2:=(g_E HX.out).1;omega
  have HNA:=lh hna;clear e1 e2 e3 e4 hna;refine Gr.wpIn_flow_old (G:=KpR n0 n1) [([true,true,true,true,true,true,true,true,true],9)] [false,false,false,false,false,false,false,false,false,false,true,true,true,true,true] [] (by kernel_rfl) (by kernel_rfl) (by kernel_rfl) (av b_R 1) ?_;refine Gr.wpFlow_cons (A:=?AW1) rfl ?hw1 ?_
  case hw1 =>
   rintro σ hσ of hof hcl;have HOF:=lh hof;clear hof hcl;have c0:∀ z,(of z).cell? ⟨gt,0,none⟩=some (.pointer (some ⟨T.g,0,none⟩)):=fun z=>(HBX.out.kp HP.out (HOF.out z)).bt.cell 0;have c1:∀ z,(of z).cell? ⟨T.g,2,none⟩=some (.slice (some ⟨ba,oa,none⟩) T.na T.ca):=fun z=>(HBX.out.kp HP.out (HOF.out z)).tb.blk.cell 2 |>.trans (by rw [← HAA.out];rfl);have c2:∀ z,(of z).cell? ⟨T.g,4,none⟩=some (.slice T.AA T.nl T.cl):=fun z=>(HBX.out.kp HP.out (HOF.out z)).tb.blk.cell 4;have c3:∀ z,(of z).cell? ⟨ge,0,none⟩=some (.func (.func 114) #[] #[.pointer (some ⟨gs,0,none⟩),.pointer (some ⟨gy,0,none⟩),.pointer (some ⟨gt,0,none⟩),.pointer (some ⟨ge,0,none⟩)]):=fun z=>(HBX.out.kp HP.out (HOF.out z)).be.cell 0;have c4:∀ z,(of z).cell? ⟨gs,0,none⟩=some (.int .i64 (q:Int)):=fun z=>(HBX.out.kp HP.out (HOF.out z)).bs.cell 0;have c5:∀ z,(of z).cell? ⟨gs,1,none⟩=some (.int .i64 (k:Int)):=fun z=>(HBX.out.kp HP.out (HOF.out z)).bs.cell 1;have a0:∀ z,(of z).cell? ⟨ba,oa+t * 4,none⟩=some (.int .i64 x.kind):=fun z=>gR (HOF.out z) HAC.out.1 (HAC.out.2 0 _ rfl);have a1:∀ z,(of z).cell? ⟨ba,oa+t * 4+1,none⟩=some (.int .i64 x.fr):=fun z=>gR (HOF.out z) HAC.out.1 (HAC.out.2 1 _ rfl);have a2:∀ z,(of z).cell? ⟨ba,oa+t * 4+2,none⟩=some (.int .i64 x.to):=fun z=>gR (HOF.out z) HAC.out.1 (HAC.out.2 2 _ rfl);have a3:∀ z,(of z).cell? ⟨ba,oa+t * 4+3,none⟩=some (.int .i64 x.drops):=fun z=>gR (HOF.out z) HAC.out.1 (HAC.out.2 3 _ rfl);have hna:=HNA.out;have hfw:=hfT;simp only [bu]
   iterate 9 (gi_big_quiet_step (fail))
   refine wpQuietIn_nil ?_;exact rfl
  intro W1 hW;have HB1:=lh hW;clear hW;gi_wp2;refine ⟨trivial,(c_W (lN T x W1 ((HBX.out.kp HP.out (KpR.of_below HB1.out)).tb.at_ (by have h1:=HB0.out.size;have h2:=HB1.out.size;omega)) HAT.out.ok.kind)).mono ?_⟩;rintro e W2 ⟨rfl,hb⟩
  obtain ⟨fr,hfr⟩:∃ fr,cu T.m x=fr:=⟨_,rfl⟩
  obtain ⟨to,hto⟩:∃ to,toI T.m x=to:=⟨_,rfl⟩
  rw [hfr,hto];have HFR:=lh hfr;have HTO:=lh hto;have HB2:=lh (show Below W0.heap.size W0 W2 from HB1.out.trans (hb.mono HB1.out.size));have HBb:=lh hb;clear hfr hto hb;gi_wp2;refine ⟨trivial,KpR.of_below HBb.out,?_⟩;refine Gr.wpFlow_nil (A:=?AW2)  ?hw2 ?_
  case hw2 =>
   rintro σ hσ of hof hcl;have HOF:=lh hof;clear hof hcl;have hfw:=hfT;simp only [bu]
   iterate 5 (gi_big_quiet_step (fail))
   refine wpQuietIn_nil ?_;exact rfl
  intro W3 hW;have HB3:=lh (show Below W0.heap.size W0 W3 from HB2.out.trans (hW.mono HB2.out.size));have hbw3:=HB0.out.trans (HB3.out.mono HB0.out.size);have HK:=lh (show KpR n0 n1 W W3 from KpR.of_below hbw3);have HJC:=lh (HJ.out _ _ _ HJ0.out hbw3);replace HBX:=lh (HBX0.out.kp HP.out HK.out);replace HSB:=lh (HSB.out.below HB3.out HSB.out.lt);have HSZ:=lh (show n1≤W3.heap.size from Nat.le_trans hsz hbw3.size);clear hW hbw3 HB1 HB2 HB3 HBb HAC HAA HTA HNA HB0 HBX0;simp only [bu];refine eK ?_;by_cases hfv:fr=v
  ·
   have hfvb:(fr==v)=true:=by simpa using hfv
   have HFV:=lh hfv;clear hfv;have c0:=HBX.out.bt.cell 0;have c0l:=HBX.out.bt.lt;have c3:=HBX.out.be.cell 0;have c3l:=HBX.out.be.lt;have c4:=HBX.out.bs.cell 0;have c5:=HBX.out.bs.cell 1;have c4l:=HBX.out.bs.lt;have c6:=HBX.out.by_.cell 0;have c6l:=HBX.out.by_.lt;have d0:=HSB.out.cell 0;have d1:=HSB.out.cell 1;have dl:=HSB.out.lt;gi_upto_region 7 with fail
   clear c0 c0l c3 c3l c4 c5 c4l c6 c6l d0 d1 dl;clear hfvb;by_cases ht0:0≤to;have HT12:=lh ht12;have HGW9:Hid (n1≤gw):=lh (by have:=HGW.out;omega);clear ht12
   ·
    have HTB0:=lh ht0;have HTBB:Hid (decide (0≤to)=true):=lh (decide_eq_true ht0);clear ht0;refine Tr.wpIn_region_tree (G:=KpB n0 n1 W3.heap.size) (V0:=W3) [([],[true,true,true,true,true,true,true,true,true,false,true,true],[9,12]),([9],[],[12]),([12],[],[9]),([9,12],[],[13]),([9,12,13],[],[14]),([9,12,13,14],[false,false,false,false,false,false,false,false,false,false,false,false,false,false,false,true,true],[])] 5 [] (by kernel_rfl) (by kernel_rfl) (by kernel_rfl) (av b_R 1) ?_;refine Tr.wpTree_two (A:=?AW3) rfl rfl rfl ?hw3 ?_ ?_
    case hw3 =>
     rintro σ hσ of hof hcl;have HOF:=lh hof;clear hof hcl;have c0:∀ z,(of z).cell? ⟨gt,0,none⟩=some (.pointer (some ⟨T.g,0,none⟩)):=fun z=>(HBX.out.kp HP.out (KpB.kp (HOF.out z))).bt.cell 0;have c1:∀ z,(of z).cell? ⟨T.g,2,none⟩=some (.slice T.Aa T.na T.ca):=fun z=>(HBX.out.kp HP.out (KpB.kp (HOF.out z))).tb.blk.cell 2;have c2:∀ z,(of z).cell? ⟨T.g,4,none⟩=some (.slice T.AA T.nl T.cl):=fun z=>(HBX.out.kp HP.out (KpB.kp (HOF.out z))).tb.blk.cell 4;have c3:∀ z,(of z).cell? ⟨ge,0,none⟩=some (.func (.func 114) #[] #[.pointer (some ⟨gs,0,none⟩),.pointer (some ⟨gy,0,none⟩),.pointer (some ⟨gt,0,none⟩),.pointer (some ⟨ge,0,none⟩)]):=fun z=>(HBX.out.kp HP.out (KpB.kp (HOF.out z))).be.cell 0;have c4:∀ z,(of z).cell? ⟨gs,0,none⟩=some (.int .i64 (q:Int)):=fun z=>(HBX.out.kp HP.out (KpB.kp (HOF.out z))).bs.cell 0;have c5:∀ z,(of z).cell? ⟨gs,1,none⟩=some (.int .i64 (k:Int)):=fun z=>(HBX.out.kp HP.out (KpB.kp (HOF.out z))).bs.cell 1;have ht12:=HT12.out;have htb:=HTBB.out;have hfw:=hfT;simp only [bu]
     iterate 11 (gi_big_quiet_step (fail))
     refine wpQuietIn_nil ?_;exact rfl
    ·
     intro W4 hW;have HB4:=lh hW;clear hW;gi_wp2;refine ⟨trivial,(callsIn_wide.2 (iS Aw nw cw wl W4 (HR.out.safe HS.out (HK.out.trans (KpR.of_below HB4.out))) (by unfold maxLen;have:=HT12.out;omega) (by have:=HT12.out;omega))).mono ?_⟩;rintro e W5 ⟨A9,c9,rfl,hO,hCn,hb⟩;have HO:=lh (show Own W5 W3.heap.size 3 1 A9 nw c9 (wl.map (Value.int .i64)) from hO.mono HB4.out.size);have HBc:=lh hb;clear hO hCn hb;gi_wp2
     first | refine ⟨trivial,KpB.of_below HBc.out,?_⟩ | refine ⟨KpB.of_below HBc.out,?_⟩
     refine Tr.wpTree_one (m:=[]) rfl rfl Gr.Quietly.none ?_;intro W6 hW;have HB6:=lh (show Below W3.heap.size W3 W6 from HB4.out.trans ((HBc.out.trans (hW.mono HBc.out.size)).mono HB4.out.size));replace HO:=lh (HO.out.below hW n_R);clear hW HBc HB4;gi_wp2;have hbs:Below W6.heap.size W6 (W6.alloc (.cells #[.int .i64 ((t:Int)+1)] 3)):=b_R.alloc n_R _
     first | refine ⟨trivial,KpB.of_below hbs,?_⟩ | refine ⟨KpB.of_below hbs,?_⟩
     have HSL:=lh (show du (W6.alloc (.cells #[.int .i64 ((t:Int)+1)] 3)) (W6.alloc (.cells #[.int .i64 ((t:Int)+1)] 3)).heap.size (some ⟨W6.heap.size,0,none⟩) 1 [(t:Int)+1] from du.new W6 3 [(t:Int)+1] _ (by simp));have HBs:=lh hbs;clear hbs;generalize (W6.alloc (.cells #[.int .i64 ((t:Int)+1)] 3))=W7 at *
     obtain ⟨gb,hgb⟩:∃ g,W6.heap.size=g:=⟨_,rfl⟩
     rw [hgb] at HSL ⊢;clear hgb;refine Tr.wpTree_one (m:=[]) rfl rfl Gr.Quietly.none ?_;intro W8 hW;have HB8:=lh (show Below W3.heap.size W3 W8 from HB6.out.trans ((HBs.out.trans (hW.mono HBs.out.size)).mono HB6.out.size));replace HO:=lh ((HO.out.below HBs.out n_R).below hW n_R);replace HSL:=lh ((HSL.out.below hW).more hW.size);clear hW HBs HB6;refine kb (by first | rfl | (simp [Region.wanted,yielded];done) | trace_state) ?_;refine eJ rfl _ _ rfl fW rfl HO.out rfl HSL.out (fY [(t:Int)+1]) (by unfold maxLen;have:=HT12.out;omega) (by have:=HT12.out;omega) (HB8.out.size) ?_;intro A10 c10 W9 hown hg hA;have HO10:=lh (show Own W9 W3.heap.size 3 1 A10 (nw+1) c10 ((wl++[(t:Int)+1]).map (Value.int .i64)) from by rw [List.map_append];exact hown);have HK9:=lh (show KpB n0 n1 W3.heap.size W3 W9 from (KpB.of_below HB8.out).trans (KpB.of_grown hg (fun k e=>by have h1:=fu HO.out k e;exact h1.1)));have hup:KpB n0 n1 W3.heap.size W8 W9:=KpB.of_grown hg (fun k e=>by have h1:=fu HO.out k e;exact h1.1);have hbelow9:Below W3.heap.size W3 W9:=HB8.out.grown hg HB8.out.size (fun k e=>(fu HO.out k e).1);have HBE9:=lh hbelow9;clear hown hg hA hbelow9;gi_wp2
     first | refine ⟨rfl,hup,?_⟩ | refine ⟨trivial,hup,?_⟩ | refine ⟨hup,?_⟩
     clear hup HO HSL HB8;refine Tr.wpTree_one (m:=[]) rfl rfl Gr.Quietly.none ?_;intro W10 hW;have HO11:=lh (HO10.out.below hW n_R);have hbe10:Below W3.heap.size W3 W10:=HBE9.out.trans (hW.mono HBE9.out.size);have HBE10:=lh hbe10;have HBX10:=lh (HBX.out.kp HP.out (KpR.of_below hbe10));have HSZ10:=lh (Nat.le_trans HSZ.out hbe10.size);have HJ10:=lh (HJ.out _ _ _ HJC.out hbe10);clear hW hbe10 HO10 HBE9 HK9;have htq:=gZ HOK.out.vess x;rw [HTO.out] at htq;have hih:=HIH.out (t+1) to A10 (nw+1) c10 (wl++[(t:Int)+1]) pre W10 HBX10.out HJ10.out (fG HO11.out n_R) (Safe.own HO11.out HSZ.out) (by omega) (by omega) HSZ10.out ⟨HTB0.out,htq⟩ (by have h9:=HNN.out;rw [HFO.out,if_neg (by rw [HFR.out,HFV.out];simp),HTO.out,if_pos HTB0.out] at h9;simp only [List.length_append] at h9;omega);rw [show ((t+1:Nat):Int)=(t:Int)+1 from by omega] at hih;gi_wp2;refine ⟨trivial,(c_W hih).mono ?_⟩;rintro e W11 ⟨rfl,xs,hxs,hJ11,hk11⟩;have HXS:=lh hxs;have HK11:=lh (show KpB n0 n1 W3.heap.size W10 W11 from KpB.of_kp hk11);have HK12':=lh (show KpR n0 n1 W3 W11 from (KpR.of_below HBE10.out).trans hk11);have HJ11:=lh hJ11;clear hxs hJ11 hk11 hih htq HJ10 HBX10 HSZ10 HBE10 HO11;gi_wp2
     first | refine ⟨rfl,HK11.out,?_⟩ | refine ⟨trivial,HK11.out,?_⟩ | refine ⟨HK11.out,?_⟩
     clear HK11;refine Tr.wpTree_end (A:=?AW4) rfl ?hw4 ?_
     case hw4 =>
      rintro σ hσ of hof hcl;have HOF:=lh hof;clear hof hcl;have htb:=HTBB.out;have hfw:=hfT;simp only [bu]
      iterate 2 (gi_big_quiet_step (fail))
      refine wpQuietIn_nil ?_;exact rfl
     intro W12 hW;have HK7:=lh (show KpR n0 n1 W3 W12 from HK12'.out.trans (KpR.of_below hW));replace HJC:=lh (HJ.out _ _ _ HJ11.out hW);clear hW HK12' HJ11;simp only [bu];refine eK ?_;replace HBX:=lh (HBX.out.kp HP.out HK7.out);replace HSB:=lh (HK7.out.blk (.inr HGW9.out) HSB.out);replace HSZ:=lh (Nat.le_trans HSZ.out HK7.out.1);replace HK:=lh (HK.out.trans HK7.out);clear HK7;gi_wp2;have hfq:=fp HOK.out.vess x;rw [HFR.out] at hfq
     obtain ⟨vq,hvq⟩:∃ vq:Nat,v=(vq:Int):=⟨v.toNat,by have:=HV.out;omega⟩
     have hvq4:vq<4:=by have:=HV.out;omega
     have HTA:=lh (HBX.out.tb.at_ (by have:=HSZ.out;omega))
     have hil:t<T.nl:=by
      have h1:=fH fy (by omega) HTA.out.all;have h2:=HOK.out.long;have h3:=(g_E HX.out).1;omega
     obtain ⟨bl,ol,all9,e1,e2,e3,e4⟩:=ft fy (by omega) HTA.out.all hil;obtain rfl:all=all9:=Option.some.inj (HAT.out.ha.symm.trans e3);have HAA:=lh e1;have HAC:Hid (bl<n0∧W12.cell? ⟨bl,ol+t * 4+vq,none⟩=some (.int .i64 (au all (vq:Int)))):=lh ⟨by obtain ⟨a9,h1,h2,_⟩:=HBX.out.tb.all.2 (by omega);rw [e1] at h1;cases h1;exact h2,e4 vq _ (iO all hvq4)⟩;have HVQ:=lh hvq;have HIL:=lh hil;have HVQ4:=lh hvq4;have hnl:T.nl≤13:=HTA.out.small.2.2.2;have HNL:=lh hnl
     obtain ⟨n,hn⟩:∃ n,eV T.m all x=n:=⟨_,rfl⟩
     have HN:=lh hn;clear e1 e2 e3 e4 hfq hvq hil hvq4 hn hnl;by_cases hnal:n=au all v
     ·
      have hnb:(n==au all (vq:Int))=true:=by rw [← HVQ.out];simpa using hnal
      have HNB:=lh hnb;have HNAL:=lh hnal;clear hnb hnal;refine Gr.wpIn_flow_old (G:=KpR n0 n1) [([true,true,false,true,true,true,true,true,true,true,true,true],2),([false,false,false,false,false,false,false,false,false,false,false,false,true,true,true,true,true,true,true,true,true],21)] [false,false,false,false,false,false,false,false,false,false,false,false,false,false,false,false,false,false,false,false,false,false,true,true] [] (by kernel_rfl) (by kernel_rfl) (by kernel_rfl) (av b_R 1) ?_;refine Gr.wpFlow_cons (A:=?AW5) rfl ?hw5 ?_
      case hw5 =>
       rintro σ hσ of hof hcl;have HOF:=lh hof;clear hof hcl;have c0:∀ z,(of z).cell? ⟨gt,0,none⟩=some (.pointer (some ⟨T.g,0,none⟩)):=fun z=>(HBX.out.kp HP.out (HOF.out z)).bt.cell 0;have c1:∀ z,(of z).cell? ⟨T.g,2,none⟩=some (.slice T.Aa T.na T.ca):=fun z=>(HBX.out.kp HP.out (HOF.out z)).tb.blk.cell 2;have c2:∀ z,(of z).cell? ⟨T.g,4,none⟩=some (.slice (some ⟨bl,ol,none⟩) T.nl T.cl):=fun z=>(HBX.out.kp HP.out (HOF.out z)).tb.blk.cell 4 |>.trans (by rw [← HAA.out];rfl);have c3:∀ z,(of z).cell? ⟨ge,0,none⟩=some (.func (.func 114) #[] #[.pointer (some ⟨gs,0,none⟩),.pointer (some ⟨gy,0,none⟩),.pointer (some ⟨gt,0,none⟩),.pointer (some ⟨ge,0,none⟩)]):=fun z=>(HBX.out.kp HP.out (HOF.out z)).be.cell 0;have c4:∀ z,(of z).cell? ⟨gs,0,none⟩=some (.int .i64 (q:Int)):=fun z=>(HBX.out.kp HP.out (HOF.out z)).bs.cell 0;have c5:∀ z,(of z).cell? ⟨gs,1,none⟩=some (.int .i64 (k:Int)):=fun z=>(HBX.out.kp HP.out (HOF.out z)).bs.cell 1;have ch:∀ z,(of z).cell? ⟨bl,ol+t * 4+vq,none⟩=some (.int .i64 (au all (vq:Int))):=fun z=>gR (HOF.out z) HAC.out.1 HAC.out.2;have b0:∀ z,(of z).cell? ⟨gw,0,none⟩=some (.int .i64 v):=fun z=>((HOF.out z).blk (.inr HGW9.out) HSB.out).cell 0;have hil:=HIL.out;have hnl:=HNL.out;have hv4:=HVQ4.out;have hvi:(vq:Int)<4:=by omega
       have hvv:=HFV.out;have hvq:=HVQ.out;have hnb:=HNB.out;have hfw:=hfT;simp only [bu]
       iterate 11 (gi_big_quiet_step (fail))
       refine wpQuietIn_nil ?_;exact rfl
      intro W20 hW;have HB20:=lh hW;clear hW;gi_wp2;refine ⟨trivial,(c_W (ic T t x all W20 ((HBX.out.kp HP.out (KpR.of_below HB20.out)).tb.at_ (by have h1:=HSZ.out;have h2:=HB20.out.size;omega)) HX.out HAT.out.ha HAT.out.ok.kind HAT.out.four)).mono ?_⟩;rintro e W21 ⟨rfl,hb⟩;rw [HN.out];have HB21:=lh (show Below W12.heap.size W12 W21 from HB20.out.trans (hb.mono HB20.out.size));have HBb:=lh hb;clear hb;gi_wp2;refine ⟨trivial,KpR.of_below HBb.out,?_⟩;have HK21:=lh (show KpR n0 n1 W12 W21 from KpR.of_below HB21.out);replace HBX:=lh (HBX.out.kp HP.out HK21.out);replace HSB:=lh (HK21.out.blk (.inr HGW9.out) HSB.out);replace HSZ:=lh (Nat.le_trans HSZ.out HK21.out.1);replace HK:=lh (HK.out.trans HK21.out);replace HJC:=lh (HJ.out _ _ _ HJC.out HB21.out);clear HK21 HB21 HBb HB20 HAC;refine Gr.wpFlow_cons (A:=?AW6) rfl ?hw6 ?_
      case hw6 =>
       rintro σ hσ of hof hcl;have HOF:=lh hof;clear hof hcl;have c0:∀ z,(of z).cell? ⟨gt,0,none⟩=some (.pointer (some ⟨T.g,0,none⟩)):=fun z=>(HBX.out.kp HP.out (HOF.out z)).bt.cell 0;have c1:∀ z,(of z).cell? ⟨T.g,2,none⟩=some (.slice T.Aa T.na T.ca):=fun z=>(HBX.out.kp HP.out (HOF.out z)).tb.blk.cell 2;have c2:∀ z,(of z).cell? ⟨T.g,4,none⟩=some (.slice T.AA T.nl T.cl):=fun z=>(HBX.out.kp HP.out (HOF.out z)).tb.blk.cell 4;have c3:∀ z,(of z).cell? ⟨ge,0,none⟩=some (.func (.func 114) #[] #[.pointer (some ⟨gs,0,none⟩),.pointer (some ⟨gy,0,none⟩),.pointer (some ⟨gt,0,none⟩),.pointer (some ⟨ge,0,none⟩)]):=fun z=>(HBX.out.kp HP.out (HOF.out z)).be.cell 0;have c4:∀ z,(of z).cell? ⟨gs,0,none⟩=some (.int .i64 (q:Int)):=fun z=>(HBX.out.kp HP.out (HOF.out z)).bs.cell 0;have c5:∀ z,(of z).cell? ⟨gs,1,none⟩=some (.int .i64 (k:Int)):=fun z=>(HBX.out.kp HP.out (HOF.out z)).bs.cell 1;have b0:∀ z,(of z).cell? ⟨gw,0,none⟩=some (.int .i64 v):=fun z=>((HOF.out z).blk (.inr HGW9.out) HSB.out).cell 0;have hnb:=HNB.out;have ht12:=HT12.out;have hfw:=hfT;simp only [bu]
       iterate 9 (gi_big_quiet_step (fail))
       refine wpQuietIn_nil ?_;exact rfl
      intro W22 hW;have HB22:=lh hW;clear hW;gi_wp2;refine ⟨fun _ h=>(by cases h),?_⟩;gi_wp2
      first | refine ⟨rfl,KpR.of_below b_R,?_⟩ | refine ⟨trivial,KpR.of_below b_R,?_⟩ | refine ⟨KpR.of_below b_R,?_⟩
      have HK22:=lh (show KpR n0 n1 W21 W22 from KpR.of_below HB22.out);replace HK:=lh (HK.out.trans HK22.out);have HJE:=lh (HJ.out _ _ _ HJC.out HB22.out);clear HK22;refine Gr.wpFlow_nil (A:=?AW7)  ?hw7 ?_
      case hw7 =>
       rintro σ hσ of hof hcl;have HOF:=lh hof;clear hof hcl;have hnb:=HNB.out;have hfw:=hfT;simp only [bu]
       iterate 2 (gi_big_quiet_step (fail))
       refine wpQuietIn_nil ?_;exact rfl
      intro W24 hW;have HB24:=lh hW;clear hW;simp only [bu];refine eK ?_;gi_wp2;refine bodyPost_ret (v:=.bool true) (by simp [results,Tryz.results114,go_sem]) rfl ?_;have HJF:=HJ.out _ _ _ HJE.out HB24.out;refine ⟨rfl,xs,?_,?_,HK.out.trans (KpR.of_below HB24.out)⟩
      ·rw [HFO.out,if_neg (by rw [HFR.out,HFV.out];simp),HTO.out,HN.out,if_pos HTB0.out,if_pos HNAL.out]
       rw [HXS.out,List.append_nil]
      ·exact HJF
     ·
      have hnb:(n==au all (vq:Int))=false:=by rw [← HVQ.out];simpa using hnal
      have HNB:=lh hnb;have HNAL:=lh hnal;clear hnb hnal;refine Gr.wpIn_flow_old (G:=KpR n0 n1) [([true,true,false,true,true,true,true,true,true,true,true,true],2),([false,false,false,false,false,false,false,false,false,false,false,false,true,true,true,true,true,true,true,true,true],21)] [false,false,false,false,false,false,false,false,false,false,false,false,false,false,false,false,false,false,false,false,false,false,true,true] [] (by kernel_rfl) (by kernel_rfl) (by kernel_rfl) (av b_R 1) ?_;refine Gr.wpFlow_cons (A:=?AW8) rfl ?hw8 ?_
      case hw8 =>
       rintro σ hσ of hof hcl;have HOF:=lh hof;clear hof hcl;have c0:∀ z,(of z).cell? ⟨gt,0,none⟩=some (.pointer (some ⟨T.g,0,none⟩)):=fun z=>(HBX.out.kp HP.out (HOF.out z)).bt.cell 0;have c1:∀ z,(of z).cell? ⟨T.g,2,none⟩=some (.slice T.Aa T.na T.ca):=fun z=>(HBX.out.kp HP.out (HOF.out z)).tb.blk.cell 2;have c2:∀ z,(of z).cell? ⟨T.g,4,none⟩=some (.slice (some ⟨bl,ol,none⟩) T.nl T.cl):=fun z=>(HBX.out.kp HP.out (HOF.out z)).tb.blk.cell 4 |>.trans (by rw [← HAA.out];rfl);have c3:∀ z,(of z).cell? ⟨ge,0,none⟩=some (.func (.func 114) #[] #[.pointer (some ⟨gs,0,none⟩),.pointer (some ⟨gy,0,none⟩),.pointer (some ⟨gt,0,none⟩),.pointer (some ⟨ge,0,none⟩)]):=fun z=>(HBX.out.kp HP.out (HOF.out z)).be.cell 0;have c4:∀ z,(of z).cell? ⟨gs,0,none⟩=some (.int .i64 (q:Int)):=fun z=>(HBX.out.kp HP.out (HOF.out z)).bs.cell 0;have c5:∀ z,(of z).cell? ⟨gs,1,none⟩=some (.int .i64 (k:Int)):=fun z=>(HBX.out.kp HP.out (HOF.out z)).bs.cell 1;have ch:∀ z,(of z).cell? ⟨bl,ol+t * 4+vq,none⟩=some (.int .i64 (au all (vq:Int))):=fun z=>gR (HOF.out z) HAC.out.1 HAC.out.2;have b0:∀ z,(of z).cell? ⟨gw,0,none⟩=some (.int .i64 v):=fun z=>((HOF.out z).blk (.inr HGW9.out) HSB.out).cell 0;have hil:=HIL.out;have hnl:=HNL.out;have hv4:=HVQ4.out;have hvi:(vq:Int)<4:=by omega
       have hvv:=HFV.out;have hvq:=HVQ.out;have hnb:=HNB.out;have hfw:=hfT;simp only [bu]
       iterate 11 (gi_big_quiet_step (fail))
       refine wpQuietIn_nil ?_;exact rfl
      intro W20 hW;have HB20:=lh hW;clear hW;gi_wp2;refine ⟨trivial,(c_W (ic T t x all W20 ((HBX.out.kp HP.out (KpR.of_below HB20.out)).tb.at_ (by have h1:=HSZ.out;have h2:=HB20.out.size;omega)) HX.out HAT.out.ha HAT.out.ok.kind HAT.out.four)).mono ?_⟩;rintro e W21 ⟨rfl,hb⟩;rw [HN.out];have HB21:=lh (show Below W12.heap.size W12 W21 from HB20.out.trans (hb.mono HB20.out.size));have HBb:=lh hb;clear hb;gi_wp2;refine ⟨trivial,KpR.of_below HBb.out,?_⟩;have HK21:=lh (show KpR n0 n1 W12 W21 from KpR.of_below HB21.out);replace HBX:=lh (HBX.out.kp HP.out HK21.out);replace HSB:=lh (HK21.out.blk (.inr HGW9.out) HSB.out);replace HSZ:=lh (Nat.le_trans HSZ.out HK21.out.1);replace HK:=lh (HK.out.trans HK21.out);replace HJC:=lh (HJ.out _ _ _ HJC.out HB21.out);clear HK21 HB21 HBb HB20 HAC;refine Gr.wpFlow_cons (A:=?AW9) rfl ?hw9 ?_
      case hw9 =>
       rintro σ hσ of hof hcl;have HOF:=lh hof;clear hof hcl;have c0:∀ z,(of z).cell? ⟨gt,0,none⟩=some (.pointer (some ⟨T.g,0,none⟩)):=fun z=>(HBX.out.kp HP.out (HOF.out z)).bt.cell 0;have c1:∀ z,(of z).cell? ⟨T.g,2,none⟩=some (.slice T.Aa T.na T.ca):=fun z=>(HBX.out.kp HP.out (HOF.out z)).tb.blk.cell 2;have c2:∀ z,(of z).cell? ⟨T.g,4,none⟩=some (.slice T.AA T.nl T.cl):=fun z=>(HBX.out.kp HP.out (HOF.out z)).tb.blk.cell 4;have c3:∀ z,(of z).cell? ⟨ge,0,none⟩=some (.func (.func 114) #[] #[.pointer (some ⟨gs,0,none⟩),.pointer (some ⟨gy,0,none⟩),.pointer (some ⟨gt,0,none⟩),.pointer (some ⟨ge,0,none⟩)]):=fun z=>(HBX.out.kp HP.out (HOF.out z)).be.cell 0;have c4:∀ z,(of z).cell? ⟨gs,0,none⟩=some (.int .i64 (q:Int)):=fun z=>(HBX.out.kp HP.out (HOF.out z)).bs.cell 0;have c5:∀ z,(of z).cell? ⟨gs,1,none⟩=some (.int .i64 (k:Int)):=fun z=>(HBX.out.kp HP.out (HOF.out z)).bs.cell 1;have b0:∀ z,(of z).cell? ⟨gw,0,none⟩=some (.int .i64 v):=fun z=>((HOF.out z).blk (.inr HGW9.out) HSB.out).cell 0;have hnb:=HNB.out;have ht12:=HT12.out;have hfw:=hfT;simp only [bu]
       iterate 9 (gi_big_quiet_step (fail))
       refine wpQuietIn_nil ?_;exact rfl
      intro W22 hW;have HB22:=lh hW;clear hW;have HK22:=lh (show KpR n0 n1 W21 W22 from KpR.of_below HB22.out);replace HBX:=lh (HBX.out.kp HP.out HK22.out);replace HSZ:=lh (Nat.le_trans HSZ.out HK22.out.1);replace HK:=lh (HK.out.trans HK22.out);replace HJC:=lh (HJ.out _ _ _ HJC.out HB22.out);clear HK22;have hih:=HIH.out (t+1) v Aw nw cw wl (pre++xs) W22 HBX.out HJC.out (HR.out.safe HS.out HK.out) (HS.out.kp HK.out) (by omega) (by omega) HSZ.out HV.out (by have h9:=HNN.out;rw [HFO.out,if_neg (by rw [HFR.out,HFV.out];simp),HTO.out,HN.out,if_pos HTB0.out,if_neg HNAL.out] at h9;have h8:=congrArg List.length HXS.out;rw [List.length_map] at h8;simp only [List.length_append] at h9 ⊢;omega);rw [show ((t+1:Nat):Int)=(t:Int)+1 from by omega] at hih;gi_wp2;refine ⟨trivial,(c_W hih).mono ?_⟩;rintro e W23 ⟨rfl,ys,hys,hJ23,hk23⟩;have HYS:=lh hys;have HJE:=lh hJ23;have HK23:=lh hk23;replace HK:=lh (HK.out.trans HK23.out);clear hys hJ23 hk23 hih;gi_wp2;refine ⟨trivial,HK23.out,?_⟩;clear HK23;refine Gr.wpFlow_nil (A:=?AW10)  ?hw10 ?_
      case hw10 =>
       rintro σ hσ of hof hcl;have HOF:=lh hof;clear hof hcl;have hnb:=HNB.out;have hfw:=hfT;simp only [bu]
       iterate 2 (gi_big_quiet_step (fail))
       refine wpQuietIn_nil ?_;exact rfl
      intro W24 hW;have HB24:=lh hW;clear hW;simp only [bu];refine eK ?_;gi_wp2;refine bodyPost_ret (v:=.bool true) (by simp [results,Tryz.results114,go_sem]) rfl ?_;have HJF:=HJ.out _ _ _ HJE.out HB24.out;refine ⟨rfl,(xs++ys),?_,?_,HK.out.trans (KpR.of_below HB24.out)⟩
      ·rw [HFO.out,if_neg (by rw [HFR.out,HFV.out];simp),HTO.out,HN.out,if_pos HTB0.out,if_neg HNAL.out]
       rw [List.map_append,HXS.out,HYS.out]
      ·rw [← List.append_assoc];exact HJF
    ·
     intro W4 hW;have HB4:=lh hW;clear hW;gi_wp2;have hbs:Below W4.heap.size W4 (W4.alloc (.cells #[.int .i64 ((t:Int)+1)] 3)):=b_R.alloc n_R _
     first | refine ⟨trivial,KpB.of_below hbs,?_⟩ | refine ⟨KpB.of_below hbs,?_⟩
     have HSL:=lh (show du (W4.alloc (.cells #[.int .i64 ((t:Int)+1)] 3)) (W4.alloc (.cells #[.int .i64 ((t:Int)+1)] 3)).heap.size (some ⟨W4.heap.size,0,none⟩) 1 [(t:Int)+1] from du.new W4 3 [(t:Int)+1] _ (by simp));have HBs:=lh hbs;clear hbs;generalize (W4.alloc (.cells #[.int .i64 ((t:Int)+1)] 3))=W5 at *
     obtain ⟨gb,hgb⟩:∃ g,W4.heap.size=g:=⟨_,rfl⟩
     rw [hgb] at HSL ⊢;clear hgb;refine Tr.wpTree_one (m:=[]) rfl rfl Gr.Quietly.none ?_;intro W6 hW;have HB6:=lh (show Below W3.heap.size W3 W6 from HB4.out.trans ((HBs.out.trans (hW.mono HBs.out.size)).mono HB4.out.size));replace HSL:=lh ((HSL.out.below hW).more hW.size);clear hW HBs HB4;gi_wp2;refine ⟨trivial,(callsIn_wide.2 (iS Aw nw cw wl W6 (HR.out.safe HS.out (HK.out.trans (KpR.of_below HB6.out))) (by unfold maxLen;have:=HT12.out;omega) (by have:=HT12.out;omega))).mono ?_⟩;rintro e W7 ⟨A9,c9,rfl,hO,hCn,hb⟩;have HO:=lh (show Own W7 W3.heap.size 3 1 A9 nw c9 (wl.map (Value.int .i64)) from hO.mono HB6.out.size);have HBc:=lh hb;clear hO hCn hb;gi_wp2
     first | refine ⟨trivial,KpB.of_below HBc.out,?_⟩ | refine ⟨KpB.of_below HBc.out,?_⟩
     refine Tr.wpTree_one (m:=[]) rfl rfl Gr.Quietly.none ?_;intro W8 hW;have HB8:=lh (show Below W3.heap.size W3 W8 from HB6.out.trans ((HBc.out.trans (hW.mono HBc.out.size)).mono HB6.out.size));replace HO:=lh (HO.out.below hW n_R);replace HSL:=lh (((HSL.out.below HBc.out).more HBc.out.size).below hW |>.more hW.size);clear hW HBc HB6;refine kb (by first | rfl | (simp [Region.wanted,yielded];done) | trace_state) ?_;refine eJ rfl _ _ rfl fW rfl HO.out rfl HSL.out (fY [(t:Int)+1]) (by unfold maxLen;have:=HT12.out;omega) (by have:=HT12.out;omega) (HB8.out.size) ?_;intro A10 c10 W9 hown hg hA;have HO10:=lh (show Own W9 W3.heap.size 3 1 A10 (nw+1) c10 ((wl++[(t:Int)+1]).map (Value.int .i64)) from by rw [List.map_append];exact hown);have HK9:=lh (show KpB n0 n1 W3.heap.size W3 W9 from (KpB.of_below HB8.out).trans (KpB.of_grown hg (fun k e=>by have h1:=fu HO.out k e;exact h1.1)));have hup:KpB n0 n1 W3.heap.size W8 W9:=KpB.of_grown hg (fun k e=>by have h1:=fu HO.out k e;exact h1.1);have hbelow9:Below W3.heap.size W3 W9:=HB8.out.grown hg HB8.out.size (fun k e=>(fu HO.out k e).1);have HBE9:=lh hbelow9;clear hown hg hA hbelow9;gi_wp2
     first | refine ⟨rfl,hup,?_⟩ | refine ⟨trivial,hup,?_⟩ | refine ⟨hup,?_⟩
     clear hup HO HSL HB8;refine Tr.wpTree_one (m:=[]) rfl rfl Gr.Quietly.none ?_;intro W10 hW;have HO11:=lh (HO10.out.below hW n_R);have hbe10:Below W3.heap.size W3 W10:=HBE9.out.trans (hW.mono HBE9.out.size);have HBE10:=lh hbe10;have HBX10:=lh (HBX.out.kp HP.out (KpR.of_below hbe10));have HSZ10:=lh (Nat.le_trans HSZ.out hbe10.size);have HJ10:=lh (HJ.out _ _ _ HJC.out hbe10);clear hW hbe10 HO10 HBE9 HK9;have htq:=gZ HOK.out.vess x;rw [HTO.out] at htq;have hih:=HIH.out (t+1) to A10 (nw+1) c10 (wl++[(t:Int)+1]) pre W10 HBX10.out HJ10.out (fG HO11.out n_R) (Safe.own HO11.out HSZ.out) (by omega) (by omega) HSZ10.out ⟨HTB0.out,htq⟩ (by have h9:=HNN.out;rw [HFO.out,if_neg (by rw [HFR.out,HFV.out];simp),HTO.out,if_pos HTB0.out] at h9;simp only [List.length_append] at h9;omega);rw [show ((t+1:Nat):Int)=(t:Int)+1 from by omega] at hih;gi_wp2;refine ⟨trivial,(c_W hih).mono ?_⟩;rintro e W11 ⟨rfl,xs,hxs,hJ11,hk11⟩;have HXS:=lh hxs;have HK11:=lh (show KpB n0 n1 W3.heap.size W10 W11 from KpB.of_kp hk11);have HK12':=lh (show KpR n0 n1 W3 W11 from (KpR.of_below HBE10.out).trans hk11);have HJ11:=lh hJ11;clear hxs hJ11 hk11 hih htq HJ10 HBX10 HSZ10 HBE10 HO11;gi_wp2
     first | refine ⟨rfl,HK11.out,?_⟩ | refine ⟨trivial,HK11.out,?_⟩ | refine ⟨HK11.out,?_⟩
     clear HK11;refine Tr.wpTree_end (A:=?AW11) rfl ?hw11 ?_
     case hw11 =>
      rintro σ hσ of hof hcl;have HOF:=lh hof;clear hof hcl;have htb:=HTBB.out;have hfw:=hfT;simp only [bu]
      iterate 2 (gi_big_quiet_step (fail))
      refine wpQuietIn_nil ?_;exact rfl
     intro W12 hW;have HK7:=lh (show KpR n0 n1 W3 W12 from HK12'.out.trans (KpR.of_below hW));replace HJC:=lh (HJ.out _ _ _ HJ11.out hW);clear hW HK12' HJ11;simp only [bu];refine eK ?_;replace HBX:=lh (HBX.out.kp HP.out HK7.out);replace HSB:=lh (HK7.out.blk (.inr HGW9.out) HSB.out);replace HSZ:=lh (Nat.le_trans HSZ.out HK7.out.1);replace HK:=lh (HK.out.trans HK7.out);clear HK7;gi_wp2;have hfq:=fp HOK.out.vess x;rw [HFR.out] at hfq
     obtain ⟨vq,hvq⟩:∃ vq:Nat,v=(vq:Int):=⟨v.toNat,by have:=HV.out;omega⟩
     have hvq4:vq<4:=by have:=HV.out;omega
     have HTA:=lh (HBX.out.tb.at_ (by have:=HSZ.out;omega))
     have hil:t<T.nl:=by
      have h1:=fH fy (by omega) HTA.out.all;have h2:=HOK.out.long;have h3:=(g_E HX.out).1;omega
     obtain ⟨bl,ol,all9,e1,e2,e3,e4⟩:=ft fy (by omega) HTA.out.all hil;obtain rfl:all=all9:=Option.some.inj (HAT.out.ha.symm.trans e3);have HAA:=lh e1;have HAC:Hid (bl<n0∧W12.cell? ⟨bl,ol+t * 4+vq,none⟩=some (.int .i64 (au all (vq:Int)))):=lh ⟨by obtain ⟨a9,h1,h2,_⟩:=HBX.out.tb.all.2 (by omega);rw [e1] at h1;cases h1;exact h2,e4 vq _ (iO all hvq4)⟩;have HVQ:=lh hvq;have HIL:=lh hil;have HVQ4:=lh hvq4;have hnl:T.nl≤13:=HTA.out.small.2.2.2;have HNL:=lh hnl
     obtain ⟨n,hn⟩:∃ n,eV T.m all x=n:=⟨_,rfl⟩
     have HN:=lh hn;clear e1 e2 e3 e4 hfq hvq hil hvq4 hn hnl;by_cases hnal:n=au all v
     ·
      have hnb:(n==au all (vq:Int))=true:=by rw [← HVQ.out];simpa using hnal
      have HNB:=lh hnb;have HNAL:=lh hnal;clear hnb hnal;refine Gr.wpIn_flow_old (G:=KpR n0 n1) [([true,true,false,true,true,true,true,true,true,true,true,true],2),([false,false,false,false,false,false,false,false,false,false,false,false,true,true,true,true,true,true,true,true,true],21)] [false,false,false,false,false,false,false,false,false,false,false,false,false,false,false,false,false,false,false,false,false,false,true,true] [] (by kernel_rfl) (by kernel_rfl) (by kernel_rfl) (av b_R 1) ?_;refine Gr.wpFlow_cons (A:=?AW12) rfl ?hw12 ?_
      case hw12 =>
       rintro σ hσ of hof hcl;have HOF:=lh hof;clear hof hcl;have c0:∀ z,(of z).cell? ⟨gt,0,none⟩=some (.pointer (some ⟨T.g,0,none⟩)):=fun z=>(HBX.out.kp HP.out (HOF.out z)).bt.cell 0;have c1:∀ z,(of z).cell? ⟨T.g,2,none⟩=some (.slice T.Aa T.na T.ca):=fun z=>(HBX.out.kp HP.out (HOF.out z)).tb.blk.cell 2;have c2:∀ z,(of z).cell? ⟨T.g,4,none⟩=some (.slice (some ⟨bl,ol,none⟩) T.nl T.cl):=fun z=>(HBX.out.kp HP.out (HOF.out z)).tb.blk.cell 4 |>.trans (by rw [← HAA.out];rfl);have c3:∀ z,(of z).cell? ⟨ge,0,none⟩=some (.func (.func 114) #[] #[.pointer (some ⟨gs,0,none⟩),.pointer (some ⟨gy,0,none⟩),.pointer (some ⟨gt,0,none⟩),.pointer (some ⟨ge,0,none⟩)]):=fun z=>(HBX.out.kp HP.out (HOF.out z)).be.cell 0;have c4:∀ z,(of z).cell? ⟨gs,0,none⟩=some (.int .i64 (q:Int)):=fun z=>(HBX.out.kp HP.out (HOF.out z)).bs.cell 0;have c5:∀ z,(of z).cell? ⟨gs,1,none⟩=some (.int .i64 (k:Int)):=fun z=>(HBX.out.kp HP.out (HOF.out z)).bs.cell 1;have ch:∀ z,(of z).cell? ⟨bl,ol+t * 4+vq,none⟩=some (.int .i64 (au all (vq:Int))):=fun z=>gR (HOF.out z) HAC.out.1 HAC.out.2;have b0:∀ z,(of z).cell? ⟨gw,0,none⟩=some (.int .i64 v):=fun z=>((HOF.out z).blk (.inr HGW9.out) HSB.out).cell 0;have hil:=HIL.out;have hnl:=HNL.out;have hv4:=HVQ4.out;have hvi:(vq:Int)<4:=by omega
       have hvv:=HFV.out;have hvq:=HVQ.out;have hnb:=HNB.out;have hfw:=hfT;simp only [bu]
       iterate 11 (gi_big_quiet_step (fail))
       refine wpQuietIn_nil ?_;exact rfl
      intro W20 hW;have HB20:=lh hW;clear hW;gi_wp2;refine ⟨trivial,(c_W (ic T t x all W20 ((HBX.out.kp HP.out (KpR.of_below HB20.out)).tb.at_ (by have h1:=HSZ.out;have h2:=HB20.out.size;omega)) HX.out HAT.out.ha HAT.out.ok.kind HAT.out.four)).mono ?_⟩;rintro e W21 ⟨rfl,hb⟩;rw [HN.out];have HB21:=lh (show Below W12.heap.size W12 W21 from HB20.out.trans (hb.mono HB20.out.size));have HBb:=lh hb;clear hb;gi_wp2;refine ⟨trivial,KpR.of_below HBb.out,?_⟩;have HK21:=lh (show KpR n0 n1 W12 W21 from KpR.of_below HB21.out);replace HBX:=lh (HBX.out.kp HP.out HK21.out);replace HSB:=lh (HK21.out.blk (.inr HGW9.out) HSB.out);replace HSZ:=lh (Nat.le_trans HSZ.out HK21.out.1);replace HK:=lh (HK.out.trans HK21.out);replace HJC:=lh (HJ.out _ _ _ HJC.out HB21.out);clear HK21 HB21 HBb HB20 HAC;refine Gr.wpFlow_cons (A:=?AW13) rfl ?hw13 ?_
      case hw13 =>
       rintro σ hσ of hof hcl;have HOF:=lh hof;clear hof hcl;have c0:∀ z,(of z).cell? ⟨gt,0,none⟩=some (.pointer (some ⟨T.g,0,none⟩)):=fun z=>(HBX.out.kp HP.out (HOF.out z)).bt.cell 0;have c1:∀ z,(of z).cell? ⟨T.g,2,none⟩=some (.slice T.Aa T.na T.ca):=fun z=>(HBX.out.kp HP.out (HOF.out z)).tb.blk.cell 2;have c2:∀ z,(of z).cell? ⟨T.g,4,none⟩=some (.slice T.AA T.nl T.cl):=fun z=>(HBX.out.kp HP.out (HOF.out z)).tb.blk.cell 4;have c3:∀ z,(of z).cell? ⟨ge,0,none⟩=some (.func (.func 114) #[] #[.pointer (some ⟨gs,0,none⟩),.pointer (some ⟨gy,0,none⟩),.pointer (some ⟨gt,0,none⟩),.pointer (some ⟨ge,0,none⟩)]):=fun z=>(HBX.out.kp HP.out (HOF.out z)).be.cell 0;have c4:∀ z,(of z).cell? ⟨gs,0,none⟩=some (.int .i64 (q:Int)):=fun z=>(HBX.out.kp HP.out (HOF.out z)).bs.cell 0;have c5:∀ z,(of z).cell? ⟨gs,1,none⟩=some (.int .i64 (k:Int)):=fun z=>(HBX.out.kp HP.out (HOF.out z)).bs.cell 1;have b0:∀ z,(of z).cell? ⟨gw,0,none⟩=some (.int .i64 v):=fun z=>((HOF.out z).blk (.inr HGW9.out) HSB.out).cell 0;have hnb:=HNB.out;have ht12:=HT12.out;have hfw:=hfT;simp only [bu]
       iterate 9 (gi_big_quiet_step (fail))
       refine wpQuietIn_nil ?_;exact rfl
      intro W22 hW;have HB22:=lh hW;clear hW;gi_wp2;refine ⟨fun _ h=>(by cases h),?_⟩;gi_wp2
      first | refine ⟨rfl,KpR.of_below b_R,?_⟩ | refine ⟨trivial,KpR.of_below b_R,?_⟩ | refine ⟨KpR.of_below b_R,?_⟩
      have HK22:=lh (show KpR n0 n1 W21 W22 from KpR.of_below HB22.out);replace HK:=lh (HK.out.trans HK22.out);have HJE:=lh (HJ.out _ _ _ HJC.out HB22.out);clear HK22;refine Gr.wpFlow_nil (A:=?AW14)  ?hw14 ?_
      case hw14 =>
       rintro σ hσ of hof hcl;have HOF:=lh hof;clear hof hcl;have hnb:=HNB.out;have hfw:=hfT;simp only [bu]
       iterate 2 (gi_big_quiet_step (fail))
       refine wpQuietIn_nil ?_;exact rfl
      intro W24 hW;have HB24:=lh hW;clear hW;simp only [bu];refine eK ?_;gi_wp2;refine bodyPost_ret (v:=.bool true) (by simp [results,Tryz.results114,go_sem]) rfl ?_;have HJF:=HJ.out _ _ _ HJE.out HB24.out;refine ⟨rfl,xs,?_,?_,HK.out.trans (KpR.of_below HB24.out)⟩
      ·rw [HFO.out,if_neg (by rw [HFR.out,HFV.out];simp),HTO.out,HN.out,if_pos HTB0.out,if_pos HNAL.out]
       rw [HXS.out,List.append_nil]
      ·exact HJF
     ·
      have hnb:(n==au all (vq:Int))=false:=by rw [← HVQ.out];simpa using hnal
      have HNB:=lh hnb;have HNAL:=lh hnal;clear hnb hnal;refine Gr.wpIn_flow_old (G:=KpR n0 n1) [([true,true,false,true,true,true,true,true,true,true,true,true],2),([false,false,false,false,false,false,false,false,false,false,false,false,true,true,true,true,true,true,true,true,true],21)] [false,false,false,false,false,false,false,false,false,false,false,false,false,false,false,false,false,false,false,false,false,false,true,true] [] (by kernel_rfl) (by kernel_rfl) (by kernel_rfl) (av b_R 1) ?_;refine Gr.wpFlow_cons (A:=?AW15) rfl ?hw15 ?_
      case hw15 =>
       rintro σ hσ of hof hcl;have HOF:=lh hof;clear hof hcl;have c0:∀ z,(of z).cell? ⟨gt,0,none⟩=some (.pointer (some ⟨T.g,0,none⟩)):=fun z=>(HBX.out.kp HP.out (HOF.out z)).bt.cell 0;have c1:∀ z,(of z).cell? ⟨T.g,2,none⟩=some (.slice T.Aa T.na T.ca):=fun z=>(HBX.out.kp HP.out (HOF.out z)).tb.blk.cell 2;have c2:∀ z,(of z).cell? ⟨T.g,4,none⟩=some (.slice (some ⟨bl,ol,none⟩) T.nl T.cl):=fun z=>(HBX.out.kp HP.out (HOF.out z)).tb.blk.cell 4 |>.trans (by rw [← HAA.out];rfl);have c3:∀ z,(of z).cell? ⟨ge,0,none⟩=some (.func (.func 114) #[] #[.pointer (some ⟨gs,0,none⟩),.pointer (some ⟨gy,0,none⟩),.pointer (some ⟨gt,0,none⟩),.pointer (some ⟨ge,0,none⟩)]):=fun z=>(HBX.out.kp HP.out (HOF.out z)).be.cell 0;have c4:∀ z,(of z).cell? ⟨gs,0,none⟩=some (.int .i64 (q:Int)):=fun z=>(HBX.out.kp HP.out (HOF.out z)).bs.cell 0;have c5:∀ z,(of z).cell? ⟨gs,1,none⟩=some (.int .i64 (k:Int)):=fun z=>(HBX.out.kp HP.out (HOF.out z)).bs.cell 1;have ch:∀ z,(of z).cell? ⟨bl,ol+t * 4+vq,none⟩=some (.int .i64 (au all (vq:Int))):=fun z=>gR (HOF.out z) HAC.out.1 HAC.out.2;have b0:∀ z,(of z).cell? ⟨gw,0,none⟩=some (.int .i64 v):=fun z=>((HOF.out z).blk (.inr HGW9.out) HSB.out).cell 0;have hil:=HIL.out;have hnl:=HNL.out;have hv4:=HVQ4.out;have hvi:(vq:Int)<4:=by omega
       have hvv:=HFV.out;have hvq:=HVQ.out;have hnb:=HNB.out;have hfw:=hfT;simp only [bu]
       iterate 11 (gi_big_quiet_step (fail))
       refine wpQuietIn_nil ?_;exact rfl
      intro W20 hW;have HB20:=lh hW;clear hW;gi_wp2;refine ⟨trivial,(c_W (ic T t x all W20 ((HBX.out.kp HP.out (KpR.of_below HB20.out)).tb.at_ (by have h1:=HSZ.out;have h2:=HB20.out.size;omega)) HX.out HAT.out.ha HAT.out.ok.kind HAT.out.four)).mono ?_⟩;rintro e W21 ⟨rfl,hb⟩;rw [HN.out];have HB21:=lh (show Below W12.heap.size W12 W21 from HB20.out.trans (hb.mono HB20.out.size));have HBb:=lh hb;clear hb;gi_wp2;refine ⟨trivial,KpR.of_below HBb.out,?_⟩;have HK21:=lh (show KpR n0 n1 W12 W21 from KpR.of_below HB21.out);replace HBX:=lh (HBX.out.kp HP.out HK21.out);replace HSB:=lh (HK21.out.blk (.inr HGW9.out) HSB.out);replace HSZ:=lh (Nat.le_trans HSZ.out HK21.out.1);replace HK:=lh (HK.out.trans HK21.out);replace HJC:=lh (HJ.out _ _ _ HJC.out HB21.out);clear HK21 HB21 HBb HB20 HAC;refine Gr.wpFlow_cons (A:=?AW16) rfl ?hw16 ?_
      case hw16 =>
       rintro σ hσ of hof hcl;have HOF:=lh hof;clear hof hcl;have c0:∀ z,(of z).cell? ⟨gt,0,none⟩=some (.pointer (some ⟨T.g,0,none⟩)):=fun z=>(HBX.out.kp HP.out (HOF.out z)).bt.cell 0;have c1:∀ z,(of z).cell? ⟨T.g,2,none⟩=some (.slice T.Aa T.na T.ca):=fun z=>(HBX.out.kp HP.out (HOF.out z)).tb.blk.cell 2;have c2:∀ z,(of z).cell? ⟨T.g,4,none⟩=some (.slice T.AA T.nl T.cl):=fun z=>(HBX.out.kp HP.out (HOF.out z)).tb.blk.cell 4;have c3:∀ z,(of z).cell? ⟨ge,0,none⟩=some (.func (.func 114) #[] #[.pointer (some ⟨gs,0,none⟩),.pointer (some ⟨gy,0,none⟩),.pointer (some ⟨gt,0,none⟩),.pointer (some ⟨ge,0,none⟩)]):=fun z=>(HBX.out.kp HP.out (HOF.out z)).be.cell 0;have c4:∀ z,(of z).cell? ⟨gs,0,none⟩=some (.int .i64 (q:Int)):=fun z=>(HBX.out.kp HP.out (HOF.out z)).bs.cell 0;have c5:∀ z,(of z).cell? ⟨gs,1,none⟩=some (.int .i64 (k:Int)):=fun z=>(HBX.out.kp HP.out (HOF.out z)).bs.cell 1;have b0:∀ z,(of z).cell? ⟨gw,0,none⟩=some (.int .i64 v):=fun z=>((HOF.out z).blk (.inr HGW9.out) HSB.out).cell 0;have hnb:=HNB.out;have ht12:=HT12.out;have hfw:=hfT;simp only [bu]
       iterate 9 (gi_big_quiet_step (fail))
       refine wpQuietIn_nil ?_;exact rfl
      intro W22 hW;have HB22:=lh hW;clear hW;have HK22:=lh (show KpR n0 n1 W21 W22 from KpR.of_below HB22.out);replace HBX:=lh (HBX.out.kp HP.out HK22.out);replace HSZ:=lh (Nat.le_trans HSZ.out HK22.out.1);replace HK:=lh (HK.out.trans HK22.out);replace HJC:=lh (HJ.out _ _ _ HJC.out HB22.out);clear HK22;have hih:=HIH.out (t+1) v Aw nw cw wl (pre++xs) W22 HBX.out HJC.out (HR.out.safe HS.out HK.out) (HS.out.kp HK.out) (by omega) (by omega) HSZ.out HV.out (by have h9:=HNN.out;rw [HFO.out,if_neg (by rw [HFR.out,HFV.out];simp),HTO.out,HN.out,if_pos HTB0.out,if_neg HNAL.out] at h9;have h8:=congrArg List.length HXS.out;rw [List.length_map] at h8;simp only [List.length_append] at h9 ⊢;omega);rw [show ((t+1:Nat):Int)=(t:Int)+1 from by omega] at hih;gi_wp2;refine ⟨trivial,(c_W hih).mono ?_⟩;rintro e W23 ⟨rfl,ys,hys,hJ23,hk23⟩;have HYS:=lh hys;have HJE:=lh hJ23;have HK23:=lh hk23;replace HK:=lh (HK.out.trans HK23.out);clear hys hJ23 hk23 hih;gi_wp2;refine ⟨trivial,HK23.out,?_⟩;clear HK23;refine Gr.wpFlow_nil (A:=?AW17)  ?hw17 ?_
      case hw17 =>
       rintro σ hσ of hof hcl;have HOF:=lh hof;clear hof hcl;have hnb:=HNB.out;have hfw:=hfT;simp only [bu]
       iterate 2 (gi_big_quiet_step (fail))
       refine wpQuietIn_nil ?_;exact rfl
      intro W24 hW;have HB24:=lh hW;clear hW;simp only [bu];refine eK ?_;gi_wp2;refine bodyPost_ret (v:=.bool true) (by simp [results,Tryz.results114,go_sem]) rfl ?_;have HJF:=HJ.out _ _ _ HJE.out HB24.out;refine ⟨rfl,(xs++ys),?_,?_,HK.out.trans (KpR.of_below HB24.out)⟩
      ·rw [HFO.out,if_neg (by rw [HFR.out,HFV.out];simp),HTO.out,HN.out,if_pos HTB0.out,if_neg HNAL.out]
       rw [List.map_append,HXS.out,HYS.out]
      ·rw [← List.append_assoc];exact HJF
   ·
    have HT12:=lh ht12;have HGW9:Hid (n1≤gw):=lh (by have:=HGW.out;omega);clear ht12;have HTB0:=lh ht0;have HTBB:Hid (decide (0≤to)=false):=lh (decide_eq_false ht0);clear ht0;refine Tr.wpIn_region_tree (G:=KpB n0 n1 W3.heap.size) (V0:=W3) [([],[true,true,true,true,true,true,true,true,true,false,true,true],[9,12]),([9],[],[12]),([12],[],[9]),([9,12],[],[13]),([9,12,13],[],[14]),([9,12,13,14],[false,false,false,false,false,false,false,false,false,false,false,false,false,false,false,true,true],[])] 5 [] (by kernel_rfl) (by kernel_rfl) (by kernel_rfl) (av b_R 1) ?_;refine Tr.wpTree_two (A:=?AW18) rfl rfl rfl ?hw18 ?_ ?_
    case hw18 =>
     rintro σ hσ of hof hcl;have HOF:=lh hof;clear hof hcl;have c0:∀ z,(of z).cell? ⟨gt,0,none⟩=some (.pointer (some ⟨T.g,0,none⟩)):=fun z=>(HBX.out.kp HP.out (KpB.kp (HOF.out z))).bt.cell 0;have c1:∀ z,(of z).cell? ⟨T.g,2,none⟩=some (.slice T.Aa T.na T.ca):=fun z=>(HBX.out.kp HP.out (KpB.kp (HOF.out z))).tb.blk.cell 2;have c2:∀ z,(of z).cell? ⟨T.g,4,none⟩=some (.slice T.AA T.nl T.cl):=fun z=>(HBX.out.kp HP.out (KpB.kp (HOF.out z))).tb.blk.cell 4;have c3:∀ z,(of z).cell? ⟨ge,0,none⟩=some (.func (.func 114) #[] #[.pointer (some ⟨gs,0,none⟩),.pointer (some ⟨gy,0,none⟩),.pointer (some ⟨gt,0,none⟩),.pointer (some ⟨ge,0,none⟩)]):=fun z=>(HBX.out.kp HP.out (KpB.kp (HOF.out z))).be.cell 0;have c4:∀ z,(of z).cell? ⟨gs,0,none⟩=some (.int .i64 (q:Int)):=fun z=>(HBX.out.kp HP.out (KpB.kp (HOF.out z))).bs.cell 0;have c5:∀ z,(of z).cell? ⟨gs,1,none⟩=some (.int .i64 (k:Int)):=fun z=>(HBX.out.kp HP.out (KpB.kp (HOF.out z))).bs.cell 1;have ht12:=HT12.out;have htb:=HTBB.out;have hfw:=hfT;simp only [bu]
     iterate 11 (gi_big_quiet_step (fail))
     refine wpQuietIn_nil ?_;exact rfl
    ·
     intro W4 hW;have HB_W4:=lh (show Below W3.heap.size W3 W4 from hW);clear hW;gi_wp2
     first | refine ⟨rfl,KpB.of_below b_R,?_⟩ | refine ⟨trivial,KpB.of_below b_R,?_⟩ | refine ⟨KpB.of_below b_R,?_⟩ | ((first | refine ⟨trivial,?_⟩ | refine ⟨fun _ h=>(by cases h),?_⟩);gi_wp2;first | refine ⟨rfl,KpB.of_below b_R,?_⟩ | refine ⟨trivial,KpB.of_below b_R,?_⟩ | refine ⟨KpB.of_below b_R,?_⟩)
     refine Tr.wpTree_one (m:=[]) rfl rfl Gr.Quietly.none ?_;intro W6 hW;have HB_W6:=lh (show Below W3.heap.size W3 W6 from HB_W4.out.trans (hW.mono HB_W4.out.size));clear hW;gi_wp2
     first | refine ⟨rfl,KpB.of_below b_R,?_⟩ | refine ⟨trivial,KpB.of_below b_R,?_⟩ | refine ⟨KpB.of_below b_R,?_⟩ | ((first | refine ⟨trivial,?_⟩ | refine ⟨fun _ h=>(by cases h),?_⟩);gi_wp2;first | refine ⟨rfl,KpB.of_below b_R,?_⟩ | refine ⟨trivial,KpB.of_below b_R,?_⟩ | refine ⟨KpB.of_below b_R,?_⟩)
     refine Tr.wpTree_one (m:=[]) rfl rfl Gr.Quietly.none ?_;intro W8 hW;have HB_W8:=lh (show Below W3.heap.size W3 W8 from HB_W6.out.trans (hW.mono HB_W6.out.size));clear hW;gi_wp2
     first | refine ⟨rfl,KpB.of_below b_R,?_⟩ | refine ⟨trivial,KpB.of_below b_R,?_⟩ | refine ⟨KpB.of_below b_R,?_⟩ | ((first | refine ⟨trivial,?_⟩ | refine ⟨fun _ h=>(by cases h),?_⟩);gi_wp2;first | refine ⟨rfl,KpB.of_below b_R,?_⟩ | refine ⟨trivial,KpB.of_below b_R,?_⟩ | refine ⟨KpB.of_below b_R,?_⟩)
     refine Tr.wpTree_one (m:=[]) rfl rfl Gr.Quietly.none ?_;intro W10 hW;have HB_W10:=lh (show Below W3.heap.size W3 W10 from HB_W8.out.trans (hW.mono HB_W8.out.size));clear hW;gi_wp2
     first | refine ⟨rfl,KpB.of_below b_R,?_⟩ | refine ⟨trivial,KpB.of_below b_R,?_⟩ | refine ⟨KpB.of_below b_R,?_⟩ | ((first | refine ⟨trivial,?_⟩ | refine ⟨fun _ h=>(by cases h),?_⟩);gi_wp2;first | refine ⟨rfl,KpB.of_below b_R,?_⟩ | refine ⟨trivial,KpB.of_below b_R,?_⟩ | refine ⟨KpB.of_below b_R,?_⟩)
     refine Tr.wpTree_end (A:=?AW19) rfl ?hw19 ?_
     case hw19 =>
      rintro σ hσ of hof hcl;have HOF:=lh hof;clear hof hcl;have htb:=HTBB.out;have hfw:=hfT;simp only [bu]
      iterate 2 (gi_big_quiet_step (fail))
      refine wpQuietIn_nil ?_;exact rfl
     intro W12 hW;have hb12:Below W3.heap.size W3 W12:=HB_W10.out.trans (hW.mono HB_W10.out.size);have HK7:=lh (show KpR n0 n1 W3 W12 from KpR.of_below hb12);replace HJC:=lh (HJ.out _ _ _ HJC.out hb12);clear hW hb12 HB_W4 HB_W6 HB_W8 HB_W10;simp only [bu];refine eK ?_;replace HBX:=lh (HBX.out.kp HP.out HK7.out);replace HSB:=lh (HK7.out.blk (.inr HGW9.out) HSB.out);replace HSZ:=lh (Nat.le_trans HSZ.out HK7.out.1);replace HK:=lh (HK.out.trans HK7.out);clear HK7;gi_wp2;have hfq:=fp HOK.out.vess x;rw [HFR.out] at hfq
     obtain ⟨vq,hvq⟩:∃ vq:Nat,v=(vq:Int):=⟨v.toNat,by have:=HV.out;omega⟩
     have hvq4:vq<4:=by have:=HV.out;omega
     have HTA:=lh (HBX.out.tb.at_ (by have:=HSZ.out;omega))
     have hil:t<T.nl:=by
      have h1:=fH fy (by omega) HTA.out.all;have h2:=HOK.out.long;have h3:=(g_E HX.out).1;omega
     obtain ⟨bl,ol,all9,e1,e2,e3,e4⟩:=ft fy (by omega) HTA.out.all hil;obtain rfl:all=all9:=Option.some.inj (HAT.out.ha.symm.trans e3);have HAA:=lh e1;have HAC:Hid (bl<n0∧W12.cell? ⟨bl,ol+t * 4+vq,none⟩=some (.int .i64 (au all (vq:Int)))):=lh ⟨by obtain ⟨a9,h1,h2,_⟩:=HBX.out.tb.all.2 (by omega);rw [e1] at h1;cases h1;exact h2,e4 vq _ (iO all hvq4)⟩;have HVQ:=lh hvq;have HIL:=lh hil;have HVQ4:=lh hvq4;have hnl:T.nl≤13:=HTA.out.small.2.2.2;have HNL:=lh hnl
     obtain ⟨n,hn⟩:∃ n,eV T.m all x=n:=⟨_,rfl⟩
     have HN:=lh hn;clear e1 e2 e3 e4 hfq hvq hil hvq4 hn hnl;by_cases hnal:n=au all v
     ·
      have hnb:(n==au all (vq:Int))=true:=by rw [← HVQ.out];simpa using hnal
      have HNB:=lh hnb;have HNAL:=lh hnal;clear hnb hnal;refine Gr.wpIn_flow_old (G:=KpR n0 n1) [([true,true,false,true,true,true,true,true,true,true,true,true],2),([false,false,false,false,false,false,false,false,false,false,false,false,true,true,true,true,true,true,true,true,true],21)] [false,false,false,false,false,false,false,false,false,false,false,false,false,false,false,false,false,false,false,false,false,false,true,true] [] (by kernel_rfl) (by kernel_rfl) (by kernel_rfl) (av b_R 1) ?_;refine Gr.wpFlow_cons (A:=?AW20) rfl ?hw20 ?_
      case hw20 =>
       rintro σ hσ of hof hcl;have HOF:=lh hof;clear hof hcl;have c0:∀ z,(of z).cell? ⟨gt,0,none⟩=some (.pointer (some ⟨T.g,0,none⟩)):=fun z=>(HBX.out.kp HP.out (HOF.out z)).bt.cell 0;have c1:∀ z,(of z).cell? ⟨T.g,2,none⟩=some (.slice T.Aa T.na T.ca):=fun z=>(HBX.out.kp HP.out (HOF.out z)).tb.blk.cell 2;have c2:∀ z,(of z).cell? ⟨T.g,4,none⟩=some (.slice (some ⟨bl,ol,none⟩) T.nl T.cl):=fun z=>(HBX.out.kp HP.out (HOF.out z)).tb.blk.cell 4 |>.trans (by rw [← HAA.out];rfl);have c3:∀ z,(of z).cell? ⟨ge,0,none⟩=some (.func (.func 114) #[] #[.pointer (some ⟨gs,0,none⟩),.pointer (some ⟨gy,0,none⟩),.pointer (some ⟨gt,0,none⟩),.pointer (some ⟨ge,0,none⟩)]):=fun z=>(HBX.out.kp HP.out (HOF.out z)).be.cell 0;have c4:∀ z,(of z).cell? ⟨gs,0,none⟩=some (.int .i64 (q:Int)):=fun z=>(HBX.out.kp HP.out (HOF.out z)).bs.cell 0;have c5:∀ z,(of z).cell? ⟨gs,1,none⟩=some (.int .i64 (k:Int)):=fun z=>(HBX.out.kp HP.out (HOF.out z)).bs.cell 1;have ch:∀ z,(of z).cell? ⟨bl,ol+t * 4+vq,none⟩=some (.int .i64 (au all (vq:Int))):=fun z=>gR (HOF.out z) HAC.out.1 HAC.out.2;have b0:∀ z,(of z).cell? ⟨gw,0,none⟩=some (.int .i64 v):=fun z=>((HOF.out z).blk (.inr HGW9.out) HSB.out).cell 0;have hil:=HIL.out;have hnl:=HNL.out;have hv4:=HVQ4.out;have hvi:(vq:Int)<4:=by omega
       have hvv:=HFV.out;have hvq:=HVQ.out;have hnb:=HNB.out;have hfw:=hfT;simp only [bu]
       iterate 11 (gi_big_quiet_step (fail))
       refine wpQuietIn_nil ?_;exact rfl
      intro W20 hW;have HB20:=lh hW;clear hW;gi_wp2;refine ⟨trivial,(c_W (ic T t x all W20 ((HBX.out.kp HP.out (KpR.of_below HB20.out)).tb.at_ (by have h1:=HSZ.out;have h2:=HB20.out.size;omega)) HX.out HAT.out.ha HAT.out.ok.kind HAT.out.four)).mono ?_⟩;rintro e W21 ⟨rfl,hb⟩;rw [HN.out];have HB21:=lh (show Below W12.heap.size W12 W21 from HB20.out.trans (hb.mono HB20.out.size));have HBb:=lh hb;clear hb;gi_wp2;refine ⟨trivial,KpR.of_below HBb.out,?_⟩;have HK21:=lh (show KpR n0 n1 W12 W21 from KpR.of_below HB21.out);replace HBX:=lh (HBX.out.kp HP.out HK21.out);replace HSB:=lh (HK21.out.blk (.inr HGW9.out) HSB.out);replace HSZ:=lh (Nat.le_trans HSZ.out HK21.out.1);replace HK:=lh (HK.out.trans HK21.out);replace HJC:=lh (HJ.out _ _ _ HJC.out HB21.out);clear HK21 HB21 HBb HB20 HAC;refine Gr.wpFlow_cons (A:=?AW21) rfl ?hw21 ?_
      case hw21 =>
       rintro σ hσ of hof hcl;have HOF:=lh hof;clear hof hcl;have c0:∀ z,(of z).cell? ⟨gt,0,none⟩=some (.pointer (some ⟨T.g,0,none⟩)):=fun z=>(HBX.out.kp HP.out (HOF.out z)).bt.cell 0;have c1:∀ z,(of z).cell? ⟨T.g,2,none⟩=some (.slice T.Aa T.na T.ca):=fun z=>(HBX.out.kp HP.out (HOF.out z)).tb.blk.cell 2;have c2:∀ z,(of z).cell? ⟨T.g,4,none⟩=some (.slice T.AA T.nl T.cl):=fun z=>(HBX.out.kp HP.out (HOF.out z)).tb.blk.cell 4;have c3:∀ z,(of z).cell? ⟨ge,0,none⟩=some (.func (.func 114) #[] #[.pointer (some ⟨gs,0,none⟩),.pointer (some ⟨gy,0,none⟩),.pointer (some ⟨gt,0,none⟩),.pointer (some ⟨ge,0,none⟩)]):=fun z=>(HBX.out.kp HP.out (HOF.out z)).be.cell 0;have c4:∀ z,(of z).cell? ⟨gs,0,none⟩=some (.int .i64 (q:Int)):=fun z=>(HBX.out.kp HP.out (HOF.out z)).bs.cell 0;have c5:∀ z,(of z).cell? ⟨gs,1,none⟩=some (.int .i64 (k:Int)):=fun z=>(HBX.out.kp HP.out (HOF.out z)).bs.cell 1;have b0:∀ z,(of z).cell? ⟨gw,0,none⟩=some (.int .i64 v):=fun z=>((HOF.out z).blk (.inr HGW9.out) HSB.out).cell 0;have hnb:=HNB.out;have ht12:=HT12.out;have hfw:=hfT;simp only [bu]
       iterate 9 (gi_big_quiet_step (fail))
       refine wpQuietIn_nil ?_;exact rfl
      intro W22 hW;have HB22:=lh hW;clear hW;gi_wp2;refine ⟨fun _ h=>(by cases h),?_⟩;gi_wp2
      first | refine ⟨rfl,KpR.of_below b_R,?_⟩ | refine ⟨trivial,KpR.of_below b_R,?_⟩ | refine ⟨KpR.of_below b_R,?_⟩
      have HK22:=lh (show KpR n0 n1 W21 W22 from KpR.of_below HB22.out);replace HK:=lh (HK.out.trans HK22.out);have HJE:=lh (HJ.out _ _ _ HJC.out HB22.out);clear HK22;refine Gr.wpFlow_nil (A:=?AW22)  ?hw22 ?_
      case hw22 =>
       rintro σ hσ of hof hcl;have HOF:=lh hof;clear hof hcl;have hnb:=HNB.out;have hfw:=hfT;simp only [bu]
       iterate 2 (gi_big_quiet_step (fail))
       refine wpQuietIn_nil ?_;exact rfl
      intro W24 hW;have HB24:=lh hW;clear hW;simp only [bu];refine eK ?_;gi_wp2;refine bodyPost_ret (v:=.bool true) (by simp [results,Tryz.results114,go_sem]) rfl ?_;have HJF:=HJ.out _ _ _ HJE.out HB24.out;refine ⟨rfl,[],?_,?_,HK.out.trans (KpR.of_below HB24.out)⟩
      ·rw [HFO.out,if_neg (by rw [HFR.out,HFV.out];simp),HTO.out,HN.out,if_neg (Int.not_le.2 HTB0.out),if_pos HNAL.out]
       rfl
      ·rw [List.append_nil];exact HJF
     ·
      have hnb:(n==au all (vq:Int))=false:=by rw [← HVQ.out];simpa using hnal
      have HNB:=lh hnb;have HNAL:=lh hnal;clear hnb hnal;refine Gr.wpIn_flow_old (G:=KpR n0 n1) [([true,true,false,true,true,true,true,true,true,true,true,true],2),([false,false,false,false,false,false,false,false,false,false,false,false,true,true,true,true,true,true,true,true,true],21)] [false,false,false,false,false,false,false,false,false,false,false,false,false,false,false,false,false,false,false,false,false,false,true,true] [] (by kernel_rfl) (by kernel_rfl) (by kernel_rfl) (av b_R 1) ?_;refine Gr.wpFlow_cons (A:=?AW23) rfl ?hw23 ?_
      case hw23 =>
       rintro σ hσ of hof hcl;have HOF:=lh hof;clear hof hcl;have c0:∀ z,(of z).cell? ⟨gt,0,none⟩=some (.pointer (some ⟨T.g,0,none⟩)):=fun z=>(HBX.out.kp HP.out (HOF.out z)).bt.cell 0;have c1:∀ z,(of z).cell? ⟨T.g,2,none⟩=some (.slice T.Aa T.na T.ca):=fun z=>(HBX.out.kp HP.out (HOF.out z)).tb.blk.cell 2;have c2:∀ z,(of z).cell? ⟨T.g,4,none⟩=some (.slice (some ⟨bl,ol,none⟩) T.nl T.cl):=fun z=>(HBX.out.kp HP.out (HOF.out z)).tb.blk.cell 4 |>.trans (by rw [← HAA.out];rfl);have c3:∀ z,(of z).cell? ⟨ge,0,none⟩=some (.func (.func 114) #[] #[.pointer (some ⟨gs,0,none⟩),.pointer (some ⟨gy,0,none⟩),.pointer (some ⟨gt,0,none⟩),.pointer (some ⟨ge,0,none⟩)]):=fun z=>(HBX.out.kp HP.out (HOF.out z)).be.cell 0;have c4:∀ z,(of z).cell? ⟨gs,0,none⟩=some (.int .i64 (q:Int)):=fun z=>(HBX.out.kp HP.out (HOF.out z)).bs.cell 0;have c5:∀ z,(of z).cell? ⟨gs,1,none⟩=some (.int .i64 (k:Int)):=fun z=>(HBX.out.kp HP.out (HOF.out z)).bs.cell 1;have ch:∀ z,(of z).cell? ⟨bl,ol+t * 4+vq,none⟩=some (.int .i64 (au all (vq:Int))):=fun z=>gR (HOF.out z) HAC.out.1 HAC.out.2;have b0:∀ z,(of z).cell? ⟨gw,0,none⟩=some (.int .i64 v):=fun z=>((HOF.out z).blk (.inr HGW9.out) HSB.out).cell 0;have hil:=HIL.out;have hnl:=HNL.out;have hv4:=HVQ4.out;have hvi:(vq:Int)<4:=by omega
       have hvv:=HFV.out;have hvq:=HVQ.out;have hnb:=HNB.out;have hfw:=hfT;simp only [bu]
       iterate 11 (gi_big_quiet_step (fail))
       refine wpQuietIn_nil ?_;exact rfl
      intro W20 hW;have HB20:=lh hW;clear hW;gi_wp2;refine ⟨trivial,(c_W (ic T t x all W20 ((HBX.out.kp HP.out (KpR.of_below HB20.out)).tb.at_ (by have h1:=HSZ.out;have h2:=HB20.out.size;omega)) HX.out HAT.out.ha HAT.out.ok.kind HAT.out.four)).mono ?_⟩;rintro e W21 ⟨rfl,hb⟩;rw [HN.out];have HB21:=lh (show Below W12.heap.size W12 W21 from HB20.out.trans (hb.mono HB20.out.size));have HBb:=lh hb;clear hb;gi_wp2;refine ⟨trivial,KpR.of_below HBb.out,?_⟩;have HK21:=lh (show KpR n0 n1 W12 W21 from KpR.of_below HB21.out);replace HBX:=lh (HBX.out.kp HP.out HK21.out);replace HSB:=lh (HK21.out.blk (.inr HGW9.out) HSB.out);replace HSZ:=lh (Nat.le_trans HSZ.out HK21.out.1);replace HK:=lh (HK.out.trans HK21.out);replace HJC:=lh (HJ.out _ _ _ HJC.out HB21.out);clear HK21 HB21 HBb HB20 HAC;refine Gr.wpFlow_cons (A:=?AW24) rfl ?hw24 ?_
      case hw24 =>
       rintro σ hσ of hof hcl;have HOF:=lh hof;clear hof hcl;have c0:∀ z,(of z).cell? ⟨gt,0,none⟩=some (.pointer (some ⟨T.g,0,none⟩)):=fun z=>(HBX.out.kp HP.out (HOF.out z)).bt.cell 0;have c1:∀ z,(of z).cell? ⟨T.g,2,none⟩=some (.slice T.Aa T.na T.ca):=fun z=>(HBX.out.kp HP.out (HOF.out z)).tb.blk.cell 2;have c2:∀ z,(of z).cell? ⟨T.g,4,none⟩=some (.slice T.AA T.nl T.cl):=fun z=>(HBX.out.kp HP.out (HOF.out z)).tb.blk.cell 4;have c3:∀ z,(of z).cell? ⟨ge,0,none⟩=some (.func (.func 114) #[] #[.pointer (some ⟨gs,0,none⟩),.pointer (some ⟨gy,0,none⟩),.pointer (some ⟨gt,0,none⟩),.pointer (some ⟨ge,0,none⟩)]):=fun z=>(HBX.out.kp HP.out (HOF.out z)).be.cell 0;have c4:∀ z,(of z).cell? ⟨gs,0,none⟩=some (.int .i64 (q:Int)):=fun z=>(HBX.out.kp HP.out (HOF.out z)).bs.cell 0;have c5:∀ z,(of z).cell? ⟨gs,1,none⟩=some (.int .i64 (k:Int)):=fun z=>(HBX.out.kp HP.out (HOF.out z)).bs.cell 1;have b0:∀ z,(of z).cell? ⟨gw,0,none⟩=some (.int .i64 v):=fun z=>((HOF.out z).blk (.inr HGW9.out) HSB.out).cell 0;have hnb:=HNB.out;have ht12:=HT12.out;have hfw:=hfT;simp only [bu]
       iterate 9 (gi_big_quiet_step (fail))
       refine wpQuietIn_nil ?_;exact rfl
      intro W22 hW;have HB22:=lh hW;clear hW;have HK22:=lh (show KpR n0 n1 W21 W22 from KpR.of_below HB22.out);replace HBX:=lh (HBX.out.kp HP.out HK22.out);replace HSZ:=lh (Nat.le_trans HSZ.out HK22.out.1);replace HK:=lh (HK.out.trans HK22.out);replace HJC:=lh (HJ.out _ _ _ HJC.out HB22.out);clear HK22;have hih:=HIH.out (t+1) v Aw nw cw wl pre W22 HBX.out HJC.out (HR.out.safe HS.out HK.out) (HS.out.kp HK.out) (by omega) (by omega) HSZ.out HV.out (by have h9:=HNN.out;rw [HFO.out,if_neg (by rw [HFR.out,HFV.out];simp),HTO.out,HN.out,if_neg (Int.not_le.2 HTB0.out),if_neg HNAL.out] at h9;simp only [List.length_append,List.length_nil] at h9;omega);rw [show ((t+1:Nat):Int)=(t:Int)+1 from by omega] at hih;gi_wp2;refine ⟨trivial,(c_W hih).mono ?_⟩;rintro e W23 ⟨rfl,ys,hys,hJ23,hk23⟩;have HYS:=lh hys;have HJE:=lh hJ23;have HK23:=lh hk23;replace HK:=lh (HK.out.trans HK23.out);clear hys hJ23 hk23 hih;gi_wp2;refine ⟨trivial,HK23.out,?_⟩;clear HK23;refine Gr.wpFlow_nil (A:=?AW25)  ?hw25 ?_
      case hw25 =>
       rintro σ hσ of hof hcl;have HOF:=lh hof;clear hof hcl;have hnb:=HNB.out;have hfw:=hfT;simp only [bu]
       iterate 2 (gi_big_quiet_step (fail))
       refine wpQuietIn_nil ?_;exact rfl
      intro W24 hW;have HB24:=lh hW;clear hW;simp only [bu];refine eK ?_;gi_wp2;refine bodyPost_ret (v:=.bool true) (by simp [results,Tryz.results114,go_sem]) rfl ?_;have HJF:=HJ.out _ _ _ HJE.out HB24.out;refine ⟨rfl,ys,?_,?_,HK.out.trans (KpR.of_below HB24.out)⟩
      ·rw [HFO.out,if_neg (by rw [HFR.out,HFV.out];simp),HTO.out,HN.out,if_neg (Int.not_le.2 HTB0.out),if_neg HNAL.out]
       rw [HYS.out];rfl
      ·exact HJF
    ·
     intro W4 hW;have HB_W4:=lh (show Below W3.heap.size W3 W4 from hW);clear hW;gi_wp2
     first | refine ⟨rfl,KpB.of_below b_R,?_⟩ | refine ⟨trivial,KpB.of_below b_R,?_⟩ | refine ⟨KpB.of_below b_R,?_⟩ | ((first | refine ⟨trivial,?_⟩ | refine ⟨fun _ h=>(by cases h),?_⟩);gi_wp2;first | refine ⟨rfl,KpB.of_below b_R,?_⟩ | refine ⟨trivial,KpB.of_below b_R,?_⟩ | refine ⟨KpB.of_below b_R,?_⟩)
     refine Tr.wpTree_one (m:=[]) rfl rfl Gr.Quietly.none ?_;intro W6 hW;have HB_W6:=lh (show Below W3.heap.size W3 W6 from HB_W4.out.trans (hW.mono HB_W4.out.size));clear hW;gi_wp2
     first | refine ⟨rfl,KpB.of_below b_R,?_⟩ | refine ⟨trivial,KpB.of_below b_R,?_⟩ | refine ⟨KpB.of_below b_R,?_⟩ | ((first | refine ⟨trivial,?_⟩ | refine ⟨fun _ h=>(by cases h),?_⟩);gi_wp2;first | refine ⟨rfl,KpB.of_below b_R,?_⟩ | refine ⟨trivial,KpB.of_below b_R,?_⟩ | refine ⟨KpB.of_below b_R,?_⟩)
     refine Tr.wpTree_one (m:=[]) rfl rfl Gr.Quietly.none ?_;intro W8 hW;have HB_W8:=lh (show Below W3.heap.size W3 W8 from HB_W6.out.trans (hW.mono HB_W6.out.size));clear hW;gi_wp2
     first | refine ⟨rfl,KpB.of_below b_R,?_⟩ | refine ⟨trivial,KpB.of_below b_R,?_⟩ | refine ⟨KpB.of_below b_R,?_⟩ | ((first | refine ⟨trivial,?_⟩ | refine ⟨fun _ h=>(by cases h),?_⟩);gi_wp2;first | refine ⟨rfl,KpB.of_below b_R,?_⟩ | refine ⟨trivial,KpB.of_below b_R,?_⟩ | refine ⟨KpB.of_below b_R,?_⟩)
     refine Tr.wpTree_one (m:=[]) rfl rfl Gr.Quietly.none ?_;intro W10 hW;have HB_W10:=lh (show Below W3.heap.size W3 W10 from HB_W8.out.trans (hW.mono HB_W8.out.size));clear hW;gi_wp2
     first | refine ⟨rfl,KpB.of_below b_R,?_⟩ | refine ⟨trivial,KpB.of_below b_R,?_⟩ | refine ⟨KpB.of_below b_R,?_⟩ | ((first | refine ⟨trivial,?_⟩ | refine ⟨fun _ h=>(by cases h),?_⟩);gi_wp2;first | refine ⟨rfl,KpB.of_below b_R,?_⟩ | refine ⟨trivial,KpB.of_below b_R,?_⟩ | refine ⟨KpB.of_below b_R,?_⟩)
     refine Tr.wpTree_end (A:=?AW26) rfl ?hw26 ?_
     case hw26 =>
      rintro σ hσ of hof hcl;have HOF:=lh hof;clear hof hcl;have htb:=HTBB.out;have hfw:=hfT;simp only [bu]
      iterate 2 (gi_big_quiet_step (fail))
      refine wpQuietIn_nil ?_;exact rfl
     intro W12 hW;have hb12:Below W3.heap.size W3 W12:=HB_W10.out.trans (hW.mono HB_W10.out.size);have HK7:=lh (show KpR n0 n1 W3 W12 from KpR.of_below hb12);replace HJC:=lh (HJ.out _ _ _ HJC.out hb12);clear hW hb12 HB_W4 HB_W6 HB_W8 HB_W10;simp only [bu];refine eK ?_;replace HBX:=lh (HBX.out.kp HP.out HK7.out);replace HSB:=lh (HK7.out.blk (.inr HGW9.out) HSB.out);replace HSZ:=lh (Nat.le_trans HSZ.out HK7.out.1);replace HK:=lh (HK.out.trans HK7.out);clear HK7;gi_wp2;have hfq:=fp HOK.out.vess x;rw [HFR.out] at hfq
     obtain ⟨vq,hvq⟩:∃ vq:Nat,v=(vq:Int):=⟨v.toNat,by have:=HV.out;omega⟩
     have hvq4:vq<4:=by have:=HV.out;omega
     have HTA:=lh (HBX.out.tb.at_ (by have:=HSZ.out;omega))
     have hil:t<T.nl:=by
      have h1:=fH fy (by omega) HTA.out.all;have h2:=HOK.out.long;have h3:=(g_E HX.out).1;omega
     obtain ⟨bl,ol,all9,e1,e2,e3,e4⟩:=ft fy (by omega) HTA.out.all hil;obtain rfl:all=all9:=Option.some.inj (HAT.out.ha.symm.trans e3);have HAA:=lh e1;have HAC:Hid (bl<n0∧W12.cell? ⟨bl,ol+t * 4+vq,none⟩=some (.int .i64 (au all (vq:Int)))):=lh ⟨by obtain ⟨a9,h1,h2,_⟩:=HBX.out.tb.all.2 (by omega);rw [e1] at h1;cases h1;exact h2,e4 vq _ (iO all hvq4)⟩;have HVQ:=lh hvq;have HIL:=lh hil;have HVQ4:=lh hvq4;have hnl:T.nl≤13:=HTA.out.small.2.2.2;have HNL:=lh hnl
     obtain ⟨n,hn⟩:∃ n,eV T.m all x=n:=⟨_,rfl⟩
     have HN:=lh hn;clear e1 e2 e3 e4 hfq hvq hil hvq4 hn hnl;by_cases hnal:n=au all v
     ·
      have hnb:(n==au all (vq:Int))=true:=by rw [← HVQ.out];simpa using hnal
      have HNB:=lh hnb;have HNAL:=lh hnal;clear hnb hnal;refine Gr.wpIn_flow_old (G:=KpR n0 n1) [([true,true,false,true,true,true,true,true,true,true,true,true],2),([false,false,false,false,false,false,false,false,false,false,false,false,true,true,true,true,true,true,true,true,true],21)] [false,false,false,false,false,false,false,false,false,false,false,false,false,false,false,false,false,false,false,false,false,false,true,true] [] (by kernel_rfl) (by kernel_rfl) (by kernel_rfl) (av b_R 1) ?_;refine Gr.wpFlow_cons (A:=?AW27) rfl ?hw27 ?_
      case hw27 =>
       rintro σ hσ of hof hcl;have HOF:=lh hof;clear hof hcl;have c0:∀ z,(of z).cell? ⟨gt,0,none⟩=some (.pointer (some ⟨T.g,0,none⟩)):=fun z=>(HBX.out.kp HP.out (HOF.out z)).bt.cell 0;have c1:∀ z,(of z).cell? ⟨T.g,2,none⟩=some (.slice T.Aa T.na T.ca):=fun z=>(HBX.out.kp HP.out (HOF.out z)).tb.blk.cell 2;have c2:∀ z,(of z).cell? ⟨T.g,4,none⟩=some (.slice (some ⟨bl,ol,none⟩) T.nl T.cl):=fun z=>(HBX.out.kp HP.out (HOF.out z)).tb.blk.cell 4 |>.trans (by rw [← HAA.out];rfl);have c3:∀ z,(of z).cell? ⟨ge,0,none⟩=some (.func (.func 114) #[] #[.pointer (some ⟨gs,0,none⟩),.pointer (some ⟨gy,0,none⟩),.pointer (some ⟨gt,0,none⟩),.pointer (some ⟨ge,0,none⟩)]):=fun z=>(HBX.out.kp HP.out (HOF.out z)).be.cell 0;have c4:∀ z,(of z).cell? ⟨gs,0,none⟩=some (.int .i64 (q:Int)):=fun z=>(HBX.out.kp HP.out (HOF.out z)).bs.cell 0;have c5:∀ z,(of z).cell? ⟨gs,1,none⟩=some (.int .i64 (k:Int)):=fun z=>(HBX.out.kp HP.out (HOF.out z)).bs.cell 1;have ch:∀ z,(of z).cell? ⟨bl,ol+t * 4+vq,none⟩=some (.int .i64 (au all (vq:Int))):=fun z=>gR (HOF.out z) HAC.out.1 HAC.out.2;have b0:∀ z,(of z).cell? ⟨gw,0,none⟩=some (.int .i64 v):=fun z=>((HOF.out z).blk (.inr HGW9.out) HSB.out).cell 0;have hil:=HIL.out;have hnl:=HNL.out;have hv4:=HVQ4.out;have hvi:(vq:Int)<4:=by omega
       have hvv:=HFV.out;have hvq:=HVQ.out;have hnb:=HNB.out;have hfw:=hfT;simp only [bu]
       iterate 11 (gi_big_quiet_step (fail))
       refine wpQuietIn_nil ?_;exact rfl
      intro W20 hW;have HB20:=lh hW;clear hW;gi_wp2;refine ⟨trivial,(c_W (ic T t x all W20 ((HBX.out.kp HP.out (KpR.of_below HB20.out)).tb.at_ (by have h1:=HSZ.out;have h2:=HB20.out.size;omega)) HX.out HAT.out.ha HAT.out.ok.kind HAT.out.four)).mono ?_⟩;rintro e W21 ⟨rfl,hb⟩;rw [HN.out];have HB21:=lh (show Below W12.heap.size W12 W21 from HB20.out.trans (hb.mono HB20.out.size));have HBb:=lh hb;clear hb;gi_wp2;refine ⟨trivial,KpR.of_below HBb.out,?_⟩;have HK21:=lh (show KpR n0 n1 W12 W21 from KpR.of_below HB21.out);replace HBX:=lh (HBX.out.kp HP.out HK21.out);replace HSB:=lh (HK21.out.blk (.inr HGW9.out) HSB.out);replace HSZ:=lh (Nat.le_trans HSZ.out HK21.out.1);replace HK:=lh (HK.out.trans HK21.out);replace HJC:=lh (HJ.out _ _ _ HJC.out HB21.out);clear HK21 HB21 HBb HB20 HAC;refine Gr.wpFlow_cons (A:=?AW28) rfl ?hw28 ?_
      case hw28 =>
       rintro σ hσ of hof hcl;have HOF:=lh hof;clear hof hcl;have c0:∀ z,(of z).cell? ⟨gt,0,none⟩=some (.pointer (some ⟨T.g,0,none⟩)):=fun z=>(HBX.out.kp HP.out (HOF.out z)).bt.cell 0;have c1:∀ z,(of z).cell? ⟨T.g,2,none⟩=some (.slice T.Aa T.na T.ca):=fun z=>(HBX.out.kp HP.out (HOF.out z)).tb.blk.cell 2;have c2:∀ z,(of z).cell? ⟨T.g,4,none⟩=some (.slice T.AA T.nl T.cl):=fun z=>(HBX.out.kp HP.out (HOF.out z)).tb.blk.cell 4;have c3:∀ z,(of z).cell? ⟨ge,0,none⟩=some (.func (.func 114) #[] #[.pointer (some ⟨gs,0,none⟩),.pointer (some ⟨gy,0,none⟩),.pointer (some ⟨gt,0,none⟩),.pointer (some ⟨ge,0,none⟩)]):=fun z=>(HBX.out.kp HP.out (HOF.out z)).be.cell 0;have c4:∀ z,(of z).cell? ⟨gs,0,none⟩=some (.int .i64 (q:Int)):=fun z=>(HBX.out.kp HP.out (HOF.out z)).bs.cell 0;have c5:∀ z,(of z).cell? ⟨gs,1,none⟩=some (.int .i64 (k:Int)):=fun z=>(HBX.out.kp HP.out (HOF.out z)).bs.cell 1;have b0:∀ z,(of z).cell? ⟨gw,0,none⟩=some (.int .i64 v):=fun z=>((HOF.out z).blk (.inr HGW9.out) HSB.out).cell 0;have hnb:=HNB.out;have ht12:=HT12.out;have hfw:=hfT;simp only [bu]
       iterate 9 (gi_big_quiet_step (fail))
       refine wpQuietIn_nil ?_;exact rfl
      intro W22 hW;have HB22:=lh hW;clear hW;gi_wp2;refine ⟨fun _ h=>(by cases h),?_⟩;gi_wp2
      first | refine ⟨rfl,KpR.of_below b_R,?_⟩ | refine ⟨trivial,KpR.of_below b_R,?_⟩ | refine ⟨KpR.of_below b_R,?_⟩
      have HK22:=lh (show KpR n0 n1 W21 W22 from KpR.of_below HB22.out);replace HK:=lh (HK.out.trans HK22.out);have HJE:=lh (HJ.out _ _ _ HJC.out HB22.out);clear HK22;refine Gr.wpFlow_nil (A:=?AW29)  ?hw29 ?_
      case hw29 =>
       rintro σ hσ of hof hcl;have HOF:=lh hof;clear hof hcl;have hnb:=HNB.out;have hfw:=hfT;simp only [bu]
       iterate 2 (gi_big_quiet_step (fail))
       refine wpQuietIn_nil ?_;exact rfl
      intro W24 hW;have HB24:=lh hW;clear hW;simp only [bu];refine eK ?_;gi_wp2;refine bodyPost_ret (v:=.bool true) (by simp [results,Tryz.results114,go_sem]) rfl ?_;have HJF:=HJ.out _ _ _ HJE.out HB24.out;refine ⟨rfl,[],?_,?_,HK.out.trans (KpR.of_below HB24.out)⟩
      ·rw [HFO.out,if_neg (by rw [HFR.out,HFV.out];simp),HTO.out,HN.out,if_neg (Int.not_le.2 HTB0.out),if_pos HNAL.out]
       rfl
      ·rw [List.append_nil];exact HJF
     ·
      have hnb:(n==au all (vq:Int))=false:=by rw [← HVQ.out];simpa using hnal
      have HNB:=lh hnb;have HNAL:=lh hnal;clear hnb hnal;refine Gr.wpIn_flow_old (G:=KpR n0 n1) [([true,true,false,true,true,true,true,true,true,true,true,true],2),([false,false,false,false,false,false,false,false,false,false,false,false,true,true,true,true,true,true,true,true,true],21)] [false,false,false,false,false,false,false,false,false,false,false,false,false,false,false,false,false,false,false,false,false,false,true,true] [] (by kernel_rfl) (by kernel_rfl) (by kernel_rfl) (av b_R 1) ?_;refine Gr.wpFlow_cons (A:=?AW30) rfl ?hw30 ?_
      case hw30 =>
       rintro σ hσ of hof hcl;have HOF:=lh hof;clear hof hcl;have c0:∀ z,(of z).cell? ⟨gt,0,none⟩=some (.pointer (some ⟨T.g,0,none⟩)):=fun z=>(HBX.out.kp HP.out (HOF.out z)).bt.cell 0;have c1:∀ z,(of z).cell? ⟨T.g,2,none⟩=some (.slice T.Aa T.na T.ca):=fun z=>(HBX.out.kp HP.out (HOF.out z)).tb.blk.cell 2;have c2:∀ z,(of z).cell? ⟨T.g,4,none⟩=some (.slice (some ⟨bl,ol,none⟩) T.nl T.cl):=fun z=>(HBX.out.kp HP.out (HOF.out z)).tb.blk.cell 4 |>.trans (by rw [← HAA.out];rfl);have c3:∀ z,(of z).cell? ⟨ge,0,none⟩=some (.func (.func 114) #[] #[.pointer (some ⟨gs,0,none⟩),.pointer (some ⟨gy,0,none⟩),.pointer (some ⟨gt,0,none⟩),.pointer (some ⟨ge,0,none⟩)]):=fun z=>(HBX.out.kp HP.out (HOF.out z)).be.cell 0;have c4:∀ z,(of z).cell? ⟨gs,0,none⟩=some (.int .i64 (q:Int)):=fun z=>(HBX.out.kp HP.out (HOF.out z)).bs.cell 0;have c5:∀ z,(of z).cell? ⟨gs,1,none⟩=some (.int .i64 (k:Int)):=fun z=>(HBX.out.kp HP.out (HOF.out z)).bs.cell 1;have ch:∀ z,(of z).cell? ⟨bl,ol+t * 4+vq,none⟩=some (.int .i64 (au all (vq:Int))):=fun z=>gR (HOF.out z) HAC.out.1 HAC.out.2;have b0:∀ z,(of z).cell? ⟨gw,0,none⟩=some (.int .i64 v):=fun z=>((HOF.out z).blk (.inr HGW9.out) HSB.out).cell 0;have hil:=HIL.out;have hnl:=HNL.out;have hv4:=HVQ4.out;have hvi:(vq:Int)<4:=by omega
       have hvv:=HFV.out;have hvq:=HVQ.out;have hnb:=HNB.out;have hfw:=hfT;simp only [bu]
       iterate 11 (gi_big_quiet_step (fail))
       refine wpQuietIn_nil ?_;exact rfl
      intro W20 hW;have HB20:=lh hW;clear hW;gi_wp2;refine ⟨trivial,(c_W (ic T t x all W20 ((HBX.out.kp HP.out (KpR.of_below HB20.out)).tb.at_ (by have h1:=HSZ.out;have h2:=HB20.out.size;omega)) HX.out HAT.out.ha HAT.out.ok.kind HAT.out.four)).mono ?_⟩;rintro e W21 ⟨rfl,hb⟩;rw [HN.out];have HB21:=lh (show Below W12.heap.size W12 W21 from HB20.out.trans (hb.mono HB20.out.size));have HBb:=lh hb;clear hb;gi_wp2;refine ⟨trivial,KpR.of_below HBb.out,?_⟩;have HK21:=lh (show KpR n0 n1 W12 W21 from KpR.of_below HB21.out);replace HBX:=lh (HBX.out.kp HP.out HK21.out);replace HSB:=lh (HK21.out.blk (.inr HGW9.out) HSB.out);replace HSZ:=lh (Nat.le_trans HSZ.out HK21.out.1);replace HK:=lh (HK.out.trans HK21.out);replace HJC:=lh (HJ.out _ _ _ HJC.out HB21.out);clear HK21 HB21 HBb HB20 HAC;refine Gr.wpFlow_cons (A:=?AW31) rfl ?hw31 ?_
      case hw31 =>
       rintro σ hσ of hof hcl;have HOF:=lh hof;clear hof hcl;have c0:∀ z,(of z).cell? ⟨gt,0,none⟩=some (.pointer (some ⟨T.g,0,none⟩)):=fun z=>(HBX.out.kp HP.out (HOF.out z)).bt.cell 0;have c1:∀ z,(of z).cell? ⟨T.g,2,none⟩=some (.slice T.Aa T.na T.ca):=fun z=>(HBX.out.kp HP.out (HOF.out z)).tb.blk.cell 2;have c2:∀ z,(of z).cell? ⟨T.g,4,none⟩=some (.slice T.AA T.nl T.cl):=fun z=>(HBX.out.kp HP.out (HOF.out z)).tb.blk.cell 4;have c3:∀ z,(of z).cell? ⟨ge,0,none⟩=some (.func (.func 114) #[] #[.pointer (some ⟨gs,0,none⟩),.pointer (some ⟨gy,0,none⟩),.pointer (some ⟨gt,0,none⟩),.pointer (some ⟨ge,0,none⟩)]):=fun z=>(HBX.out.kp HP.out (HOF.out z)).be.cell 0;have c4:∀ z,(of z).cell? ⟨gs,0,none⟩=some (.int .i64 (q:Int)):=fun z=>(HBX.out.kp HP.out (HOF.out z)).bs.cell 0;have c5:∀ z,(of z).cell? ⟨gs,1,none⟩=some (.int .i64 (k:Int)):=fun z=>(HBX.out.kp HP.out (HOF.out z)).bs.cell 1;have b0:∀ z,(of z).cell? ⟨gw,0,none⟩=some (.int .i64 v):=fun z=>((HOF.out z).blk (.inr HGW9.out) HSB.out).cell 0;have hnb:=HNB.out;have ht12:=HT12.out;have hfw:=hfT;simp only [bu]
       iterate 9 (gi_big_quiet_step (fail))
       refine wpQuietIn_nil ?_;exact rfl
      intro W22 hW;have HB22:=lh hW;clear hW;have HK22:=lh (show KpR n0 n1 W21 W22 from KpR.of_below HB22.out);replace HBX:=lh (HBX.out.kp HP.out HK22.out);replace HSZ:=lh (Nat.le_trans HSZ.out HK22.out.1);replace HK:=lh (HK.out.trans HK22.out);replace HJC:=lh (HJ.out _ _ _ HJC.out HB22.out);clear HK22;have hih:=HIH.out (t+1) v Aw nw cw wl pre W22 HBX.out HJC.out (HR.out.safe HS.out HK.out) (HS.out.kp HK.out) (by omega) (by omega) HSZ.out HV.out (by have h9:=HNN.out;rw [HFO.out,if_neg (by rw [HFR.out,HFV.out];simp),HTO.out,HN.out,if_neg (Int.not_le.2 HTB0.out),if_neg HNAL.out] at h9;simp only [List.length_append,List.length_nil] at h9;omega);rw [show ((t+1:Nat):Int)=(t:Int)+1 from by omega] at hih;gi_wp2;refine ⟨trivial,(c_W hih).mono ?_⟩;rintro e W23 ⟨rfl,ys,hys,hJ23,hk23⟩;have HYS:=lh hys;have HJE:=lh hJ23;have HK23:=lh hk23;replace HK:=lh (HK.out.trans HK23.out);clear hys hJ23 hk23 hih;gi_wp2;refine ⟨trivial,HK23.out,?_⟩;clear HK23;refine Gr.wpFlow_nil (A:=?AW32)  ?hw32 ?_
      case hw32 =>
       rintro σ hσ of hof hcl;have HOF:=lh hof;clear hof hcl;have hnb:=HNB.out;have hfw:=hfT;simp only [bu]
       iterate 2 (gi_big_quiet_step (fail))
       refine wpQuietIn_nil ?_;exact rfl
      intro W24 hW;have HB24:=lh hW;clear hW;simp only [bu];refine eK ?_;gi_wp2;refine bodyPost_ret (v:=.bool true) (by simp [results,Tryz.results114,go_sem]) rfl ?_;have HJF:=HJ.out _ _ _ HJE.out HB24.out;refine ⟨rfl,ys,?_,?_,HK.out.trans (KpR.of_below HB24.out)⟩
      ·rw [HFO.out,if_neg (by rw [HFR.out,HFV.out];simp),HTO.out,HN.out,if_neg (Int.not_le.2 HTB0.out),if_neg HNAL.out]
       rw [HYS.out];rfl
      ·exact HJF
  ·
   have hfvb:(fr==v)=false:=by simpa using hfv
   have HFV:=lh hfv;clear hfv;have c0:=HBX.out.bt.cell 0;have c0l:=HBX.out.bt.lt;have c3:=HBX.out.be.cell 0;have c3l:=HBX.out.be.lt;have c4:=HBX.out.bs.cell 0;have c5:=HBX.out.bs.cell 1;have c4l:=HBX.out.bs.lt;have c6:=HBX.out.by_.cell 0;have c6l:=HBX.out.by_.lt;have d0:=HSB.out.cell 0;have d1:=HSB.out.cell 1;have dl:=HSB.out.lt;have hih:=HIH.out (t+1) v Aw nw cw wl pre W3 HBX.out HJC.out (HR.out.safe HS.out HK.out) (HS.out.kp HK.out) (by omega) (by omega) HSZ.out HV.out (by have h9:=HNN.out;rw [HFO.out,if_pos (by rw [HFR.out];exact HFV.out)] at h9;exact h9);rw [show ((t+1:Nat):Int)=(t:Int)+1 from by omega] at hih;gi_wp2;refine ⟨trivial,(c_W hih).mono ?_⟩;rintro e W4 ⟨rfl,xs,hxs,hJ4,hk4⟩;have HXS:=lh hxs;have HJ4:=lh hJ4;have HK4:=lh hk4;clear hxs hJ4 hk4 hih;gi_wp2;refine bodyPost_ret (v:=.bool true) (by simp [results,Tryz.results114,go_sem]) rfl ?_;exact ⟨rfl,xs,by rw [HFO.out,if_pos (by rw [HFR.out];exact HFV.out)];exact HXS.out,HJ4.out,HK.out.trans HK4.out⟩
end
section
open Go.RowKit
theorem mh (x:Int)(w:World):Calls Tryz.prog 111 #[.int .i64 x] w fun e w'=>e = .returned (.bool false)∧w'=w:=by
 go_enter Tryz.func111,Tryz.ntmps111
 go_wp2_with fail
 go_ret
 exact ⟨rfl,rfl⟩
def cmpI (x y:Int):Int:=if x<y then -1 else if y<x then 1 else 0
theorem pG (x y:Int)(w:World):Calls Tryz.prog 75 #[.int .i64 x,.int .i64 y] w fun e w'=>e = .returned (.int .i64 (cmpI x y))∧w'=w:=by
 have h3:x<y∨(¬ x<y∧y<x)∨(¬ x<y∧¬ y<x):=by omega
 rcases h3 with h1 | ⟨h1,h2⟩ | ⟨h1,h2⟩
 all_goals
  go_enter Tryz.func75,Tryz.ntmps75
  go_wp2_with fail
  refine (mh x w).mono ?_;rintro e w1 ⟨rfl,rfl⟩
  go_wp2_with fail
  refine (mh y w1).mono ?_;rintro e w2 ⟨rfl,rfl⟩
  go_wp2_with fail
  go_ret
  exact ⟨fA (by unfold cmpI;split<;>first | rfl | omega | (split<;>first | rfl | omega)),rfl⟩
theorem rK (A:Option Addr)(n c:Nat)(a:List Int)(B:Option Addr)(m d:Nat)(b:List Int)(w:World)(ha:du w w.heap.size A n a)(hb:du w w.heap.size B m b)(hn:n≤maxLen)(hm:m≤maxLen) :
  Calls Tryz.prog 116 #[.slice A n c,.slice B m d] w fun e w'=>e = .returned (.int .i64 (cmpL a b))∧w'=w:=by
 unfold maxLen at hn hm
 go_enter Tryz.func116,Tryz.ntmps116
 go_wp2_with fail
 go_loopw [11] (fun i wr=>∃ k:Nat,k≤n∧k≤m∧i = .int .i64 k∧cmpL a b=cmpL (a.drop k) (b.drop k)∧wr=w)
  (fun i _=>n - (intOf i).toNat)
 case atStart=>exact ⟨0,by omega,by omega,rfl,by simp,rfl⟩
 case round =>
  obtain ⟨k,hk,hk',rfl,hc,rfl⟩:=hrel;have HC:=lh hc;clear hc;have la:=ha.len;have lb:=hb.len;by_cases h1:k<n
  ·by_cases h2:k<m
   ·obtain ⟨b1,o1,x,rfl,hb1,hx,cx⟩:=ha.cell h1
    obtain ⟨b2,o2,y,rfl,hb2,hy,cy⟩:=hb.cell h2;have HX:=lh hx;have HY:=lh hy;clear hx hy;have h2':¬ m≤k:=by omega
    go_wp2_with fail
    refine (pG x y wr).mono ?_;rintro e w1 ⟨rfl,rfl⟩;by_cases hxy:x<y
    ·have he:cmpI x y = -1:=by unfold cmpI;rw [if_pos hxy]
     go_wp2_with fail
     go_ret
     exact ⟨fA (by rw [HC.out,mr HX.out HY.out,if_pos hxy]),rfl⟩
    ·by_cases hyx:y<x
     ·have he:cmpI x y=1:=by unfold cmpI;rw [if_neg (by omega),if_pos hyx]
      go_wp2_with fail
      go_ret
      exact ⟨fA (by rw [HC.out,mr HX.out HY.out,if_neg (by omega),if_pos hyx]),rfl⟩
     ·have he:cmpI x y=0:=by unfold cmpI;rw [if_neg (by omega),if_neg (by omega)]
      go_wp2_with fail
      go_roundw
      case rel=>exact ⟨k+1,by omega,by omega,by go_num,by rw [HC.out,mr HX.out HY.out,if_neg (by omega),if_neg (by omega)],trivial⟩
      case measure=>simp [intOf];omega
   ·obtain ⟨b1,o1,x,rfl,hb1,hx,cx⟩:=ha.cell h1
    have HX:=lh hx;clear hx;have h2':m≤k:=by omega
    go_wp2_with fail
    go_ret
    refine ⟨fA ?_,rfl⟩;obtain ⟨hk1,_⟩:=g_E HX.out;rw [HC.out,List.drop_eq_getElem_cons hk1,show b.drop k=[] from List.drop_eq_nil_of_le (by omega)];rfl
  ·by_cases h2:n<m
   ·go_wp2_with fail
    go_ret
    refine ⟨fA ?_,rfl⟩;rw [HC.out,show a.drop k=[] from List.drop_eq_nil_of_le (by omega),List.drop_eq_getElem_cons (show k<b.length by omega)];rfl
   ·go_wp2_with fail
    go_ret
    refine ⟨fA ?_,rfl⟩;rw [HC.out,show a.drop k=[] from List.drop_eq_nil_of_le (by omega),show b.drop k=[] from List.drop_eq_nil_of_le (by omega)];rfl
end
section
open Go.RowKit Go.Shelf
def or2 (a b:Int):Int:=if a=0 then b else a
theorem wR (a b:Int)(g:Nat)(w:World)(hg:Blk w g 3 #[.int .i64 a,.int .i64 b]) :
  Calls Tryz.prog 115 #[.slice (some ⟨g,0,none⟩) 2 2] w fun e w'=>e = .returned (.int .i64 (or2 a b))∧w'=w:=by
 have c0:=hg.cell 0;have c1:=hg.cell 1;have hlt:=hg.lt;clear hg
 go_enter Tryz.func115,Tryz.ntmps115
 go_wp2_with fail
 go_loop [8,5] (fun i x=>∃ k:Nat,k≤2∧i = .int .i64 k∧Hid ((0<k→a=0)∧(1<k→b=0))) (fun i _=>2 - (intOf i).toNat)
 case atStart=>exact ⟨0,by omega,rfl,lh ⟨fun h=>absurd h (by omega),fun h=>absurd h (by omega)⟩⟩
 case round =>
  obtain ⟨k,hk,rfl,HP⟩:=hrel;have hk':k=0∨k=1∨k=2:=by omega
  rcases hk' with rfl | rfl | rfl
  ·by_cases ha:a=0
   ·have ha':(a==0)=true:=by simpa using ha
    have ha2:(a != 0)=false:=by simpa using ha
    have HA:=lh ha;clear ha
    go_wp2_with fail
    go_round
    case rel=>exact ⟨1,by omega,by go_num,lh ⟨fun _=>HA.out,fun h=>absurd h (by omega)⟩⟩
    case measure=>simp [intOf]
   ·have ha':(a==0)=false:=by simpa using ha
    have ha2:(a != 0)=true:=by simpa using ha
    have HA:=lh ha;clear ha
    go_wp2_with fail
    go_ret
    exact ⟨fA (by unfold or2;rw [if_neg HA.out]),rfl⟩
  ·by_cases hb:b=0
   ·have hb':(b==0)=true:=by simpa using hb
    have hb2:(b != 0)=false:=by simpa using hb
    have HB:=lh hb;clear hb
    go_wp2_with fail
    go_round
    case rel=>exact ⟨2,by omega,by go_num,lh ⟨fun _=>HP.out.1 (by omega),fun _=>HB.out⟩⟩
    case measure=>simp [intOf]
   ·have hb':(b==0)=false:=by simpa using hb
    have hb2:(b != 0)=true:=by simpa using hb
    have HB:=lh hb;clear hb
    go_wp2_with fail
    go_ret
    exact ⟨fA (by unfold or2;rw [if_pos (HP.out.1 (by omega))]),rfl⟩
  ·go_wp2_with fail
   go_ret
   exact ⟨fA (by unfold or2;rw [if_pos (HP.out.1 (by omega)),HP.out.2 (by omega)]),rfl⟩
theorem uD (a b:List Int):or2 (cmpI a.length b.length) (cmpL a b)=cmpS a b:=by
 unfold or2 cmpI cmpS;by_cases h1:a.length<b.length
 ·have h1':(a.length:Int)<b.length:=by omega
  simp [h1,h1']
 ·by_cases h2:b.length<a.length
  ·have h1':¬ (a.length:Int)<b.length:=by omega
   have h2':(b.length:Int)<a.length:=by omega
   simp [h1,h2,h1',h2']
  ·have h1':¬ (a.length:Int)<b.length:=by omega
   have h2':¬ (b.length:Int)<a.length:=by omega
   simp [h1,h2,h1',h2']
theorem qI (A:Option Addr)(n c:Nat)(a:List Int)(B:Option Addr)(m d:Nat)(b:List Int)(w:World)(ha:du w w.heap.size A n a)(hb:du w w.heap.size B m b)(hn:n≤1000)(hm:m≤1000) :
  Calls Tryz.prog 80 #[.slice A n c,.slice B m d] w fun e w'=>e = .returned (.int .i64 (cmpS a b))∧Below w.heap.size w w':=by
 have hR:=(uD a b).symm;rw [show a.length=n from ha.len,show b.length=m from hb.len] at hR;have HR:=lh hR;have HA:=lh ha;have HB:=lh hb;clear hR ha hb;generalize cmpS a b=cs at *
 go_enter Tryz.func80,Tryz.ntmps80
 go_wp2_with fail
 refine (pG n m w).mono ?_;rintro e w1 ⟨rfl,rfl⟩
 go_wp2_with fail
 refine (rK A n c a B m d b w1 HA.out HB.out (Nat.le_trans hn (by unfold maxLen;omega)) (Nat.le_trans hm (by unfold maxLen;omega))).mono ?_;rintro e w2 ⟨rfl,rfl⟩
 go_wp2_with fail
 have hbs:Below w2.heap.size w2 (w2.alloc (.cells #[.int .i64 (cmpI n m),.int .i64 (cmpL a b)] 3)):=b_R.alloc n_R _;refine (wR (cmpI n m) (cmpL a b) w2.heap.size _ (Blk.new w2 3 #[.int .i64 (cmpI n m),.int .i64 (cmpL a b)])).mono ?_;rintro e w3 ⟨rfl,rfl⟩
 go_wp2_with fail
 go_ret
 exact ⟨fA (HR.out.symm),hbs⟩
end
end Go.Proofs.YthofngceiecniaaGreat
