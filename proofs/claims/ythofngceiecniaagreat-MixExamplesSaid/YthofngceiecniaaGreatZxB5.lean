/- Part 5 of the texts of this claim, joined. -/
import Derived.Test.YthofngceiecniaaGreatRows
import Derived.RangeFuncNested
import Derived.Maps.RangeWalk
import Derived.Maps.OwnIn
import Derived.Test.YthofngceiecniaaGreatZxB4
set_option linter.unusedVariables false
/- mix.laid: the table, and whether the mixed water is valid. -/
namespace Go.Proofs.YthofngceiecniaaGreat
set_option maxHeartbeats 16000000
set_option maxRecDepth 100000
section
open Go.RowKit
def LdA (w W:World)(bs:List (Nat × TypeId × Array Value))(A5:Option Addr)(k c5:Nat)(m:Mix):Prop :=
 Lay w W bs∧Own W (w.heap.size+3) 3 1 A5 k c5 (((m.vessels.take k).map (·.id)).map (Value.int .i64))∧(m.vessels.take k).all lE=true
def LdB (w W:World)(bs:List (Nat × TypeId × Array Value))(A5:Option Addr)(nv c5:Nat)(A6:Option Addr)(k c6:Nat)(m:Mix):Prop :=
 Lay w W bs∧Own W (w.heap.size+3) 3 1 A5 nv c5 ((m.vessels.map (·.id)).map (Value.int .i64))∧Own W (w.heap.size+3) 3 1 A6 k c6 (((m.tastes.take k).map (·.num)).map (Value.int .i64))∧(∀ a b,A5=some a→A6=some b→a.block≠b.block)∧(m.tastes.take k).all (gJ m)=true
def LdC (w W:World)(T:Tb)(A5:Option Addr)(c5:Nat)(A6:Option Addr)(c6 k:Nat):Prop :=
 gI W w.heap.size T∧Below w.heap.size w W∧allM T.m (T.m.acts.take k)=some T.L∧(∀ (j:Nat) (s:Held),T.L[j]? =some s→s.length=4∧∀ q:Nat,0≤au s q∧au s q≤12) ∧
 (Own W (w.heap.size+3) 3 1 A5 T.nv c5 ((T.m.vessels.map (·.id)).map (Value.int .i64))∧Own W (w.heap.size+3) 3 1 A6 T.nt c6 ((T.m.tastes.map (·.num)).map (Value.int .i64))) ∧
 ∀ a,(A5=some a∨A6=some a)→a.block<W.heap.size∧a.block≠T.g∧some a.block≠T.AA.map (·.block)
theorem Own.keep2 {w w':World}{base n cap size g:Nat}{e:TypeId}{A:Option Addr}{xs:List Value}{row:Option Nat}(h:Own w base e size A n cap xs)(hk:sB w w' g row)(hne:∀ a,A=some a→a.block≠g∧some a.block≠row):Own w' base e size A n cap xs:=by
 refine ⟨h.1,?_⟩
 rcases h.2 with h' | ⟨g',cap',cur,hv,hb,hgb,hrest⟩
 ·exact .inl h'
 ·have hA:A=some ⟨g',0,none⟩:=by simpa using congrArg (fun v=>match v with | Value.slice a _ _=>a | _=>none) hv
  have hlt:g'<w.heap.size:=(Array.getElem?_eq_some_iff.1 hgb).1;exact .inr ⟨g',cap',cur,hv,hb,(hk.2 g' hlt (hne _ hA).1 (hne _ hA).2).trans hgb,hrest⟩
theorem vQ {w W W':World}{T:Tb}{A5 A6 A9:Option Addr}{c5 c6 c9 k:Nat}{x:MAct}{s s':Held}(h:LdC w W T A5 c5 A6 c6 k)(hx:T.m.acts[k]? =some x)(hs:T.L[k]? =some s)(hd:fT T.m s x=some s')(hz:ka T.m)
  (hT:gI W' w.heap.size (T.plus A9 c9 s')) (hb:Below w.heap.size W W') (hk:sB W W' T.g (T.AA.map (·.block))) (hA:∀ a,A9=some a→A9=T.AA∨W.heap.size≤a.block):LdC w W' (T.plus A9 c9 s') A5 c5 A6 c6 (k+1):=by
 obtain ⟨h1,h2,h3,h4,⟨h5,h6⟩,h7⟩:=h;have hv:T.m.vessels.length≤4:=by have:=h1.mix.lenV;have:=h1.small;omega
 refine ⟨hT,h2.trans hb,?_,?_,⟨h5.keep2 hk (fun a ha=>(h7 a (.inl ha)).2),h6.keep2 hk (fun a ha=>(h7 a (.inr ha)).2)⟩,fun a ha=>?_⟩
 ·show allM T.m (T.m.acts.take (k+1))=some (T.L++[s'])
  rw [oM hx h3 hs,hd];rfl
 ·intro j u hu
  have hu':(T.L++[s'])[j]? =some u:=hu;by_cases hj:j<T.L.length
  ·rw [List.getElem?_append_left hj] at hu'
   exact h4 j u hu'
  ·rw [List.getElem?_append_right (by omega)] at hu'
   have hj0:j - T.L.length=0:=by
    have:=(g_E hu').1;simp at this;omega
   rw [hj0] at hu';have e:s'=u:=by simpa using hu'
   rw [← e];have:=h4 k s hs;exact nL hv hz this.1 this.2 hd
 ·obtain ⟨q1,q2,q3⟩:=h7 a ha
  refine ⟨Nat.lt_of_lt_of_le q1 hk.1,q2,?_⟩
  show some a.block≠A9.map (·.block)
  cases h9:A9 with
  | none=>simp
  | some b =>
   rcases hA b h9 with e | e
   ·rw [← h9,e];exact q3
   ·intro e2
    have:=Option.some.inj e2;dsimp only at this;omega
theorem vD {w W:World}{Av Aa At:Option Addr}{nv cv na ca nt ct:Nat}{m:Mix}(h:Lay w W [(w.heap.size,26,#[.int .i64 m.fountains,.slice Av nv cv,.slice Aa na ca,.slice At nt ct]),(w.heap.size+1,115,#[.int .i64 0,.int .i64 0,.int .i64 0,.int .i64 0]),(w.heap.size+1+1,121,#[.int .i64 m.fountains,.slice Av nv cv,.slice Aa na ca,.slice At nt ct,.slice (some ⟨w.heap.size+1,0,none⟩) 1 1])])(hm:fC w w.heap.size Av nv Aa na At nt m)(hn:nv≤4∧na≤12∧nt≤8) :
  TbAt W ⟨w.heap.size+1+1,Av,nv,cv,Aa,na,ca,At,nt,ct,some ⟨w.heap.size+1,0,none⟩,1,1,m,[fh]⟩:=by
 refine ⟨h.blk 2 rfl,hm.up h.1,?_,hn.1,hn.2.1,hn.2.2,(by show 1≤13;decide)⟩;have hb:=h.blk 1 rfl;refine ⟨rfl,fun _=>⟨_,rfl,hb.lt,fun j u hu=>?_⟩⟩
 have ha:((⟨w.heap.size+1,0,none⟩:Addr).add j)=⟨w.heap.size+1,j,none⟩:=by
  unfold Addr.add;by_cases hj:j=0
  ·subst hj;simp
  ·simp [hj]
 rw [ha,hb.cell,← Array.getElem?_toList];exact hu
theorem ss:fh.length=4∧∀ q:Nat,0≤au fh q∧au fh q≤12:=by
 refine ⟨rfl,fun q=>?_⟩
 match q with
 | 0=>decide
 | 1=>decide
 | 2=>decide
 | 3=>decide
 | q+4 =>
  have:au fh ((q+4:Nat):Int)=0:=by
   unfold au;rw [List.getElem?_eq_none (by simp [fh];omega)];rfl
  rw [this]
  decide
theorem xM {w W:World}{Av Aa At:Option Addr}{nv cv na ca nt ct:Nat}{m:Mix}(h:Lay w W [(w.heap.size,26,#[.int .i64 m.fountains,.slice Av nv cv,.slice Aa na ca,.slice At nt ct]),(w.heap.size+1,115,#[.int .i64 0,.int .i64 0,.int .i64 0,.int .i64 0]),(w.heap.size+1+1,121,#[.int .i64 m.fountains,.slice Av nv cv,.slice Aa na ca,.slice At nt ct,.slice (some ⟨w.heap.size+1,0,none⟩) 1 1])])(hm:fC w w.heap.size Av nv Aa na At nt m)(hn:nv≤4∧na≤12∧nt≤8) :
  gI W w.heap.size ⟨w.heap.size+1+1,Av,nv,cv,Aa,na,ca,At,nt,ct,some ⟨w.heap.size+1,0,none⟩,1,1,m,[fh]⟩:=by
 refine ⟨h.blk 2 rfl,hm.below h.1,⟨rfl,.inr ⟨w.heap.size+1,1,_,rfl,by omega,h.blk 1 rfl,n_R,by unfold maxLen;omega,rfl,rfl⟩⟩,?_,⟨h.1.size,by dsimp only;omega⟩,hn.1,hn.2.1,hn.2.2,(by show 1≤13;decide)⟩;intro a ha;cases ha;dsimp only;omega
theorem lM {m:Mix}{k:Nat}{x:Tast}(hx:m.tastes[k]? =some x)(h:gJ m x=false):m.tastes.all (gJ m)=false:=by
 cases h0:m.tastes.all (gJ m) with
 | false=>rfl
 | true=>exact absurd ((List.all_eq_true.1 h0 x (List.mem_of_getElem? hx)).symm.trans h) (by decide)
theorem uZ (Av:Option Addr)(nv cv:Nat)(Aa:Option Addr)(na ca:Nat)(At:Option Addr)(nt ct:Nat)(m:Mix)(w:World)(h:fC w w.heap.size Av nv Aa na At nt m)(hnv:nv≤1000)(hna:na≤1000)(hnt:nt≤1000) :
  Calls Tryz.prog 52 #[.agg #[.int .i64 m.fountains,.slice Av nv cv,.slice Aa na ca,.slice At nt ct]] w (fU w Av nv cv Aa na ca At nt ct m):=by
 have HM:=lh h;have HLV:=lh h.lenV;have HLA:=lh h.lenA;have HLT:=lh h.lenT;clear h
 go_enter Tryz.func52,Tryz.ntmps52
 go_upto_region 2 with fail
 have Ly:=lh (Lay.three w 26 #[.int .i64 m.fountains,.slice Av nv cv,.slice Aa na ca,.slice At nt ct] 115 #[.int .i64 0,.int .i64 0,.int .i64 0,.int .i64 0] 121 #[.int .i64 m.fountains,.slice Av nv cv,.slice Aa na ca,.slice At nt ct,.slice (some ⟨w.heap.size+1,0,none⟩) 1 1]);generalize (((w.alloc (.cells #[.int .i64 m.fountains,.slice Av nv cv,.slice Aa na ca,.slice At nt ct] 26)).alloc (.cells #[.int .i64 0,.int .i64 0,.int .i64 0,.int .i64 0] 115)).alloc (.cells #[.int .i64 m.fountains,.slice Av nv cv,.slice Aa na ca,.slice At nt ct,.slice (some ⟨w.heap.size+1,0,none⟩) 1 1] 121))=w0 at *;obtain ⟨x0,x1,x2,x3⟩:=lyc4 Ly 0 rfl;have xl:=Ly.out.lt 0 rfl
 go_wp2_with fail
 have Y:=du.new w0 3 [m.fountains] (w0.heap.size+1) (by omega);refine (gm 1 4 (some ⟨w0.heap.size,0,none⟩) 1 1 [m.fountains] _ (Y.more (by simp)) (by decide)).mono ?_;rintro e W1 ⟨rfl,hb⟩;have hb0:Below w0.heap.size w0 W1:=(b_R.alloc n_R _).trans (hb.mono (by simp));replace Ly:=lyb Ly hb0;clear hb hb0 x0 x1 x2 x3 xl Y;obtain ⟨x0,x1,x2,x3⟩:=lyc4 Ly 0 rfl;have xl:=Ly.out.lt 0 rfl;by_cases hG:(1≤m.fountains∧m.fountains≤4)∧m.vessels.length≤4∧m.acts.length≤12∧m.tastes.length≤8
 ·have HG:=lh hG
  have hi:inB 1 4 [m.fountains]=true:=by rw [fw];exact decide_eq_true hG.1
  have hn4:nv≤4:=by have:=HLV.out;omega
  have hn12:na≤12:=by have:=HLA.out;omega
  have hn8:nt≤8:=by have:=HLT.out;omega
  have d1:(nv:Int)≤4:=by omega
  have d2:(na:Int)≤12:=by omega
  have d3:(nt:Int)≤8:=by omega
  rw [hi];clear hi hG
  go_wp2_with fail
  clear d1 d2 d3 x0 x1 x2 x3 xl
  go_loopw [5,43] (fun v5 i wr=>∃ (k:Nat) (A5:Option Addr) (c5:Nat),k≤nv∧i = .int .i64 k∧v5 = .slice A5 k c5∧Hid (LdA w wr [(w.heap.size,26,#[.int .i64 m.fountains,.slice Av nv cv,.slice Aa na ca,.slice At nt ct]),(w.heap.size+1,115,#[.int .i64 0,.int .i64 0,.int .i64 0,.int .i64 0]),(w.heap.size+1+1,121,#[.int .i64 m.fountains,.slice Av nv cv,.slice Aa na ca,.slice At nt ct,.slice (some ⟨w.heap.size+1,0,none⟩) 1 1])] A5 k c5 m))
   (fun _ i _=>nv - (intOf i).toNat)
  case atStart=>exact ⟨0,none,0,by omega,rfl,rfl,lh ⟨Ly.out,Own.none_ _ _ _ _,rfl⟩⟩
  case round =>
   clear Ly;obtain ⟨k,A5,c5,hk,rfl,rfl,HS⟩:=hrel;have hlay:=HS.out.1;have Ly:=lh hlay;have hW3:w.heap.size+3≤wr.heap.size:=by have:=hlay.lt 2 rfl;omega
   obtain ⟨x0,x1,x2,x3⟩:=lyc4 Ly 0 rfl;have xl:=Ly.out.lt 0 rfl;clear hlay;by_cases hlt:k<nv
   ·clear x0 x1 x2 x3 xl
    obtain ⟨b,off,x,rfl,hbB,hx,hc0,hc1⟩:=(HM.out.below Ly.out.1).vess hlt;have HX:=lh hx;clear hx
    go_upto_region 8 with fail
    have hb1:Below wr.heap.size wr (wr.alloc (.cells #[.int .i64 x.id,.int .i64 x.size] 50)):=b_R.alloc n_R _;have HN:=lh (Blk.new wr 50 #[.int .i64 x.id,.int .i64 x.size])
    obtain ⟨g8,hg8⟩:∃ g,wr.heap.size=g:=⟨_,rfl⟩
    generalize wr.alloc (.cells #[.int .i64 x.id,.int .i64 x.size] 50)=wa at *;have HB1:=lh hb1;rw [hg8] at HN ⊢;have y1:=HN.out.cell 1;have yl:=HN.out.lt;clear hb1 hc0 hc1
    go_wp2_with fail
    have Y:=du.new wa 3 [x.size] (wa.heap.size+1) (by omega);refine (gm 1 12 (some ⟨wa.heap.size,0,none⟩) 1 1 [x.size] _ (Y.more (by simp)) (by decide)).mono ?_;rintro e W ⟨rfl,hb⟩;have hb0:Below wa.heap.size wa W:=(b_R.alloc n_R _).trans (hb.mono (by simp));have HB:=lh (HB1.out.trans (hb0.mono HB1.out.size));have HN2:=lh (HN.out.below hb0 HN.out.lt);clear hb hb0 y1 yl Y HN HB1;rw [vN];have HAS:=lh (ru HX.out HS.out.2.2)
    cases hv:lE x with
    | false =>
     rw [hv] at HAS;clear hv
     go_wp2_with fail
     refine bodyPost_ret (v:=.tuple #[.pointer none,.bool false]) (by simp [results,Tryz.results52,go_sem]) rfl (fU.bad (uU ?_) (Ly.out.1.trans (HB.out.mono Ly.out.1.size)))
     cases h0:m.vessels.all lE with
     | false=>rfl
     | true=>exact absurd ((xe (k:=k+1) h0).symm.trans HAS.out) (by decide)
    | true =>
     rw [hv] at HAS;clear hv;have z0:=HN2.out.cell 0;have zl:=HN2.out.lt;have HO:=lh (HS.out.2.1.below HB.out n_R)
     go_wp2_with (at_builtin;refine fB _ rfl _ _ rfl fW rfl (HO.out.alloc _) rfl (lI (x:=x.id) (Nat.lt_succ_self _) (by simp [go_sem])) (fY _) (by unfold maxLen;omega) (by omega) (by have:=HB.out.size;simp;omega) ?_)
     rintro A2 cap2 w2 hown hg hA;have hrow:=fu HO.out;have hla:=nK ((Ly.out.below HB.out).below (b_R.alloc n_R _)) hg (fun r e=>(hrow r e).1);have HLA2:=lh hla;have HOW:=lh hown;clear hown hg hA hrow hla z0 zl
     go_wp2_with fail
     go_roundw
     case rel =>
      refine ⟨k+1,A2,cap2,by omega,by go_num,rfl,lh ⟨HLA2.out,?_,HAS.out⟩⟩;obtain ⟨h1,h2⟩:=g_E HX.out;rw [List.take_succ_eq_append_getElem h1,h2];simpa using HOW.out
     case measure=>simp [intOf];omega
   ·obtain rfl:nv=k:=by omega
    have hz:m.vessels.all lE=true:=by
     have:=HS.out.2.2
     rwa [List.take_of_length_le (by have:=HLV.out;omega)] at this
    have hO:Own wr (w.heap.size+3) 3 1 A5 nv c5 ((m.vessels.map (·.id)).map (Value.int .i64)):=by
     have:=HS.out.2.1
     rwa [List.take_of_length_le (by have:=HLV.out;omega)] at this
    have HZ:=lh hz;have HO:=lh hO;clear hz hO
    go_wp2_with fail
    clear x0 x1 x2 x3 xl
    obtain ⟨wo,rfl⟩:∃ wo,wo=wr:=⟨_,rfl⟩
    go_loopw [6,61] (fun v6 i wr=>∃ (k:Nat) (A6:Option Addr) (c6:Nat),k≤nt∧i = .int .i64 k∧v6 = .slice A6 k c6∧Hid (LdB w wr [(w.heap.size,26,#[.int .i64 m.fountains,.slice Av nv cv,.slice Aa na ca,.slice At nt ct]),(w.heap.size+1,115,#[.int .i64 0,.int .i64 0,.int .i64 0,.int .i64 0]),(w.heap.size+1+1,121,#[.int .i64 m.fountains,.slice Av nv cv,.slice Aa na ca,.slice At nt ct,.slice (some ⟨w.heap.size+1,0,none⟩) 1 1])] A5 nv c5 A6 k c6 m))
     (fun _ i _=>nt - (intOf i).toNat)
    case atStart=>exact ⟨0,none,0,by omega,rfl,rfl,lh ⟨Ly.out,HO.out,Own.none_ _ _ _ _,fun a b _ h=>(by cases h),rfl⟩⟩
    case round =>
     clear Ly HO HS;obtain ⟨k,A6,c6,hk2,rfl,rfl,HS⟩:=hrel;have hlay:=HS.out.1;have Ly:=lh hlay;have hW3:w.heap.size+3≤wr.heap.size:=by have:=hlay.lt 2 rfl;omega
     obtain ⟨x0,x1,x2,x3⟩:=lyc4 Ly 0 rfl;have xl:=Ly.out.lt 0 rfl;clear hlay;by_cases hlt:k<nt
     ·clear x0 x1 x2 x3 xl
      obtain ⟨b,off,x,rfl,hbB,hx,hc0,hc1,hc2,hc3,hc4,hc5⟩:=(HM.out.below Ly.out.1).tast hlt;have HX:=lh hx;clear hx
      go_upto_region 15 with fail
      have hb1:Below wr.heap.size wr (wr.alloc (.cells #[.int .i64 x.num,.int .i64 x.vessel,.int .i64 x.after,.int .i64 x.fountain,.int .i64 x.lo,.int .i64 x.hi] 69)):=b_R.alloc n_R _;have HN:=lh (Blk.new wr 69 #[.int .i64 x.num,.int .i64 x.vessel,.int .i64 x.after,.int .i64 x.fountain,.int .i64 x.lo,.int .i64 x.hi])
      obtain ⟨g8,hg8⟩:∃ g,wr.heap.size=g:=⟨_,rfl⟩
      generalize wr.alloc (.cells #[.int .i64 x.num,.int .i64 x.vessel,.int .i64 x.after,.int .i64 x.fountain,.int .i64 x.lo,.int .i64 x.hi] 69)=wa at *;have HB1:=lh hb1;rw [hg8] at HN ⊢;have y1:=HN.out.cell 1;have yl:=HN.out.lt;clear hb1 hc0 hc1 hc2 hc3 hc4 hc5
      go_wp2_with fail
      refine (fD ⟨w.heap.size+1+1,Av,nv,cv,Aa,na,ca,some ⟨b,off,none⟩,nt,ct,some ⟨w.heap.size+1,0,none⟩,1,1,m,[fh]⟩ x.vessel wa (vD (Ly.out.below HB1.out) HM.out ⟨hn4,hn12,hn8⟩)).mono ?_;rintro e W ⟨rfl,hb⟩;have HB:=lh (HB1.out.trans (hb.mono HB1.out.size));have HN2:=lh (HN.out.below hb HN.out.lt);clear hb y1 yl HN HB1;dsimp only;by_cases hj:idxV m.vessels x.vessel<0
      ·have HTB:Hid (gJ m x=false):=lh (by unfold gJ;exact decide_eq_false (by omega))
       go_wp2_with fail
       refine bodyPost_ret (v:=.tuple #[.pointer none,.bool false]) (by simp [results,Tryz.results52,go_sem]) rfl (fU.bad (kg (lM HX.out HTB.out)) (Ly.out.1.trans (HB.out.mono Ly.out.1.size)))
      ·have hj2:0≤idxV m.vessels x.vessel:=by omega
       have q2:=((Ly.out.below HB.out).blk 0 rfl).cell 2;have ql:=(Ly.out.below HB.out).lt 0 rfl;have y2:=HN2.out.cell 2;have yl:=HN2.out.lt
       go_wp2_with fail
       have Y:=du.new W 3 [x.after] (W.heap.size+1) (by omega);refine (gm 0 na (some ⟨W.heap.size,0,none⟩) 1 1 [x.after] _ (Y.more (by simp)) (by decide)).mono ?_;rintro e W2 ⟨rfl,hb⟩;have hb0:Below W.heap.size W W2:=(b_R.alloc n_R _).trans (hb.mono (by simp));replace HB:=lh (HB.out.trans (hb0.mono HB.out.size));replace HN2:=lh (HN2.out.below hb0 HN2.out.lt);clear hb hb0 yl Y y2 q2 ql
       obtain ⟨W,rfl⟩:∃ W,W=W2:=⟨_,rfl⟩
       rw [fw];by_cases ha:0≤x.after∧x.after≤(na:Int)
       ·rw [decide_eq_true ha]
        have q0:=((Ly.out.below HB.out).blk 0 rfl).cell 0;have ql:=(Ly.out.below HB.out).lt 0 rfl;have y3:=HN2.out.cell 3;have yl:=HN2.out.lt;have HAF:=lh ha;clear ha
        go_wp2_with fail
        have Y:=du.new W 3 [x.fountain] (W.heap.size+1) (by omega);refine (gm 1 m.fountains (some ⟨W.heap.size,0,none⟩) 1 1 [x.fountain] _ (Y.more (by simp)) (by decide)).mono ?_;rintro e W2 ⟨rfl,hb⟩;have hb0:Below W.heap.size W W2:=(b_R.alloc n_R _).trans (hb.mono (by simp));replace HB:=lh (HB.out.trans (hb0.mono HB.out.size));replace HN2:=lh (HN2.out.below hb0 HN2.out.lt);clear hb hb0 yl Y y3 q0 ql
        obtain ⟨W,rfl⟩:∃ W,W=W2:=⟨_,rfl⟩
        rw [fw];by_cases hf:1≤x.fountain∧x.fountain≤m.fountains
        ·rw [decide_eq_true hf]
         have y4:=HN2.out.cell 4;have y5:=HN2.out.cell 5;have yl:=HN2.out.lt;have HFF:=lh hf;clear hf;by_cases hlo:x.lo<0
         ·have HTB:Hid (gJ m x=false):=lh (by unfold gJ;exact decide_eq_false (by omega))
          go_wp2_with fail
          refine bodyPost_ret (v:=.tuple #[.pointer none,.bool false]) (by simp [results,Tryz.results52,go_sem]) rfl (fU.bad (kg (lM HX.out HTB.out)) (Ly.out.1.trans (HB.out.mono Ly.out.1.size)))
         ·by_cases hhi:x.hi<x.lo
          ·have HTB:Hid (gJ m x=false):=lh (by unfold gJ;exact decide_eq_false (by omega))
           go_wp2_with fail
           refine bodyPost_ret (v:=.tuple #[.pointer none,.bool false]) (by simp [results,Tryz.results52,go_sem]) rfl (fU.bad (kg (lM HX.out HTB.out)) (Ly.out.1.trans (HB.out.mono Ly.out.1.size)))
          ·have HTB:Hid (gJ m x=true):=lh (by unfold gJ;have:=HAF.out;have:=HFF.out;have:=HLA.out;exact decide_eq_true (by omega))
           have y0:=HN2.out.cell 0;have HO5:=lh (HS.out.2.1.below HB.out n_R);have HO6:=lh (HS.out.2.2.1.below HB.out n_R);have HNE:=lh HS.out.2.2.2.1;have HAS:Hid ((m.tastes.take (k+1)).all (gJ m)=true):=lh ((ru HX.out HS.out.2.2.2.2).trans HTB.out)
           go_wp2_with (at_builtin;refine fB _ rfl _ _ rfl fW rfl (HO6.out.alloc _) rfl (lI (x:=x.num) (Nat.lt_succ_self _) (by simp [go_sem])) (fY _) (by unfold maxLen;omega) (by omega) (by have:=HB.out.size;simp;omega) ?_)
           rintro A2 cap2 w2 hown hg hA;have hrow:=fu HO6.out;have hla:=nK ((Ly.out.below HB.out).below (b_R.alloc n_R _)) hg (fun r e=>(hrow r e).1);have HLA2:=lh hla;have HOW:=lh hown
           have HO52:=lh ((HO5.out.alloc (.cells #[.int .i64 x.num] 3)).grown hg (fun a ha e=>by
            cases h6:A6 with
            | none=>rw [h6] at e;cases e
            | some b=>rw [h6] at e;exact HNE.out a b ha h6 (Option.some.inj e)))
           have HNE2:Hid (∀ a b,A5=some a→A2=some b→a.block≠b.block):=lh (fun a b ha hb=>by
            rcases hA with e | e
            ·exact HNE.out a b ha (e ▸ hb)
            ·rw [e] at hb
             cases hb;have:=(HO5.out.lt ha).2;simp
             omega)
           clear hown hg hA hrow hla y0 y4 y5 yl
           go_wp2_with fail
           go_roundw
           case rel =>
            refine ⟨k+1,A2,cap2,by omega,by go_num,rfl,lh ⟨HLA2.out,HO52.out,?_,HNE2.out,HAS.out⟩⟩;obtain ⟨h1,h2⟩:=g_E HX.out;rw [List.take_succ_eq_append_getElem h1,h2];simpa using HOW.out
           case measure=>simp [intOf];omega
        ·rw [decide_eq_false hf]
         have HTB:Hid (gJ m x=false):=lh (by unfold gJ;exact decide_eq_false (by omega));clear hf;have y4:=HN2.out.cell 4
         go_wp2_with fail
         refine bodyPost_ret (v:=.tuple #[.pointer none,.bool false]) (by simp [results,Tryz.results52,go_sem]) rfl (fU.bad (kg (lM HX.out HTB.out)) (Ly.out.1.trans (HB.out.mono Ly.out.1.size)))
       ·rw [decide_eq_false ha]
        have HTB:Hid (gJ m x=false):=lh (by unfold gJ;have:=HLA.out;exact decide_eq_false (by omega));clear ha
        go_wp2_with fail
        refine bodyPost_ret (v:=.tuple #[.pointer none,.bool false]) (by simp [results,Tryz.results52,go_sem]) rfl (fU.bad (kg (lM HX.out HTB.out)) (Ly.out.1.trans (HB.out.mono Ly.out.1.size)))
     ·obtain rfl:nt=k:=by omega
      have hz:m.tastes.all (gJ m)=true:=by
       have:=HS.out.2.2.2.2
       rwa [List.take_of_length_le (by have:=HLT.out;omega)] at this
      have hO6:Own wr (w.heap.size+3) 3 1 A6 nt c6 ((m.tastes.map (·.num)).map (Value.int .i64)):=by
       have:=HS.out.2.2.1
       rwa [List.take_of_length_le (by have:=HLT.out;omega)] at this
      have HZT:=lh hz;have HO6:=lh hO6;have HO5:=lh HS.out.2.1;have HNE:=lh HS.out.2.2.2.1;clear hz hO6
      go_wp2_with fail
      clear x0 x1 x2 x3 xl HS
      obtain ⟨wp,rfl⟩:∃ wp,wp=wr:=⟨_,rfl⟩
      have hst:LdC w wp ⟨w.heap.size+1+1,Av,nv,cv,Aa,na,ca,At,nt,ct,some ⟨w.heap.size+1,0,none⟩,1,1,m,[fh]⟩ A5 c5 A6 c6 0:=by
       refine ⟨xM Ly.out HM.out ⟨hn4,hn12,hn8⟩,Ly.out.1,rfl,?_,⟨HO5.out,HO6.out⟩,?_⟩
       ·intro j u hu
        match j,hu with
        | 0,hu =>
         have e:fh=u:=by simpa using hu
         rw [← e];exact ss
       ·intro a ha
        have hlt:w.heap.size+3≤a.block∧a.block<wp.heap.size:=by
         rcases ha with ha | ha
         ·exact HO5.out.lt ha
         ·exact HO6.out.lt ha
        refine ⟨hlt.2,by dsimp only;omega,?_⟩;simp;omega
      have HST:=lh hst;clear hst Ly HO5 HO6 HNE hW3
      go_loopw [113] (fun i wr=>∃ (k:Nat) (AA:Option Addr) (cl:Nat) (L:List Held),k≤na∧i = .int .i64 k∧Hid (LdC w wr ⟨w.heap.size+1+1,Av,nv,cv,Aa,na,ca,At,nt,ct,AA,k+1,cl,m,L⟩ A5 c5 A6 c6 k))
       (fun i _=>na - (intOf i).toNat)
      case atStart=>exact ⟨0,_,_,_,by omega,rfl,HST⟩
      case round =>
       clear HST;obtain ⟨k,AA,cl,L,hk3,rfl,HS⟩:=hrel;by_cases hlt:k<na
       ·have hx:m.acts[k]? =some (m.acts[k]'(by have:=HLA.out;omega)):=List.getElem?_eq_getElem (by have:=HLA.out;omega)
        obtain ⟨x,hx'⟩:∃ x,m.acts[k]'(by have:=HLA.out;omega)=x:=⟨_,rfl⟩
        rw [hx'] at hx
        have hlen:L.length=k+1:=by
         have:L.length=(m.acts.take k).length+1:=fX m _ L HS.out.2.2.1;rw [List.length_take,Nat.min_eq_left (by have:=HLA.out;omega)] at this;exact this
        have hs:L[k]? =some (L[k]'(by omega)):=List.getElem?_eq_getElem (by omega)
        obtain ⟨s,hs'⟩:∃ s,L[k]'(by omega)=s:=⟨_,rfl⟩
        rw [hs'] at hs;have HX:=lh hx;have HSS:=lh hs;have hr:=HS.out.2.2.2.1 k s hs;have HR:=lh (ai hr.1 (fun q:Nat=>show 0≤au s q∧au s q≤1000 from ⟨(hr.2 q).1,by have:=(hr.2 q).2;omega⟩));have HVZ:=lh (rg HZ.out);have HC:=lh (callsIn_wide.1 (xX w.heap.size ⟨w.heap.size+1+1,Av,nv,cv,Aa,na,ca,At,nt,ct,AA,k+1,cl,m,L⟩ k x s wr HS.out.1 hx hs (by show k+1≤12;omega) HVZ.out HR.out));clear hx hx' hs hs' hr hlen
        go_wp2_with fail
        refine HC.out.mono ?_;rintro e W (⟨hn,rfl,hb⟩ | ⟨A9,c9,hsm,rfl,hT,hb,hkk,hA⟩)
        ·have HN:=lh hn
         have HB:=lh (HS.out.2.1.trans (hb.mono HS.out.2.1.size));clear hn hb HC
         go_wp2_with fail
         refine bodyPost_ret (v:=.tuple #[.pointer none,.bool false]) (by simp [results,Tryz.results52,go_sem]) rfl (fU.bad (uj (tU (k:=k+1) ?_)) HB.out);rw [oM HX.out HS.out.2.2.1 HSS.out]
         cases hd:fT m s x with
         | none=>rfl
         | some s'=>have:=HN.out;rw [hd] at this;cases this
        ·obtain ⟨s',hd⟩:=Option.isSome_iff_exists.1 hsm
         have he:=(lQ hd HR.out.1 (by have:=HLV.out;omega)).2;rw [← he] at hT;have HN:=lh (vQ HS.out HX.out HSS.out hd HVZ.out hT hb hkk hA);clear hsm hd he hT hb hkk hA HC
         go_wp2_with fail
         go_roundw
         case rel=>exact ⟨k+1,A9,c9,L++[s'],by omega,by go_num,HN⟩
         case measure=>simp [intOf];omega
       ·obtain rfl:na=k:=by omega
        have hL:allM m m.acts=some L:=by
         have:allM m (m.acts.take na)=some L:=HS.out.2.2.1
         rwa [List.take_of_length_le (by have:=HLA.out;omega)] at this
        have HL:=lh hL;clear hL
        go_wp2_with fail
        refine (lp A5 nv c5 (m.vessels.map (·.id)) wr (fG HS.out.2.2.2.2.1.1 n_R) hnv).mono ?_;rintro e W ⟨rfl,hb⟩;have HB:=lh hb;have HO6:=lh (HS.out.2.2.2.2.1.2.below hb n_R);clear hb
        cases hr:risB 0 (m.vessels.map (·.id)) with
        | false =>
         have HRB:=lh hr;clear hr
         go_wp2_with fail
         refine bodyPost_ret (v:=.tuple #[.pointer (some ⟨w.heap.size+1+1,0,none⟩),.bool false]) (by simp [results,Tryz.results52,go_sem]) rfl ?_;have hno:eO m=false:=by rw [sD HG.out HZ.out HZT.out HL.out,HRB.out];rfl
         exact ⟨_,by rw [hno],HS.out.2.1.trans (HB.out.mono HS.out.2.1.size),fun h'=>by rw [hno] at h';cases h'⟩
        | true =>
         have HRB:=lh hr;clear hr
         go_wp2_with fail
         refine (lp A6 nt c6 (m.tastes.map (·.num)) W (fG HO6.out n_R) hnt).mono ?_;rintro e W2 ⟨rfl,hb⟩;have HB2:=lh (HB.out.trans (hb.mono HB.out.size));clear hb;have HOK:Hid (eO m=risB 0 (m.tastes.map (·.num))):=lh (by rw [sD HG.out HZ.out HZT.out HL.out,HRB.out,Bool.true_and])
         go_wp2_with fail
         refine bodyPost_ret (v:=.tuple #[.pointer (some ⟨w.heap.size+1+1,0,none⟩),.bool (risB 0 (m.tastes.map (·.num)))]) (by simp [results,Tryz.results52,go_sem]) rfl ?_;refine ⟨_,by rw [HOK.out],HS.out.2.1.trans (HB2.out.mono HS.out.2.1.size),fun _=>⟨_,AA,na+1,cl,L,rfl,by omega,HL.out,?_⟩⟩;exact HS.out.1.below HB2.out
 ·have HB:=lh (rR hG)
  cases hi:inB 1 4 [m.fountains] with
  | false =>
   clear hi
   go_wp2_with fail
   exact bodyPost_ret (v:=.tuple #[.pointer none,.bool false]) (by simp [results,Tryz.results52,go_sem]) rfl (fU.bad HB.out Ly.out.1)
  | true =>
   have h2:¬ (nv≤4∧na≤12∧nt≤8):=by
    rw [fw] at hi;have:=of_decide_eq_true hi;rw [← HLV.out,← HLA.out,← HLT.out];exact fun h2=>hG ⟨this,h2⟩
   clear hi hG;by_cases q1:nv≤4
   ·have d1:(nv:Int)≤4:=by omega
    by_cases q2:na≤12
    ·have d2:(na:Int)≤12:=by omega
     have d3:¬ (nt:Int)≤8:=by omega
     clear h2
     go_wp2_with fail
     exact bodyPost_ret (v:=.tuple #[.pointer none,.bool false]) (by simp [results,Tryz.results52,go_sem]) rfl (fU.bad HB.out Ly.out.1)
    ·have d2:¬ (na:Int)≤12:=by omega
     clear h2
     go_wp2_with fail
     exact bodyPost_ret (v:=.tuple #[.pointer none,.bool false]) (by simp [results,Tryz.results52,go_sem]) rfl (fU.bad HB.out Ly.out.1)
   ·have d1:¬ (nv:Int)≤4:=by omega
    clear h2
    go_wp2_with fail
    exact bodyPost_ret (v:=.tuple #[.pointer none,.bool false]) (by simp [results,Tryz.results52,go_sem]) rfl (fU.bad HB.out Ly.out.1)
end
section
section
variable {m m':Mix} {A:List Held} {f:Int}
theorem oY (hv:m'.vessels=m.vessels)(ha:m'.acts=m.acts){t:Nat}{s s':Held}:Goes m' f A t s s'↔Goes m f A t s s':=by
 have e1:∀ x,cu m' x=cu m x:=fun x=>by unfold cu;rw [hv]
 have e2:∀ x,toI m' x=toI m x:=fun x=>by unfold toI;rw [hv]
 have e3:∀ all x,eV m' all x=eV m all x:=fun all x=>by unfold eV;rw [e1]
 have e4:∀ x all has,fi m' x f all has=fi m x f all has:=fun x all has=>by unfold fi;rw [e1,e3]
 unfold Goes;rw [ha];constructor
 ·rintro ⟨x,all,k,h1,h2,h3,h4,h5⟩
  exact ⟨x,all,k,h1,h2,by rw [← e4];exact h3,by rw [← e4];exact h4,by rw [h5,e1,e2]⟩
 ·rintro ⟨x,all,k,h1,h2,h3,h4,h5⟩
  exact ⟨x,all,k,h1,h2,by rw [e4];exact h3,by rw [e4];exact h4,by rw [h5,e1,e2]⟩
theorem mI (hv:m'.vessels=m.vessels)(ht:∀ x∈m.tastes,x.fountain=f→x∈m'.tastes){t:Nat}{s:Held}(h:fx m' f t s=true):fx m f t s=true:=by
 unfold fx at h ⊢;rw [List.all_eq_true] at h ⊢;intro x hx;by_cases e:x.fountain=f
 ·have:=h x (ht x hx e)
  rw [hv] at this;exact this
 ·simp [e]
theorem nx (hv:m'.vessels=m.vessels)(ha:m'.acts=m.acts)(ht:∀ x∈m.tastes,x.fountain=f→x∈m'.tastes):∀ {t:Nat} {s:Held},Fwd m' f A t s→Fwd m f A t s
 | 0,s,h=>⟨h.1,mI hv ht h.2⟩
 | t+1,s,h=>by
  obtain ⟨⟨s0,h1,h2⟩,h3⟩:=h;exact ⟨⟨s0,nx hv ha ht h1,(oY hv ha).1 h2⟩,mI hv ht h3⟩
theorem qJ (hv:m'.vessels=m.vessels)(ha:m'.acts=m.acts)(ht:∀ x∈m.tastes,x.fountain=f→x∈m'.tastes):∀ {k t:Nat} {s:Held},Fin m' f A k t s→Fin m f A k t s
 | 0,t,s,h=>nx hv ha ht h
 | k+1,t,s,h=>by
  obtain ⟨h1,s',h2,h3⟩:=h;exact ⟨nx hv ha ht h1,s',(oY hv ha).1 h2,qJ hv ha ht h3⟩
theorem nQ (hv:m'.vessels=m.vessels)(ha:m'.acts=m.acts)(ht:∀ x∈m.tastes,x.fountain=f→x∈m'.tastes){t:Nat}{s:Held}(h:eN m' f A t s):eN m f A t s:=by
 unfold eN at h ⊢;rw [ha] at h;exact qJ hv ha ht h
theorem sh (hv:m'.vessels=m.vessels)(ha:m'.acts=m.acts)(ht:∀ x,x.fountain=f→(x∈m.tastes↔x∈m'.tastes)){t:Nat}{s:Held}:eN m' f A t s↔eN m f A t s :=
 ⟨nQ hv ha (fun x hx e=>(ht x e).1 hx),nQ hv.symm ha.symm (fun x hx e=>(ht x e).2 hx)⟩
end
end
section
def askM (m:Mix)(vessel after:Int)(fs:List Int):Int :=
 if eO m=true then (if idxV m.vessels vessel<0 then 6 else if (0≤after∧after≤m.acts.length)∧∀ f∈fs,1≤f∧f≤m.fountains then 0 else 2) else 40
def fF (m:Mix)(vessel after:Int)(n e:Int):Prop :=
 (askM m vessel after []≠0∧n=0∧e=askM m vessel after [])∨(askM m vessel after []=0∧e=0∧∃ A a,allM m m.acts=some A∧A[after.toNat]? =some a∧n=au a (idxV m.vessels vessel))
def jh (m:Mix)(f:Int)(P:List Held→Int→Prop)(s:Int × Int)(e:Int):Prop :=
 ∃ A,allM m m.acts=some A∧((¬ eN m f A 0 fh∧s=(0,0)∧e=8)∨(eN m f A 0 fh∧e=0∧ir (P A) s))
def iC (g:Int)(T:Int × Int→Int→Prop)(s:Int × Int)(e:Int):Prop:=(g≠0∧s=(0,0)∧e=g)∨(g=0∧T s e)
def OfP (m:Mix)(vessel after f:Int)(A:List Held)(n:Int):Prop:=∃ x,eN m f A after.toNat x∧au x (idxV m.vessels vessel)=n
def OfIs (m:Mix)(vessel after f:Int):Int × Int→Int→Prop:=iC (askM m vessel after [f]) (jh m f (OfP m vessel after f))
def actM (m:Mix)(act f:Int):Int:=if eO m=true then (if (1≤act∧act≤m.acts.length)∧1≤f∧f≤m.fountains then 0 else 2) else 40
def p5 (m:Mix)(act f:Int)(A:List Held)(n:Int):Prop :=
 ∃ x all s,m.acts[act.toNat - 1]? =some x∧A[act.toNat - 1]? =some all∧eN m f A (act.toNat - 1) s∧(fi m x f all s).1≤n∧n≤(fi m x f all s).2∧eN m f A act.toNat (eI s (cu m x) (toI m x) n)
def fR (m:Mix)(act f:Int):Int × Int→Int→Prop:=iC (actM m act f) (jh m f (p5 m act f))
def mO (m:Mix)(f:Int):Int:=if eO m=true then (if 1≤f∧f≤m.fountains then 0 else 2) else 40
def ij (m:Mix)(f:Int):Int:=m.acts.foldl (fun n x=>if x.kind=1∧x.fr=f then n+x.drops else n) 0
def sumH (s:Held):Int:=au s 0+au s 1+au s 2+au s 3
def sL (m:Mix)(f:Int)(A:List Held)(n:Int):Prop:=∃ s,eN m f A m.acts.length s∧n=ij m f - sumH s
def iZ (m:Mix)(f:Int):Int × Int→Int→Prop:=iC (mO m f) (jh m f (sL m f))
section
variable {m:Mix} {f g e e':Int} {s s':Int × Int} {P:List Held→Int→Prop} {T:Int × Int→Int→Prop}
theorem fF.same {v a n n':Int}(h:fF m v a n e)(h':fF m v a n' e'):n=n'∧e=e':=by
 rcases h with ⟨h0,rfl,rfl⟩ | ⟨h0,rfl,A,x,hA,hx,rfl⟩<;>rcases h' with ⟨k0,rfl,rfl⟩ | ⟨k0,rfl,B,y,hB,hy,rfl⟩
 ·exact ⟨rfl,rfl⟩
 ·exact absurd k0 h0
 ·exact absurd h0 k0
 ·rw [hA] at hB
  cases hB;rw [hx] at hy;cases hy;exact ⟨rfl,rfl⟩
theorem jh.same (h:jh m f P s e)(h':jh m f P s' e'):s=s'∧e=e':=by
 obtain ⟨A,hA,h⟩:=h;obtain ⟨B,hB,h'⟩:=h';rw [hA] at hB;cases hB
 rcases h with ⟨h0,rfl,rfl⟩ | ⟨h0,rfl,h1⟩<;>rcases h' with ⟨k0,rfl,rfl⟩ | ⟨k0,rfl,k1⟩
 ·exact ⟨rfl,rfl⟩
 ·exact absurd k0 h0
 ·exact absurd h0 k0
 ·exact ⟨h1.same k1,rfl⟩
theorem iC.same (hT:∀ {s s' e e'},T s e→T s' e'→s=s'∧e=e')(h:iC g T s e)(h':iC g T s' e'):s=s'∧e=e':=by
 rcases h with ⟨h0,rfl,rfl⟩ | ⟨h0,h1⟩<;>rcases h' with ⟨k0,rfl,rfl⟩ | ⟨k0,k1⟩
 ·exact ⟨rfl,rfl⟩
 ·exact absurd k0 h0
 ·exact absurd h0 k0
 ·exact hT h1 k1
theorem OfIs.same {v a:Int}(h:OfIs m v a f s e)(h':OfIs m v a f s' e'):s=s'∧e=e':=iC.same jh.same h h'
theorem fR.same {a:Int}(h:fR m a f s e)(h':fR m a f s' e'):s=s'∧e=e':=iC.same jh.same h h'
theorem iZ.same (h:iZ m f s e)(h':iZ m f s' e'):s=s'∧e=e':=iC.same jh.same h h'
theorem fj (h:eO m=true):m.vessels.length≤4∧m.acts.length≤12∧m.tastes.length≤8∧1≤m.fountains∧m.fountains≤4:=by
 unfold eO at h;simp only [Bool.and_eq_true,decide_eq_true_eq] at h;omega
end
def kt (least most:Bool):Int:=if least then 2 else if most then 1 else 0
end
section
open Go.RowKit
structure MixS (w:World)(Av:Option Addr)(nv:Nat)(Aa:Option Addr)(na:Nat)(At:Option Addr)(nt:Nat)(m:Mix):Prop where
 at_:fC w w.heap.size Av nv Aa na At nt m
 hv:nv≤1000
 ha:na≤1000
 ht:nt≤1000
theorem MixS.up {w w':World}{Av Aa At:Option Addr}{nv na nt:Nat}{m:Mix}(h:MixS w Av nv Aa na At nt m)(hb:Below w.heap.size w w'):MixS w' Av nv Aa na At nt m:=⟨h.at_.up hb,h.hv,h.ha,h.ht⟩
theorem MixS.laid {w:World}{Av Aa At:Option Addr}{nv cv na ca nt ct:Nat}{m:Mix}(h:MixS w Av nv Aa na At nt m) :
  Calls Tryz.prog 52 #[.agg #[.int .i64 m.fountains,.slice Av nv cv,.slice Aa na ca,.slice At nt ct]] w (fU w Av nv cv Aa na ca At nt ct m):=uZ Av nv cv Aa na ca At nt ct m w h.at_ h.hv h.ha h.ht
def fk (m:Mix):Int:=if eO m=true then 0 else 40
theorem gF (Av:Option Addr)(nv cv:Nat)(Aa:Option Addr)(na ca:Nat)(At:Option Addr)(nt ct:Nat)(m:Mix)(w:World)(h:MixS w Av nv Aa na At nt m) :
  Calls Tryz.prog 51 #[.agg #[.int .i64 m.fountains,.slice Av nv cv,.slice Aa na ca,.slice At nt ct]] w fun e w'=>e = .returned (.int .i64 (fk m))∧Below w.heap.size w w':=by
 have HM:=lh h;clear h
 go_enter Tryz.func51,Tryz.ntmps51
 go_wp2_with fail
 have hb:Below w.heap.size w (w.alloc (.cells #[.int .i64 m.fountains,.slice Av nv cv,.slice Aa na ca,.slice At nt ct] 26)):=b_R.alloc n_R _;have HB:=lh hb;clear hb;refine ((HM.out.up HB.out).laid).mono ?_;rintro e w' ⟨p,rfl,hb,_⟩;have HB2:=lh (HB.out.trans (hb.mono HB.out.size));clear hb
 cases hk:eO m with
 | true =>
  have HK:Hid (fk m=0):=lh (by unfold fk;rw [hk];rfl);clear hk
  go_wp2_with fail
  go_ret
  exact ⟨fA HK.out.symm,HB2.out⟩
 | false =>
  have HK:Hid (fk m=40):=lh (by unfold fk;rw [hk];rfl);clear hk
  go_wp2_with fail
  go_ret
  exact ⟨fA HK.out.symm,HB2.out⟩
end
section
open Go.RowKit
def uN {α:Type}(F:Fence)(n:Nat)(P:Program)(g:Nat)(lb:Array Value)(encs:α→Array Value)(At:α→World→Prop)(Kp:World→World→Prop)(S:List α→Prop)(w:World):Prop :=
 ∀ (l:Nat) (J:List α→World→Prop) (W:World),Below w.heap.size w W→(∀ s A B,J s A→Below A.heap.size A B→J s B) →
  (∀ pre x W1,J pre W1→At x W1→YieldAt F (n - 1) P l (encs x) W1 fun e W'=>e = .returned (.bool true)∧J (pre++[x]) W'∧Kp W1 W') →
  J [] W→CallsIn F n P g (#[.func (.yield l) #[] #[]]++lb) W fun e W'=>(∃ v,e = .returned v)∧∃ xs,S xs∧J xs W'
theorem pL {α:Type}{F:Fence}{n:Nat}{P:Program}{g:Operand}{ps:Array Tmp}{assign body:Code}{Q:Exit→Act→World→Prop}{a:Act}{w:World}
  (hro:F.round=none) (h1:1≤n) {gf:Nat} {lb:Array Value} (hg:a.eval g = .func (.func gf) #[] lb) (hFg:F.fn gf) (eg:∀ args w,(callFunc gf args).run P w = .ok (.enter gf args) w)
  {encs:α→Array Value} {At:α→World→Prop} {Kp:World→World→Prop} {S:List α→Prop} (hseq:uN F (n - 1) P gf lb encs At Kp S w)
  (hKt:∀ {A B C:World},Kp A B→Kp B C→Kp A C) (hKb:∀ (W:World) (l:Nat) (o o':Obj),w.heap.size≤l→W.heap[l]? =some o→o.isCells=false→o.isWalk=false→Kp W (W.putObj l o')) (hps:∀ x,(encs x).size=ps.size)
  (I:List α→World→Prop) (hI:OwnFrom w.heap.size I) (hIB:∀ s A B,I s A→Below A.heap.size A B→I s B) (h0:I [] w) (Ax:α→Act→World→Prop) (hAx:∀ x a',OwnFrom w.heap.size (fun (_:Unit) W=>Ax x a' W))
  (hassign:∀ (l:Nat) (pre:List α) (x:α) (W:World) (K:Act→World→Prop),I pre W→At x W→(∀ a' W',KeepsFrom w.heap.size W W'→Kp W W'→I pre W'→Ax x a' W'→K a' W') →
   assign.wpIn (F.inRound l) (n - 1 - 1) P (Exit.then K (fun _ _ _=>False)) { tmps:=(ps.zip (encs x)).foldl (fun t (p,v)=>t.setIfInBounds p v) a.tmps,defers:=[] } W)
  (hbody:∀ (l:Nat) (pre:List α) (x:α) (a':Act) (W:World),I pre W→Ax x a' W→body.wpIn (F.inRound l) (n - 1 - 1) P (fun e _ W3=>e = .normal∧KeepsFrom w.heap.size W W3∧Kp W W3∧I (pre++[x]) W3) a' W)
  (hdone:∀ (D:Nat) (xs:List α) (W:World),w.heap.size≤D→S xs→I xs W→W.heap[D]? =some (.deferred (some []))→Q .normal { a with defers:={ target:=.collected D,args:=#[] }::a.defers } W) :
  (Code.rangeFunc g ps assign body).wpIn F n P Q a w:=by
 refine wpIn_rangeFunc fun fn hfn=>?_;rw [hro]
 obtain ⟨rec,hrec⟩:∃ rec:LoopState→Loop,rec=fun st=>{ state:=st,pending:=none,fn,tmps:=a.tmps,params:=ps,assign,body,defers:=w.heap.size }:=⟨_,rfl⟩
 have e1:((w.alloc (.deferred (some []))).alloc (.loop (rec .ready))).heap[w.heap.size+1]? =some (.loop (rec .ready)):=by
  have h:=World.alloc_heap_new (w.alloc (.deferred (some []))) (.loop (rec .ready))
  rwa [World.size_alloc] at h
 have e0:((w.alloc (.deferred (some []))).alloc (.loop (rec .ready))).heap[w.heap.size]? =some (.deferred (some [])) :=
  (Below.heap_alloc _ _ _ (by simp)).trans (World.alloc_heap_new w _)
 have i1:=hI.alloc (.loop (rec .ready)) (hI.alloc (.deferred (some [])) h0);have b1:Below w.heap.size w ((w.alloc (.deferred (some []))).alloc (.loop (rec .ready))):=((Below.refl _ w).alloc n_R _).alloc (by simp) _;have z1:((w.alloc (.deferred (some []))).alloc (.loop (rec .ready))).heap.size=w.heap.size+1+1:=by simp
 have en:(Instr.enterLoop fn a.tmps ps assign body none).run P w = .ok (w.heap.size+1,[{ target:=.collected w.heap.size,args:=#[] }]) ((w.alloc (.deferred (some []))).alloc (.loop (rec .ready))):=by
  rw [hrec];exact run_enterLoop_outer _ _ _ _ _
 generalize (w.alloc (.deferred (some []))).alloc (.loop (rec .ready))=W0 at *
 refine ⟨w.heap.size+1,[{ target:=.collected w.heap.size,args:=#[] }],W0,{ target:=.fn (.func gf) lb,args:=#[.func (.yield (w.heap.size+1)) #[] #[]] },W0,gf,
  #[.func (.yield (w.heap.size+1)) #[] #[]]++lb,W0,en,?_,?_,?_,fun _=>h1,?_⟩
 ·simp only [resolve,hg]
  simp [go_sem]
 ·intro f hf
  simp [Target.leads] at hf;subst hf;exact hFg
 ·simp [invoke,go_sem,eg]
 ·refine (hseq (w.heap.size+1) (fun pre W=>I pre W∧W.heap[w.heap.size+1]? =some (.loop (rec .ready))∧W.heap[w.heap.size]? =some (.deferred (some []))) W0 b1
   (fun s A B hs hb=>⟨hIB s A B hs.1 hb,(hb.block _ (Array.getElem?_eq_some_iff.1 hs.2.1).1).trans hs.2.1,(hb.block _ (Array.getElem?_eq_some_iff.1 hs.2.2).1).trans hs.2.2⟩)
   ?_ ⟨i1,e1,e0⟩).mono ?_
  ·rintro pre x W ⟨hi,hl,hk⟩ hat
   have hy:=run_yield (P:=P) (args:=encs x) hl (by rw [hrec];exact hps x);rw [hrec] at hy;refine ⟨fn,_,assign,body,hy,roundIn_of_wpIn hfn (hassign _ pre x W _ hi hat fun a' V kf kp hiV hax=>?_)⟩;have lV:=kf.same _ _ (Nat.le_succ _) hl rfl;have kV:=kf.same _ _ n_R hk rfl;have ltV:=(Array.getElem?_eq_some_iff.1 lV).1;refine ⟨_,run_beginRound lV (by rw [hrec]),?_⟩;have lU:(V.putObj (w.heap.size+1) (.loop { rec .ready with state:=.busy })).heap[w.heap.size+1]? =some (.loop { rec .ready with state:=.busy }):=World.putObj_heap_same ltV;have kU:(V.putObj (w.heap.size+1) (.loop { rec .ready with state:=.busy })).heap[w.heap.size]? =some (.deferred (some [])):=(World.putObj_heap_other (by omega)).trans kV;refine wpIn_mono (hbody _ pre x a' _ (hI.putObj _ hiV (Nat.le_succ _) lV rfl) ((hAx x a').putObj (s:=()) _ hax (Nat.le_succ _) lV rfl)) ?_;rintro e a3 W3 ⟨rfl,kf3,kp3,hi3⟩;have l3:=kf3.same _ _ (Nat.le_succ _) lU rfl;have k3:=kf3.same _ _ n_R kU rfl;have er:=run_endRound (P:=P) none l3;refine ⟨_,_,er,rfl,⟨hI.putObj _ hi3 (Nat.le_succ _) l3 rfl,?_,(World.putObj_heap_other (by omega)).trans k3⟩,hKt kp (hKt (hKt (hKb _ _ _ _ (Nat.le_succ _) lV rfl rfl) kp3) (hKb _ _ _ _ (Nat.le_succ _) l3 rfl rfl))⟩;rw [World.putObj_heap_same (Array.getElem?_eq_some_iff.1 l3).1,hrec];rfl
  ·rintro e W2 ⟨⟨v,rfl⟩,xs,hS,hi,hl,hk⟩
   have el:=run_endLoop (P:=P) hl (by rw [hrec];simp);rw [hrec] at el;exact ⟨none,_,el,hdone _ xs _ n_R hS (hI.putObj _ hi (Nat.le_succ _) hl rfl) ((World.putObj_heap_other (by omega)).trans hk)⟩
end
section
open Go.RowKit
def uc:Obj→Prop
 | .cells _ t _=>t≠34∧t≠45
 | _=>True
def KpR (n0 n1:Nat)(W W':World):Prop:=W.heap.size≤W'.heap.size∧∀ (k:Nat) (o:Obj),(k<n0∨(n1≤k∧uc o))→W.heap[k]? =some o→(o.isCells=true∨o.isWalk=true)→W'.heap[k]? =some o
theorem KpR.trans {n0 n1:Nat}{A B C:World}(h:KpR n0 n1 A B)(k:KpR n0 n1 B C):KpR n0 n1 A C:=⟨Nat.le_trans h.1 k.1,fun i o hi ho hc=>k.2 i o hi (h.2 i o hi ho hc) hc⟩
theorem KpR.of_below {n0 n1:Nat}{A B:World}(h:Below A.heap.size A B):KpR n0 n1 A B:=⟨h.size,fun k o _ ho _=>(h.block k (Array.getElem?_eq_some_iff.1 ho).1).trans ho⟩
theorem KpR.put {n0 n1:Nat}(W:World)(l:Nat)(o o':Obj)(h:W.heap[l]? =some o)(hc:o.isCells=false)(hw:o.isWalk=false):KpR n0 n1 W (W.putObj l o') :=
 ⟨by simp,fun k o2 _ ho hk=>(World.putObj_heap_other (fun e=>by
  subst e;rw [h] at ho;cases ho;rw [hc,hw] at hk
  rcases hk with hk | hk<;>cases hk)).trans ho⟩
theorem KpR.setCell {n0 n1:Nat}(W:World)(p:Addr)(v:Value)(h0:n0≤p.block)(h1:p.block<n1):KpR n0 n1 W (W.setCell p v) :=
 ⟨by simp,fun k o hk ho _=>(Below.heap_setCell W p v k (by rcases hk with hk | ⟨hk,_⟩<;>omega)).trans ho⟩
theorem KpR.blk {n0 n1 g:Nat}{W W':World}{t:TypeId}{cs:Array Value}(h:KpR n0 n1 W W')(hg:g<n0∨n1≤g)(b:Blk W g t cs)(ht:t≠34∧t≠45:=by decide):Blk W' g t cs:=h.2 g _ (hg.imp id fun x=>⟨x,ht⟩) b (.inl rfl)
instance kpr_grows (n0 n1:Nat):Gr.Grows (KpR n0 n1) where
 refl:=fun W=>⟨n_R,fun _ _ _ h _=>h⟩
 trans:=fun h k=>KpR.trans h k
 below:=fun h=>KpR.of_below h
 size:=fun h=>h.1
def Safe (n1:Nat)(W:World)(A:Option Addr):Prop:=∀ a,A=some a→n1≤a.block∧∃ cs,Blk W a.block 3 cs
theorem Safe.kp {n0 n1:Nat}{W W':World}{A:Option Addr}(h:Safe n1 W A)(hk:KpR n0 n1 W W'):Safe n1 W' A:=fun a e=>⟨(h a e).1,by
 obtain ⟨h1,cs,hb⟩:=h a e
 exact ⟨cs,hk.blk (.inr h1) hb⟩⟩
theorem Safe.none_ {n1:Nat}{W:World}:Safe n1 W none:=fun a e=>by cases e
theorem Safe.own {w:World}{base n1 n cap:Nat}{A:Option Addr}{xs:List Value}(h:Own w base 3 1 A n cap xs)(hb:n1≤base):Safe n1 w A:=fun a e=>by
 subst e
 rcases h.form with ⟨h1,_⟩ | ⟨g,cur,h1,h2,h3,_⟩
 ·cases h1
 ·cases h1
  exact ⟨Nat.le_trans hb h2,cur,h3⟩
theorem YieldAt.deep {m:Nat}(m':Nat){P:Program}{l:Nat}{args:Array Value}{W:World}{R:Ending→World→Prop}(h:YieldAt Fence.wide m P l args W R):YieldAt Fence.wide m' P l args W R:=by
 obtain ⟨fn,tmps,assign,body,hy,hR⟩:=h;exact ⟨fn,tmps,assign,body,hy,hR.1,fun c cs _=>hR.2 c cs (fun d hd=>by cases hd)⟩
theorem dv.hold {w w':World}{B size n:Nat}{A:Option Addr}{xs:List Value}(h:dv w B size A n xs)(hk:∀ (b:Nat) (o:Obj),w.heap[b]? =some o→o.isCells=true→(∀ a,A=some a→a.block=b→w'.heap[b]? =some o)):dv w' B size A n xs:=by
 refine ⟨h.1,fun hn=>?_⟩;obtain ⟨ad,e,hb,hc⟩:=h.2 hn;refine ⟨ad,e,hb,fun j u hu=>?_⟩;have h1:=hc j u hu;obtain ⟨o,ho,hcell⟩:=cells_of_cell h1;rw [← h1];refine World.cell?_of_block ?_;rw [ho];exact hk _ _ ho hcell ad e (by rw [ii])
theorem dv.low {w w':World}{n0 n1 B size n:Nat}{A:Option Addr}{xs:List Value}(h:dv w B size A n xs)(hB:B≤n0)(hk:KpR n0 n1 w w'):dv w' B size A n xs:=by
 by_cases hn:n=0
 ·subst hn
  exact ⟨h.1,fun h0=>absurd h0 (by omega)⟩
 ·obtain ⟨ad,e,hb,_⟩:=h.2 (by omega)
  exact h.hold fun b o ho hc a ha hab=>hk.2 b o (.inl (by rw [e] at ha;cases ha;omega)) ho (.inl hc)
theorem dv.safe {w w':World}{n0 n1 size n:Nat}{A:Option Addr}{xs:List Value}(h:dv w w.heap.size size A n xs)(hs:Safe n1 w A)(hk:KpR n0 n1 w w'):dv w' w'.heap.size size A n xs :=
 dv.more (h.hold fun b o ho hc a ha hab=>by
  obtain ⟨h1,cs,hb⟩:=hs a ha;rw [hab] at h1 hb;unfold Blk at hb;rw [ho] at hb;cases hb
  exact hk.2 b _ (.inr ⟨h1,by decide,by decide⟩) ho (.inl hc)) hk.1
end
section
def b1 (b:Bool):Int:=if b then 1 else 0
def fM (fr to:Int)(c:Int)(g:Bool):Int:=if g then (if fr<0 then to else if to<0 then -2 else to) else c
def mD (fr xf f c:Int)(g:Bool):Prop:=g=true→if fr<0 then c = -1∧xf=f else c=fr
def o7 (fr to n al xf f0 f1:Int)(c d:Int × Int):Prop :=
 ∃ g0 g1:Bool,mD fr xf f0 c.1 g0∧mD fr xf f1 c.2 g1∧d=(fM fr to c.1 g0,fM fr to c.2 g1) ∧
  (0≤fr→b1 g0+b1 g1≤n∧b1 (!g0 && decide (c.1=fr))+b1 (!g1 && decide (c.2=fr))≤al - n)
def NowP (m:Mix)(A:List Held)(f0 f1:Int):Nat→Int × Int→Prop
 | 0,c=>c=(-1,-1)
 | t+1,d=>∃ c x all,NowP m A f0 f1 t c∧m.acts[t]? =some x∧A[t]? =some all∧o7 (cu m x) (toI m x) (eV m all x) (au all (cu m x)) x.fr f0 f1 c d
def Fills (m:Mix)(f:Int)(i:Nat):Prop:=∃ x,m.acts[i]? =some x∧x.kind=1∧x.fr=f
section
variable {m:Mix} {A:List Held} {f0 f1:Int}
theorem xm {x:MAct} : -1≤toI m x:=by
 unfold toI
 split
 ·unfold idxV;split<;>omega
 ·omega
def Came (m:Mix)(f:Int)(t:Nat)(c:Int)(i0:Option Nat):Prop:=match i0 with
 | none=>c = -1
 | some i=>c≠-1∧i<t∧Fills m f i
def p4 (t:Nat)(i0:Option Nat)(i:Nat):Prop:=match i0 with
 | none=>t≤i
 | some j=>i=j
theorem Came.step {f:Int}{t:Nat}{c:Int}{i0:Option Nat}(h:Came m f t c i0)(d:Int)(hd:d = -1↔c = -1):Came m f (t+1) d i0:=by
 cases i0 with
 | none=>exact hd.2 h
 | some i=>exact ⟨fun e=>h.1 (hd.1 e),Nat.lt_succ_of_lt h.2.1,h.2.2⟩
theorem p4.back {f:Int}{t:Nat}{c:Int}{i0:Option Nat}{i:Nat}(hc:Came m f t c i0)(h:p4 (t+1) i0 i):p4 t i0 i∧i≠t:=by
 cases i0 with
 | none=>exact ⟨Nat.le_of_succ_le h,by unfold p4 at h;omega⟩
 | some j =>
  have h':i=j:=h;exact ⟨h',by have:=hc.2.1;omega⟩
end
end
section
def cmpL:List Int→List Int→Int
 | [],[]=>0
 | [],_::_=>-1
 | _::_,[]=>1
 | x::a,y::b=>if x<y then -1 else if y<x then 1 else cmpL a b
theorem mr {a b:List Int}{k:Nat}{x y:Int}(hx:a[k]? =some x)(hy:b[k]? =some y):cmpL (a.drop k) (b.drop k)=if x<y then -1 else if y<x then 1 else cmpL (a.drop (k+1)) (b.drop (k+1)):=by
 obtain ⟨hk,rfl⟩:=g_E hx;obtain ⟨hk',rfl⟩:=g_E hy;rw [List.drop_eq_getElem_cons hk,List.drop_eq_getElem_cons hk'];rfl
theorem fN (x y:Int)(a b:List Int):cmpL (x::a) (y::b)=if x<y then -1 else if y<x then 1 else cmpL a b:=rfl
theorem mu (x:Int)(a b:List Int):cmpL (x::a) (x::b)=cmpL a b:=by rw [fN,if_neg (by omega),if_neg (by omega)]
theorem iq:∀ a:List Int,cmpL a a=0
 | []=>rfl
 | x::a=>by rw [mu];exact iq a
theorem nF:∀ a b:List Int,cmpL a b = -1∨cmpL a b=0∨cmpL a b=1
 | [],[]=>by simp [cmpL]
 | [],_::_=>by simp [cmpL]
 | _::_,[]=>by simp [cmpL]
 | x::a,y::b=>by
  rw [fN];have:=nF a b
  split
  ·simp
  ·split
   ·simp
   ·exact this
theorem pK:∀ {a b:List Int},cmpL a b=0→a=b
 | [],[],_=>rfl
 | [],_::_,h=>by simp [cmpL] at h
 | _::_,[],h=>by simp [cmpL] at h
 | x::a,y::b,h=>by
  rw [fN] at h
  split at h
  ·omega
  ·split at h
   ·omega
   ·rw [pK h,show x=y by omega]
theorem mo:∀ a b:List Int,cmpL b a = - cmpL a b
 | [],[]=>rfl
 | [],_::_=>rfl
 | _::_,[]=>rfl
 | x::a,y::b=>by
  rw [fN,fN];have:=mo a b;by_cases h1:x<y
  ·rw [if_neg (by omega),if_pos h1,if_pos h1];rfl
  ·by_cases h2:y<x
   ·rw [if_pos h2,if_neg h1,if_pos h2]
   ·rw [if_neg h2,if_neg h1,if_neg h1,if_neg h2];exact this
theorem nI:∀ {a b c:List Int},cmpL a b≤0→cmpL b c≤0→cmpL a c≤0
 | [],_,[],_,_=>by simp [cmpL]
 | [],_,_::_,_,_=>by simp [cmpL]
 | _::_,[],_,h,_=>by simp [cmpL] at h
 | _::_,_::_,[],_,h=>by simp [cmpL] at h
 | x::a,y::b,z::c,h1,h2=>by
  rw [fN] at h1 h2 ⊢;have ih:=@nI a b c;by_cases p1:x<y
  ·by_cases q1:y<z
   ·rw [if_pos (by omega)];omega
   ·rw [if_neg q1] at h2
    by_cases q2:z<y
    ·rw [if_pos q2] at h2;omega
    ·rw [if_pos (by omega)];omega
  ·rw [if_neg p1] at h1
   by_cases p2:y<x
   ·rw [if_pos p2] at h1;omega
   ·rw [if_neg p2] at h1
    by_cases q1:y<z
    ·rw [if_pos (by omega)];omega
    ·rw [if_neg q1] at h2
     by_cases q2:z<y
     ·rw [if_pos q2] at h2;omega
     ·rw [if_neg q2] at h2
      rw [if_neg (by omega),if_neg (by omega)];exact ih h1 h2
theorem r7 (a b:List Int):cmpL a b≤0∨cmpL b a≤0:=by
 have:=nF a b;have:=mo a b;omega
theorem oy {a b:List Int}(h1:cmpL a b≤0)(h2:cmpL b a≤0):a=b:=by
 have:=mo a b;exact pK (by omega)
theorem km:∀ {a b:List Int} (x y:List Int),a.length=b.length→cmpL (a++x) (b++y)=if cmpL a b=0 then cmpL x y else cmpL a b
 | [],[],x,y,_=>by simp [cmpL]
 | [],_::_,x,y,h=>by simp at h
 | _::_,[],x,y,h=>by simp at h
 | p::a,q::b,x,y,h=>by
  rw [List.cons_append,List.cons_append,fN,fN,km x y (by simpa using h)];by_cases h1:p<q
  ·simp [h1]
  ·by_cases h2:q<p
   ·simp [h1,h2]
   ·simp [h1,h2]
theorem wg (a x y:List Int):cmpL (a++x) (a++y)=cmpL x y:=by rw [km x y rfl,iq,if_pos rfl]
end
section
inductive fZ (m:Mix) (A:List Held) (f:Int):Nat→Int→List Int→Prop
 | enter {t:Nat} {x:MAct} (hx:m.acts[t]? =some x) (hk:x.kind=1) (hf:x.fr=f):fZ m A f (t+1) (idxV m.vessels x.to) [(t:Int)+1]
 | pour {t:Nat} {x:MAct} {v:Int} {l:List Int} (h:fZ m A f t v l) (hx:m.acts[t]? =some x) (hk:x.kind=2) (hv:idxV m.vessels x.fr=v):fZ m A f (t+1) (idxV m.vessels x.to) (l++[(t:Int)+1])
 | stay {t:Nat} {x:MAct} {v:Int} {l:List Int} {all:Held} (h:fZ m A f t v l) (hx:m.acts[t]? =some x) (ha:A[t]? =some all) (hs:cu m x≠v∨eV m all x≠au all v):fZ m A f (t+1) v l
theorem fZ.ne {m:Mix}{A:List Held}{f:Int}{t:Nat}{v:Int}{l:List Int}(h:fZ m A f t v l):l≠[]:=by
 induction h with
 | enter=>simp
 | pour=>simp
 | stay _ _ _ _ ih=>exact ih
theorem fZ.le {m:Mix}{A:List Held}{f:Int}{t:Nat}{v:Int}{l:List Int}(h:fZ m A f t v l):∀ n∈l,1≤n∧n≤t:=by
 induction h with
 | enter=>intro n hn;simp at hn;omega
 | pour _ _ _ _ ih =>
  intro n hn;rcases List.mem_append.1 hn with hn | hn
  ·have:=ih n hn;omega
  ·simp at hn;omega
 | stay _ _ _ _ ih=>intro n hn;have:=ih n hn;omega
theorem fZ.up {m:Mix}{A:List Held}{f:Int}{t:Nat}{v:Int}{l:List Int}(h:fZ m A f t v l):l.Pairwise (·<·):=by
 induction h with
 | enter=>simp
 | pour h _ _ _ ih =>
  rw [List.pairwise_append];refine ⟨ih,by simp,fun a ha b hb=>?_⟩;have:=h.le a ha;simp at hb;omega
 | stay _ _ _ _ ih=>exact ih
def cmpS (a b:List Int):Int:=if a.length<b.length then -1 else if b.length<a.length then 1 else cmpL a b
theorem ml (a:List Int):cmpS a a=0:=by unfold cmpS;rw [if_neg (by omega),if_neg (by omega),iq]
theorem oB {a b:List Int}(h1:cmpS a b≤0)(h2:cmpS b a≤0):a=b:=by
 unfold cmpS at h1 h2;by_cases e1:a.length<b.length
 ·rw [if_neg (by omega),if_pos e1] at h2;omega
 ·by_cases e2:b.length<a.length
  ·rw [if_neg e1,if_pos e2] at h1;omega
  ·rw [if_neg e1,if_neg e2] at h1
   rw [if_neg e2,if_neg e1] at h2;exact oy h1 h2
theorem rP (a b:List Int):cmpS a b≤0∨cmpS b a≤0:=by
 unfold cmpS;by_cases e1:a.length<b.length
 ·rw [if_pos e1];left;decide
 ·by_cases e2:b.length<a.length
  ·right;rw [if_pos e2];decide
  ·rw [if_neg e1,if_neg e2,if_neg e2,if_neg e1];exact r7 a b
theorem r5 {a b c:List Int}(h1:cmpS a b≤0)(h2:cmpS b c≤0):cmpS a c≤0:=by
 unfold cmpS at *;by_cases e1:a.length<b.length
 ·by_cases e3:b.length<c.length
  ·rw [if_pos (by omega)];decide
  ·by_cases e4:c.length<b.length
   ·rw [if_neg e3,if_pos e4] at h2;omega
   ·rw [if_pos (by omega)];decide
 ·by_cases e2:b.length<a.length
  ·rw [if_neg e1,if_pos e2] at h1;omega
  ·rw [if_neg e1,if_neg e2] at h1
   by_cases e3:b.length<c.length
   ·rw [if_pos (by omega)];decide
   ·by_cases e4:c.length<b.length
    ·rw [if_neg e3,if_pos e4] at h2;omega
    ·rw [if_neg e3,if_neg e4] at h2
     rw [if_neg (by omega),if_neg (by omega)];exact nI h1 h2
def fI (P:List Int→Prop)(l:List Int):Prop:=P l∧∀ k,P k→cmpS l k≤0
theorem fI.same {P:List Int→Prop}{l k:List Int}(h:fI P l)(h':fI P k):l=k:=oB (h.2 k h'.1) (h'.2 l h.1)
def jy (b:Option (List Int))(x:List Int):Option (List Int):=match b with
 | none=>some x
 | some y=>if cmpS x y<0 then some x else some y
theorem lr:∀ (l:List (List Int)) (b:List Int) (pre:List (List Int)),(b∈pre∧∀ k∈pre,cmpS b k≤0)→∃ r,l.foldl jy (some b)=some r∧(r∈pre++l∧∀ k∈pre++l,cmpS r k≤0)
 | [],b,pre,h=>⟨b,rfl,by rw [List.append_nil];exact h⟩
 | x::l,b,pre,h=>by
  rw [List.foldl_cons,show pre++x::l=(pre++[x])++l from by simp];by_cases hl:cmpS x b<0
  ·rw [show jy (some b) x=some x from by simp [jy,hl]]
   refine lr l x (pre++[x]) ⟨by simp,fun k hk=>?_⟩;rcases List.mem_append.1 hk with hk | hk
   ·exact r5 (by omega) (h.2 k hk)
   ·rw [List.mem_singleton.1 hk,ml];decide
  ·rw [show jy (some b) x=some b from by simp [jy,hl]]
   refine lr l b (pre++[x]) ⟨by simp [h.1],fun k hk=>?_⟩;rcases List.mem_append.1 hk with hk | hk
   ·exact h.2 k hk
   ·rw [List.mem_singleton.1 hk]
    rcases rP b x with h1 | h1
    ·exact h1
    ·have h2:cmpS x b=0:=by omega
     have h3:x=b:=by
      unfold cmpS at h2
      split at h2
      ·omega
      ·split at h2
       ·omega
       ·exact pK h2
     rw [h3,ml];decide
theorem n4 {l:List (List Int)}:(l=[]∧l.foldl jy none=none)∨∃ r,l.foldl jy none=some r∧fI (·∈l) r:=by
 cases l with
 | nil=>exact .inl ⟨rfl,rfl⟩
 | cons x l =>
  right
  obtain ⟨r,h1,h2,h3⟩:=lr l x [x] ⟨by simp,fun k hk=>by rw [List.mem_singleton.1 hk,ml];decide⟩;exact ⟨r,h1,h2,h3⟩
end
section
def gM (l:List Int):Int:=l.getLast?.getD 0
def iJ (a:Nat)(l:List Int):List Int:=(List.range (a - (gM l).toNat)).map fun i:Nat=>gM l+1+(i:Int)
def lvlI (a:Nat):Nat→List (List Int)
 | 0=>[[]]
 | k+1=>(lvlI a k).flatMap fun l=>(iJ a l).map fun n=>l++[n]
def UpTo (a:Nat)(l:List Int):Prop:=l.Pairwise (·<·)∧∀ n∈l,1≤n∧n≤a
theorem rW (l:List Int)(n:Int):gM (l++[n])=n:=by simp [gM]
theorem nh {a:Nat}{l:List Int}(h:UpTo a l):0≤gM l∧gM l≤a:=by
 cases hl:l.getLast? with
 | none=>simp [gM,hl]
 | some x =>
  have:=h.2 x (List.mem_of_getLast? hl);simp [gM,hl];omega
theorem tJ {a:Nat}{l:List Int}(h:UpTo a l):∀ n∈l,n≤gM l:=by
 refine qb (P:=fun l=>UpTo a l→∀ n∈l,n≤gM l) (fun _ n hn=>by cases hn) (fun l x ih h n hn=>?_) l h;rw [rW];rcases List.mem_append.1 hn with hn | hn
 ·have:=(List.pairwise_append.1 h.1).2.2 n hn x (by simp)
  omega
 ·simp at hn;omega
theorem pq {a:Nat}{l:List Int}(h:UpTo a l){n:Int}:n∈iJ a l↔gM l<n∧n≤a:=by
 have h0:=nh h;unfold iJ;simp only [List.mem_map,List.mem_range];constructor
 ·rintro ⟨i,hi,rfl⟩;omega
 ·rintro ⟨h1,h2⟩
  exact ⟨(n - gM l - 1).toNat,by omega,by omega⟩
theorem pE {a:Nat}{l:List Int}{n:Int}:UpTo a (l++[n])↔UpTo a l∧gM l<n∧n≤a:=by
 constructor
 ·intro h
  have h1:UpTo a l:=⟨(List.pairwise_append.1 h.1).1,fun x hx=>h.2 x (by simp [hx])⟩
  refine ⟨h1,?_,(h.2 n (by simp)).2⟩
  cases hl:l.getLast? with
  | none=>have:=(h.2 n (by simp)).1;simp [gM,hl];omega
  | some x =>
   have:=(List.pairwise_append.1 h.1).2.2 x (List.mem_of_getLast? hl) n (by simp);simp [gM,hl];exact this
 ·rintro ⟨h1,h2,h3⟩
  have h0:=nh h1;refine ⟨?_,fun x hx=>?_⟩
  ·rw [List.pairwise_append]
   exact ⟨h1.1,by simp,fun x hx y hy=>by have:=tJ h1 x hx;simp at hy;omega⟩
  ·rcases List.mem_append.1 hx with hx | hx
   ·exact h1.2 x hx
   ·simp at hx;omega
theorem gS (a:Nat):∀ (k:Nat) (l:List Int),l∈lvlI a k↔l.length=k∧UpTo a l
 | 0,l=>by
  unfold lvlI;simp only [List.mem_singleton];constructor
  ·rintro rfl;exact ⟨rfl,by simp [UpTo]⟩
  ·rintro ⟨h,_⟩;exact List.eq_nil_of_length_eq_zero h
 | k+1,l=>by
  unfold lvlI;simp only [List.mem_flatMap,List.mem_map];constructor
  ·rintro ⟨p,hp,n,hn,rfl⟩
   obtain ⟨h1,h2⟩:=(gS a k p).1 hp;exact ⟨by simp [h1],pE.2 ⟨h2,(pq h2).1 hn⟩⟩
  ·rintro ⟨h1,h2⟩
   obtain ⟨p,n,rfl⟩:∃ p n,l=p++[n]:=⟨l.dropLast,l.getLast (fun e=>by subst e;simp at h1),(List.dropLast_concat_getLast _).symm⟩
   obtain ⟨h3,h4⟩:=pE.1 h2;exact ⟨p,(gS a k p).2 ⟨by simpa using h1,h3⟩,n,(pq h3).2 h4,rfl⟩
theorem nj (a:Nat):∀ k:Nat,(lvlI a k).Pairwise fun x y=>cmpL x y<0
 | 0=>by simp [lvlI]
 | k+1=>by
  unfold lvlI;rw [List.pairwise_flatMap];refine ⟨fun l hl=>?_,(nj a k).imp_of_mem fun {x y} hx hy hxy=>?_⟩
  ·rw [List.pairwise_map]
   unfold iJ;rw [List.pairwise_map];refine List.pairwise_lt_range.imp fun {i j} hij=>?_;rw [wg,fN,if_pos (by omega)]
   decide
  ·intro p hp q hq
   obtain ⟨n,_,rfl⟩:=List.mem_map.1 hp;obtain ⟨n',_,rfl⟩:=List.mem_map.1 hq;rw [km _ _ (((gS a k x).1 hx).1.trans ((gS a k y).1 hy).1.symm),if_neg (by omega)];exact hxy
def Hits (ways:List (List Int))(l:List Int):Prop:=∀ w∈ways,∃ n∈w,n∈l
theorem qi {a k i:Nat}{ways:List (List Int)}{l:List Int}(hl:(lvlI a k)[i]? =some l)(hh:Hits ways l)(hi:∀ j y,j<i→(lvlI a k)[j]? =some y→¬ Hits ways y)
  (hk:∀ k'<k,∀ y∈lvlI a k',¬ Hits ways y):fI (fun l=>UpTo a l∧Hits ways l) l:=by
 have hm:=(gS a k l).1 (List.mem_of_getElem? hl);refine ⟨⟨hm.2,hh⟩,fun y ⟨hy,hyh⟩=>?_⟩;unfold cmpS;by_cases e1:l.length<y.length
 ·rw [if_pos e1];decide
 ·by_cases e2:y.length<l.length
  ·exact absurd hyh (hk y.length (by omega) y ((gS a _ y).2 ⟨rfl,hy⟩))
  ·rw [if_neg e1,if_neg e2]
   have hyk:y∈lvlI a k:=(gS a k y).2 ⟨by omega,hy⟩;obtain ⟨j,hj⟩:=List.mem_iff_getElem?.1 hyk;by_cases e3:j<i
   ·exact absurd hyh (hi j y e3 hj)
   ·by_cases e4:j=i
    ·subst e4
     rw [hl] at hj;cases hj;rw [iq];decide
    ·have hs:=nj a k
     obtain ⟨hi',e5⟩:=g_E hl;obtain ⟨hj',e6⟩:=g_E hj;have:=List.pairwise_iff_getElem.1 hs i j hi' hj' (by omega);rw [e5,e6] at this;omega
theorem uh {a:Nat}{ways:List (List Int)}(h:∀ w∈ways,w≠[]∧∀ n∈w,1≤n∧n≤(a:Int)):Hits ways ((List.range a).map fun i:Nat=>(i:Int)+1):=by
 intro w hw;obtain ⟨h1,h2⟩:=h w hw;obtain ⟨n,hn⟩:=List.exists_mem_of_ne_nil w h1;have:=h2 n hn;exact ⟨n,hn,List.mem_map.2 ⟨(n - 1).toNat,List.mem_range.2 (by omega),by omega⟩⟩
end
section
section
variable {m:Mix} {A:List Held} {f:Int}
inductive Ext (m:Mix) (A:List Held) (n:Nat) (s:Int) (l:List Int):Nat→Int→List Int→Prop
 | done:Ext m A n s l n s l
 | pour {t:Nat} {x:MAct} {v:Int} {w:List Int} (hx:m.acts[t]? =some x) (hk:x.kind=2) (hv:idxV m.vessels x.fr=v) (h:Ext m A n s l (t+1) (idxV m.vessels x.to) (w++[(t:Int)+1])):Ext m A n s l t v w
 | stay {t:Nat} {x:MAct} {v:Int} {w:List Int} {all:Held} (hx:m.acts[t]? =some x) (ha:A[t]? =some all) (hs:cu m x≠v∨eV m all x≠au all v) (h:Ext m A n s l (t+1) v w):Ext m A n s l t v w
theorem Ext.way {n:Nat}{s:Int}{l:List Int}{t:Nat}{v:Int}{w:List Int}(h:Ext m A n s l t v w):fZ m A f t v w→fZ m A f n s l:=by
 induction h with
 | done=>exact id
 | pour hx hk hv _ ih=>exact fun h=>ih (.pour h hx hk hv)
 | stay hx ha hs _ ih=>exact fun h=>ih (.stay h hx ha hs)
theorem Ext.snoc {n n':Nat}{s s':Int}{l l':List Int}(h':Ext m A n' s' l' n s l){t:Nat}{v:Int}{w:List Int}(h:Ext m A n s l t v w):Ext m A n' s' l' t v w:=by
 induction h with
 | done=>exact h'
 | pour hx hk hv _ ih=>exact .pour hx hk hv ih
 | stay hx ha hs _ ih=>exact .stay hx ha hs ih
theorem Ext.le {n:Nat}{s:Int}{l:List Int}{t:Nat}{v:Int}{w:List Int}(h:Ext m A n s l t v w):t≤n:=by
 induction h with
 | done=>exact n_R
 | pour _ _ _ _ ih=>omega
 | stay _ _ _ _ ih=>omega
theorem Ext.inv {n:Nat}{s:Int}{l:List Int}{t:Nat}{v:Int}{w:List Int}(h:Ext m A n s l t v w)(hne:t≠n) :
  (∃ x,m.acts[t]? =some x∧x.kind=2∧idxV m.vessels x.fr=v∧Ext m A n s l (t+1) (idxV m.vessels x.to) (w++[(t:Int)+1])) ∨
  (∃ x all,m.acts[t]? =some x∧A[t]? =some all∧(cu m x≠v∨eV m all x≠au all v)∧Ext m A n s l (t+1) v w):=by
 cases h with
 | done=>exact absurd rfl hne
 | pour hx hk hv h=>exact .inl ⟨_,hx,hk,hv,h⟩
 | stay hx ha hs h=>exact .inr ⟨_,_,hx,ha,hs,h⟩
theorem wG {n:Nat}{s:Int}{l:List Int}(h:fZ m A f n s l):∃ i x,m.acts[i]? =some x∧x.kind=1∧x.fr=f∧i<n∧Ext m A n s l (i+1) (idxV m.vessels x.to) [(i:Int)+1]:=by
 induction h with
 | @enter t x hx hk hf=>exact ⟨t,x,hx,hk,hf,Nat.lt_succ_self t,.done⟩
 | pour _ hx hk hv ih =>
  obtain ⟨i,y,h1,h2,h3,h4,h5⟩:=ih;exact ⟨i,y,h1,h2,h3,by omega,Ext.snoc (.pour hx hk hv .done) h5⟩
 | stay _ hx ha hs ih =>
  obtain ⟨i,y,h1,h2,h3,h4,h5⟩:=ih;exact ⟨i,y,h1,h2,h3,by omega,Ext.snoc (.stay hx ha hs .done) h5⟩
def folP (m:Mix)(A:List Held)(s:Int):Nat→Nat→Int→List Int→List (List Int)
 | 0,_,v,w=>if v=s then [w] else []
 | k+1,t,v,w=>match m.acts[t]?,A[t]? with
  | some x,some all=>if cu m x≠v then folP m A s k (t+1) v w else
    (if 0≤toI m x then folP m A s k (t+1) (toI m x) (w++[(t:Int)+1]) else [])++(if eV m all x=au all v then [] else folP m A s k (t+1) v w)
  | _,_=>[]
theorem jK (hA:allM m m.acts=some A)(hv4:m.vessels.length≤4){s:Int}{l:List Int}:∀ {k t:Nat} {v:Int} {w:List Int},0≤v→t+k≤m.acts.length→(l∈folP m A s k t v w↔Ext m A (t+k) s l t v w)
 | 0,t,v,w,hv,ht=>by
  unfold folP;rw [Nat.add_zero];constructor
  ·intro h
   split at h
   ·rename_i e
    subst e;rw [List.mem_singleton.1 h];exact .done
   ·cases h
  ·intro h
   cases h with
   | done=>simp
   | pour _ _ _ h=>have:=h.le;omega
   | stay _ _ _ h=>have:=h.le;omega
 | k+1,t,v,w,hv,ht=>by
  have hlt:t<m.acts.length:=by omega
  obtain ⟨all,_,ha,_,_⟩:=ip hA (List.getElem?_eq_getElem hlt)
  obtain ⟨x,hx⟩:∃ x,m.acts[t]? =some x:=⟨_,List.getElem?_eq_getElem hlt⟩
  have hok:=(lq hA hv4 hx ha).1;have e:t+(k+1)=t+1+k:=by omega
  unfold folP;rw [hx,ha,e];dsimp only;by_cases hf:cu m x≠v
  ·rw [if_pos hf,jK hA hv4 hv (by omega)]
   constructor
   ·exact fun h=>.stay hx ha (.inl hf) h
   ·intro h
    rcases h.inv (by omega) with ⟨y,hx',hk,hv',h⟩ | ⟨y,all',hx',ha',hs,h⟩
    ·rw [hx] at hx'
     cases hx';exact absurd (by unfold cu;rw [if_neg (by omega)];exact hv') hf
    ·exact h
  ·have hf':cu m x=v:=by omega
   rw [if_neg hf,List.mem_append];have hk1:x.kind≠1:=fun e=>by unfold cu at hf';rw [if_pos e] at hf';omega
   constructor
   ·rintro (h | h)
    ·split at h
     ·rename_i hto
      have hk2:x.kind=2:=by
       unfold toI at hto
       split at hto
       ·rename_i h;rcases h with h | h
        ·exact absurd h hk1
        ·exact h
       ·omega
      have ht2:toI m x=idxV m.vessels x.to:=by unfold toI;rw [if_pos (.inr hk2)]
      rw [jK hA hv4 hto (by omega),ht2] at h;exact .pour hx hk2 (by rw [← hf'];unfold cu;rw [if_neg hk1]) h
     ·cases h
    ·split at h
     ·cases h
     ·rename_i hs
      rw [jK hA hv4 hv (by omega)] at h;exact .stay hx ha (.inr hs) h
   ·intro h
    rcases h.inv (by omega) with ⟨y,hx',hk,hv',h⟩ | ⟨y,all',hx',ha',hs,h⟩
    ·rw [hx] at hx'
     cases hx'
     left
     have ht2:toI m x=idxV m.vessels x.to:=by unfold toI;rw [if_pos (.inr hk)]
     have h0:=hok.to_ (.inr hk);rw [if_pos (by omega),jK hA hv4 (by omega) (by omega),ht2];exact h
    ·rw [hx] at hx'
     cases hx';rw [ha] at ha';cases ha'
     right
     rw [if_neg (by rcases hs with h1 | h1;exact absurd hf' h1;exact h1),jK hA hv4 hv (by omega)];exact h
def im (m:Mix)(A:List Held)(f s:Int)(n:Nat):List (List Int):=(List.range n).flatMap fun i=>match m.acts[i]? with
 | some x=>if x.kind=1∧x.fr=f then folP m A s (n - (i+1)) (i+1) (idxV m.vessels x.to) [(i:Int)+1] else []
 | none=>[]
theorem mc (hA:allM m m.acts=some A)(hv4:m.vessels.length≤4){s:Int}{n:Nat}(hn:n≤m.acts.length){l:List Int}:l∈im m A f s n↔fZ m A f n s l:=by
 unfold im;rw [List.mem_flatMap];constructor
 ·rintro ⟨i,hi,h⟩
  have hi':=List.mem_range.1 hi;have hlt:i<m.acts.length:=by omega
  rw [List.getElem?_eq_getElem hlt] at h;have hx:=List.getElem?_eq_getElem hlt;obtain ⟨all,_,ha,_,_⟩:=ip hA hx;have hok:=(lq hA hv4 hx ha).1;dsimp only at h
  split at h
  ·rename_i hc
   rw [jK hA hv4 (hok.to_ (.inl hc.1)) (by omega),show i+1+(n - (i+1))=n from by omega] at h;exact h.way (.enter hx hc.1 hc.2)
  ·cases h
 ·intro h
  obtain ⟨i,x,hx,hk,hf,hi,he⟩:=wG h;refine ⟨i,List.mem_range.2 hi,?_⟩;rw [hx];dsimp only;have hlt:i<m.acts.length:=by omega
  obtain ⟨all,_,ha,_,_⟩:=ip hA hx;have hok:=(lq hA hv4 hx ha).1;rw [if_pos ⟨hk,hf⟩,jK hA hv4 (hok.to_ (.inl hk)) (by omega),show i+1+(n - (i+1))=n from by omega];exact he
end
end
section
def metM (m:Mix)(v a f0 f1:Int):Int:=if askM m v a [f0,f1]=0 then (if f0=f1 then 2 else 0) else askM m v a [f0,f1]
def ki (m:Mix)(v a f0 f1:Int)(b:Bool)(e:Int):Prop :=
 (metM m v a f0 f1≠0∧b=false∧e=metM m v a f0 f1)∨(metM m v a f0 f1=0∧e=0∧∃ A,allM m m.acts=some A∧(b=true↔NowP m A f0 f1 a.toNat (idxV m.vessels v,idxV m.vessels v)))
def jb (m:Mix)(v a f:Int)(P:List Held→List Int→Prop)(l:List Int)(e:Int):Prop :=
 (askM m v a [f]≠0∧l=[]∧e=askM m v a [f])∨(askM m v a [f]=0∧∃ A,allM m m.acts=some A ∧
  (((∀ k,¬ fZ m A f a.toNat (idxV m.vessels v) k)∧l=[]∧e=6)∨((∃ k,fZ m A f a.toNat (idxV m.vessels v) k)∧e=0∧fI (P A) l)))
def jL (m:Mix)(v a f:Int):List Int→Int→Prop:=jb m v a f fun A=>fZ m A f a.toNat (idxV m.vessels v)
def ww (m:Mix)(v a f:Int)(A:List Held)(l:List Int):Prop:=UpTo a.toNat l∧∀ w,fZ m A f a.toNat (idxV m.vessels v) w→∃ n∈w,n∈l
def iQ (m:Mix)(v a f:Int):List Int→Int→Prop:=jb m v a f (ww m v a f)
section
variable {m:Mix} {v a f f0 f1 e e':Int} {l l':List Int} {b b':Bool} {P:List Held→List Int→Prop}
theorem ki.same (h:ki m v a f0 f1 b e)(h':ki m v a f0 f1 b' e'):b=b'∧e=e':=by
 rcases h with ⟨h0,rfl,rfl⟩ | ⟨h0,rfl,A,hA,h⟩<;>rcases h' with ⟨k0,rfl,rfl⟩ | ⟨k0,rfl,B,hB,k⟩
 ·exact ⟨rfl,rfl⟩
 ·exact absurd k0 h0
 ·exact absurd h0 k0
 ·rw [hA] at hB
  cases hB;refine ⟨?_,rfl⟩;cases b<;>cases b'<;>simp_all
theorem jb.same (h:jb m v a f P l e)(h':jb m v a f P l' e'):l=l'∧e=e':=by
 rcases h with ⟨h0,rfl,rfl⟩ | ⟨h0,A,hA,h⟩<;>rcases h' with ⟨k0,rfl,rfl⟩ | ⟨k0,B,hB,k⟩
 ·exact ⟨rfl,rfl⟩
 ·exact absurd k0 h0
 ·exact absurd h0 k0
 ·rw [hA] at hB
  cases hB
  rcases h with ⟨h1,rfl,rfl⟩ | ⟨⟨w,h1⟩,rfl,h2⟩<;>rcases k with ⟨k1,rfl,rfl⟩ | ⟨⟨u,k1⟩,rfl,k2⟩
  ·exact ⟨rfl,rfl⟩
  ·exact absurd k1 (h1 _)
  ·exact absurd h1 (k1 _)
  ·exact ⟨h2.same k2,rfl⟩
theorem jL.same (h:jL m v a f l e)(h':jL m v a f l' e'):l=l'∧e=e':=jb.same h h'
theorem iQ.same (h:iQ m v a f l e)(h':iQ m v a f l' e'):l=l'∧e=e':=jb.same h h'
theorem pB {A:List Held}{ways:List (List Int)}(hw:∀ w,w∈ways↔fZ m A f a.toNat (idxV m.vessels v) w){l:List Int}:(UpTo a.toNat l∧Hits ways l)↔ww m v a f A l :=
 ⟨fun h=>⟨h.1,fun w k=>h.2 w ((hw w).2 k)⟩,fun h=>⟨h.1,fun w k=>h.2 w ((hw w).1 k)⟩⟩
theorem fI.congr {P Q:List Int→Prop}(h:fI P l)(e:∀ k,P k↔Q k):fI Q l:=⟨(e l).1 h.1,fun k hk=>h.2 k ((e k).2 hk)⟩
end
end
section
def sK (m:Mix)(f:Int)(A:List Held)(t:Nat)(s:Held):List Held:=match m.acts[t]?,A[t]? with
 | some x,some all=>(List.range ((fi m x f all s).2 - (fi m x f all s).1+1).toNat).map fun i:Nat=>eI s (cu m x) (toI m x) ((fi m x f all s).1+(i:Int))
 | _,_=>[]
def fwdL (m:Mix)(f:Int)(A:List Held):Nat→List Held
 | 0=>if fx m f 0 fh then [fh] else []
 | t+1=>((fwdL m f A t).flatMap (sK m f A t)).filter (fx m f (t+1))
def finB (m:Mix)(f:Int)(A:List Held):Nat→Nat→Held→Bool
 | 0,_,_=>true
 | k+1,t,s=>(sK m f A t s).any fun s'=>fx m f (t+1) s' && finB m f A k (t+1) s'
def ky (m:Mix)(f:Int)(A:List Held)(t:Nat):List Held:=(fwdL m f A t).filter (finB m f A (m.acts.length - t) t)
section
variable {m:Mix} {f:Int} {A:List Held}
theorem jv {t:Nat}{s s':Held}:s'∈sK m f A t s↔Goes m f A t s s':=by
 unfold sK Goes;constructor
 ·intro h
  split at h
  ·rename_i x all hx ha
   obtain ⟨i,h1,h2⟩:=List.mem_map.1 h;have:=List.mem_range.1 h1;exact ⟨x,all,_,hx,ha,by omega,by omega,h2.symm⟩
  ·cases h
 ·rintro ⟨x,all,k,hx,ha,h1,h2,rfl⟩
  rw [hx,ha];exact List.mem_map.2 ⟨(k - (fi m x f all s).1).toNat,List.mem_range.2 (by omega),by rw [show (fi m x f all s).1+((k - (fi m x f all s).1).toNat:Int)=k from by omega]⟩
theorem nP:∀ {t:Nat} {s:Held},s∈fwdL m f A t↔Fwd m f A t s
 | 0,s=>by
  unfold fwdL Fwd;constructor
  ·intro h
   split at h
   ·rename_i h1
    obtain rfl:=List.mem_singleton.1 h;exact ⟨rfl,h1⟩
   ·cases h
  ·rintro ⟨rfl,h⟩
   rw [if_pos h];simp
 | t+1,s=>by
  unfold fwdL Fwd;rw [List.mem_filter,List.mem_flatMap];constructor
  ·rintro ⟨⟨s0,h1,h2⟩,h3⟩
   exact ⟨⟨s0,nP.1 h1,jv.1 h2⟩,h3⟩
  ·rintro ⟨⟨s0,h1,h2⟩,h3⟩
   exact ⟨⟨s0,nP.2 h1,jv.2 h2⟩,h3⟩
theorem lJ:∀ {k t:Nat} {s:Held},Fwd m f A t s→(finB m f A k t s=true↔Fin m f A k t s)
 | 0,t,s,h=>by
  unfold finB Fin;simp [h]
 | k+1,t,s,h=>by
  unfold finB Fin;rw [List.any_eq_true];constructor
  ·rintro ⟨s',h1,h2⟩
   rw [Bool.and_eq_true] at h2
   have h3:Fwd m f A (t+1) s':=⟨⟨s,h,jv.1 h1⟩,h2.1⟩
   exact ⟨h,s',jv.1 h1,(lJ h3).1 h2.2⟩
  ·rintro ⟨_,s',h1,h2⟩
   have h3:=Fin.fwd h2;exact ⟨s',jv.2 h1,by rw [Bool.and_eq_true];exact ⟨h3.2,(lJ h3).2 h2⟩⟩
theorem fJ {t:Nat}{s:Held}:s∈ky m f A t↔eN m f A t s:=by
 unfold ky eN;rw [List.mem_filter,nP];constructor
 ·rintro ⟨h1,h2⟩
  exact (lJ h1).1 h2
 ·intro h
  exact ⟨Fin.fwd h,(lJ (Fin.fwd h)).2 h⟩
end
def qc (l:List Int)(s:Int × Int):Bool:=l.contains s.1 && l.contains s.2 && l.all fun n=>decide (s.1≤n) && decide (n≤s.2)
theorem td {l:List Int}{s:Int × Int}{P:Int→Prop}(hP:∀ n,P n↔n∈l)(h:qc l s=true):ir P s:=by
 unfold qc at h;simp only [Bool.and_eq_true,List.contains_iff_mem,List.all_eq_true,decide_eq_true_eq] at h;exact ⟨(hP _).2 h.1.1,(hP _).2 h.1.2,fun n hn=>h.2 n ((hP n).1 hn)⟩
def rt (m:Mix)(g f:Int)(L:List Held→List Int)(s:Int × Int)(e:Int):Bool :=
 if g=0 then match allM m m.acts with
  | some A=>if (ky m f A 0).contains fh then decide (e=0) && qc (L A) s else decide (s=(0,0)) && decide (e=8)
  | none=>false
 else decide (s=(0,0)) && decide (e=g)
theorem qd {m:Mix}{g f e:Int}{L:List Held→List Int}{P:List Held→Int→Prop}{s:Int × Int}(hP:∀ A n,P A n↔n∈L A)(h:rt m g f L s e=true):iC g (jh m f P) s e:=by
 unfold rt at h
 split at h
 ·rename_i hg
  split at h
  ·rename_i A hA
   right
   refine ⟨hg,A,hA,?_⟩
   split at h
   ·rename_i h1
    rw [List.contains_iff_mem] at h1;simp only [Bool.and_eq_true,decide_eq_true_eq] at h;exact .inr ⟨fJ.1 h1,h.1,td (hP A) h.2⟩
   ·rename_i h1
    rw [List.contains_iff_mem] at h1;simp only [Bool.and_eq_true,decide_eq_true_eq] at h;exact .inl ⟨fun h2=>h1 (fJ.2 h2),h.1,h.2⟩
  ·cases h
 ·rename_i hg
  simp only [Bool.and_eq_true,decide_eq_true_eq] at h;exact .inl ⟨hg,h.1,h.2⟩
def ofB (m:Mix)(v a f:Int)(s:Int × Int)(e:Int):Bool:=rt m (askM m v a [f]) f (fun A=>(ky m f A a.toNat).map fun x=>au x (idxV m.vessels v)) s e
theorem lW {m:Mix}{v a f e:Int}{s:Int × Int}(h:ofB m v a f s e=true):OfIs m v a f s e:=by
 refine qd (fun A n=>?_) h;unfold OfP;rw [List.mem_map];exact ⟨fun ⟨x,h1,h2⟩=>⟨x,fJ.2 h1,h2⟩,fun ⟨x,h1,h2⟩=>⟨x,fJ.1 h1,h2⟩⟩
def vo (m:Mix)(act f:Int)(A:List Held):List Int:=match m.acts[act.toNat - 1]?,A[act.toNat - 1]? with
 | some x,some all=>(ky m f A (act.toNat - 1)).flatMap fun s=>((List.range ((fi m x f all s).2 - (fi m x f all s).1+1).toNat).map fun i:Nat=>(fi m x f all s).1+(i:Int)).filter fun n=>(ky m f A act.toNat).contains (eI s (cu m x) (toI m x) n)
 | _,_=>[]
def xU (m:Mix)(act f:Int)(s:Int × Int)(e:Int):Bool:=rt m (actM m act f) f (vo m act f) s e
theorem nZ {m:Mix}{act f e:Int}{s:Int × Int}(h:xU m act f s e=true):fR m act f s e:=by
 refine qd (fun A n=>?_) h;unfold p5 vo;constructor
 ·rintro ⟨x,all,s,hx,ha,h1,h2,h3,h4⟩
  rw [hx,ha];refine List.mem_flatMap.2 ⟨s,fJ.2 h1,List.mem_filter.2 ⟨List.mem_map.2 ⟨(n - (fi m x f all s).1).toNat,List.mem_range.2 (by omega),by omega⟩,?_⟩⟩;rw [List.contains_iff_mem];exact fJ.2 h4
 ·intro h
  split at h
  ·rename_i x all hx ha
   obtain ⟨s,h1,h2⟩:=List.mem_flatMap.1 h;obtain ⟨h3,h4⟩:=List.mem_filter.1 h2;obtain ⟨i,h5,h6⟩:=List.mem_map.1 h3;have:=List.mem_range.1 h5;rw [List.contains_iff_mem] at h4;exact ⟨x,all,s,hx,ha,fJ.1 h1,by omega,by omega,fJ.1 h4⟩
  ·cases h
def goneB (m:Mix)(f:Int)(s:Int × Int)(e:Int):Bool:=rt m (mO m f) f (fun A=>(ky m f A m.acts.length).map fun s=>ij m f - sumH s) s e
theorem xd {m:Mix}{f e:Int}{s:Int × Int}(h:goneB m f s e=true):iZ m f s e:=by
 refine qd (fun A n=>?_) h;unfold sL;rw [List.mem_map];exact ⟨fun ⟨x,h1,h2⟩=>⟨x,fJ.2 h1,h2.symm⟩,fun ⟨x,h1,h2⟩=>⟨x,fJ.1 h1,h2.symm⟩⟩
def rV (m:Mix)(v a n e:Int):Bool :=
 if askM m v a []=0 then match allM m m.acts with
  | some A=>match A[a.toNat]? with
   | some s=>decide (e=0) && decide (n=au s (idxV m.vessels v))
   | none=>false
  | none=>false
 else decide (n=0) && decide (e=askM m v a [])
theorem kz {m:Mix}{v a n e:Int}(h:rV m v a n e=true):fF m v a n e:=by
 unfold rV at h
 split at h
 ·rename_i hg
  split at h
  ·rename_i A hA
   split at h
   ·rename_i s hs
    simp only [Bool.and_eq_true,decide_eq_true_eq] at h;exact .inr ⟨hg,h.1,A,s,hA,hs,h.2⟩
   ·cases h
  ·cases h
 ·rename_i hg
  simp only [Bool.and_eq_true,decide_eq_true_eq] at h;exact .inl ⟨hg,h.1,h.2⟩
def fK (fr xf f c:Int)(g:Bool):Bool:=!g || (if fr<0 then decide (c = -1) && decide (xf=f) else decide (c=fr))
theorem rU {fr xf f c:Int}{g:Bool}:fK fr xf f c g=true↔mD fr xf f c g:=by
 unfold fK mD;cases g
 ·simp
 ·by_cases h:fr<0<;>simp [h]
def gL (fr to n al xf f0 f1:Int)(c:Int × Int)(g:Bool × Bool):Bool :=
 fK fr xf f0 c.1 g.1 && fK fr xf f1 c.2 g.2 && (decide (fr<0) || (decide (b1 g.1+b1 g.2≤n) && decide (b1 (!g.1 && decide (c.1=fr))+b1 (!g.2 && decide (c.2=fr))≤al - n)))
def xy:List (Bool × Bool):=[(false,false),(false,true),(true,false),(true,true)]
def sZ (fr to n al xf f0 f1:Int)(c:Int × Int):List (Int × Int):=(xy.filter (gL fr to n al xf f0 f1 c)).map fun g=>(fM fr to c.1 g.1,fM fr to c.2 g.2)
theorem mE {fr to n al xf f0 f1:Int}{c d:Int × Int}:d∈sZ fr to n al xf f0 f1 c↔o7 fr to n al xf f0 f1 c d:=by
 have key:∀ g0 g1:Bool,gL fr to n al xf f0 f1 c (g0,g1)=true↔mD fr xf f0 c.1 g0∧mD fr xf f1 c.2 g1∧(0≤fr→b1 g0+b1 g1≤n∧b1 (!g0 && decide (c.1=fr))+b1 (!g1 && decide (c.2=fr))≤al - n):=fun g0 g1=>by
  unfold gL;simp only [Bool.and_eq_true,Bool.or_eq_true,decide_eq_true_eq,rU,and_assoc];refine and_congr Iff.rfl (and_congr Iff.rfl ?_);by_cases h:fr<0
  ·simp [h];omega
  ·simp [h];omega
 unfold sZ o7;rw [List.mem_map];constructor
 ·rintro ⟨⟨g0,g1⟩,h1,rfl⟩
  obtain ⟨a,b,c⟩:=(key g0 g1).1 (List.mem_filter.1 h1).2;exact ⟨g0,g1,a,b,rfl,c⟩
 ·rintro ⟨g0,g1,a,b,rfl,c⟩
  refine ⟨(g0,g1),List.mem_filter.2 ⟨?_,(key g0 g1).2 ⟨a,b,c⟩⟩,rfl⟩;cases g0<;>cases g1<;>decide
def nowL (m:Mix)(A:List Held)(f0 f1:Int):Nat→List (Int × Int)
 | 0=>[(-1,-1)]
 | t+1=>match m.acts[t]?,A[t]? with
  | some x,some all=>(nowL m A f0 f1 t).flatMap (sZ (cu m x) (toI m x) (eV m all x) (au all (cu m x)) x.fr f0 f1)
  | _,_=>[]
theorem nG {m:Mix}{A:List Held}{f0 f1:Int}:∀ {t:Nat} {d:Int × Int},d∈nowL m A f0 f1 t↔NowP m A f0 f1 t d
 | 0,d=>by simp [nowL,NowP]
 | t+1,d=>by
  unfold nowL NowP;constructor
  ·intro h
   split at h
   ·rename_i x all hx ha
    obtain ⟨c,h1,h2⟩:=List.mem_flatMap.1 h;exact ⟨c,x,all,nG.1 h1,hx,ha,mE.1 h2⟩
   ·cases h
  ·rintro ⟨c,x,all,h1,hx,ha,h2⟩
   rw [hx,ha];exact List.mem_flatMap.2 ⟨c,nG.2 h1,mE.2 h2⟩
def metB (m:Mix)(v a f0 f1:Int)(b:Bool)(e:Int):Bool :=
 if metM m v a f0 f1=0 then match allM m m.acts with
  | some A=>decide (e=0) && (b==(nowL m A f0 f1 a.toNat).contains (idxV m.vessels v,idxV m.vessels v))
  | none=>false
 else !b && decide (e=metM m v a f0 f1)
theorem sr {m:Mix}{v a f0 f1 e:Int}{b:Bool}(h:metB m v a f0 f1 b e=true):ki m v a f0 f1 b e:=by
 unfold metB at h
 split at h
 ·rename_i hg
  split at h
  ·rename_i A hA
   simp only [Bool.and_eq_true,decide_eq_true_eq,beq_iff_eq] at h;exact .inr ⟨hg,h.1,A,hA,by rw [h.2,List.contains_iff_mem];exact nG⟩
  ·cases h
 ·rename_i hg
  simp only [Bool.and_eq_true,decide_eq_true_eq,Bool.not_eq_true'] at h;exact .inl ⟨hg,h.1,h.2⟩
theorem tO {m:Mix}{v a:Int}{fs:List Int}(h:askM m v a fs=0):eO m=true∧0≤idxV m.vessels v∧(0≤a∧a≤m.acts.length)∧∀ f∈fs,1≤f∧f≤m.fountains:=by
 unfold askM at h;by_cases hk:eO m=true
 ·rw [if_pos hk] at h
  by_cases hi:idxV m.vessels v<0
  ·rw [if_pos hi] at h
   omega
  ·rw [if_neg hi] at h
   by_cases hr:(0≤a∧a≤m.acts.length)∧∀ f∈fs,1≤f∧f≤m.fountains
   ·exact ⟨hk,by omega,hr⟩
   ·rw [if_neg hr] at h
    omega
 ·rw [if_neg hk] at h
  omega
def pU (m:Mix)(v a f:Int)(Q:List (List Int)→List Int→Bool)(l:List Int)(e:Int):Bool :=
 if askM m v a [f]=0 then match allM m m.acts with
  | some A=>if (im m A f (idxV m.vessels v) a.toNat).isEmpty then decide (l=[]) && decide (e=6) else decide (e=0) && Q (im m A f (idxV m.vessels v) a.toNat) l
  | none=>false
 else decide (l=[]) && decide (e=askM m v a [f])
theorem q7 {m:Mix}{v a f e:Int}{Q:List (List Int)→List Int→Bool}{P:List Held→List Int→Prop}{l:List Int}
  (hQ:∀ A ws,allM m m.acts=some A→(∀ w,w∈ws↔fZ m A f a.toNat (idxV m.vessels v) w)→Q ws l=true→fI (P A) l) (h:pU m v a f Q l e=true):jb m v a f P l e:=by
 unfold pU at h
 split at h
 ·rename_i hg
  have hp:=tO hg;have hv:=(fj hp.1).1
  split at h
  ·rename_i A hA
   have hw:∀ w,w∈im m A f (idxV m.vessels v) a.toNat↔fZ m A f a.toNat (idxV m.vessels v) w:=fun w=>mc hA hv (by have:=hp.2.2.1;omega);refine .inr ⟨hg,A,hA,?_⟩
   split at h
   ·rename_i h1
    rw [List.isEmpty_iff] at h1;simp only [Bool.and_eq_true,decide_eq_true_eq] at h;refine .inl ⟨fun k hk=>?_,h.1,h.2⟩;have h2:=(hw k).2 hk;rw [h1] at h2;exact List.not_mem_nil h2
   ·rename_i h1
    simp only [Bool.and_eq_true,decide_eq_true_eq] at h;refine .inr ⟨?_,h.1,hQ A _ hA hw h.2⟩;obtain ⟨w,hw1⟩:=List.exists_mem_of_ne_nil (im m A f (idxV m.vessels v) a.toNat) (fun e2=>h1 (by rw [e2];rfl));exact ⟨w,(hw w).1 hw1⟩
  ·cases h
 ·rename_i hg
  simp only [Bool.and_eq_true,decide_eq_true_eq] at h;exact .inl ⟨hg,h.1,h.2⟩
def mM (m:Mix)(v a f:Int)(l:List Int)(e:Int):Bool:=pU m v a f (fun ws l=>ws.contains l && ws.all fun k=>decide (cmpS l k≤0)) l e
theorem sR {m:Mix}{v a f e:Int}{l:List Int}(h:mM m v a f l e=true):jL m v a f l e:=by
 refine q7 (fun A ws hA hw hq=>?_) h;simp only [Bool.and_eq_true,List.contains_iff_mem,List.all_eq_true,decide_eq_true_eq] at hq;exact ⟨(hw _).1 hq.1,fun k hk=>hq.2 k ((hw k).2 hk)⟩
def qz (ws:List (List Int))(l:List Int):Bool:=ws.all fun w=>w.any fun n=>l.contains n
theorem lY {ws:List (List Int)}{l:List Int}:qz ws l=true↔Hits ws l:=by
 unfold qz Hits;simp [List.all_eq_true,List.any_eq_true]
def xI (m:Mix)(v a f:Int)(l:List Int)(e:Int):Bool :=
 pU m v a f (fun ws l=>qz ws l && (lvlI a.toNat l.length).contains l && (lvlI a.toNat l.length).all (fun y=>!qz ws y || decide (cmpS l y≤0)) && (List.range l.length).all fun k=>(lvlI a.toNat k).all fun y=>!qz ws y) l e
theorem qv {m:Mix}{v a f e:Int}{l:List Int}(h:xI m v a f l e=true):iQ m v a f l e:=by
 refine q7 (fun A ws hA hw hq=>?_) h;simp only [Bool.and_eq_true,List.contains_iff_mem,List.all_eq_true,decide_eq_true_eq,Bool.or_eq_true,Bool.not_eq_true',lY,gS,List.mem_range] at hq;obtain ⟨⟨⟨h1,_,h2⟩,h3⟩,h4⟩:=hq;refine fI.congr (P:=fun l=>UpTo a.toNat l∧Hits ws l) ⟨⟨h2,h1⟩,fun k ⟨hk,hkh⟩=>?_⟩ fun k=>pB hw;by_cases e1:k.length<l.length
 ·have:=h4 k.length e1 k ⟨rfl,hk⟩
  rw [← lY] at hkh;rw [hkh] at this;cases this
 ·by_cases e2:l.length<k.length
  ·unfold cmpS
   rw [if_pos e2]
   decide
  ·rcases h3 k ⟨by omega,hk⟩ with h5 | h5
   ·rw [← lY] at hkh
    rw [hkh] at h5;cases h5
   ·exact h5
end
section
def eX (F:Int→Int)(f:Int)(l:List Int):List Int:=l.filter fun n=>decide (F n=f)
section
variable {F:Int→Int}
theorem iW (f n:Int)(l:List Int):eX F f (n::l)=if F n=f then n::eX F f l else eX F f l:=by
 unfold eX;rw [List.filter_cons];by_cases h:F n=f<;>simp [h]
theorem jz {f n:Int}{l:List Int}:n∈eX F f l↔n∈l∧F n=f:=by simp [eX]
theorem sN {f:Int}{l:List Int}(h:l.Pairwise (·<·)):(eX F f l).Pairwise (·<·):=h.sublist List.filter_sublist
theorem pv:∀ {u k:List Int},u.Pairwise (·<·)→k.Pairwise (·<·)→u.length=k.length→(∀ f,(eX F f u).length=(eX F f k).length)→(∀ f,cmpL (eX F f u) (eX F f k)≤0)→cmpL u k≤0
 | [],[],_,_,_,_,_=>by rw [iq];decide
 | [],_::_,_,_,h,_,_=>by simp at h
 | _::_,[],_,_,h,_,_=>by simp at h
 | a::u,b::k,hu,hk,hl,hn,hc=>by
  rw [fN];by_cases e1:a<b
  ·rw [if_pos e1];decide
  ·by_cases e2:b<a
   ·exfalso
    have h1:=hc (F b);have h2:=hn (F b);have hk1:eX F (F b) (b::k)=b::eX F (F b) k:=by rw [iW,if_pos rfl]
    rw [hk1] at h1 h2
    cases h3:eX F (F b) (a::u) with
    | nil=>rw [h3] at h2;simp at h2
    | cons c w =>
     rw [h3,fN] at h1;have hcm:c∈a::u:=(jz.1 (show c∈eX F (F b) (a::u) by rw [h3];simp)).1
     have hca:a≤c:=by
      rcases List.mem_cons.1 hcm with e | e
      ·omega
      ·have:=(List.pairwise_cons.1 hu).1 c e;omega
     rw [if_neg (by omega),if_pos (by omega)] at h1;omega
   ·have e:a=b:=by omega
    subst e;rw [if_neg e1,if_neg e2];refine pv (List.pairwise_cons.1 hu).2 (List.pairwise_cons.1 hk).2 (by simpa using hl) (fun f=>?_) (fun f=>?_)
    ·have:=hn f
     rw [iW,iW] at this
     split at this
     ·simpa using this
     ·exact this
    ·have:=hc f
     rw [iW,iW] at this
     split at this
     ·rwa [mu] at this
     ·exact this
def cntF (F:Int→Int)(l:List Int):Nat→Nat
 | 0=>0
 | q+1=>cntF F l q+(eX F ((q:Int)+1) l).length
theorem qN (n:Int)(l:List Int):∀ q:Nat,cntF F (n::l) q=cntF F l q+if 1≤F n∧F n≤q then 1 else 0
 | 0=>by rw [if_neg (by omega)];rfl
 | q+1=>by
  unfold cntF;rw [qN n l q,iW];by_cases h:F n=(q:Int)+1
  ·rw [if_neg (by omega),if_pos h,if_pos (by omega),List.length_cons]
   omega
  ·rw [if_neg h]
   by_cases h1:1≤F n∧F n≤q
   ·rw [if_pos h1,if_pos (by omega)];omega
   ·rw [if_neg h1,if_neg (by omega)];omega
theorem jY {q:Nat}:∀ {l:List Int},(∀ n∈l,1≤F n∧F n≤q)→cntF F l q=l.length
 | [],_=>by
  have:∀ q:Nat,cntF F [] q=0:=by
   intro q
   induction q with
   | zero=>rfl
   | succ q ih=>unfold cntF;rw [ih];rfl
  exact this q
 | n::l,h=>by
  rw [qN,jY (fun x hx=>h x (by simp [hx])),if_pos (h n (by simp))];simp
theorem p8 {u k:List Int}:∀ {q:Nat},(∀ f:Int,1≤f→f≤q→(eX F f u).length≤(eX F f k).length)→cntF F u q≤cntF F k q
 | 0,_=>n_R
 | q+1,h=>by
  unfold cntF;have h1:=p8 (q:=q) fun f a b=>h f a (by omega);have h2:=h ((q:Int)+1) (by omega) (by omega);omega
theorem uo {u k:List Int}:∀ {q:Nat},(∀ f:Int,1≤f→f≤q→(eX F f u).length≤(eX F f k).length)→cntF F u q=cntF F k q→∀ f:Int,1≤f→f≤q→(eX F f u).length=(eX F f k).length
 | 0,_,_,f,h1,h2=>by omega
 | q+1,h,e,f,h1,h2=>by
  unfold cntF at e;have h3:=p8 (q:=q) fun f a b=>h f a (by omega);have h4:=h ((q:Int)+1) (by omega) (by omega);by_cases hf:f≤q
  ·exact uo (fun f a b=>h f a (by omega)) (by omega) f h1 hf
  ·have:f=(q:Int)+1:=by omega
   subst this;omega
theorem rh {q:Nat}{own:Int→List Int→Prop}{P:List Int→Prop}{u:List Int}(hP:∀ l,P l↔l.Pairwise (·<·)∧(∀ n∈l,1≤F n∧F n≤q)∧∀ f:Int,1≤f→f≤q→own f (eX F f l))
  (hu:u.Pairwise (·<·)) (huf:∀ n∈u,1≤F n∧F n≤q) (h:∀ f:Int,1≤f→f≤q→fI (own f) (eX F f u)):fI P u:=by
 refine ⟨(hP u).2 ⟨hu,huf,fun f a b=>(h f a b).1⟩,fun k hk=>?_⟩;obtain ⟨k1,k2,k3⟩:=(hP k).1 hk
 have hle:∀ f:Int,1≤f→f≤q→(eX F f u).length≤(eX F f k).length∧((eX F f u).length=(eX F f k).length→cmpL (eX F f u) (eX F f k)≤0):=by
  intro f a b;have h1:=(h f a b).2 _ (k3 f a b);unfold cmpS at h1;by_cases e1:(eX F f u).length<(eX F f k).length
  ·exact ⟨by omega,fun e=>by omega⟩
  ·by_cases e2:(eX F f k).length<(eX F f u).length
   ·rw [if_neg e1,if_pos e2] at h1;omega
   ·rw [if_neg e1,if_neg e2] at h1
    exact ⟨by omega,fun _=>h1⟩
 have hcl:=p8 (q:=q) fun f a b=>(hle f a b).1;rw [jY huf,jY k2] at hcl;unfold cmpS;by_cases e1:u.length<k.length
 ·rw [if_pos e1];decide
 ·rw [if_neg e1,if_neg (by omega)]
  have hlen:u.length=k.length:=by omega
  have hce:=uo (q:=q) (fun f a b=>(hle f a b).1) (by rw [jY huf,jY k2];exact hlen)
  have hout:∀ f:Int,¬ (1≤f∧f≤q)→eX F f u=[]∧eX F f k=[]:=by
   intro f hf;constructor
   ·refine List.filter_eq_nil_iff.2 fun n hn=>?_
    have:=huf n hn;simp;intro e;exact hf (by omega)
   ·refine List.filter_eq_nil_iff.2 fun n hn=>?_
    have:=k2 n hn;simp;intro e;exact hf (by omega)
  refine pv (F:=F) hu k1 hlen (fun f=>?_) (fun f=>?_)
  ·by_cases hf:1≤f∧f≤q
   ·exact hce f hf.1 hf.2
   ·rw [(hout f hf).1,(hout f hf).2]
  ·by_cases hf:1≤f∧f≤q
   ·exact (hle f hf.1 hf.2).2 (hce f hf.1 hf.2)
   ·rw [(hout f hf).1,(hout f hf).2,iq];decide
end
theorem qR {F:Int→Int}{f:Int}{u all r:List Int}(hp:u.Perm all)(hs:u.Pairwise (·≤·))(h:eX F f all=r)(hr:r.Pairwise (·<·)):eX F f u=r:=by
 have h1:(eX F f u).Perm r:=by rw [← h];exact hp.filter _
 have h2:(eX F f u).Nodup:=h1.nodup_iff.2 (hr.imp fun h=>by omega);have h3:(eX F f u).Pairwise (·<·):=((hs.sublist List.filter_sublist).and h2).imp fun ⟨a,b⟩=>by omega
 exact nO h3 hr fun x=>h1.mem_iff
def gv:List Int→Nat→List (List Int)
 | _,0=>[[]]
 | [],_+1=>[]
 | x::r,n+1=>(gv r n).map (x::·)++gv r (n+1)
theorem gu:∀ (l:List Int) (n:Nat) (k:List Int),k∈gv l n↔k.Sublist l∧k.length=n
 | l,0,k=>by
  have:gv l 0=[[]]:=by cases l<;>rfl
  rw [this,List.mem_singleton];constructor
  ·rintro rfl;exact ⟨List.nil_sublist _,rfl⟩
  ·rintro ⟨_,h⟩;exact List.eq_nil_of_length_eq_zero h
 | [],n+1,k=>by
  unfold gv;constructor
  ·intro h;cases h
  ·rintro ⟨h1,h2⟩
   rw [List.sublist_nil.1 h1] at h2;cases h2
 | x::r,n+1,k=>by
  unfold gv;rw [List.mem_append,List.mem_map];constructor
  ·rintro (⟨p,hp,rfl⟩ | h)
   ·obtain ⟨h1,h2⟩:=(gu r n p).1 hp
    exact ⟨h1.cons_cons x,by simp [h2]⟩
   ·obtain ⟨h1,h2⟩:=(gu r (n+1) k).1 h
    exact ⟨h1.cons x,h2⟩
  ·rintro ⟨h1,h2⟩
   cases h1 with
   | cons _ h=>exact .inr ((gu r (n+1) k).2 ⟨h,h2⟩)
   | cons_cons _ h=>exact .inl ⟨_,(gu r n _).2 ⟨h,by simpa using h2⟩,rfl⟩
theorem kh:∀ (l:List Int) (n:Nat),l.Pairwise (·<·)→(gv l n).Pairwise fun x y=>cmpL x y<0
 | l,0,_=>by
  have:gv l 0=[[]]:=by cases l<;>rfl
  rw [this];simp
 | [],n+1,_=>by unfold gv;exact List.Pairwise.nil
 | x::r,n+1,h=>by
  unfold gv;have hx:=List.pairwise_cons.1 h;rw [List.pairwise_append];refine ⟨?_,kh r (n+1) hx.2,fun p hp q hq=>?_⟩
  ·rw [List.pairwise_map]
   exact (kh r n hx.2).imp fun {a b} hab=>by rw [mu];exact hab
  ·obtain ⟨p',_,rfl⟩:=List.mem_map.1 hp
   obtain ⟨h1,h2⟩:=(gu r (n+1) q).1 hq
   cases q with
   | nil=>cases h2
   | cons y q =>
    have:=hx.1 y (h1.subset (by simp));rw [fN,if_pos this]
    decide
theorem sp {own:List Int}{P:List Int→Prop}{n i:Nat}{l:List Int}(ho:own.Pairwise (·<·))(hl:(gv own n)[i]? =some l)(hh:P l)(hi:∀ j y,j<i→(gv own n)[j]? =some y→¬ P y)
  (hk:∀ k<n,∀ y∈gv own k,¬ P y):fI (fun l=>l.Sublist own∧P l) l:=by
 have hm:=(gu own n l).1 (List.mem_of_getElem? hl);refine ⟨⟨hm.1,hh⟩,fun y ⟨hy,hyh⟩=>?_⟩;unfold cmpS;by_cases e1:l.length<y.length
 ·rw [if_pos e1];decide
 ·by_cases e2:y.length<l.length
  ·exact absurd hyh (hk y.length (by omega) y ((gu own _ y).2 ⟨hy,rfl⟩))
  ·rw [if_neg e1,if_neg e2]
   have hyk:y∈gv own n:=(gu own n y).2 ⟨hy,by omega⟩;obtain ⟨j,hj⟩:=List.mem_iff_getElem?.1 hyk;by_cases e3:j<i
   ·exact absurd hyh (hi j y e3 hj)
   ·by_cases e4:j=i
    ·subst e4
     rw [hl] at hj;cases hj;rw [iq];decide
    ·obtain ⟨hi',e5⟩:=g_E hl
     obtain ⟨hj',e6⟩:=g_E hj;have:=List.pairwise_iff_getElem.1 (kh own n ho) i j hi' hj' (by omega);rw [e5,e6] at this;omega
end
section
theorem xp:∀ {l k:List Int},k.Sublist l→risB 0 l=true→risB 0 k=true:=fun {l k} hs h=>by
 obtain ⟨h1,h2⟩:=iU h;exact sT (h1.sublist hs) fun x hx=>h2 x (hs.subset hx)
theorem sk {m:Mix}(h:eO m=true)(p:Tast→Bool):eO (gK m (m.tastes.filter p))=true:=by
 unfold eO at h ⊢;simp only [Bool.and_eq_true,decide_eq_true_eq] at h ⊢;have hs:(m.tastes.filter p).Sublist m.tastes:=List.filter_sublist;obtain ⟨⟨⟨⟨⟨⟨h1,h2,h3,h4⟩,h5⟩,h6⟩,h7⟩,h8⟩,h9⟩:=h;refine ⟨⟨⟨⟨⟨⟨h1,h2,h3,Nat.le_trans hs.length_le h4⟩,h5⟩,?_⟩,h7⟩,h8⟩,xp (hs.map _) h9⟩;rw [List.all_eq_true] at h6 ⊢;exact fun x hx=>h6 x (hs.subset hx)
def iX (C:List (List Int))(P:List Int→Prop)(b:Bool)(r:List Int):Prop :=
 (b=true∧∃ i:Nat,C[i]? =some r∧P r∧∀ (j:Nat) (y:List Int),j<i→C[j]? =some y→¬ P y)∨(b=false∧∀ y∈C,¬ P y)
section
variable {C D:List (List Int)} {P:List Int→Prop} {b:Bool} {r:List Int}
theorem vw:iX [] P false r:=.inr ⟨rfl,fun y h=>by cases h⟩
theorem uC {l:List Int}(h:b=true↔P l):iX [l] P b l:=by
 cases b with
 | false=>exact .inr ⟨rfl,fun y hy hp=>by rw [List.mem_singleton.1 hy] at hp;exact absurd (h.2 hp) (by decide)⟩
 | true=>exact .inl ⟨rfl,0,rfl,h.1 rfl,fun j y hj=>absurd hj (Nat.not_lt_zero _)⟩
theorem po (h:iX C P true r):iX (C++D) P true r:=by
 rcases h with ⟨_,i,h1,h2,h3⟩ | ⟨h,_⟩
 ·have hi:=(g_E h1).1
  refine .inl ⟨rfl,i,by rw [List.getElem?_append_left hi];exact h1,h2,fun j y hj hy=>h3 j y hj ?_⟩
  rwa [List.getElem?_append_left (by omega)] at hy
 ·cases h
theorem np {r':List Int}(h:iX C P false r')(k:iX D P b r):iX (C++D) P b r:=by
 rcases h with ⟨h,_⟩ | ⟨_,h⟩
 ·cases h
 ·rcases k with ⟨rfl,i,k1,k2,k3⟩ | ⟨rfl,k⟩
  ·refine .inl ⟨rfl,C.length+i,by rw [List.getElem?_append_right (by omega)];rw [Nat.add_sub_cancel_left];exact k1,k2,fun j y hj hy=>?_⟩
   by_cases hc:j<C.length
   ·rw [List.getElem?_append_left hc] at hy
    exact h y (List.mem_of_getElem? hy)
   ·rw [List.getElem?_append_right (by omega)] at hy
    exact k3 (j - C.length) y (by omega) hy
  ·exact .inr ⟨rfl,fun y hy=>(List.mem_append.1 hy).elim (h y) (k y)⟩
end
def jF (own l:List Int)(i n:Nat):List (List Int):=(gv (own.drop i) n).map (l++·)
theorem so (own l:List Int)(i:Nat):jF own l i 0=[l]:=by
 have h:gv (own.drop i) 0=[[]]:=by cases own.drop i<;>rfl
 unfold jF;rw [h];simp
theorem nJ {own l:List Int}{i n:Nat}{x:Int}(h:own[i]? =some x):jF own l i (n+1)=jF own (l++[x]) (i+1) n++jF own l (i+1) (n+1):=by
 obtain ⟨hi,hx⟩:=g_E h;unfold jF;rw [List.drop_eq_getElem_cons hi,hx];rw [gv,List.map_append,List.map_map]
 congr 1
 refine List.map_congr_left fun y _=>?_;simp
theorem tR {own l:List Int}{i n:Nat}(h:own.length≤i):jF own l i (n+1)=[]:=by
 unfold jF;rw [List.drop_of_length_le h];rfl
theorem tm (own:List Int)(n:Nat):jF own [] 0 n=gv own n:=by
 unfold jF;simp
def WrP (m:Mix)(A:List Held)(f:Int)(l:List Int):Prop:=eN (gK m (io m.tastes l)) f A 0 fh
def ownL (m:Mix)(f:Int):List Int:=(m.tastes.filter fun x=>decide (x.fountain=f)).map (·.num)
def rL (m:Mix)(A:List Held)(f:Int)(b:Bool)(r:List Int):Prop :=
 (b=true∧r.length≤3∧fI (fun l=>l.Sublist (ownL m f)∧WrP m A f l) r)∨(b=false∧∀ l,l.Sublist (ownL m f)→l.length≤3→¬ WrP m A f l)
theorem sn {m:Mix}{A:List Held}{f:Int}{n:Nat}{r:List Int}(ho:(ownL m f).Pairwise (·<·))(hn:n≤3)(h:iX (gv (ownL m f) n) (WrP m A f) true r)(hk:∀ k<n,∀ y∈gv (ownL m f) k,¬ WrP m A f y):rL m A f true r:=by
 rcases h with ⟨_,i,h1,h2,h3⟩ | ⟨h,_⟩
 ·have hm:=(gu _ _ _).1 (List.mem_of_getElem? h1)
  exact .inl ⟨rfl,by omega,sp ho h1 h2 h3 hk⟩
 ·cases h
theorem rH {m:Mix}{A:List Held}{f:Int}{r:List Int}(hk:∀ k<4,∀ y∈gv (ownL m f) k,¬ WrP m A f y):rL m A f false r :=
 .inr ⟨rfl,fun l hl h3=>hk l.length (by omega) l ((gu _ _ _).2 ⟨hl,rfl⟩)⟩
end
section
def jZ (m:Mix)(A:List Held)(l:List Int):Prop:=l.Pairwise (·<·)∧(∀ n∈l,n∈m.tastes.map (·.num))∧∀ f:Int,1≤f→f≤m.fountains→WrP m A f l
def jI (m:Mix)(l:List Int)(e:Int):Prop :=
 (eO m=false∧l=[]∧e=40)∨(eO m=true∧∃ A,allM m m.acts=some A∧((e=0∧l.length≤3∧fI (jZ m A) l)∨(e=4∧l=[]∧∀ k,jZ m A k→3<k.length)))
theorem jI.same {m:Mix}{l l':List Int}{e e':Int}(h:jI m l e)(h':jI m l' e'):l=l'∧e=e':=by
 rcases h with ⟨h0,rfl,rfl⟩ | ⟨h0,A,hA,h⟩<;>rcases h' with ⟨k0,rfl,rfl⟩ | ⟨k0,B,hB,k⟩
 ·exact ⟨rfl,rfl⟩
 ·rw [h0] at k0;cases k0
 ·rw [h0] at k0;cases k0
 ·rw [hA] at hB
  cases hB
  rcases h with ⟨rfl,h1,h2⟩ | ⟨rfl,rfl,h2⟩<;>rcases k with ⟨rfl,k1,k2⟩ | ⟨rfl,rfl,k2⟩
  ·exact ⟨h2.same k2,rfl⟩
  ·have:=k2 l h2.1;omega
  ·have:=h2 l' k2.1;omega
  ·exact ⟨rfl,rfl⟩
def fnum (m:Mix)(n:Int):Int:=((m.tastes.find? fun x=>decide (x.num=n)).map (·.fountain)).getD 0
section
variable {m:Mix} {A:List Held}
theorem mA (h:eO m=true):(m.tastes.map (·.num)).Pairwise (·<·):=(iU (ng h)).1
theorem pM (h:eO m=true){x:Tast}(hx:x∈m.tastes):fnum m x.num=x.fountain:=by
 have hp:=mA h;rw [List.pairwise_map] at hp;unfold fnum
 cases hf:m.tastes.find? fun y=>decide (y.num=x.num) with
 | none =>
  have:=List.find?_eq_none.1 hf x hx;simp at this
 | some y =>
  have hy:=List.mem_of_find?_eq_some hf;have he:y.num=x.num:=by have:=List.find?_some hf;simpa using this
  have:y=x:=by
   obtain ⟨i,hi,rfl⟩:=List.mem_iff_getElem.1 hy;obtain ⟨j,hj,rfl⟩:=List.mem_iff_getElem.1 hx;rw [List.pairwise_iff_getElem] at hp;rcases Nat.lt_trichotomy i j with hij | rfl | hij
   ·have:=hp i j hi hj hij;omega
   ·rfl
   ·have:=hp j i hj hi hij;omega
  rw [this];rfl
theorem se (h:eO m=true){x:Tast}(hx:x∈m.tastes):1≤x.fountain∧x.fountain≤m.fountains:=by
 unfold eO at h;simp only [Bool.and_eq_true] at h;have h6:=List.all_eq_true.1 h.1.1.1.2 x hx;unfold gJ at h6;have:=of_decide_eq_true h6;exact this.2.2.1
theorem oL (h:eO m=true)(f:Int):ownL m f=eX (fnum m) f (m.tastes.map (·.num)):=by
 unfold ownL eX;rw [List.filter_map]
 congr 1
 refine List.filter_congr fun x hx=>?_;simp only [Function.comp];rw [pM h hx]
theorem nD (h:eO m=true){f n:Int}:n∈ownL m f↔n∈m.tastes.map (·.num)∧fnum m n=f:=by
 rw [oL h,jz]
theorem l6 (h:eO m=true)(f:Int):(ownL m f).Pairwise (·<·):=by
 rw [oL h];exact sN (mA h)
theorem oV {l:List Int}{x:Tast}:x∈io m.tastes l↔x∈m.tastes∧x.num∉l:=by
 unfold io;simp
theorem qT (h:eO m=true)(f:Int)(l:List Int):WrP m A f l↔WrP m A f (eX (fnum m) f l):=by
 unfold WrP;refine sh (m:=gK m (io m.tastes (eX (fnum m) f l))) (m':=gK m (io m.tastes l)) rfl rfl fun x hxf=>?_
 show x∈io m.tastes (eX (fnum m) f l)↔x∈io m.tastes l
 rw [oV,oV];refine and_congr_right fun hx=>not_congr ?_;rw [jz,pM h hx];exact ⟨fun k=>k.1,fun k=>⟨k,hxf⟩⟩
theorem lF:∀ {k l:List Int},k.Pairwise (·<·)→l.Pairwise (·<·)→(∀ x∈k,x∈l)→k.Sublist l
 | [],l,_,_,_=>List.nil_sublist _
 | x::k,[],_,_,h=>by have:=h x (by simp);cases this
 | x::k,y::l,hk,hl,h=>by
  obtain ⟨hx,hk2⟩:=List.pairwise_cons.1 hk;obtain ⟨hy,hl2⟩:=List.pairwise_cons.1 hl;by_cases e:x=y
  ·subst e
   refine (lF hk2 hl2 fun z hz=>?_).cons_cons x;have h1:=h z (by simp [hz]);have h2:=hx z hz;rcases List.mem_cons.1 h1 with h1 | h1
   ·omega
   ·exact h1
  ·have hxl:x∈l:=by
    rcases List.mem_cons.1 (h x (by simp)) with h1 | h1
    ·exact absurd h1 e
    ·exact h1
   refine (lF hk hl2 fun z hz=>?_).cons y;rcases List.mem_cons.1 hz with rfl | hz
   ·exact hxl
   ·rcases List.mem_cons.1 (h z (by simp [hz])) with h1 | h1
    ·have:=hx z hz;have:=hy x hxl;omega
    ·exact h1
theorem lj (h:eO m=true)(l:List Int):jZ m A l↔l.Pairwise (·<·)∧(∀ n∈l,1≤fnum m n∧fnum m n≤(m.fountains.toNat:Int))∧∀ f:Int,1≤f→f≤(m.fountains.toNat:Int)→(fun f k=>List.Sublist k (ownL m f)∧WrP m A f k) f (eX (fnum m) f l):=by
 have hf:=(fj h).2.2.2;have hq:(m.fountains.toNat:Int)=m.fountains:=by omega
 rw [hq];constructor
 ·rintro ⟨h1,h2,h3⟩
  refine ⟨h1,fun n hn=>?_,fun f f1 f2=>⟨?_,(qT h f l).1 (h3 f f1 f2)⟩⟩
  ·obtain ⟨x,hx,rfl⟩:=List.mem_map.1 (h2 n hn)
   rw [pM h hx];exact se h hx
  ·exact lF (sN h1) (l6 h f) fun n hn=>(nD h).2 ⟨h2 n (jz.1 hn).1,(jz.1 hn).2⟩
 ·rintro ⟨h1,h2,h3⟩
  refine ⟨h1,fun n hn=>?_,fun f f1 f2=>(qT h f l).2 (h3 f f1 f2).2⟩;have h4:=h2 n hn;have h5:=(h3 (fnum m n) h4.1 h4.2).1.subset (jz.2 ⟨hn,rfl⟩);exact ((nD h).1 h5).1
def catR (R:Int→List Int):Nat→List Int
 | 0=>[]
 | q+1=>catR R q++R ((q:Int)+1)
theorem nT (h:eO m=true){R:Int→List Int}:∀ {q:Nat},(∀ f:Int,1≤f→f≤q→(R f).Sublist (ownL m f))→(∀ f:Int,1≤f→f≤q→eX (fnum m) f (catR R q)=R f)∧∀ n∈catR R q,1≤fnum m n∧fnum m n≤q
 | 0,_=>⟨fun f h1 h2=>by omega,fun n hn=>by cases hn⟩
 | q+1,hR=>by
  obtain ⟨i1,i2⟩:=nT h (q:=q) fun f a b=>hR f a (by omega);have hlast:∀ n∈R ((q:Int)+1),fnum m n=(q:Int)+1:=fun n hn=>((nD h).1 ((hR _ (by omega) (by omega)).subset hn)).2;refine ⟨fun f h1 h2=>?_,fun n hn=>?_⟩
  ·unfold catR
   have e:eX (fnum m) f (catR R q++R ((q:Int)+1))=eX (fnum m) f (catR R q)++eX (fnum m) f (R ((q:Int)+1)):=by unfold eX;exact List.filter_append ..
   rw [e];by_cases hf:f≤q
   ·rw [i1 f h1 hf]
    have:eX (fnum m) f (R ((q:Int)+1))=[]:=List.filter_eq_nil_iff.2 fun n hn=>by have:=hlast n hn;simp;omega
    rw [this,List.append_nil]
   ·obtain rfl:f=(q:Int)+1:=by omega
    have h3:eX (fnum m) ((q:Int)+1) (catR R q)=[]:=List.filter_eq_nil_iff.2 fun n hn=>by have:=i2 n hn;simp;omega
    have h4:eX (fnum m) ((q:Int)+1) (R ((q:Int)+1))=R ((q:Int)+1):=List.filter_eq_self.2 fun n hn=>by simpa using hlast n hn
    rw [h3,h4,List.nil_append]
  ·unfold catR at hn
   rcases List.mem_append.1 hn with hn | hn
   ·have:=i2 n hn;omega
   ·have:=hlast n hn;omega
theorem sC {R:Int→List Int}:∀ {q:Nat},(∀ f:Int,1≤f→f≤q→(R f).length≤3)→(catR R q).length≤3 * q
 | 0,_=>n_R
 | q+1,h=>by
  unfold catR;have h1:=sC (q:=q) fun f a b=>h f a (by omega);have h2:=h ((q:Int)+1) (by omega) (by omega);rw [List.length_append];omega
theorem tI (h:eO m=true){R:Int→List Int}{u:List Int}(hR:∀ f:Int,1≤f→f≤(m.fountains.toNat:Int)→fI (fun k=>List.Sublist k (ownL m f)∧WrP m A f k) (R f))
  (hp:u.Perm (catR R m.fountains.toNat)) (hs:u.Pairwise (·≤·)):fI (jZ m A) u:=by
 obtain ⟨c1,c2⟩:=nT h (R:=R) (q:=m.fountains.toNat) fun f a b=>(hR f a b).1.1
 have hof:∀ f:Int,1≤f→f≤(m.fountains.toNat:Int)→eX (fnum m) f u=R f:=fun f a b =>
  qR hp hs (c1 f a b) ((l6 h f).sublist (hR f a b).1.1)
 have huf:∀ n∈u,1≤fnum m n∧fnum m n≤(m.fountains.toNat:Int):=fun n hn=>c2 n (hp.subset hn)
 have hnd:u.Nodup:=by
  rw [List.nodup_iff_count];intro a;by_cases ha:a∈u
  ·have h1:=huf a ha
   have h2:(eX (fnum m) (fnum m a) u).Nodup:=by
    rw [hof _ h1.1 h1.2];exact ((l6 h _).sublist (hR _ h1.1 h1.2).1.1).imp fun h=>by omega
   have h3:=List.nodup_iff_count.1 h2 a
   have h4:(eX (fnum m) (fnum m a) u).count a=u.count a:=by
    unfold eX;exact List.count_filter (by simp)
   omega
  ·rw [List.count_eq_zero.2 ha];omega
 have hu:u.Pairwise (·<·):=(hs.and hnd).imp fun ⟨a,b⟩=>by omega
 exact rh (own:=fun f k=>List.Sublist k (ownL m f)∧WrP m A f k) (lj h) hu huf fun f a b=>by rw [hof f a b];exact hR f a b
theorem tv (h:eO m=true){R:Int→List Int}(hR:∀ f:Int,1≤f→f≤(m.fountains.toNat:Int)→fI (fun k=>List.Sublist k (ownL m f)∧WrP m A f k) (R f)){k:List Int}(hk:jZ m A k):(catR R m.fountains.toNat).length≤k.length:=by
 obtain ⟨c1,c2⟩:=nT h (R:=R) (q:=m.fountains.toNat) fun f a b=>(hR f a b).1.1;obtain ⟨k1,k2,k3⟩:=(lj h k).1 hk
 have hcl:=p8 (F:=fnum m) (u:=catR R m.fountains.toNat) (k:=k) (q:=m.fountains.toNat) fun f a b=>by
  rw [c1 f a b];have h1:=(hR f a b).2 _ (k3 f a b);unfold cmpS at h1;by_cases e1:(R f).length<(eX (fnum m) f k).length
  ·omega
  ·by_cases e2:(eX (fnum m) f k).length<(R f).length
   ·rw [if_neg e1,if_pos e2] at h1;omega
   ·omega
 rw [jY c2,jY k2] at hcl;exact hcl
theorem vZ (h:eO m=true){f:Int}(f1:1≤f)(f2:f≤m.fountains)(hf:∀ l,List.Sublist l (ownL m f)→l.length≤3→¬ WrP m A f l){k:List Int}(hk:jZ m A k):3<k.length:=by
 have hv:=(fj h).2.2.2;have h1:=((lj h k).1 hk).2.2 f f1 (by omega);have h2:(eX (fnum m) f k).length≤k.length:=List.length_filter_le _ _;rcases Nat.lt_or_ge 3 (eX (fnum m) f k).length with h3 | h3
 ·omega
 ·exact absurd h1.2 (hf _ h1.1 h3)
end
end
section
open Go.RowKit
theorem gX {m:Mix}{l:List MAct}{A:List Held}(h:allM m l=some A)(hv:m.vessels.length≤4)(hz:ka m):∀ {t:Nat} {a:Held},A[t]? =some a→a.length=4∧∀ q:Nat,0≤au a q∧au a q≤12:=by
 intro t
 induction t with
 | zero=>intro a ha;rw [kO h] at ha;cases ha;exact ⟨rfl,fun q=>by
   match q with
   | 0=>decide
   | 1=>decide
   | 2=>decide
   | 3=>decide
   | q+4 =>
    have:au fh ((q+4:Nat):Int)=0:=by
     unfold au;rw [List.getElem?_eq_none (by simp [fh];omega)];rfl
    rw [this]
    decide⟩
 | succ t ih =>
  intro a ha;have hl:=fX m l A h
  have ht:t<l.length:=by
   have:=(g_E ha).1;omega
  obtain ⟨b,b',h1,h2,h3⟩:=ip h (List.getElem?_eq_getElem ht);rw [ha] at h2;cases h2;have:=ih h1;exact nL hv hz this.1 this.2 h3
structure TbOk (T:Tb):Prop where
 ok:eO T.m=true
 all:allM T.m T.m.acts=some T.L
section
variable {T:Tb} {x:MAct} {k:Nat}
theorem hZ {m:Mix}(h:eO m=true):ka m:=by
 unfold eO at h;simp only [Bool.and_eq_true] at h;exact rg h.1.1.1.1.2
theorem TbOk.vess (h:TbOk T):T.m.vessels.length≤4:=(fj h.ok).1
theorem TbOk.acts (h:TbOk T):T.m.acts.length≤12:=(fj h.ok).2.1
theorem TbOk.long (h:TbOk T):T.L.length=T.m.acts.length+1:=fX _ _ _ h.all
structure j5 (T:Tb)(k:Nat)(x:MAct)(all:Held):Prop where
 hx:T.m.acts[k]? =some x
 ha:T.L[k]? =some all
 ok:qQ T.m all x
 len:all.length=4
 rng:∀ q:Nat,0≤au all q∧au all q≤12
 size:0≤eV T.m all x∧eV T.m all x≤2000
 four:x.kind=4→0≤cu T.m x
 apart:cu T.m x≠toI T.m x∨cu T.m x<0
 next:T.L[k+1]? =some (eI all (cu T.m x) (toI T.m x) (eV T.m all x))
theorem TbOk.at_ (h:TbOk T)(hx:T.m.acts[k]? =some x):∃ all,j5 T k x all:=by
 have hl:=h.long;have hk:=(g_E hx).1;obtain ⟨a,a',h1,h2,h3⟩:=ip h.all hx;have hr:=gX h.all h.vess (hZ h.ok) h1;obtain ⟨h4,h5⟩:=lq h.all h.vess hx h1;have h6:=gV h.vess (hZ h.ok) ⟨hr.1,fun q=>by have:=hr.2 q;omega⟩ (by rw [h3];rfl);exact ⟨a,hx,h1,h4,hr.1,hr.2,⟨h6.1,h6.2.1⟩,h6.2.2.1,h6.2.2.2,h5⟩
end
theorem j5.kindOk {T:Tb}{k:Nat}{x:MAct}{all:Held}(h:j5 T k x all):jR x:=h.ok.kind
end
section
open Go.RowKit Go.MapKept
open Go.ChangeMaps (setBlock heap_setBlock_other heap_setBlock_same)
open Go.Maps (Keyed)
set_option linter.unusedSectionVars false
structure mJ (P:Program)(t k e:TypeId)(α β:Type)(encK:α→Value)(encV:β→Value)(ok:α→Prop)(zero:Value):Prop where
 und:P.underlying t=some (.map k e)
 keyed:Keyed P k
 reads:∀ x,ok x→∃ l,keyOf P k (encK x)=some l
 inj:∀ x y,encK x=encK y→x=y
 zero:∀ w,(zeroValue e).run P w = .ok zero w
def eZ {α β:Type}(encK:α→Value)(encV:β→Value)(ok:α→Prop)(w:World)(r:Nat)(m:List (α × β)):Prop :=
 ∃ es clock,w.heap[r]? =some (.map es clock)∧es.toList.map (fun e=>(e.key,e.val))=m.map (fun p=>(encK p.1,encV p.2))∧Stamped es clock∧∀ p∈m,ok p.1
def look {α β:Type}[DecidableEq α](m:List (α × β))(x:α):Option β:=(m.find? fun p=>decide (p.1=x)).map Prod.snd
def put {α β:Type}[DecidableEq α](m:List (α × β))(x:α)(v:β):List (α × β) :=
 if m.any (fun p=>decide (p.1=x)) then m.map (fun p=>if p.1=x then (x,v) else p) else m++[(x,v)]
def cut {α β:Type}[DecidableEq α](m:List (α × β))(x:α):List (α × β):=m.filter fun p=>!decide (p.1=x)
section
variable {α β:Type} [DecidableEq α] {m:List (α × β)} {x y:α} {v:β}
theorem look_none:look m x=none↔∀ p∈m,p.1≠x:=by
 unfold look;simp [List.find?_eq_none]
theorem iG (h:look m x=some v):(x,v)∈m:=by
 unfold look at h
 cases hf:m.find? (fun p=>decide (p.1=x)) with
 | none=>rw [hf] at h;cases h
 | some p =>
  rw [hf] at h;have h1:=List.find?_some hf;have h2:=List.mem_of_find?_eq_some hf;simp at h h1;obtain ⟨a,b⟩:=p;simp at h h1;subst h h1;exact h2
theorem rz (hn:(m.map Prod.fst).Nodup)(h:(x,v)∈m):look m x=some v:=by
 unfold look
 induction m with
 | nil=>simp at h
 | cons p m ih =>
  rw [List.map_cons,List.nodup_cons] at hn;rcases List.mem_cons.1 h with h | h
  ·subst h;simp
  ·have hne:p.1≠x:=fun e=>hn.1 (by rw [e];exact List.mem_map.2 ⟨_,h,rfl⟩)
   rw [List.find?_cons_of_neg (by simpa using hne)];exact ih hn.2 h
theorem rB:look (put m x v) y=if y=x then some v else look m y:=by
 unfold put;by_cases hany:m.any (fun p=>decide (p.1=x))=true
 ·rw [if_pos hany]
  induction m with
  | nil=>simp at hany
  | cons p m ih =>
   by_cases hp:p.1=x
   ·by_cases hy:y=x
    ·subst hy;simp [look,hp]
    ·rw [if_neg hy]
     by_cases hm:m.any (fun p=>decide (p.1=x))=true
     ·have:=ih hm
      rw [if_neg hy] at this;unfold look at this ⊢;rw [List.map_cons,if_pos hp,List.find?_cons_of_neg (by simpa using fun e=>hy e.symm),List.find?_cons_of_neg (by rw [hp];simpa using fun e=>hy e.symm)];exact this
     ·have hid:m.map (fun p=>if p.1=x then (x,v) else p)=m:=by
       have h1:m.map (fun p=>if p.1=x then (x,v) else p)=m.map id:=List.map_congr_left fun q hq=>by
        have:q.1≠x:=fun e=>hm (List.any_eq_true.2 ⟨q,hq,by simpa using e⟩);simp [this]
       simpa using h1
      unfold look;rw [List.map_cons,if_pos hp,hid,List.find?_cons_of_neg (by simpa using fun e=>hy e.symm),List.find?_cons_of_neg (by rw [hp];simpa using fun e=>hy e.symm)]
   ·have hm:m.any (fun p=>decide (p.1=x))=true:=by simpa [hp] using hany
    have:=ih hm;unfold look at this ⊢;rw [List.map_cons,if_neg hp];by_cases hpy:p.1=y
    ·rw [List.find?_cons_of_pos (by simpa using hpy),List.find?_cons_of_pos (by simpa using hpy),if_neg (fun e=>hp (hpy.trans e))]
    ·rw [List.find?_cons_of_neg (by simpa using hpy),List.find?_cons_of_neg (by simpa using hpy)]
     exact this
 ·rw [if_neg hany]
  have hno:∀ p∈m,p.1≠x:=fun p hp e=>hany (List.any_eq_true.2 ⟨p,hp,by simpa using e⟩);by_cases hy:y=x
  ·subst hy
   have hf:m.find? (fun p=>decide (p.1=y))=none:=by rw [List.find?_eq_none];simpa using hno
   unfold look;rw [List.find?_append,hf];simp
  ·rw [if_neg hy]
   unfold look;rw [List.find?_append];have hxy:¬ x=y:=fun e=>hy e.symm;have hl:[(x,v)].find? (fun p=>decide (p.1=y))=none:=by simp [hxy]
   rw [hl];simp
theorem jW {p:α × β}:p∈cut m x↔p∈m∧p.1≠x:=by unfold cut;simp
theorem kE {p:α × β}(h:p∈put m x v):p=(x,v)∨(p∈m∧p.1≠x):=by
 unfold put at h
 split at h
 ·obtain ⟨q,hq,rfl⟩:=List.mem_map.1 h
  by_cases e:q.1=x
  ·simp [e]
  ·simp [e];exact .inr hq
 ·rename_i hany
  rcases List.mem_append.1 h with h | h
  ·exact .inr ⟨h,fun e=>hany (List.any_eq_true.2 ⟨p,h,by simpa using e⟩)⟩
  ·left;simpa using h
end
section
variable {P:Program} {t k e:TypeId} {α β:Type} [DecidableEq α] {encK:α→Value} {encV:β→Value} {okK:α→Prop} {zero:Value}
variable {w w':World} {r:Nat} {m:List (α × β)}
theorem eZ.lt (h:eZ encK encV okK w r m):r<w.heap.size:=by
 obtain ⟨es,clock,hb,_⟩:=h;exact (Array.getElem?_eq_some_iff.1 hb).1
theorem eZ.ok (h:eZ encK encV okK w r m):∀ p∈m,okK p.1:=by
 obtain ⟨_,_,_,_,_,h⟩:=h;exact h
theorem eZ.keep (h:eZ encK encV okK w r m)(hb:w'.heap[r]? =w.heap[r]?):eZ encK encV okK w' r m:=by
 obtain ⟨es,clock,h1,h2⟩:=h;exact ⟨es,clock,hb.trans h1,h2⟩
theorem eZ.below {B:Nat}(h:eZ encK encV okK w r m)(hb:Below B w w')(hr:r<B):eZ encK encV okK w' r m:=h.keep (hb.block r hr)
theorem eZ.alloc (h:eZ encK encV okK w r m)(o:Obj):eZ encK encV okK (w.alloc o) r m:=h.keep (Below.heap_alloc w o r h.lt)
theorem eZ.grown {row:Option Nat}(h:eZ encK encV okK w r m)(hg:w.grownBy w' row)(hne:some r≠row):eZ encK encV okK w' r m:=h.keep (hg.block r h.lt hne)
theorem eZ.drewN (h:eZ encK encV okK w r m)(n:Nat):eZ encK encV okK (w.drewN n) r m:=h
theorem eZ.made (w:World):eZ (β:=β) encK encV okK (w.alloc (.map #[] 0)) w.heap.size [] :=
 ⟨#[],0,heap_alloc_new w _,rfl,stamped_empty 0,by simp⟩
theorem eZ.nodup (T:mJ P t k e α β encK encV okK zero)(h:eZ encK encV okK w r m):(m.map Prod.fst).Nodup:=by
 obtain ⟨es,clock,hb,hm,hs,hk⟩:=h;have hp:=((stamped_iff es clock).1 hs).2.2
 have h1:(es.toList.map (fun e=>(e.key,e.val))).Pairwise (fun p q=>p.1≠q.1):=by
  rw [List.pairwise_map];exact hp
 rw [hm,List.pairwise_map] at h1;rw [List.Nodup,List.pairwise_map];exact h1.imp fun {a b} hne e=>hne (by simp [e])
theorem eZ.find (T:mJ P t k e α β encK encV okK zero){es:Array MapEntry}(hm:es.toList.map (fun e=>(e.key,e.val))=m.map (fun p=>(encK p.1,encV p.2)))(hk:∀ p∈m,okK p.1){x:α}(hx:okK x) :
  ((Instr.findKey k (encK x) es.toList).run P w = .ok none w∧look m x=none∧∀ y∈es.toList,y.key≠encK x) ∨
  ∃ (j:Nat) (y:MapEntry) (v:β),(Instr.findKey k (encK x) es.toList).run P w = .ok (some (j,encV v)) w∧es.toList[j]? =some y∧y.key=encK x∧m[j]? =some (x,v):=by
 obtain ⟨l,hl⟩:=T.reads x hx
 have hkeys:∀ y∈es.toList,∃ l,keyOf P k y.key=some l:=by
  intro y hy;have:(y.key,y.val)∈m.map (fun p=>(encK p.1,encV p.2)):=by rw [← hm];exact List.mem_map.2 ⟨y,hy,rfl⟩
  obtain ⟨p,hp,he⟩:=List.mem_map.1 this;simp at he;rw [← he.1];exact T.reads _ (hk p hp)
 rcases T.keyed.find w hl es.toList hkeys with ⟨h1,h2⟩ | ⟨j,y,h1,h2,h3⟩
 ·refine .inl ⟨h1,look_none.2 fun p hp e=>?_,h2⟩
  have:(encK p.1,encV p.2)∈es.toList.map (fun e=>(e.key,e.val)):=by rw [hm];exact List.mem_map.2 ⟨p,hp,rfl⟩
  obtain ⟨y,hy,he⟩:=List.mem_map.1 this;simp at he;exact h2 y hy (by rw [he.1,e])
 ·have hj:(es.toList.map (fun e=>(e.key,e.val)))[j]? =some (y.key,y.val):=by rw [List.getElem?_map,h2];rfl
  rw [hm,List.getElem?_map] at hj
  cases hmj:m[j]? with
  | none=>rw [hmj] at hj;cases hj
  | some p =>
   rw [hmj] at hj;simp at hj;have hpx:p.1=x:=T.inj _ _ (hj.1.trans h3);refine .inr ⟨j,y,p.2,?_,h2,h3,?_⟩
   ·rw [h1,hj.2]
   ·rw [hmj,← hpx]
theorem eZ.lookup (T:mJ P t k e α β encK encV okK zero)(h:eZ encK encV okK w r m){x:α}(hx:okK x)(co:Bool) :
  (Instr.lookup t (.map (some r)) (encK x) co).run P w = .ok (match look m x with | some v=>if co then .tuple #[encV v,.bool true] else encV v | none=>if co then .tuple #[zero,.bool false] else zero) w:=by
 obtain ⟨l,hl⟩:=T.reads x hx;have hn:=eZ.nodup T h;obtain ⟨es,clock,hb,hm,hs,hk⟩:=h
 rcases eZ.find (w:=w) T hm hk hx with ⟨h1,h2,_⟩ | ⟨j,y,v,h1,h2,h3,h4⟩
 ·rw [h2]
  cases co<;>simp [Instr.lookup,run_underlying T.und,MapKept.run_getObj_map hb,T.keyed.check w _ hl,h1,T.zero,Result.andThen]
 ·have hm':look m x=some v:=rz hn (List.mem_of_getElem? h4)
  rw [hm'];cases co<;>simp [Instr.lookup,run_underlying T.und,MapKept.run_getObj_map hb,T.keyed.check w _ hl,h1,Result.andThen]
theorem fg {es:Array MapEntry}{clock:Nat}(hb:w.heap[r]? =some (.map es clock))(o:Obj):w.grownBy (setBlock w r o) (some r)∧(setBlock w r o).heap.size=w.heap.size :=
 ⟨⟨rfl,rfl,rfl,by simp [setBlock],fun i _ hi=>heap_setBlock_other hb o (fun e=>hi (by rw [e]))⟩,by simp [setBlock]⟩
theorem qZ {γ:Type}{l:List γ}{m:List (α × β)}{f:γ→Value × Value}(h:l.map f=m.map (fun p=>(encK p.1,encV p.2))):l.length=m.length:=by
 have:=congrArg List.length h;simpa using this
theorem eZ.update (T:mJ P t k e α β encK encV okK zero)(h:eZ encK encV okK w r m){x:α}(hx:okK x)(v:β) :
  ∃ w',(Instr.mapUpdate t (.map (some r)) (encK x) (encV v)).run P w = .ok () w'∧eZ encK encV okK w' r (put m x v)∧w.grownBy w' (some r)∧w'.heap.size=w.heap.size:=by
 obtain ⟨l,hl⟩:=T.reads x hx;have hn:=eZ.nodup T h;obtain ⟨es,clock,hb,hm,hs,hk⟩:=h
 rcases eZ.find (w:=w) T hm hk hx with ⟨h1,h2,h3⟩ | ⟨j,y,v0,h1,h2,h3,h4⟩
 ·refine ⟨setBlock w r (.map (es.push ⟨encK x,encV v,clock⟩) (clock+1)),?_,⟨_,_,heap_setBlock_same hb _,?_,stamped_push hs h3,?_⟩,(fg hb _).1,(fg hb _).2⟩
  ·simp [Instr.mapUpdate,run_underlying T.und,MapKept.run_getObj_map hb,T.keyed.check w false hl,h1,MapKept.run_setObj_map _ hb,Result.andThen,setBlock]
  ·have hany:¬ m.any (fun p=>decide (p.1=x))=true:=by
    intro ha;obtain ⟨p,hp,he⟩:=List.any_eq_true.1 ha;exact look_none.1 h2 p hp (by simpa using he)
   unfold put;rw [if_neg hany,Array.toList_push,List.map_append,hm,List.map_append];rfl
  ·intro p hp
   rcases kE hp with rfl | ⟨hp,_⟩
   ·exact hx
   ·exact hk p hp
 ·have hjl:j<es.toList.length:=(g_E h2).1
  have hjs:j<es.size:=by simpa using hjl
  have hes:es[j]? =some y:=by rw [← Array.getElem?_toList];exact h2
  have hany:m.any (fun p=>decide (p.1=x))=true:=List.any_eq_true.2 ⟨(x,v0),List.mem_of_getElem? h4,by simp⟩;refine ⟨setBlock w r (.map (es.modify j fun e=>{ e with key:=encK x,val:=encV v }) clock),?_,⟨_,_,heap_setBlock_same hb _,?_,?_,?_⟩,(fg hb _).1,(fg hb _).2⟩
  ·simp [Instr.mapUpdate,run_underlying T.und,MapKept.run_getObj_map hb,T.keyed.check w false hl,h1,MapKept.run_setObj_map _ hb,Result.andThen,setBlock,hes,h3,T.keyed.stays w hl]
  ·unfold put
   rw [if_pos hany]
   apply List.ext_getElem?
   intro i;have hi:((es.toList.map (fun e=>(e.key,e.val)))[i]?)=(m.map (fun p=>(encK p.1,encV p.2)))[i]? :=by rw [hm]
   rw [List.getElem?_map,List.getElem?_map] at hi;rw [List.getElem?_map,List.getElem?_map,List.getElem?_map,Array.getElem?_toList,Array.getElem?_modify];rw [Array.getElem?_toList] at hi;by_cases hij:j=i
   ·subst hij
    rw [if_pos rfl,hes,h4];simp
   ·rw [if_neg hij,hi]
    cases hmi:m[i]? with
    | none=>rfl
    | some p =>
     have hpx:p.1≠x:=by
      intro e1
      apply hij
      have h5:(m.map Prod.fst)[j]? =some x:=by rw [List.getElem?_map,h4];rfl
      have h6:(m.map Prod.fst)[i]? =some x:=by rw [List.getElem?_map,hmi,← e1];rfl
      have h7:j<(m.map Prod.fst).length:=(g_E h5).1;exact (List.getElem?_inj h7 hn).1 (h5.trans h6.symm)
     simp [hpx]
  ·exact stamped_modify hs j _ (fun _ _=>rfl) (fun e' he' hj'=>by
    have:e'=y:=Option.some.inj (hj'.symm.trans hes)
    rw [this];exact h3.symm)
  ·intro p hp
   rcases kE hp with rfl | ⟨hp,_⟩
   ·exact hx
   ·exact hk p hp
theorem eZ.delete_ (T:mJ P t k e α β encK encV okK zero)(h:eZ encK encV okK w r m){x:α}(hx:okK x)(ty:TypeId) :
  ∃ w',(Builtin.delete_ #[t,k] ty #[.map (some r),encK x]).run P w = .ok (.tuple #[]) w'∧eZ encK encV okK w' r (cut m x)∧w.grownBy w' (some r)∧w'.heap.size=w.heap.size:=by
 obtain ⟨l,hl⟩:=T.reads x hx;have hn:=eZ.nodup T h;obtain ⟨es,clock,hb,hm,hs,hk⟩:=h
 rcases eZ.find (w:=w) T hm hk hx with ⟨h1,h2,h3⟩ | ⟨j,y,v0,h1,h2,h3,h4⟩
 ·refine ⟨setBlock w r (.map es clock),?_,⟨_,_,heap_setBlock_same hb _,?_,hs,fun p hp=>hk p (jW.1 hp).1⟩,(fg hb _).1,(fg hb _).2⟩
  ·simp [Builtin.delete_,run_underlying T.und,MapKept.run_getObj_map hb,T.keyed.check w _ hl,h1,MapKept.run_setObj_map _ hb,Result.andThen,setBlock]
  ·rw [hm]
   congr 1
   unfold cut;refine (List.filter_eq_self.2 fun p hp=>?_).symm;simpa using look_none.1 h2 p hp
 ·have hjl:j<es.toList.length:=(g_E h2).1
  have hjs:j<es.size:=by simpa using hjl
  have hsub:(es.eraseIdxIfInBounds j).toList=es.toList.eraseIdx j:=by
   unfold Array.eraseIdxIfInBounds;rw [dif_pos hjs];simp
  refine ⟨setBlock w r (.map (es.eraseIdxIfInBounds j) clock),?_,⟨_,_,heap_setBlock_same hb _,?_,stamped_erase hs j,fun p hp=>hk p (jW.1 hp).1⟩,(fg hb _).1,(fg hb _).2⟩
  ·simp [Builtin.delete_,run_underlying T.und,MapKept.run_getObj_map hb,T.keyed.check w _ hl,h1,MapKept.run_setObj_map _ hb,Result.andThen,setBlock]
  ·rw [hsub,Go.ChangeMaps.map_eraseIdx,hm,← Go.ChangeMaps.map_eraseIdx]
   congr 1
   unfold cut;exact (erase_cut hn h4).symm
 where
 erase_cut {m:List (α × β)} {x:α} {v0:β} {j:Nat} (hn:(m.map Prod.fst).Nodup) (h4:m[j]? =some (x,v0)):(m.filter fun p=>!decide (p.1=x))=m.eraseIdx j:=by
  induction m generalizing j with
  | nil=>simp at h4
  | cons p m ih =>
   rw [List.map_cons,List.nodup_cons] at hn
   cases j with
   | zero =>
    simp at h4;subst h4
    have:(m.filter fun p=>!decide (p.1=x))=m:=List.filter_eq_self.2 fun q hq=>by
     have:q.1≠x:=fun e=>hn.1 (List.mem_map.2 ⟨q,hq,e⟩);simpa using this
    simp [this]
   | succ j =>
    have hne:p.1≠x:=fun e=>hn.1 (List.mem_map.2 ⟨(x,v0),List.mem_of_getElem? (by simpa using h4),e.symm⟩);rw [List.filter_cons_of_pos (by simpa using hne),ih hn.2 (by simpa using h4)];rfl
end
end
end Go.Proofs.YthofngceiecniaaGreat
