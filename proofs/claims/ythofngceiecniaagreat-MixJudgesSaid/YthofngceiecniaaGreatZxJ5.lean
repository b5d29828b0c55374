/- Part 5 of the texts of this claim, joined. -/
import Derived.Sort.CutIn
import Derived.Maps.RangeWalk
import Derived.Maps.OwnIn
import Derived.Test.YthofngceiecniaaGreatZxJ4
set_option linter.unusedVariables false
/- mix.laid: the table, and whether the mixed water is valid. -/
namespace Go.Proofs.YthofngceiecniaaGreat
set_option maxHeartbeats 16000000
set_option maxRecDepth 100000
section
open Go.RowKit
def LdA (w W:World)(bs:List (Nat × TypeId × Array Value))(A5:Option Addr)(k c5:Nat)(m:Mix):Prop :=
 Lay w W bs∧Own W (w.heap.size+3) 3 1 A5 k c5 (((m.vessels.take k).map (·.id)).map (Value.int .i64))∧(m.vessels.take k).all gw=true
def LdB (w W:World)(bs:List (Nat × TypeId × Array Value))(A5:Option Addr)(nv c5:Nat)(A6:Option Addr)(k c6:Nat)(m:Mix):Prop :=
 Lay w W bs∧Own W (w.heap.size+3) 3 1 A5 nv c5 ((m.vessels.map (·.id)).map (Value.int .i64))∧Own W (w.heap.size+3) 3 1 A6 k c6 (((m.tastes.take k).map (·.num)).map (Value.int .i64))∧(∀ a b,A5=some a→A6=some b→a.block≠b.block)∧(m.tastes.take k).all (dz m)=true
def LdC (w W:World)(T:Tb)(A5:Option Addr)(c5:Nat)(A6:Option Addr)(c6 k:Nat):Prop :=
 eu W w.heap.size T∧Below w.heap.size w W∧allM T.m (T.m.acts.take k)=some T.L∧(∀ (j:Nat) (s:Held),T.L[j]? =some s→s.length=4∧∀ q:Nat,0≤au s q∧au s q≤12) ∧
 (Own W (w.heap.size+3) 3 1 A5 T.nv c5 ((T.m.vessels.map (·.id)).map (Value.int .i64))∧Own W (w.heap.size+3) 3 1 A6 T.nt c6 ((T.m.tastes.map (·.num)).map (Value.int .i64))) ∧
 ∀ a,(A5=some a∨A6=some a)→a.block<W.heap.size∧a.block≠T.g∧some a.block≠T.AA.map (·.block)
theorem Own.keep2 {w w':World}{base n cap size g:Nat}{e:TypeId}{A:Option Addr}{xs:List Value}{row:Option Nat}(h:Own w base e size A n cap xs)(hk:pu w w' g row)(hne:∀ a,A=some a→a.block≠g∧some a.block≠row):Own w' base e size A n cap xs:=by
 refine ⟨h.1,?_⟩
 rcases h.2 with h' | ⟨g',cap',cur,hv,hb,hgb,hrest⟩
 ·exact .inl h'
 ·have hA:A=some ⟨g',0,none⟩:=by simpa using congrArg (fun v=>match v with | Value.slice a _ _=>a | _=>none) hv
  have hlt:g'<w.heap.size:=(Array.getElem?_eq_some_iff.1 hgb).1;exact .inr ⟨g',cap',cur,hv,hb,(hk.2 g' hlt (hne _ hA).1 (hne _ hA).2).trans hgb,hrest⟩
theorem qV {w W W':World}{T:Tb}{A5 A6 A9:Option Addr}{c5 c6 c9 k:Nat}{x:MAct}{s s':Held}(h:LdC w W T A5 c5 A6 c6 k)(hx:T.m.acts[k]? =some x)(hs:T.L[k]? =some s)(hd:cS T.m s x=some s')(hz:ec T.m)
  (hT:eu W' w.heap.size (T.plus A9 c9 s')) (hb:Below w.heap.size W W') (hk:pu W W' T.g (T.AA.map (·.block))) (hA:∀ a,A9=some a→A9=T.AA∨W.heap.size≤a.block):LdC w W' (T.plus A9 c9 s') A5 c5 A6 c6 (k+1):=by
 obtain ⟨h1,h2,h3,h4,⟨h5,h6⟩,h7⟩:=h;have hv:T.m.vessels.length≤4:=by have:=h1.mix.lenV;have:=h1.small;omega
 refine ⟨hT,h2.trans hb,?_,?_,⟨h5.keep2 hk (fun a ha=>(h7 a (.inl ha)).2),h6.keep2 hk (fun a ha=>(h7 a (.inr ha)).2)⟩,fun a ha=>?_⟩
 ·show allM T.m (T.m.acts.take (k+1))=some (T.L++[s'])
  rw [ib hx h3 hs,hd];rfl
 ·intro j u hu
  have hu':(T.L++[s'])[j]? =some u:=hu;by_cases hj:j<T.L.length
  ·rw [List.getElem?_append_left hj] at hu'
   exact h4 j u hu'
  ·rw [List.getElem?_append_right (by omega)] at hu'
   have hj0:j - T.L.length=0:=by
    have:=(g_E hu').1;simp at this;omega
   rw [hj0] at hu';have e:s'=u:=by simpa using hu'
   rw [← e];have:=h4 k s hs;exact iH hv hz this.1 this.2 hd
 ·obtain ⟨q1,q2,q3⟩:=h7 a ha
  refine ⟨Nat.lt_of_lt_of_le q1 hk.1,q2,?_⟩
  show some a.block≠A9.map (·.block)
  cases h9:A9 with
  | none=>simp
  | some b =>
   rcases hA b h9 with e | e
   ·rw [← h9,e];exact q3
   ·intro e2
    have:=Option.some.inj e2;dsimp only at this;omega
theorem rE {w W:World}{Av Aa At:Option Addr}{nv cv na ca nt ct:Nat}{m:Mix}(h:Lay w W [(w.heap.size,26,#[.int .i64 m.fountains,.slice Av nv cv,.slice Aa na ca,.slice At nt ct]),(w.heap.size+1,115,#[.int .i64 0,.int .i64 0,.int .i64 0,.int .i64 0]),(w.heap.size+1+1,121,#[.int .i64 m.fountains,.slice Av nv cv,.slice Aa na ca,.slice At nt ct,.slice (some ⟨w.heap.size+1,0,none⟩) 1 1])])(hm:dx w w.heap.size Av nv Aa na At nt m)(hn:nv≤4∧na≤12∧nt≤8) :
  TbAt W ⟨w.heap.size+1+1,Av,nv,cv,Aa,na,ca,At,nt,ct,some ⟨w.heap.size+1,0,none⟩,1,1,m,[cQ]⟩:=by
 refine ⟨h.blk 2 rfl,hm.up h.1,?_,hn.1,hn.2.1,hn.2.2,(by show 1≤13;decide)⟩;have hb:=h.blk 1 rfl;refine ⟨rfl,fun _=>⟨_,rfl,hb.lt,fun j u hu=>?_⟩⟩
 have ha:((⟨w.heap.size+1,0,none⟩:Addr).add j)=⟨w.heap.size+1,j,none⟩:=by
  unfold Addr.add;by_cases hj:j=0
  ·subst hj;simp
  ·simp [hj]
 rw [ha,hb.cell,← Array.getElem?_toList];exact hu
theorem jV:cQ.length=4∧∀ q:Nat,0≤au cQ q∧au cQ q≤12:=by
 refine ⟨rfl,fun q=>?_⟩
 match q with
 | 0=>decide
 | 1=>decide
 | 2=>decide
 | 3=>decide
 | q+4 =>
  have:au cQ ((q+4:Nat):Int)=0:=by
   unfold au;rw [List.getElem?_eq_none (by simp [cQ];omega)];rfl
  rw [this]
  decide
theorem tp {w W:World}{Av Aa At:Option Addr}{nv cv na ca nt ct:Nat}{m:Mix}(h:Lay w W [(w.heap.size,26,#[.int .i64 m.fountains,.slice Av nv cv,.slice Aa na ca,.slice At nt ct]),(w.heap.size+1,115,#[.int .i64 0,.int .i64 0,.int .i64 0,.int .i64 0]),(w.heap.size+1+1,121,#[.int .i64 m.fountains,.slice Av nv cv,.slice Aa na ca,.slice At nt ct,.slice (some ⟨w.heap.size+1,0,none⟩) 1 1])])(hm:dx w w.heap.size Av nv Aa na At nt m)(hn:nv≤4∧na≤12∧nt≤8) :
  eu W w.heap.size ⟨w.heap.size+1+1,Av,nv,cv,Aa,na,ca,At,nt,ct,some ⟨w.heap.size+1,0,none⟩,1,1,m,[cQ]⟩:=by
 refine ⟨h.blk 2 rfl,hm.below h.1,⟨rfl,.inr ⟨w.heap.size+1,1,_,rfl,by omega,h.blk 1 rfl,n_R,by unfold maxLen;omega,rfl,rfl⟩⟩,?_,⟨h.1.size,by dsimp only;omega⟩,hn.1,hn.2.1,hn.2.2,(by show 1≤13;decide)⟩;intro a ha;cases ha;dsimp only;omega
theorem fd {m:Mix}{k:Nat}{x:Tast}(hx:m.tastes[k]? =some x)(h:dz m x=false):m.tastes.all (dz m)=false:=by
 cases h0:m.tastes.all (dz m) with
 | false=>rfl
 | true=>exact absurd ((List.all_eq_true.1 h0 x (List.mem_of_getElem? hx)).symm.trans h) (by decide)
theorem sd (Av:Option Addr)(nv cv:Nat)(Aa:Option Addr)(na ca:Nat)(At:Option Addr)(nt ct:Nat)(m:Mix)(w:World)(h:dx w w.heap.size Av nv Aa na At nt m)(hnv:nv≤1000)(hna:na≤1000)(hnt:nt≤1000) :
  Calls Tryz.prog 52 #[.agg #[.int .i64 m.fountains,.slice Av nv cv,.slice Aa na ca,.slice At nt ct]] w (dW w Av nv cv Aa na ca At nt ct m):=by
 have HM:=lh h;have HLV:=lh h.lenV;have HLA:=lh h.lenA;have HLT:=lh h.lenT;clear h
 go_enter Tryz.func52,Tryz.ntmps52
 go_upto_region 2 with fail
 have Ly:=lh (Lay.three w 26 #[.int .i64 m.fountains,.slice Av nv cv,.slice Aa na ca,.slice At nt ct] 115 #[.int .i64 0,.int .i64 0,.int .i64 0,.int .i64 0] 121 #[.int .i64 m.fountains,.slice Av nv cv,.slice Aa na ca,.slice At nt ct,.slice (some ⟨w.heap.size+1,0,none⟩) 1 1]);generalize (((w.alloc (.cells #[.int .i64 m.fountains,.slice Av nv cv,.slice Aa na ca,.slice At nt ct] 26)).alloc (.cells #[.int .i64 0,.int .i64 0,.int .i64 0,.int .i64 0] 115)).alloc (.cells #[.int .i64 m.fountains,.slice Av nv cv,.slice Aa na ca,.slice At nt ct,.slice (some ⟨w.heap.size+1,0,none⟩) 1 1] 121))=w0 at *;obtain ⟨x0,x1,x2,x3⟩:=lyc4 Ly 0 rfl;have xl:=Ly.out.lt 0 rfl
 go_wp2_with fail
 have Y:=cr.new w0 3 [m.fountains] (w0.heap.size+1) (by omega);refine (ez 1 4 (some ⟨w0.heap.size,0,none⟩) 1 1 [m.fountains] _ (Y.more (by simp)) (by decide)).mono ?_;rintro e W1 ⟨rfl,hb⟩;have hb0:Below w0.heap.size w0 W1:=(b_R.alloc n_R _).trans (hb.mono (by simp));replace Ly:=lyb Ly hb0;clear hb hb0 x0 x1 x2 x3 xl Y;obtain ⟨x0,x1,x2,x3⟩:=lyc4 Ly 0 rfl;have xl:=Ly.out.lt 0 rfl;by_cases hG:(1≤m.fountains∧m.fountains≤4)∧m.vessels.length≤4∧m.acts.length≤12∧m.tastes.length≤8
 ·have HG:=lh hG
  have hi:inB 1 4 [m.fountains]=true:=by rw [dT];exact decide_eq_true hG.1
  have hn4:nv≤4:=by have:=HLV.out;omega
  have hn12:na≤12:=by have:=HLA.out;omega
  have hn8:nt≤8:=by have:=HLT.out;omega
  have d1:(nv:Int)≤4:=by omega
  have d2:(na:Int)≤12:=by omega
  have d3:(nt:Int)≤8:=by omega
  rw [hi];clear hi hG
  go_wp2_with fail
  clear d1 d2 d3 x0 x1 x2 x3 xl
  go_loopw [5,43] (fun v5 i wr=>∃ (k:Nat) (A5:Option Addr) (c5:Nat),k≤nv∧i = .int .i64 k∧v5 = .slice A5 k c5∧Hid (LdA w wr [(w.heap.size,26,#[.int .i64 m.fountains,.slice Av nv cv,.slice Aa na ca,.slice At nt ct]),(w.heap.size+1,115,#[.int .i64 0,.int .i64 0,.int .i64 0,.int .i64 0]),(w.heap.size+1+1,121,#[.int .i64 m.fountains,.slice Av nv cv,.slice Aa na ca,.slice At nt ct,.slice (some ⟨w.heap.size+1,0,none⟩) 1 1])] A5 k c5 m))
   (fun _ i _=>nv - (intOf i).toNat)
  case atStart=>exact ⟨0,none,0,by omega,rfl,rfl,lh ⟨Ly.out,Own.none_ _ _ _ _,rfl⟩⟩
  case round =>
   clear Ly;obtain ⟨k,A5,c5,hk,rfl,rfl,HS⟩:=hrel;have hlay:=HS.out.1;have Ly:=lh hlay;have hW3:w.heap.size+3≤wr.heap.size:=by have:=hlay.lt 2 rfl;omega
   obtain ⟨x0,x1,x2,x3⟩:=lyc4 Ly 0 rfl;have xl:=Ly.out.lt 0 rfl;clear hlay;by_cases hlt:k<nv
   ·clear x0 x1 x2 x3 xl
    obtain ⟨b,off,x,rfl,hbB,hx,hc0,hc1⟩:=(HM.out.below Ly.out.1).vess hlt;have HX:=lh hx;clear hx
    go_upto_region 8 with fail
    have hb1:Below wr.heap.size wr (wr.alloc (.cells #[.int .i64 x.id,.int .i64 x.size] 50)):=b_R.alloc n_R _;have HN:=lh (Blk.new wr 50 #[.int .i64 x.id,.int .i64 x.size])
    obtain ⟨g8,hg8⟩:∃ g,wr.heap.size=g:=⟨_,rfl⟩
    generalize wr.alloc (.cells #[.int .i64 x.id,.int .i64 x.size] 50)=wa at *;have HB1:=lh hb1;rw [hg8] at HN ⊢;have y1:=HN.out.cell 1;have yl:=HN.out.lt;clear hb1 hc0 hc1
    go_wp2_with fail
    have Y:=cr.new wa 3 [x.size] (wa.heap.size+1) (by omega);refine (ez 1 12 (some ⟨wa.heap.size,0,none⟩) 1 1 [x.size] _ (Y.more (by simp)) (by decide)).mono ?_;rintro e W ⟨rfl,hb⟩;have hb0:Below wa.heap.size wa W:=(b_R.alloc n_R _).trans (hb.mono (by simp));have HB:=lh (HB1.out.trans (hb0.mono HB1.out.size));have HN2:=lh (HN.out.below hb0 HN.out.lt);clear hb hb0 y1 yl Y HN HB1;rw [sa];have HAS:=lh (iO HX.out HS.out.2.2)
    cases hv:gw x with
    | false =>
     rw [hv] at HAS;clear hv
     go_wp2_with fail
     refine bodyPost_ret (v:=.tuple #[.pointer none,.bool false]) (by simp [results,Tryz.results52,go_sem]) rfl (dW.bad (nd ?_) (Ly.out.1.trans (HB.out.mono Ly.out.1.size)))
     cases h0:m.vessels.all gw with
     | false=>rfl
     | true=>exact absurd ((po (k:=k+1) h0).symm.trans HAS.out) (by decide)
    | true =>
     rw [hv] at HAS;clear hv;have z0:=HN2.out.cell 0;have zl:=HN2.out.lt;have HO:=lh (HS.out.2.1.below HB.out n_R)
     go_wp2_with (at_builtin;refine dA _ rfl _ _ rfl dP rfl (HO.out.alloc _) rfl (mR (x:=x.id) (Nat.lt_succ_self _) (by simp [go_sem])) (dO _) (by unfold maxLen;omega) (by omega) (by have:=HB.out.size;simp;omega) ?_)
     rintro A2 cap2 w2 hown hg hA;have hrow:=dB HO.out;have hla:=jY ((Ly.out.below HB.out).below (b_R.alloc n_R _)) hg (fun r e=>(hrow r e).1);have HLA2:=lh hla;have HOW:=lh hown;clear hown hg hA hrow hla z0 zl
     go_wp2_with fail
     go_roundw
     case rel =>
      refine ⟨k+1,A2,cap2,by omega,by go_num,rfl,lh ⟨HLA2.out,?_,HAS.out⟩⟩;obtain ⟨h1,h2⟩:=g_E HX.out;rw [List.take_succ_eq_append_getElem h1,h2];simpa using HOW.out
     case measure=>simp [intOf];omega
   ·obtain rfl:nv=k:=by omega
    have hz:m.vessels.all gw=true:=by
     have:=HS.out.2.2
     rwa [List.take_of_length_le (by have:=HLV.out;omega)] at this
    have hO:Own wr (w.heap.size+3) 3 1 A5 nv c5 ((m.vessels.map (·.id)).map (Value.int .i64)):=by
     have:=HS.out.2.1
     rwa [List.take_of_length_le (by have:=HLV.out;omega)] at this
    have HZ:=lh hz;have HO:=lh hO;clear hz hO
    go_wp2_with fail
    clear x0 x1 x2 x3 xl
    obtain ⟨wo,rfl⟩:∃ wo,wo=wr:=⟨_,rfl⟩
    go_loopw [6,61] (fun v6 i wr=>∃ (k:Nat) (A6:Option Addr) (c6:Nat),k≤nt∧i = .int .i64 k∧v6 = .slice A6 k c6∧Hid (LdB w wr [(w.heap.size,26,#[.int .i64 m.fountains,.slice Av nv cv,.slice Aa na ca,.slice At nt ct]),(w.heap.size+1,115,#[.int .i64 0,.int .i64 0,.int .i64 0,.int .i64 0]),(w.heap.size+1+1,121,#[.int .i64 m.fountains,.slice Av nv cv,.slice Aa na ca,.slice At nt ct,.slice (some ⟨w.heap.size+1,0,none⟩) 1 1])] A5 nv c5 A6 k c6 m))
     (fun _ i _=>nt - (intOf i).toNat)
    case atStart=>exact ⟨0,none,0,by omega,rfl,rfl,lh ⟨Ly.out,HO.out,Own.none_ _ _ _ _,fun a b _ h=>(by cases h),rfl⟩⟩
    case round =>
     clear Ly HO HS;obtain ⟨k,A6,c6,hk2,rfl,rfl,HS⟩:=hrel;have hlay:=HS.out.1;have Ly:=lh hlay;have hW3:w.heap.size+3≤wr.heap.size:=by have:=hlay.lt 2 rfl;omega
     obtain ⟨x0,x1,x2,x3⟩:=lyc4 Ly 0 rfl;have xl:=Ly.out.lt 0 rfl;clear hlay;by_cases hlt:k<nt
     ·clear x0 x1 x2 x3 xl
      obtain ⟨b,off,x,rfl,hbB,hx,hc0,hc1,hc2,hc3,hc4,hc5⟩:=(HM.out.below Ly.out.1).tast hlt;have HX:=lh hx;clear hx
      go_upto_region 15 with fail
      have hb1:Below wr.heap.size wr (wr.alloc (.cells #[.int .i64 x.num,.int .i64 x.vessel,.int .i64 x.after,.int .i64 x.fountain,.int .i64 x.lo,.int .i64 x.hi] 69)):=b_R.alloc n_R _;have HN:=lh (Blk.new wr 69 #[.int .i64 x.num,.int .i64 x.vessel,.int .i64 x.after,.int .i64 x.fountain,.int .i64 x.lo,.int .i64 x.hi])
      obtain ⟨g8,hg8⟩:∃ g,wr.heap.size=g:=⟨_,rfl⟩
      generalize wr.alloc (.cells #[.int .i64 x.num,.int .i64 x.vessel,.int .i64 x.after,.int .i64 x.fountain,.int .i64 x.lo,.int .i64 x.hi] 69)=wa at *;have HB1:=lh hb1;rw [hg8] at HN ⊢;have y1:=HN.out.cell 1;have yl:=HN.out.lt;clear hb1 hc0 hc1 hc2 hc3 hc4 hc5
      go_wp2_with fail
      refine (dQ ⟨w.heap.size+1+1,Av,nv,cv,Aa,na,ca,some ⟨b,off,none⟩,nt,ct,some ⟨w.heap.size+1,0,none⟩,1,1,m,[cQ]⟩ x.vessel wa (rE (Ly.out.below HB1.out) HM.out ⟨hn4,hn12,hn8⟩)).mono ?_;rintro e W ⟨rfl,hb⟩;have HB:=lh (HB1.out.trans (hb.mono HB1.out.size));have HN2:=lh (HN.out.below hb HN.out.lt);clear hb y1 yl HN HB1;dsimp only;by_cases hj:idxV m.vessels x.vessel<0
      ·have HTB:Hid (dz m x=false):=lh (by unfold dz;exact decide_eq_false (by omega))
       go_wp2_with fail
       refine bodyPost_ret (v:=.tuple #[.pointer none,.bool false]) (by simp [results,Tryz.results52,go_sem]) rfl (dW.bad (eL (fd HX.out HTB.out)) (Ly.out.1.trans (HB.out.mono Ly.out.1.size)))
      ·have hj2:0≤idxV m.vessels x.vessel:=by omega
       have q2:=((Ly.out.below HB.out).blk 0 rfl).cell 2;have ql:=(Ly.out.below HB.out).lt 0 rfl;have y2:=HN2.out.cell 2;have yl:=HN2.out.lt
       go_wp2_with fail
       have Y:=cr.new W 3 [x.after] (W.heap.size+1) (by omega);refine (ez 0 na (some ⟨W.heap.size,0,none⟩) 1 1 [x.after] _ (Y.more (by simp)) (by decide)).mono ?_;rintro e W2 ⟨rfl,hb⟩;have hb0:Below W.heap.size W W2:=(b_R.alloc n_R _).trans (hb.mono (by simp));replace HB:=lh (HB.out.trans (hb0.mono HB.out.size));replace HN2:=lh (HN2.out.below hb0 HN2.out.lt);clear hb hb0 yl Y y2 q2 ql
       obtain ⟨W,rfl⟩:∃ W,W=W2:=⟨_,rfl⟩
       rw [dT];by_cases ha:0≤x.after∧x.after≤(na:Int)
       ·rw [decide_eq_true ha]
        have q0:=((Ly.out.below HB.out).blk 0 rfl).cell 0;have ql:=(Ly.out.below HB.out).lt 0 rfl;have y3:=HN2.out.cell 3;have yl:=HN2.out.lt;have HAF:=lh ha;clear ha
        go_wp2_with fail
        have Y:=cr.new W 3 [x.fountain] (W.heap.size+1) (by omega);refine (ez 1 m.fountains (some ⟨W.heap.size,0,none⟩) 1 1 [x.fountain] _ (Y.more (by simp)) (by decide)).mono ?_;rintro e W2 ⟨rfl,hb⟩;have hb0:Below W.heap.size W W2:=(b_R.alloc n_R _).trans (hb.mono (by simp));replace HB:=lh (HB.out.trans (hb0.mono HB.out.size));replace HN2:=lh (HN2.out.below hb0 HN2.out.lt);clear hb hb0 yl Y y3 q0 ql
        obtain ⟨W,rfl⟩:∃ W,W=W2:=⟨_,rfl⟩
        rw [dT];by_cases hf:1≤x.fountain∧x.fountain≤m.fountains
        ·rw [decide_eq_true hf]
         have y4:=HN2.out.cell 4;have y5:=HN2.out.cell 5;have yl:=HN2.out.lt;have HFF:=lh hf;clear hf;by_cases hlo:x.lo<0
         ·have HTB:Hid (dz m x=false):=lh (by unfold dz;exact decide_eq_false (by omega))
          go_wp2_with fail
          refine bodyPost_ret (v:=.tuple #[.pointer none,.bool false]) (by simp [results,Tryz.results52,go_sem]) rfl (dW.bad (eL (fd HX.out HTB.out)) (Ly.out.1.trans (HB.out.mono Ly.out.1.size)))
         ·by_cases hhi:x.hi<x.lo
          ·have HTB:Hid (dz m x=false):=lh (by unfold dz;exact decide_eq_false (by omega))
           go_wp2_with fail
           refine bodyPost_ret (v:=.tuple #[.pointer none,.bool false]) (by simp [results,Tryz.results52,go_sem]) rfl (dW.bad (eL (fd HX.out HTB.out)) (Ly.out.1.trans (HB.out.mono Ly.out.1.size)))
          ·have HTB:Hid (dz m x=true):=lh (by unfold dz;have:=HAF.out;have:=HFF.out;have:=HLA.out;exact decide_eq_true (by omega))
           have y0:=HN2.out.cell 0;have HO5:=lh (HS.out.2.1.below HB.out n_R);have HO6:=lh (HS.out.2.2.1.below HB.out n_R);have HNE:=lh HS.out.2.2.2.1;have HAS:Hid ((m.tastes.take (k+1)).all (dz m)=true):=lh ((iO HX.out HS.out.2.2.2.2).trans HTB.out)
           go_wp2_with (at_builtin;refine dA _ rfl _ _ rfl dP rfl (HO6.out.alloc _) rfl (mR (x:=x.num) (Nat.lt_succ_self _) (by simp [go_sem])) (dO _) (by unfold maxLen;omega) (by omega) (by have:=HB.out.size;simp;omega) ?_)
           rintro A2 cap2 w2 hown hg hA;have hrow:=dB HO6.out;have hla:=jY ((Ly.out.below HB.out).below (b_R.alloc n_R _)) hg (fun r e=>(hrow r e).1);have HLA2:=lh hla;have HOW:=lh hown
           have HO52:=lh ((HO5.out.alloc (.cells #[.int .i64 x.num] 3)).grown hg (fun a ha e=>by
            cases h6:A6 with
            | none=>rw [h6] at e;cases e
            | some b=>rw [h6] at e;exact HNE.out a b ha h6 (Option.some.inj e)))
           have HNE2:Hid (∀ a b,A5=some a→A2=some b→a.block≠b.block):=lh (fun a b ha hb=>by
            rcases hA with e | e
            ·exact HNE.out a b ha (e ▸ hb)
            ·rw [e] at hb
             cases hb;have:=(HO5.out.lt ha).2;simp
             omega)
           clear hown hg hA hrow hla y0 y4 y5 yl
           go_wp2_with fail
           go_roundw
           case rel =>
            refine ⟨k+1,A2,cap2,by omega,by go_num,rfl,lh ⟨HLA2.out,HO52.out,?_,HNE2.out,HAS.out⟩⟩;obtain ⟨h1,h2⟩:=g_E HX.out;rw [List.take_succ_eq_append_getElem h1,h2];simpa using HOW.out
           case measure=>simp [intOf];omega
        ·rw [decide_eq_false hf]
         have HTB:Hid (dz m x=false):=lh (by unfold dz;exact decide_eq_false (by omega));clear hf;have y4:=HN2.out.cell 4
         go_wp2_with fail
         refine bodyPost_ret (v:=.tuple #[.pointer none,.bool false]) (by simp [results,Tryz.results52,go_sem]) rfl (dW.bad (eL (fd HX.out HTB.out)) (Ly.out.1.trans (HB.out.mono Ly.out.1.size)))
       ·rw [decide_eq_false ha]
        have HTB:Hid (dz m x=false):=lh (by unfold dz;have:=HLA.out;exact decide_eq_false (by omega));clear ha
        go_wp2_with fail
        refine bodyPost_ret (v:=.tuple #[.pointer none,.bool false]) (by simp [results,Tryz.results52,go_sem]) rfl (dW.bad (eL (fd HX.out HTB.out)) (Ly.out.1.trans (HB.out.mono Ly.out.1.size)))
     ·obtain rfl:nt=k:=by omega
      have hz:m.tastes.all (dz m)=true:=by
       have:=HS.out.2.2.2.2
       rwa [List.take_of_length_le (by have:=HLT.out;omega)] at this
      have hO6:Own wr (w.heap.size+3) 3 1 A6 nt c6 ((m.tastes.map (·.num)).map (Value.int .i64)):=by
       have:=HS.out.2.2.1
       rwa [List.take_of_length_le (by have:=HLT.out;omega)] at this
      have HZT:=lh hz;have HO6:=lh hO6;have HO5:=lh HS.out.2.1;have HNE:=lh HS.out.2.2.2.1;clear hz hO6
      go_wp2_with fail
      clear x0 x1 x2 x3 xl HS
      obtain ⟨wp,rfl⟩:∃ wp,wp=wr:=⟨_,rfl⟩
      have hst:LdC w wp ⟨w.heap.size+1+1,Av,nv,cv,Aa,na,ca,At,nt,ct,some ⟨w.heap.size+1,0,none⟩,1,1,m,[cQ]⟩ A5 c5 A6 c6 0:=by
       refine ⟨tp Ly.out HM.out ⟨hn4,hn12,hn8⟩,Ly.out.1,rfl,?_,⟨HO5.out,HO6.out⟩,?_⟩
       ·intro j u hu
        match j,hu with
        | 0,hu =>
         have e:cQ=u:=by simpa using hu
         rw [← e];exact jV
       ·intro a ha
        have hlt:w.heap.size+3≤a.block∧a.block<wp.heap.size:=by
         rcases ha with ha | ha
         ·exact HO5.out.lt ha
         ·exact HO6.out.lt ha
        refine ⟨hlt.2,by dsimp only;omega,?_⟩;simp;omega
      have HST:=lh hst;clear hst Ly HO5 HO6 HNE hW3
      go_loopw [113] (fun i wr=>∃ (k:Nat) (AA:Option Addr) (cl:Nat) (L:List Held),k≤na∧i = .int .i64 k∧Hid (LdC w wr ⟨w.heap.size+1+1,Av,nv,cv,Aa,na,ca,At,nt,ct,AA,k+1,cl,m,L⟩ A5 c5 A6 c6 k))
       (fun i _=>na - (intOf i).toNat)
      case atStart=>exact ⟨0,_,_,_,by omega,rfl,HST⟩
      case round =>
       clear HST;obtain ⟨k,AA,cl,L,hk3,rfl,HS⟩:=hrel;by_cases hlt:k<na
       ·have hx:m.acts[k]? =some (m.acts[k]'(by have:=HLA.out;omega)):=List.getElem?_eq_getElem (by have:=HLA.out;omega)
        obtain ⟨x,hx'⟩:∃ x,m.acts[k]'(by have:=HLA.out;omega)=x:=⟨_,rfl⟩
        rw [hx'] at hx
        have hlen:L.length=k+1:=by
         have:L.length=(m.acts.take k).length+1:=dC m _ L HS.out.2.2.1;rw [List.length_take,Nat.min_eq_left (by have:=HLA.out;omega)] at this;exact this
        have hs:L[k]? =some (L[k]'(by omega)):=List.getElem?_eq_getElem (by omega)
        obtain ⟨s,hs'⟩:∃ s,L[k]'(by omega)=s:=⟨_,rfl⟩
        rw [hs'] at hs;have HX:=lh hx;have HSS:=lh hs;have hr:=HS.out.2.2.2.1 k s hs;have HR:=lh (ai hr.1 (fun q:Nat=>show 0≤au s q∧au s q≤1000 from ⟨(hr.2 q).1,by have:=(hr.2 q).2;omega⟩));have HVZ:=lh (ke HZ.out);have HC:=lh (callsIn_wide.1 (tC w.heap.size ⟨w.heap.size+1+1,Av,nv,cv,Aa,na,ca,At,nt,ct,AA,k+1,cl,m,L⟩ k x s wr HS.out.1 hx hs (by show k+1≤12;omega) HVZ.out HR.out));clear hx hx' hs hs' hr hlen
        go_wp2_with fail
        refine HC.out.mono ?_;rintro e W (⟨hn,rfl,hb⟩ | ⟨A9,c9,hsm,rfl,hT,hb,hkk,hA⟩)
        ·have HN:=lh hn
         have HB:=lh (HS.out.2.1.trans (hb.mono HS.out.2.1.size));clear hn hb HC
         go_wp2_with fail
         refine bodyPost_ret (v:=.tuple #[.pointer none,.bool false]) (by simp [results,Tryz.results52,go_sem]) rfl (dW.bad (nr (lr (k:=k+1) ?_)) HB.out);rw [ib HX.out HS.out.2.2.1 HSS.out]
         cases hd:cS m s x with
         | none=>rfl
         | some s'=>have:=HN.out;rw [hd] at this;cases this
        ·obtain ⟨s',hd⟩:=Option.isSome_iff_exists.1 hsm
         have he:=(i9 hd HR.out.1 (by have:=HLV.out;omega)).2;rw [← he] at hT;have HN:=lh (qV HS.out HX.out HSS.out hd HVZ.out hT hb hkk hA);clear hsm hd he hT hb hkk hA HC
         go_wp2_with fail
         go_roundw
         case rel=>exact ⟨k+1,A9,c9,L++[s'],by omega,by go_num,HN⟩
         case measure=>simp [intOf];omega
       ·obtain rfl:na=k:=by omega
        have hL:allM m m.acts=some L:=by
         have:allM m (m.acts.take na)=some L:=HS.out.2.2.1
         rwa [List.take_of_length_le (by have:=HLA.out;omega)] at this
        have HL:=lh hL;clear hL
        go_wp2_with fail
        refine (kF A5 nv c5 (m.vessels.map (·.id)) wr (dM HS.out.2.2.2.2.1.1 n_R) hnv).mono ?_;rintro e W ⟨rfl,hb⟩;have HB:=lh hb;have HO6:=lh (HS.out.2.2.2.2.1.2.below hb n_R);clear hb
        cases hr:risB 0 (m.vessels.map (·.id)) with
        | false =>
         have HRB:=lh hr;clear hr
         go_wp2_with fail
         refine bodyPost_ret (v:=.tuple #[.pointer (some ⟨w.heap.size+1+1,0,none⟩),.bool false]) (by simp [results,Tryz.results52,go_sem]) rfl ?_;have hno:cu m=false:=by rw [my HG.out HZ.out HZT.out HL.out,HRB.out];rfl
         exact ⟨_,by rw [hno],HS.out.2.1.trans (HB.out.mono HS.out.2.1.size),fun h'=>by rw [hno] at h';cases h'⟩
        | true =>
         have HRB:=lh hr;clear hr
         go_wp2_with fail
         refine (kF A6 nt c6 (m.tastes.map (·.num)) W (dM HO6.out n_R) hnt).mono ?_;rintro e W2 ⟨rfl,hb⟩;have HB2:=lh (HB.out.trans (hb.mono HB.out.size));clear hb;have HOK:Hid (cu m=risB 0 (m.tastes.map (·.num))):=lh (by rw [my HG.out HZ.out HZT.out HL.out,HRB.out,Bool.true_and])
         go_wp2_with fail
         refine bodyPost_ret (v:=.tuple #[.pointer (some ⟨w.heap.size+1+1,0,none⟩),.bool (risB 0 (m.tastes.map (·.num)))]) (by simp [results,Tryz.results52,go_sem]) rfl ?_;refine ⟨_,by rw [HOK.out],HS.out.2.1.trans (HB2.out.mono HS.out.2.1.size),fun _=>⟨_,AA,na+1,cl,L,rfl,by omega,HL.out,?_⟩⟩;exact HS.out.1.below HB2.out
 ·have HB:=lh (jU hG)
  cases hi:inB 1 4 [m.fountains] with
  | false =>
   clear hi
   go_wp2_with fail
   exact bodyPost_ret (v:=.tuple #[.pointer none,.bool false]) (by simp [results,Tryz.results52,go_sem]) rfl (dW.bad HB.out Ly.out.1)
  | true =>
   have h2:¬ (nv≤4∧na≤12∧nt≤8):=by
    rw [dT] at hi;have:=of_decide_eq_true hi;rw [← HLV.out,← HLA.out,← HLT.out];exact fun h2=>hG ⟨this,h2⟩
   clear hi hG;by_cases q1:nv≤4
   ·have d1:(nv:Int)≤4:=by omega
    by_cases q2:na≤12
    ·have d2:(na:Int)≤12:=by omega
     have d3:¬ (nt:Int)≤8:=by omega
     clear h2
     go_wp2_with fail
     exact bodyPost_ret (v:=.tuple #[.pointer none,.bool false]) (by simp [results,Tryz.results52,go_sem]) rfl (dW.bad HB.out Ly.out.1)
    ·have d2:¬ (na:Int)≤12:=by omega
     clear h2
     go_wp2_with fail
     exact bodyPost_ret (v:=.tuple #[.pointer none,.bool false]) (by simp [results,Tryz.results52,go_sem]) rfl (dW.bad HB.out Ly.out.1)
   ·have d1:¬ (nv:Int)≤4:=by omega
    clear h2
    go_wp2_with fail
    exact bodyPost_ret (v:=.tuple #[.pointer none,.bool false]) (by simp [results,Tryz.results52,go_sem]) rfl (dW.bad HB.out Ly.out.1)
end
section
section
variable {m m':Mix} {A:List Held} {f:Int}
theorem lw (hv:m'.vessels=m.vessels)(ha:m'.acts=m.acts){t:Nat}{s s':Held}:Goes m' f A t s s'↔Goes m f A t s s':=by
 have e1:∀ x,cp m' x=cp m x:=fun x=>by unfold cp;rw [hv]
 have e2:∀ x,toI m' x=toI m x:=fun x=>by unfold toI;rw [hv]
 have e3:∀ all x,cZ m' all x=cZ m all x:=fun all x=>by unfold cZ;rw [e1]
 have e4:∀ x all has,dG m' x f all has=dG m x f all has:=fun x all has=>by unfold dG;rw [e1,e3]
 unfold Goes;rw [ha];constructor
 ·rintro ⟨x,all,k,h1,h2,h3,h4,h5⟩
  exact ⟨x,all,k,h1,h2,by rw [← e4];exact h3,by rw [← e4];exact h4,by rw [h5,e1,e2]⟩
 ·rintro ⟨x,all,k,h1,h2,h3,h4,h5⟩
  exact ⟨x,all,k,h1,h2,by rw [e4];exact h3,by rw [e4];exact h4,by rw [h5,e1,e2]⟩
theorem jD (hv:m'.vessels=m.vessels)(ht:∀ x∈m.tastes,x.fountain=f→x∈m'.tastes){t:Nat}{s:Held}(h:cW m' f t s=true):cW m f t s=true:=by
 unfold cW at h ⊢;rw [List.all_eq_true] at h ⊢;intro x hx;by_cases e:x.fountain=f
 ·have:=h x (ht x hx e)
  rw [hv] at this;exact this
 ·simp [e]
theorem kN (hv:m'.vessels=m.vessels)(ha:m'.acts=m.acts)(ht:∀ x∈m.tastes,x.fountain=f→x∈m'.tastes):∀ {t:Nat} {s:Held},Fwd m' f A t s→Fwd m f A t s
 | 0,s,h=>⟨h.1,jD hv ht h.2⟩
 | t+1,s,h=>by
  obtain ⟨⟨s0,h1,h2⟩,h3⟩:=h;exact ⟨⟨s0,kN hv ha ht h1,(lw hv ha).1 h2⟩,jD hv ht h3⟩
theorem nA (hv:m'.vessels=m.vessels)(ha:m'.acts=m.acts)(ht:∀ x∈m.tastes,x.fountain=f→x∈m'.tastes):∀ {k t:Nat} {s:Held},Fin m' f A k t s→Fin m f A k t s
 | 0,t,s,h=>kN hv ha ht h
 | k+1,t,s,h=>by
  obtain ⟨h1,s',h2,h3⟩:=h;exact ⟨kN hv ha ht h1,s',(lw hv ha).1 h2,nA hv ha ht h3⟩
theorem jW (hv:m'.vessels=m.vessels)(ha:m'.acts=m.acts)(ht:∀ x∈m.tastes,x.fountain=f→x∈m'.tastes){t:Nat}{s:Held}(h:cD m' f A t s):cD m f A t s:=by
 unfold cD at h ⊢;rw [ha] at h;exact nA hv ha ht h
theorem oF (hv:m'.vessels=m.vessels)(ha:m'.acts=m.acts)(ht:∀ x,x.fountain=f→(x∈m.tastes↔x∈m'.tastes)){t:Nat}{s:Held}:cD m' f A t s↔cD m f A t s :=
 ⟨jW hv ha (fun x hx e=>(ht x e).1 hx),jW hv.symm ha.symm (fun x hx e=>(ht x e).2 hx)⟩
end
end
section
def askM (m:Mix)(vessel after:Int)(fs:List Int):Int :=
 if cu m=true then (if idxV m.vessels vessel<0 then 6 else if (0≤after∧after≤m.acts.length)∧∀ f∈fs,1≤f∧f≤m.fountains then 0 else 2) else 40
def fb (m:Mix)(vessel after:Int)(n e:Int):Prop :=
 (askM m vessel after []≠0∧n=0∧e=askM m vessel after [])∨(askM m vessel after []=0∧e=0∧∃ A a,allM m m.acts=some A∧A[after.toNat]? =some a∧n=au a (idxV m.vessels vessel))
def ga (m:Mix)(f:Int)(P:List Held→Int→Prop)(s:Int × Int)(e:Int):Prop :=
 ∃ A,allM m m.acts=some A∧((¬ cD m f A 0 cQ∧s=(0,0)∧e=8)∨(cD m f A 0 cQ∧e=0∧fw (P A) s))
def eZ (g:Int)(T:Int × Int→Int→Prop)(s:Int × Int)(e:Int):Prop:=(g≠0∧s=(0,0)∧e=g)∨(g=0∧T s e)
def OfP (m:Mix)(vessel after f:Int)(A:List Held)(n:Int):Prop:=∃ x,cD m f A after.toNat x∧au x (idxV m.vessels vessel)=n
def OfIs (m:Mix)(vessel after f:Int):Int × Int→Int→Prop:=eZ (askM m vessel after [f]) (ga m f (OfP m vessel after f))
def actM (m:Mix)(act f:Int):Int:=if cu m=true then (if (1≤act∧act≤m.acts.length)∧1≤f∧f≤m.fountains then 0 else 2) else 40
def tI (m:Mix)(act f:Int)(A:List Held)(n:Int):Prop :=
 ∃ x all s,m.acts[act.toNat - 1]? =some x∧A[act.toNat - 1]? =some all∧cD m f A (act.toNat - 1) s∧(dG m x f all s).1≤n∧n≤(dG m x f all s).2∧cD m f A act.toNat (cE s (cp m x) (toI m x) n)
def mH (m:Mix)(act f:Int):Int × Int→Int→Prop:=eZ (actM m act f) (ga m f (tI m act f))
def goneM (m:Mix)(f:Int):Int:=if cu m=true then (if 1≤f∧f≤m.fountains then 0 else 2) else 40
def sS (m:Mix)(f:Int):Int:=m.acts.foldl (fun n x=>if x.kind=1∧x.fr=f then n+x.drops else n) 0
def sumH (s:Held):Int:=au s 0+au s 1+au s 2+au s 3
def GoneP (m:Mix)(f:Int)(A:List Held)(n:Int):Prop:=∃ s,cD m f A m.acts.length s∧n=sS m f - sumH s
def oh (m:Mix)(f:Int):Int × Int→Int→Prop:=eZ (goneM m f) (ga m f (GoneP m f))
section
variable {m:Mix} {f g e e':Int} {s s':Int × Int} {P:List Held→Int→Prop} {T:Int × Int→Int→Prop}
theorem fb.same {v a n n':Int}(h:fb m v a n e)(h':fb m v a n' e'):n=n'∧e=e':=by
 rcases h with ⟨h0,rfl,rfl⟩ | ⟨h0,rfl,A,x,hA,hx,rfl⟩<;>rcases h' with ⟨k0,rfl,rfl⟩ | ⟨k0,rfl,B,y,hB,hy,rfl⟩
 ·exact ⟨rfl,rfl⟩
 ·exact absurd k0 h0
 ·exact absurd h0 k0
 ·rw [hA] at hB
  cases hB;rw [hx] at hy;cases hy;exact ⟨rfl,rfl⟩
theorem ga.same (h:ga m f P s e)(h':ga m f P s' e'):s=s'∧e=e':=by
 obtain ⟨A,hA,h⟩:=h;obtain ⟨B,hB,h'⟩:=h';rw [hA] at hB;cases hB
 rcases h with ⟨h0,rfl,rfl⟩ | ⟨h0,rfl,h1⟩<;>rcases h' with ⟨k0,rfl,rfl⟩ | ⟨k0,rfl,k1⟩
 ·exact ⟨rfl,rfl⟩
 ·exact absurd k0 h0
 ·exact absurd h0 k0
 ·exact ⟨h1.same k1,rfl⟩
theorem eZ.same (hT:∀ {s s' e e'},T s e→T s' e'→s=s'∧e=e')(h:eZ g T s e)(h':eZ g T s' e'):s=s'∧e=e':=by
 rcases h with ⟨h0,rfl,rfl⟩ | ⟨h0,h1⟩<;>rcases h' with ⟨k0,rfl,rfl⟩ | ⟨k0,k1⟩
 ·exact ⟨rfl,rfl⟩
 ·exact absurd k0 h0
 ·exact absurd h0 k0
 ·exact hT h1 k1
theorem OfIs.same {v a:Int}(h:OfIs m v a f s e)(h':OfIs m v a f s' e'):s=s'∧e=e':=eZ.same ga.same h h'
theorem mH.same {a:Int}(h:mH m a f s e)(h':mH m a f s' e'):s=s'∧e=e':=eZ.same ga.same h h'
theorem oh.same (h:oh m f s e)(h':oh m f s' e'):s=s'∧e=e':=eZ.same ga.same h h'
theorem jv (h:cu m=true):∃ A,allM m m.acts=some A:=by
 unfold cu at h;simp only [Bool.and_eq_true] at h;exact Option.isSome_iff_exists.1 h.1.1.2
theorem cI (h:cu m=true):m.vessels.length≤4∧m.acts.length≤12∧m.tastes.length≤8∧1≤m.fountains∧m.fountains≤4:=by
 unfold cu at h;simp only [Bool.and_eq_true,decide_eq_true_eq] at h;omega
end
def iD (least most:Bool):Int:=if least then 2 else if most then 1 else 0
end
section
open Go.RowKit
structure MixS (w:World)(Av:Option Addr)(nv:Nat)(Aa:Option Addr)(na:Nat)(At:Option Addr)(nt:Nat)(m:Mix):Prop where
 at_:dx w w.heap.size Av nv Aa na At nt m
 hv:nv≤1000
 ha:na≤1000
 ht:nt≤1000
theorem MixS.up {w w':World}{Av Aa At:Option Addr}{nv na nt:Nat}{m:Mix}(h:MixS w Av nv Aa na At nt m)(hb:Below w.heap.size w w'):MixS w' Av nv Aa na At nt m:=⟨h.at_.up hb,h.hv,h.ha,h.ht⟩
theorem MixS.laid {w:World}{Av Aa At:Option Addr}{nv cv na ca nt ct:Nat}{m:Mix}(h:MixS w Av nv Aa na At nt m) :
  Calls Tryz.prog 52 #[.agg #[.int .i64 m.fountains,.slice Av nv cv,.slice Aa na ca,.slice At nt ct]] w (dW w Av nv cv Aa na ca At nt ct m):=sd Av nv cv Aa na ca At nt ct m w h.at_ h.hv h.ha h.ht
def eM (m:Mix):Int:=if cu m=true then 0 else 40
theorem mb (Av:Option Addr)(nv cv:Nat)(Aa:Option Addr)(na ca:Nat)(At:Option Addr)(nt ct:Nat)(m:Mix)(w:World)(h:MixS w Av nv Aa na At nt m) :
  Calls Tryz.prog 51 #[.agg #[.int .i64 m.fountains,.slice Av nv cv,.slice Aa na ca,.slice At nt ct]] w fun e w'=>e = .returned (.int .i64 (eM m))∧Below w.heap.size w w':=by
 have HM:=lh h;clear h
 go_enter Tryz.func51,Tryz.ntmps51
 go_wp2_with fail
 have hb:Below w.heap.size w (w.alloc (.cells #[.int .i64 m.fountains,.slice Av nv cv,.slice Aa na ca,.slice At nt ct] 26)):=b_R.alloc n_R _;have HB:=lh hb;clear hb;refine ((HM.out.up HB.out).laid).mono ?_;rintro e w' ⟨p,rfl,hb,_⟩;have HB2:=lh (HB.out.trans (hb.mono HB.out.size));clear hb
 cases hk:cu m with
 | true =>
  have HK:Hid (eM m=0):=lh (by unfold eM;rw [hk];rfl);clear hk
  go_wp2_with fail
  go_ret
  exact ⟨dE HK.out.symm,HB2.out⟩
 | false =>
  have HK:Hid (eM m=40):=lh (by unfold eM;rw [hk];rfl);clear hk
  go_wp2_with fail
  go_ret
  exact ⟨dE HK.out.symm,HB2.out⟩
end
section
open Go.RowKit
theorem qq:(Tryz.prog.info? 50).map (fun i=>(i.zero,i.size,i.bytes))=some (some (.agg #[.int .i64 0,.int .i64 0]),2,16):=by kernel_rfl
theorem lY:eX Tryz.prog 22 50 (.agg #[.int .i64 0,.int .i64 0]) 2 16:=by
 obtain ⟨i0,hi,hz0,hz1,hz2⟩:=info_parts qq;exact ⟨i0,Tryz.underlying22,hi,hz0,hz1,hz2,rfl,by decide⟩
theorem mJ (w:World)(a:Option Addr)(n c n' c':Nat):(binOp .eql 22 (.slice a n c) (.slice none n' c')).run Tryz.prog w = .ok (.bool a.isNone) w:=Lib.run_eql_slice_nil w _ _ a n c n' c' Tryz.underlying22
theorem pT (x:Vess):∀ u∈x.vals,u.oneCell'=true:=by
 intro u hu;simp only [Vess.vals,List.mem_cons,List.not_mem_nil,or_false] at hu;obtain rfl | rfl:=hu<;>rfl
theorem nP (l:List Vess):∀ u∈l.flatMap Vess.vals,u.oneCell'=true:=by
 intro u hu;obtain ⟨x,_,hx⟩:=List.mem_flatMap.1 hu;exact pT x u hx
theorem oJ (A:Option Addr)(n c:Nat)(l:List Vess)(w:World)(hr:cB w w.heap.size 2 A n (l.flatMap Vess.vals))(hn:n≤1000) :
  Calls Tryz.prog 107 #[.slice A n c] w fun e w'=>∃ A' c',e = .returned (.slice A' n c')∧Own w' w.heap.size 50 2 A' n c' (l.flatMap Vess.vals)∧(A=none↔A'=none)∧Below w.heap.size w w':=by
 have HR:=lh hr;have hq:=mJ
 cases A with
 | none =>
  have h0:n=0:=by
   rcases Nat.eq_zero_or_pos n with h | h
   ·exact h
   ·obtain ⟨_,h',_⟩:=hr.2 h;cases h'
  have hl:l=[]:=List.eq_nil_of_length_eq_zero (by rw [dY gn (by omega) hr];exact h0);subst h0 hl
  go_enter Tryz.func107,Tryz.ntmps107
  go_wp2_with fail
  go_ret
  exact ⟨none,0,rfl,Own.none_ _ _ _ _,by simp,b_R⟩
 | some ad =>
  clear hr
  go_enter Tryz.func107,Tryz.ntmps107
  go_wp2_with (at_builtin;refine dA _ rfl _ _ rfl lY rfl (World.ownsRow_made w #[] 0 n_R (Nat.zero_le _) (by simp)) rfl (cB.alloc HR.out n_R _) (nP l) (by unfold maxLen;omega) (by omega) (by simp) ?_)
  rintro A' cap' w' hown hg hA
  go_wp2
  go_ret
  have hB:Below w.heap.size w w':=(b_R.alloc n_R _).grown hg (by simp) (by intro k hk;simp at hk;omega);refine ⟨A',cap',by simp,by simpa using hown,?_,hB⟩;constructor
  ·intro h;cases h
  ·intro h
   rcases hA with hA | hA<;>rw [hA] at h<;>cases h
theorem rf:(Tryz.prog.info? 62).map (fun i=>(i.zero,i.size,i.bytes))=some (some (.agg #[.int .i64 0,.int .i64 0,.int .i64 0,.int .i64 0]),4,32):=by kernel_rfl
theorem gR:eX Tryz.prog 23 62 (.agg #[.int .i64 0,.int .i64 0,.int .i64 0,.int .i64 0]) 4 32:=by
 obtain ⟨i0,hi,hz0,hz1,hz2⟩:=info_parts rf;exact ⟨i0,Tryz.underlying23,hi,hz0,hz1,hz2,rfl,by decide⟩
theorem nR (w:World)(a:Option Addr)(n c n' c':Nat):(binOp .eql 23 (.slice a n c) (.slice none n' c')).run Tryz.prog w = .ok (.bool a.isNone) w:=Lib.run_eql_slice_nil w _ _ a n c n' c' Tryz.underlying23
theorem kO (x:MAct):∀ u∈x.vals,u.oneCell'=true:=by
 intro u hu;simp only [MAct.vals,List.mem_cons,List.not_mem_nil,or_false] at hu;obtain rfl | rfl | rfl | rfl:=hu<;>rfl
theorem mA (l:List MAct):∀ u∈l.flatMap MAct.vals,u.oneCell'=true:=by
 intro u hu;obtain ⟨x,_,hx⟩:=List.mem_flatMap.1 hu;exact kO x u hx
theorem p9 (A:Option Addr)(n c:Nat)(l:List MAct)(w:World)(hr:cB w w.heap.size 4 A n (l.flatMap MAct.vals))(hn:n≤1000) :
  Calls Tryz.prog 108 #[.slice A n c] w fun e w'=>∃ A' c',e = .returned (.slice A' n c')∧Own w' w.heap.size 62 4 A' n c' (l.flatMap MAct.vals)∧(A=none↔A'=none)∧Below w.heap.size w w':=by
 have HR:=lh hr;have hq:=nR
 cases A with
 | none =>
  have h0:n=0:=by
   rcases Nat.eq_zero_or_pos n with h | h
   ·exact h
   ·obtain ⟨_,h',_⟩:=hr.2 h;cases h'
  have hl:l=[]:=List.eq_nil_of_length_eq_zero (by rw [dY jw (by omega) hr];exact h0);subst h0 hl
  go_enter Tryz.func108,Tryz.ntmps108
  go_wp2_with fail
  go_ret
  exact ⟨none,0,rfl,Own.none_ _ _ _ _,by simp,b_R⟩
 | some ad =>
  clear hr
  go_enter Tryz.func108,Tryz.ntmps108
  go_wp2_with (at_builtin;refine dA _ rfl _ _ rfl gR rfl (World.ownsRow_made w #[] 0 n_R (Nat.zero_le _) (by simp)) rfl (cB.alloc HR.out n_R _) (mA l) (by unfold maxLen;omega) (by omega) (by simp) ?_)
  rintro A' cap' w' hown hg hA
  go_wp2
  go_ret
  have hB:Below w.heap.size w w':=(b_R.alloc n_R _).grown hg (by simp) (by intro k hk;simp at hk;omega);refine ⟨A',cap',by simp,by simpa using hown,?_,hB⟩;constructor
  ·intro h;cases h
  ·intro h
   rcases hA with hA | hA<;>rw [hA] at h<;>cases h
theorem qI:(Tryz.prog.info? 69).map (fun i=>(i.zero,i.size,i.bytes))=some (some (.agg #[.int .i64 0,.int .i64 0,.int .i64 0,.int .i64 0,.int .i64 0,.int .i64 0]),6,48):=by kernel_rfl
theorem jg:eX Tryz.prog 24 69 (.agg #[.int .i64 0,.int .i64 0,.int .i64 0,.int .i64 0,.int .i64 0,.int .i64 0]) 6 48:=by
 obtain ⟨i0,hi,hz0,hz1,hz2⟩:=info_parts qI;exact ⟨i0,Tryz.underlying24,hi,hz0,hz1,hz2,rfl,by decide⟩
theorem mF (w:World)(a:Option Addr)(n c n' c':Nat):(binOp .eql 24 (.slice a n c) (.slice none n' c')).run Tryz.prog w = .ok (.bool a.isNone) w:=Lib.run_eql_slice_nil w _ _ a n c n' c' Tryz.underlying24
theorem lO (x:Tast):∀ u∈x.vals,u.oneCell'=true:=by
 intro u hu;simp only [Tast.vals,List.mem_cons,List.not_mem_nil,or_false] at hu;obtain rfl | rfl | rfl | rfl | rfl | rfl:=hu<;>rfl
theorem nO (l:List Tast):∀ u∈l.flatMap Tast.vals,u.oneCell'=true:=by
 intro u hu;obtain ⟨x,_,hx⟩:=List.mem_flatMap.1 hu;exact lO x u hx
theorem oI (A:Option Addr)(n c:Nat)(l:List Tast)(w:World)(hr:cB w w.heap.size 6 A n (l.flatMap Tast.vals))(hn:n≤1000) :
  Calls Tryz.prog 109 #[.slice A n c] w fun e w'=>∃ A' c',e = .returned (.slice A' n c')∧Own w' w.heap.size 69 6 A' n c' (l.flatMap Tast.vals)∧(A=none↔A'=none)∧Below w.heap.size w w':=by
 have HR:=lh hr;have hq:=mF
 cases A with
 | none =>
  have h0:n=0:=by
   rcases Nat.eq_zero_or_pos n with h | h
   ·exact h
   ·obtain ⟨_,h',_⟩:=hr.2 h;cases h'
  have hl:l=[]:=List.eq_nil_of_length_eq_zero (by rw [dY gp (by omega) hr];exact h0);subst h0 hl
  go_enter Tryz.func109,Tryz.ntmps109
  go_wp2_with fail
  go_ret
  exact ⟨none,0,rfl,Own.none_ _ _ _ _,by simp,b_R⟩
 | some ad =>
  clear hr
  go_enter Tryz.func109,Tryz.ntmps109
  go_wp2_with (at_builtin;refine dA _ rfl _ _ rfl jg rfl (World.ownsRow_made w #[] 0 n_R (Nat.zero_le _) (by simp)) rfl (cB.alloc HR.out n_R _) (nO l) (by unfold maxLen;omega) (by omega) (by simp) ?_)
  rintro A' cap' w' hown hg hA
  go_wp2
  go_ret
  have hB:Below w.heap.size w w':=(b_R.alloc n_R _).grown hg (by simp) (by intro k hk;simp at hk;omega);refine ⟨A',cap',by simp,by simpa using hown,?_,hB⟩;constructor
  ·intro h;cases h
  ·intro h
   rcases hA with hA | hA<;>rw [hA] at h<;>cases h
end
section
open Go.RowKit
def fW (A B:Option Addr):Prop:=∀ a b,A=some a→B=some b→a.block≠b.block
theorem jd {w w':World}{base base' n cap size n' cap' size':Nat}{e e':TypeId}{A B:Option Addr}{xs ys:List Value}(h:Own w base e size A n cap xs)(h':Own w' base' e' size' B n' cap' ys)(hb:w.heap.size≤base'):fW A B:=by
 intro a b ha hb2;have h1:=(h.lt ha).2;have h2:=(h'.lt hb2).1;omega
structure CpGh where
 A1:Option Addr
 c1:Nat
 A2:Option Addr
 c2:Nat
 A3:Option Addr
 c3:Nat
structure di (w:World)(base:Nat)(A1:Option Addr)(nv c1:Nat)(A2:Option Addr)(na c2:Nat)(A3:Option Addr)(nt c3:Nat)(m:Mix):Prop where
 v:Own w base 50 2 A1 nv c1 (m.vessels.flatMap Vess.vals)
 a:Own w base 62 4 A2 na c2 (m.acts.flatMap MAct.vals)
 t:Own w base 69 6 A3 nt c3 (m.tastes.flatMap Tast.vals)
 va:fW A1 A2
 vt:fW A1 A3
 at_:fW A2 A3
def pW (w:World)(nv na nt:Nat)(m:Mix)(e:Ending)(w':World):Prop :=
 ∃ A1 c1 A2 c2 A3 c3,e = .returned (.agg #[.int .i64 m.fountains,.slice A1 nv c1,.slice A2 na c2,.slice A3 nt c3])∧di w' w.heap.size A1 nv c1 A2 na c2 A3 nt c3 m∧Below w.heap.size w w'
structure CpI (Av:Option Addr)(nv cv:Nat)(Aa:Option Addr)(na ca:Nat)(At:Option Addr)(nt ct:Nat)(m:Mix)(w:World)(L:Nat→Bool)(gh:CpGh)(s:Nat→Value)(W:World):Prop where
 g1:Below w.heap.size w W
 m0:L 10=false→Blk W w.heap.size 26 #[.int .i64 m.fountains,.slice Av nv cv,.slice Aa na ca,.slice At nt ct]
 m1:L 10=true→L 12=false→Blk W w.heap.size 26 #[.int .i64 m.fountains,.slice gh.A1 nv gh.c1,.slice Aa na ca,.slice At nt ct]
 m2:L 12=true→L 14=false→Blk W w.heap.size 26 #[.int .i64 m.fountains,.slice gh.A1 nv gh.c1,.slice gh.A2 na gh.c2,.slice At nt ct]
 m3:L 14=true→Blk W w.heap.size 26 #[.int .i64 m.fountains,.slice gh.A1 nv gh.c1,.slice gh.A2 na gh.c2,.slice gh.A3 nt gh.c3]
 gz:Blk W (w.heap.size+1) 26 #[.int .i64 0,.slice none 0 0,.slice none 0 0,.slice none 0 0]
 o1:L 2=true→Own W (w.heap.size+2) 50 2 gh.A1 nv gh.c1 (m.vessels.flatMap Vess.vals)
 o2:L 5=true→Own W (w.heap.size+2) 62 4 gh.A2 na gh.c2 (m.acts.flatMap MAct.vals)
 o3:L 8=true→Own W (w.heap.size+2) 69 6 gh.A3 nt gh.c3 (m.tastes.flatMap Tast.vals)
 d12:L 2=true→L 5=true→fW gh.A1 gh.A2
 d13:L 2=true→L 8=true→fW gh.A1 gh.A3
 d23:L 5=true→L 8=true→fW gh.A2 gh.A3
 f0:L 0=true→s 3 = .pointer (some ⟨w.heap.size,1,none⟩)
 f1:L 1=true→s 4 = .slice Av nv cv
 f2:L 2=true→s 5 = .slice gh.A1 nv gh.c1
 f3:L 3=true→s 6 = .pointer (some ⟨w.heap.size,2,none⟩)
 f4:L 4=true→s 7 = .slice Aa na ca
 f5:L 5=true→s 8 = .slice gh.A2 na gh.c2
 f6:L 6=true→s 9 = .pointer (some ⟨w.heap.size,3,none⟩)
 f7:L 7=true→s 10 = .slice At nt ct
 f8:L 8=true→s 11 = .slice gh.A3 nt gh.c3
 f9:L 9=true→s 12 = .pointer (some ⟨w.heap.size,1,none⟩)
 f11:L 11=true→s 13 = .pointer (some ⟨w.heap.size,2,none⟩)
 f13:L 13=true→s 14 = .pointer (some ⟨w.heap.size,3,none⟩)
theorem lP (Av:Option Addr)(nv cv:Nat)(Aa:Option Addr)(na ca:Nat)(At:Option Addr)(nt ct:Nat)(m:Mix)(w:World)(h:MixS w Av nv Aa na At nt m) :
  CallsIn Fence.wide 9 Tryz.prog 72 #[.agg #[.int .i64 m.fountains,.slice Av nv cv,.slice Aa na ca,.slice At nt ct]] w (pW w nv na nt m):=by
 have HM:=lh h;clear h;refine callsIn_of_wp Tryz.func72 rfl trivial ?_ rfl;simp only [Tryz.ntmps72,es,Nat.reduceAdd,Nat.reduceSub];gi_wp2;have Ly:=lh (Lay.two w 26 #[.int .i64 m.fountains,.slice Av nv cv,.slice Aa na ca,.slice At nt ct] 26 #[.int .i64 0,.slice none 0 0,.slice none 0 0,.slice none 0 0]);generalize ((w.alloc (.cells #[.int .i64 m.fountains,.slice Av nv cv,.slice Aa na ca,.slice At nt ct] 26)).alloc (.cells #[.int .i64 0,.slice none 0 0,.slice none 0 0,.slice none 0 0] 26))=w0 at *;have HB0:=lh Ly.out.1;have HX0:=lh (Ly.out.blk 0 rfl);have HZ0:=lh (Ly.out.blk 1 rfl);clear Ly
 refine dJ (by kernel_rfl) (by kernel_rfl) (fun σ:CpGh × (Nat→Value)=>{ tmps:=#[.agg #[.int .i64 m.fountains,.slice Av nv cv,.slice Aa na ca,.slice At nt ct],.pointer (some ⟨w.heap.size,0,none⟩),.pointer (some ⟨w.heap.size+1,0,none⟩),σ.2 3,σ.2 4,σ.2 5,σ.2 6,σ.2 7,σ.2 8,σ.2 9,σ.2 10,σ.2 11,σ.2 12,σ.2 13,σ.2 14,undef],defers:=[] })
  (fun L σ W=>CpI Av nv cv Aa na ca At nt ct m w L σ.1 σ.2 W) (⟨none,0,none,0,none,0⟩,fun k=>undef) rfl ?_ ?_ ?_
 ·exact ⟨av HB0.out 1,(fun _=>HX0.out.drewN 1),(fun h=>by cases h),(fun h=>by cases h),(fun h=>by cases h),HZ0.out.drewN 1,(fun h=>by cases h),(fun h=>by cases h),(fun h=>by cases h),(fun h=>by cases h),(fun h=>by cases h),(fun h=>by cases h),(fun h=>by cases h),(fun h=>by cases h),(fun h=>by cases h),(fun h=>by cases h),(fun h=>by cases h),(fun h=>by cases h),(fun h=>by cases h),(fun h=>by cases h),(fun h=>by cases h),(fun h=>by cases h),(fun h=>by cases h),(fun h=>by cases h)⟩
 ·refine ⟨?_,?_,?_,?_,?_,?_,?_,?_,?_,?_,?_,?_,?_,?_,?_,trivial⟩
  ·rintro L ⟨gh,s⟩ W hu hd hdn H K Q hK
   have hxl:=HX0.out.lt;have HF:=lh H;clear H hd
   try simp only
   gi_wp2;exact hK (gh,(upd s 3 (.pointer (some ⟨w.heap.size,1,none⟩)))) _ { HF.out with f0:=(fun _=>rfl) }
  ·rintro L ⟨gh,s⟩ W hu hd hdn H K Q hK
   have e0:=H.f0 (hd.at_ 0 rfl)
   have h10:L 10=false:=by
    cases hc:L 10 with
    | false=>rfl
    | true=>exact hdn.no 10 1 hc rfl hu
   have c0:W.cell? ⟨w.heap.size,1,none⟩=some (.slice Av nv cv):=(H.m0 h10).cell 1;have HF:=lh H;clear H hd
   try simp only at e0 ⊢
   gi_wp2;exact hK (gh,(upd (upd s 3 (.pointer (some ⟨w.heap.size,1,none⟩))) 4 (.slice Av nv cv))) _ { HF.out with f0:=(fun _=>rfl),f1:=(fun _=>rfl) }
  ·rintro L ⟨gh,s⟩ W hu hd hdn H K Q hK
   have e1:=H.f1 (hd.at_ 1 rfl)
   have h10:L 10=false:=by
    cases hc:L 10 with
    | false=>rfl
    | true=>exact hdn.no 10 2 hc rfl hu
   have h12:L 12=false:=by
    cases hc:L 12 with
    | false=>rfl
    | true=>exact hdn.no 12 2 hc rfl hu
   have h14:L 14=false:=by
    cases hc:L 14 with
    | false=>rfl
    | true=>exact hdn.no 14 2 hc rfl hu
   have HG1:=lh H.g1;have hW:=H.gz.lt;have HF:=lh H;clear H hd
   try simp only at e1 ⊢
   gi_wp2;refine ⟨trivial,(callsIn_wide.2 (oJ Av nv cv m.vessels W ((HM.out.at_.up HG1.out).vessels) HM.out.hv)).mono ?_⟩;rintro e W1 ⟨AN,cN,rfl,hP,-,hb⟩;gi_wp2;have hO:=hP.mono (show w.heap.size+2≤W.heap.size by omega);exact hK ({ gh with A1:=AN,c1:=cN },(upd (upd s 4 (.slice Av nv cv)) 5 (.slice AN nv cN))) _ { HF.out with g1:=(HF.out.g1.trans (hb.mono HF.out.g1.size)),m0:=(fun h=>(HF.out.m0 h).below hb (HF.out.m0 h).lt),m1:=(fun h=>absurd (h10.symm.trans h) (by decide)),m2:=(fun h=>absurd (h12.symm.trans h) (by decide)),m3:=(fun h=>absurd (h14.symm.trans h) (by decide)),gz:=(HF.out.gz.below hb HF.out.gz.lt),o1:=(fun _=>hO),o2:=(fun h5=>hdn.no 5 2 h5 rfl hu),o3:=(fun h8=>hdn.no 5 2 (hdn.at_ 8 5 h8 rfl) rfl hu),d12:=(fun _ h5=>hdn.no 5 2 h5 rfl hu),d13:=(fun _ h8=>hdn.no 5 2 (hdn.at_ 8 5 h8 rfl) rfl hu),f1:=(fun _=>rfl),f2:=(fun _=>rfl) }
  ·rintro L ⟨gh,s⟩ W hu hd hdn H K Q hK
   have HF:=lh H;clear H hd
   try simp only
   gi_wp2;exact hK (gh,(upd s 6 (.pointer (some ⟨w.heap.size,2,none⟩)))) _ { HF.out with f3:=(fun _=>rfl) }
  ·rintro L ⟨gh,s⟩ W hu hd hdn H K Q hK
   have e3:=H.f3 (hd.at_ 3 rfl)
   have h10:L 10=false:=by
    cases hc:L 10 with
    | false=>rfl
    | true=>exact hdn.no 10 4 hc rfl hu
   have c0:W.cell? ⟨w.heap.size,2,none⟩=some (.slice Aa na ca):=(H.m0 h10).cell 2;have HF:=lh H;clear H hd
   try simp only at e3 ⊢
   gi_wp2;exact hK (gh,(upd (upd s 6 (.pointer (some ⟨w.heap.size,2,none⟩))) 7 (.slice Aa na ca))) _ { HF.out with f3:=(fun _=>rfl),f4:=(fun _=>rfl) }
  ·rintro L ⟨gh,s⟩ W hu hd hdn H K Q hK
   have e4:=H.f4 (hd.at_ 4 rfl);have d2:=hd.at_ 2 rfl
   have h10:L 10=false:=by
    cases hc:L 10 with
    | false=>rfl
    | true=>exact hdn.no 8 5 (hdn.at_ 10 8 hc rfl) rfl hu
   have h12:L 12=false:=by
    cases hc:L 12 with
    | false=>rfl
    | true=>exact hdn.no 12 5 hc rfl hu
   have h14:L 14=false:=by
    cases hc:L 14 with
    | false=>rfl
    | true=>exact hdn.no 14 5 hc rfl hu
   have HG1:=lh H.g1;have hW:=H.gz.lt;have HF:=lh H;clear H hd
   try simp only at e4 ⊢
   gi_wp2;refine ⟨trivial,(callsIn_wide.2 (p9 Aa na ca m.acts W ((HM.out.at_.up HG1.out).acts) HM.out.ha)).mono ?_⟩;rintro e W1 ⟨AN,cN,rfl,hP,-,hb⟩;gi_wp2;have hO:=hP.mono (show w.heap.size+2≤W.heap.size by omega);exact hK ({ gh with A2:=AN,c2:=cN },(upd (upd s 7 (.slice Aa na ca)) 8 (.slice AN na cN))) _ { HF.out with g1:=(HF.out.g1.trans (hb.mono HF.out.g1.size)),m0:=(fun h=>(HF.out.m0 h).below hb (HF.out.m0 h).lt),m1:=(fun h=>absurd (h10.symm.trans h) (by decide)),m2:=(fun h=>absurd (h12.symm.trans h) (by decide)),m3:=(fun h=>absurd (h14.symm.trans h) (by decide)),gz:=(HF.out.gz.below hb HF.out.gz.lt),o1:=(fun h=>(HF.out.o1 h).below hb n_R),o2:=(fun _=>hO),o3:=(fun h8=>hdn.no 8 5 h8 rfl hu),d12:=(fun h2 _=>jd (HF.out.o1 h2) hP n_R),d23:=(fun _ h8=>hdn.no 8 5 h8 rfl hu),f4:=(fun _=>rfl),f5:=(fun _=>rfl) }
  ·rintro L ⟨gh,s⟩ W hu hd hdn H K Q hK
   have HF:=lh H;clear H hd
   try simp only
   gi_wp2;exact hK (gh,(upd s 9 (.pointer (some ⟨w.heap.size,3,none⟩)))) _ { HF.out with f6:=(fun _=>rfl) }
  ·rintro L ⟨gh,s⟩ W hu hd hdn H K Q hK
   have e6:=H.f6 (hd.at_ 6 rfl)
   have h10:L 10=false:=by
    cases hc:L 10 with
    | false=>rfl
    | true=>exact hdn.no 10 7 hc rfl hu
   have c0:W.cell? ⟨w.heap.size,3,none⟩=some (.slice At nt ct):=(H.m0 h10).cell 3;have HF:=lh H;clear H hd
   try simp only at e6 ⊢
   gi_wp2;exact hK (gh,(upd (upd s 9 (.pointer (some ⟨w.heap.size,3,none⟩))) 10 (.slice At nt ct))) _ { HF.out with f6:=(fun _=>rfl),f7:=(fun _=>rfl) }
  ·rintro L ⟨gh,s⟩ W hu hd hdn H K Q hK
   have e7:=H.f7 (hd.at_ 7 rfl);have d5:=hd.at_ 5 rfl
   have h10:L 10=false:=by
    cases hc:L 10 with
    | false=>rfl
    | true=>exact hdn.no 10 8 hc rfl hu
   have h12:L 12=false:=by
    cases hc:L 12 with
    | false=>rfl
    | true=>exact hdn.no 10 8 (hdn.at_ 12 10 hc rfl) rfl hu
   have h14:L 14=false:=by
    cases hc:L 14 with
    | false=>rfl
    | true=>exact hdn.no 14 8 hc rfl hu
   have HG1:=lh H.g1;have hW:=H.gz.lt;have HF:=lh H;clear H hd
   try simp only at e7 ⊢
   gi_wp2;refine ⟨trivial,(callsIn_wide.2 (oI At nt ct m.tastes W ((HM.out.at_.up HG1.out).tastes) HM.out.ht)).mono ?_⟩;rintro e W1 ⟨AN,cN,rfl,hP,-,hb⟩;gi_wp2;have hO:=hP.mono (show w.heap.size+2≤W.heap.size by omega);exact hK ({ gh with A3:=AN,c3:=cN },(upd (upd s 10 (.slice At nt ct)) 11 (.slice AN nt cN))) _ { HF.out with g1:=(HF.out.g1.trans (hb.mono HF.out.g1.size)),m0:=(fun h=>(HF.out.m0 h).below hb (HF.out.m0 h).lt),m1:=(fun h=>absurd (h10.symm.trans h) (by decide)),m2:=(fun h=>absurd (h12.symm.trans h) (by decide)),m3:=(fun h=>absurd (h14.symm.trans h) (by decide)),gz:=(HF.out.gz.below hb HF.out.gz.lt),o1:=(fun h=>(HF.out.o1 h).below hb n_R),o2:=(fun h=>(HF.out.o2 h).below hb n_R),o3:=(fun _=>hO),d13:=(fun h2 _=>jd (HF.out.o1 h2) hP n_R),d23:=(fun h5 _=>jd (HF.out.o2 h5) hP n_R),f7:=(fun _=>rfl),f8:=(fun _=>rfl) }
  ·rintro L ⟨gh,s⟩ W hu hd hdn H K Q hK
   have HF:=lh H;clear H hd
   try simp only
   gi_wp2;exact hK (gh,(upd s 12 (.pointer (some ⟨w.heap.size,1,none⟩)))) _ { HF.out with f9:=(fun _=>rfl) }
  ·rintro L ⟨gh,s⟩ W hu hd hdn H K Q hK
   have e9:=H.f9 (hd.at_ 9 rfl);have e2:=H.f2 (hd.at_ 2 rfl);have d2:=hd.at_ 2 rfl;have MB:=H.m0 hu;have y0:=MB.cell 0;have z0:=MB.frozen 0;have y1:=MB.cell 1;have z1:=MB.frozen 1;have y2:=MB.cell 2;have z2:=MB.frozen 2;have y3:=MB.cell 3;have z3:=MB.frozen 3;have rl:=MB.lt;have HMB:=lh MB;clear MB;have HW2:=lh d2;clear d2;have HF:=lh H;clear H hd
   try simp only at e9 e2 ⊢
   gi_wp2;have hg:W.grownBy (W.setCell ⟨w.heap.size,1,none⟩ (.slice gh.A1 nv gh.c1)) (some w.heap.size):=cC (cR _ _) (p:=⟨w.heap.size,1,none⟩) (.inl rfl) _;exact hK (gh,(upd (upd s 12 (.pointer (some ⟨w.heap.size,1,none⟩))) 5 (.slice gh.A1 nv gh.c1))) _ { HF.out with g1:=(HF.out.g1.setCell (p:=⟨w.heap.size,1,none⟩) n_R _),gz:=(HF.out.gz.grown hg (by simp)),o1:=(fun h=>(HF.out.o1 h).grown hg (fun a ha e=>by have:=((HF.out.o1 h).lt ha).1;have:=Option.some.inj e;omega)),o2:=(fun h=>(HF.out.o2 h).grown hg (fun a ha e=>by have:=((HF.out.o2 h).lt ha).1;have:=Option.some.inj e;omega)),o3:=(fun h=>(HF.out.o3 h).grown hg (fun a ha e=>by have:=((HF.out.o3 h).lt ha).1;have:=Option.some.inj e;omega)),m0:=(fun h=>by cases h),m1:=(fun _ _=>HMB.out.set_ 1 (.slice gh.A1 nv gh.c1)),m2:=(fun h=>hdn.no 12 10 h rfl hu),m3:=(fun h=>hdn.no 12 10 (hdn.at_ 14 12 h rfl) rfl hu),f2:=(fun _=>rfl),f9:=(fun _=>rfl) }
  ·rintro L ⟨gh,s⟩ W hu hd hdn H K Q hK
   have HF:=lh H;clear H hd
   try simp only
   gi_wp2;exact hK (gh,(upd s 13 (.pointer (some ⟨w.heap.size,2,none⟩)))) _ { HF.out with f11:=(fun _=>rfl) }
  ·rintro L ⟨gh,s⟩ W hu hd hdn H K Q hK
   have e11:=H.f11 (hd.at_ 11 rfl);have e5:=H.f5 (hd.at_ 5 rfl);have d2:=hd.at_ 2 rfl;have d10:=hd.at_ 10 rfl;have MB:=H.m1 d10 hu;have y0:=MB.cell 0;have z0:=MB.frozen 0;have y1:=MB.cell 1;have z1:=MB.frozen 1;have y2:=MB.cell 2;have z2:=MB.frozen 2;have y3:=MB.cell 3;have z3:=MB.frozen 3;have rl:=MB.lt;have HMB:=lh MB;clear MB;have HW2:=lh d2;clear d2;have HW10:=lh d10;clear d10;have HF:=lh H;clear H hd
   try simp only at e11 e5 ⊢
   gi_wp2;have hg:W.grownBy (W.setCell ⟨w.heap.size,2,none⟩ (.slice gh.A2 na gh.c2)) (some w.heap.size):=cC (cR _ _) (p:=⟨w.heap.size,2,none⟩) (.inl rfl) _;exact hK (gh,(upd (upd s 13 (.pointer (some ⟨w.heap.size,2,none⟩))) 8 (.slice gh.A2 na gh.c2))) _ { HF.out with g1:=(HF.out.g1.setCell (p:=⟨w.heap.size,2,none⟩) n_R _),gz:=(HF.out.gz.grown hg (by simp)),o1:=(fun h=>(HF.out.o1 h).grown hg (fun a ha e=>by have:=((HF.out.o1 h).lt ha).1;have:=Option.some.inj e;omega)),o2:=(fun h=>(HF.out.o2 h).grown hg (fun a ha e=>by have:=((HF.out.o2 h).lt ha).1;have:=Option.some.inj e;omega)),o3:=(fun h=>(HF.out.o3 h).grown hg (fun a ha e=>by have:=((HF.out.o3 h).lt ha).1;have:=Option.some.inj e;omega)),m0:=(fun h=>absurd (HW10.out.symm.trans h) (by decide)),m1:=(fun _ h=>by cases h),m2:=(fun _ _=>HMB.out.set_ 2 (.slice gh.A2 na gh.c2)),m3:=(fun h=>hdn.no 14 12 h rfl hu),f5:=(fun _=>rfl),f11:=(fun _=>rfl) }
  ·rintro L ⟨gh,s⟩ W hu hd hdn H K Q hK
   have HF:=lh H;clear H hd
   try simp only
   gi_wp2;exact hK (gh,(upd s 14 (.pointer (some ⟨w.heap.size,3,none⟩)))) _ { HF.out with f13:=(fun _=>rfl) }
  ·rintro L ⟨gh,s⟩ W hu hd hdn H K Q hK
   have e13:=H.f13 (hd.at_ 13 rfl);have e8:=H.f8 (hd.at_ 8 rfl);have d2:=hd.at_ 2 rfl;have h10t:L 10=true:=hdn.at_ 12 10 (hd.at_ 12 rfl) rfl;have HT10:=lh h10t;clear h10t;have MB:=H.m2 (hd.at_ 12 rfl) hu;have y0:=MB.cell 0;have z0:=MB.frozen 0;have y1:=MB.cell 1;have z1:=MB.frozen 1;have y2:=MB.cell 2;have z2:=MB.frozen 2;have y3:=MB.cell 3;have z3:=MB.frozen 3;have rl:=MB.lt;have HMB:=lh MB;clear MB;have HW2:=lh d2;clear d2;have HW12:=lh (hd.at_ 12 rfl);have HF:=lh H;clear H hd
   try simp only at e13 e8 ⊢
   gi_wp2;have h10t:=HT10.out;have hg:W.grownBy (W.setCell ⟨w.heap.size,3,none⟩ (.slice gh.A3 nt gh.c3)) (some w.heap.size):=cC (cR _ _) (p:=⟨w.heap.size,3,none⟩) (.inl rfl) _;exact hK (gh,(upd (upd s 14 (.pointer (some ⟨w.heap.size,3,none⟩))) 11 (.slice gh.A3 nt gh.c3))) _ { HF.out with g1:=(HF.out.g1.setCell (p:=⟨w.heap.size,3,none⟩) n_R _),gz:=(HF.out.gz.grown hg (by simp)),o1:=(fun h=>(HF.out.o1 h).grown hg (fun a ha e=>by have:=((HF.out.o1 h).lt ha).1;have:=Option.some.inj e;omega)),o2:=(fun h=>(HF.out.o2 h).grown hg (fun a ha e=>by have:=((HF.out.o2 h).lt ha).1;have:=Option.some.inj e;omega)),o3:=(fun h=>(HF.out.o3 h).grown hg (fun a ha e=>by have:=((HF.out.o3 h).lt ha).1;have:=Option.some.inj e;omega)),m0:=(fun h=>absurd (h10t.symm.trans h) (by decide)),m1:=(fun _ h=>absurd (HW12.out.symm.trans h) (by decide)),m2:=(fun _ h=>by cases h),m3:=(fun _=>HMB.out.set_ 3 (.slice gh.A3 nt gh.c3)),f8:=(fun _=>rfl),f13:=(fun _=>rfl) }
 ·rintro L ⟨gh,s⟩ W hall H
  obtain ⟨g1,m0,m1,m2,m3,gz,o1,o2,o3,d12,d13,d23,f0,f1,f2,f3,f4,f5,f6,f7,f8,f9,f11,f13⟩:=H;have GO1:=lh (o1 (hall 2 (by decide)));have GO2:=lh (o2 (hall 5 (by decide)));have GO3:=lh (o3 (hall 8 (by decide)));have GD:=lh (ai (d12 (hall 2 (by decide)) (hall 5 (by decide))) (ai (d13 (hall 2 (by decide)) (hall 8 (by decide))) (d23 (hall 5 (by decide)) (hall 8 (by decide)))));have GM:=lh (m3 (hall 14 (by decide)));have GZ:=lh gz;have G1:=lh g1;clear f13 f11 f9 f8 f7 f6 f5 f4 f3 f2 f1 f0 d23 d13 d12 o3 o2 o1 gz m3 m2 m1 m0 g1 hall;simp only;have y0:=GM.out.cell 0;have y1:=GM.out.cell 1;have y2:=GM.out.cell 2;have y3:=GM.out.cell 3;have zl:=GZ.out.lt;have q0:=GZ.out.cell 0;have q1:=GZ.out.cell 1;have q2:=GZ.out.cell 2;have q3:=GZ.out.cell 3;have z0:=GZ.out.frozen 0;have z1:=GZ.out.frozen 1;have z2:=GZ.out.frozen 2;have z3:=GZ.out.frozen 3;gi_wp2;have R4:=ret4' GZ.out (Below.refl (w.heap.size+1) W) n_R (.int .i64 m.fountains) (.slice gh.A1 nv gh.c1) (.slice gh.A2 na gh.c2) (.slice gh.A3 nt gh.c3);have v0:=R4.1.cell 0;have v1:=R4.1.cell 1;have v2:=R4.1.cell 2;have v3:=R4.1.cell 3;have hne:∀ {e:TypeId} {size n cap:Nat} {A:Option Addr} {xs:List Value},Own W (w.heap.size+2) e size A n cap xs→∀ a,A=some a→some a.block≠some (w.heap.size+1):=fun ho a ha e=>by have:=(ho.lt ha).1;have:=Option.some.inj e;omega
  refine bodyPost_ret (v:=.agg #[.int .i64 m.fountains,.slice gh.A1 nv gh.c1,.slice gh.A2 na gh.c2,.slice gh.A3 nt gh.c3]) (by simp [results,Tryz.results72,go_sem,v0,v1,v2,v3]) rfl ?_;exact ⟨gh.A1,gh.c1,gh.A2,gh.c2,gh.A3,gh.c3,rfl,⟨(GO1.out.grown R4.2.2 (hne GO1.out)).mono (by omega),(GO2.out.grown R4.2.2 (hne GO2.out)).mono (by omega),(GO3.out.grown R4.2.2 (hne GO3.out)).mono (by omega),GD.out.1,GD.out.2.1,GD.out.2.2⟩,G1.out.trans (R4.2.1.mono (by omega))⟩
end
section
open Go.RowKit
section
variable {w W W':World} {base:Nat} {A1 A2 A3:Option Addr} {nv c1 na c2 nt c3:Nat} {m:Mix}
theorem di.s (h:di W base A1 nv c1 A2 na c2 A3 nt c3 m)(hv:nv≤1000)(ha:na≤1000)(ht:nt≤1000):MixS W A1 nv A2 na A3 nt m:=⟨⟨h.v.reads n_R,h.a.reads n_R,h.t.reads n_R⟩,hv,ha,ht⟩
theorem di.below (h:di W base A1 nv c1 A2 na c2 A3 nt c3 m)(hb:Below W.heap.size W W'):di W' base A1 nv c1 A2 na c2 A3 nt c3 m:=⟨h.v.below hb n_R,h.a.below hb n_R,h.t.below hb n_R,h.va,h.vt,h.at_⟩
theorem di.mono (h:di W base A1 nv c1 A2 na c2 A3 nt c3 m){b':Nat}(hb:b'≤base):di W b' A1 nv c1 A2 na c2 A3 nt c3 m:=⟨h.v.mono hb,h.a.mono hb,h.t.mono hb,h.va,h.vt,h.at_⟩
theorem ig {e:TypeId}{size n cap g:Nat}{A:Option Addr}{xs:List Value}(h:Own W base e size A n cap xs)(hg:W.grownBy W' (some g))(hlt:g<base):Own W' base e size A n cap xs:=h.grown hg (fun a ha e=>by have:=(h.lt ha).1;have:=Option.some.inj e;omega)
theorem di.off {g:Nat}(h:di W base A1 nv c1 A2 na c2 A3 nt c3 m)(hg:W.grownBy W' (some g))(hlt:g<base):di W' base A1 nv c1 A2 na c2 A3 nt c3 m:=⟨ig h.v hg hlt,ig h.a hg hlt,ig h.t hg hlt,h.va,h.vt,h.at_⟩
theorem di.nothing (W:World)(base:Nat):di W base none 0 0 none 0 0 none 0 0 dS:=⟨Own.none_ _ _ _ _,Own.none_ _ _ _ _,Own.none_ _ _ _ _,fun a b h=>(by cases h),fun a b h=>(by cases h),fun a b h=>(by cases h)⟩
theorem g9 {A B:Option Addr}(h:fW A B):∀ a,A=some a→some a.block≠B.map (·.block):=by
 intro a ha e
 cases hB:B with
 | none=>rw [hB] at e;cases e
 | some b=>rw [hB] at e;exact h a b ha hB (Option.some.inj e)
theorem fZ {B A9:Option Addr}{A:Option Addr}{e:TypeId}{size n cap:Nat}{xs:List Value}(h:fW A B)(ho:Own W base e size A n cap xs)(hA:A9=B∨A9=some ⟨W.heap.size,0,none⟩):fW A A9:=by
 intro a b ha hb;rcases hA with e1 | e1
 ·exact h a b ha (e1 ▸ hb)
 ·rw [e1] at hb
  cases hb;have:=(ho.lt ha).2;dsimp only;omega
theorem fW.symm {A B:Option Addr}(h:fW A B):fW B A:=fun a b ha hb e=>h b a hb ha e.symm
theorem di.acts {A9:Option Addr}{c9:Nat}{x:MAct}(h:di W base A1 nv c1 A2 na c2 A3 nt c3 m)(hg:W.grownBy W' (A2.map (·.block)))(ho:Own W' base 62 4 A9 (na+1) c9 (m.acts.flatMap MAct.vals++x.vals))(hA:A9=A2∨A9=some ⟨W.heap.size,0,none⟩) :
  di W' base A1 nv c1 A9 (na+1) c9 A3 nt c3 (ey m (m.acts++[x])):=by
 refine ⟨h.v.grown hg (g9 h.va),?_,h.t.grown hg (g9 h.at_.symm),fZ h.va h.v hA,h.vt,(fZ h.at_.symm h.t hA).symm⟩
 show Own W' base _ 4 A9 (na+1) c9 ((m.acts++[x]).flatMap MAct.vals)
 rw [List.flatMap_append];simpa using ho
theorem di.tasts {A9:Option Addr}{n9 c9:Nat}{l:List Tast}(h:di W base A1 nv c1 A2 na c2 A3 nt c3 m)(hg:W.grownBy W' (A3.map (·.block)))(ho:Own W' base 69 6 A9 n9 c9 (l.flatMap Tast.vals))(hA:A9=A3∨A9=some ⟨W.heap.size,0,none⟩) :
  di W' base A1 nv c1 A2 na c2 A9 n9 c9 (fo m l) :=
 ⟨h.v.grown hg (g9 h.vt),h.a.grown hg (g9 h.at_),ho,h.va,fZ h.vt h.v hA,fZ h.at_ h.a hA⟩
end
theorem iL {w W W':World}{g:Nat}{t:TypeId}{cs cs':Array Value}{rest:List (Nat × TypeId × Array Value)}(h:Lay w W ((g,t,cs)::rest))(hne:∀ b∈rest,b.1≠g)(hg:W.grownBy W' (some g))(hb:Blk W' g t cs'):Lay w W' ((g,t,cs')::rest):=by
 have h0:=h.2 (g,t,cs) (by simp);refine ⟨h.1.grown hg h.1.size (fun k hk=>by cases hk;exact h0.1),fun b k=>?_⟩;rcases List.mem_cons.1 k with rfl | k
 ·exact ⟨h0.1,hb⟩
 ·have:=h.2 b (by simp [k])
  exact ⟨this.1,this.2.grown hg (fun e=>hne b k (Option.some.inj e))⟩
def tm (w:World)(r:Mix × Int)(e:Ending)(w':World):Prop :=
 ∃ A1 n1 c1 A2 n2 c2 A3 n3 c3,e = .returned (.tuple #[.agg #[.int .i64 r.1.fountains,.slice A1 n1 c1,.slice A2 n2 c2,.slice A3 n3 c3],.int .i64 r.2])∧di w' w.heap.size A1 n1 c1 A2 n2 c2 A3 n3 c3 r.1∧(n1≤1001∧n2≤1001∧n3≤1001)∧Below w.heap.size w w'
end
section
open Go.RowKit
theorem do_in (Av:Option Addr)(nv cv:Nat)(Aa:Option Addr)(na ca:Nat)(At:Option Addr)(nt ct:Nat)(m:Mix)(x:MAct)(w:World)(h:MixS w Av nv Aa na At nt m) :
  CallsIn Fence.wide 9 Tryz.prog 46 #[.agg #[.int .i64 m.fountains,.slice Av nv cv,.slice Aa na ca,.slice At nt ct],.agg #[.int .i64 x.kind,.int .i64 x.fr,.int .i64 x.to,.int .i64 x.drops]] w (tm w (doM m x)):=by
 have HM:=lh h;have HLV:=lh h.at_.lenV;have HLA:=lh h.at_.lenA;have HLT:=lh h.at_.lenT;have hnv:=h.hv;have hna:=h.ha;have hnt:=h.ht;clear h;refine callsIn_of_wp Tryz.func46 rfl trivial ?_ rfl;simp only [Tryz.ntmps46,es,Nat.reduceAdd,Nat.reduceSub];gi_upto_region 1 with fail
 have Ly:=lh (Lay.three w 26 #[.int .i64 m.fountains,.slice Av nv cv,.slice Aa na ca,.slice At nt ct] 62 #[.int .i64 x.kind,.int .i64 x.fr,.int .i64 x.to,.int .i64 x.drops] 26 #[.int .i64 0,.slice none 0 0,.slice none 0 0,.slice none 0 0]);generalize (((w.alloc (.cells #[.int .i64 m.fountains,.slice Av nv cv,.slice Aa na ca,.slice At nt ct] 26)).alloc (.cells #[.int .i64 x.kind,.int .i64 x.fr,.int .i64 x.to,.int .i64 x.drops] 62)).alloc (.cells #[.int .i64 0,.slice none 0 0,.slice none 0 0,.slice none 0 0] 26))=w0 at *;obtain ⟨x0_0,x0_1,x0_2,x0_3⟩:=lyc4 Ly 0 rfl;have l0_:=Ly.out.lt 0 rfl;gi_wp2;clear x0_0 x0_1 x0_2 x0_3 l0_;refine ⟨trivial,(callsIn_wide.2 (mb Av nv cv Aa na ca At nt ct m w0 (HM.out.up Ly.out.1))).mono ?_⟩;rintro e W1 ⟨rfl,hb⟩;have HBC:=lh hb;replace Ly:=lyb Ly hb;clear hb
 cases hk:cu m with
 | false =>
  have HF:Hid (doM m x=(dS,40)):=lh (by unfold doM;rw [hk];rfl);rw [show eM m=40 from by unfold eM;rw [hk];rfl];clear hk;have x2_0:=lyc Ly 2 rfl 0;have z2_0:=lyf Ly 2 rfl 0;have x2_1:=lyc Ly 2 rfl 1;have z2_1:=lyf Ly 2 rfl 1;have x2_2:=lyc Ly 2 rfl 2;have z2_2:=lyf Ly 2 rfl 2;have x2_3:=lyc Ly 2 rfl 3;have z2_3:=lyf Ly 2 rfl 3;have l2_:=Ly.out.lt 2 rfl;gi_wp2;have R4:=ret4' (Ly.out.blk 2 rfl) Ly.out.1 (Ly.out.ge 2 rfl) (.int .i64 0) (.slice none 0 0) (.slice none 0 0) (.slice none 0 0);have v0:=R4.1.cell 0;have v1:=R4.1.cell 1;have v2:=R4.1.cell 2;have v3:=R4.1.cell 3;refine bodyPost_ret (v:=.tuple #[.agg #[.int .i64 0,.slice none 0 0,.slice none 0 0,.slice none 0 0],.int .i64 40]) (by simp [results,Tryz.results46,go_sem,v0,v1,v2,v3]) rfl ?_;rw [HF.out];exact ⟨none,0,0,none,0,0,none,0,0,rfl,di.nothing _ _,⟨by omega,by omega,by omega⟩,R4.2.1⟩
 | true =>
  have HK:=lh hk;have hlim:=cI hk;have hv4:nv≤4:=by have:=HLV.out;omega
  have ha12:na≤12:=by have:=HLA.out;omega
  have ht8:nt≤8:=by have:=HLT.out;omega
  clear hlim;rw [show eM m=0 from by unfold eM;rw [hk];rfl];clear hk;by_cases h12:na=12
  ·
   have HF:Hid (doM m x=(dS,9)):=lh (by unfold doM;rw [if_pos HK.out,if_pos (by rw [HLA.out];exact h12)]);have h12a:((na:Int)==12)=true:=by simp;omega
   have H12:=lh h12;clear h12;obtain ⟨x0_0,x0_1,x0_2,x0_3⟩:=lyc4 Ly 0 rfl;have l0_:=Ly.out.lt 0 rfl;have x2_0:=lyc Ly 2 rfl 0;have z2_0:=lyf Ly 2 rfl 0;have x2_1:=lyc Ly 2 rfl 1;have z2_1:=lyf Ly 2 rfl 1;have x2_2:=lyc Ly 2 rfl 2;have z2_2:=lyf Ly 2 rfl 2;have x2_3:=lyc Ly 2 rfl 3;have z2_3:=lyf Ly 2 rfl 3;have l2_:=Ly.out.lt 2 rfl;gi_wp2;have R4:=ret4' (Ly.out.blk 2 rfl) Ly.out.1 (Ly.out.ge 2 rfl) (.int .i64 0) (.slice none 0 0) (.slice none 0 0) (.slice none 0 0);have v0:=R4.1.cell 0;have v1:=R4.1.cell 1;have v2:=R4.1.cell 2;have v3:=R4.1.cell 3;refine bodyPost_ret (v:=.tuple #[.agg #[.int .i64 0,.slice none 0 0,.slice none 0 0,.slice none 0 0],.int .i64 9]) (by simp [results,Tryz.results46,go_sem,v0,v1,v2,v3]) rfl ?_;rw [HF.out];exact ⟨none,0,0,none,0,0,none,0,0,rfl,di.nothing _ _,⟨by omega,by omega,by omega⟩,R4.2.1⟩
  ·
   have h12a:((na:Int)==12)=false:=by simp;omega
   have HF:Hid (doM m x=if cu (ey m (m.acts++[x]))=true then (ey m (m.acts++[x]),0) else (dS,41)):=lh (by unfold doM;rw [if_pos HK.out,if_neg (by rw [HLA.out];exact h12)]);have H12:=lh h12;clear h12;obtain ⟨x0_0,x0_1,x0_2,x0_3⟩:=lyc4 Ly 0 rfl;have l0_:=Ly.out.lt 0 rfl;gi_wp2;clear x0_0 x0_1 x0_2 x0_3 l0_;have HBL:Hid (w.heap.size<W1.heap.size):=lh (Ly.out.lt 0 rfl);have HBS:=lh (Ly.out.1.size);have HBL1:=lh (Ly.out.lt 1 rfl);have HBL2:=lh (Ly.out.lt 2 rfl);refine ⟨trivial,(c_W (lP Av nv cv Aa na ca At nt ct m W1 (HM.out.up Ly.out.1))).mono ?_⟩;rintro e W2 ⟨A1,c1,A2,c2,A3,c3,rfl,hmo,hb⟩;have HCB:=lh hb.size;replace Ly:=lyb Ly hb;clear hb;have HMO:=lh hmo;clear hmo;have x0_0:=lyc Ly 0 rfl 0;have z0_0:=lyf Ly 0 rfl 0;have x0_1:=lyc Ly 0 rfl 1;have z0_1:=lyf Ly 0 rfl 1;have x0_2:=lyc Ly 0 rfl 2;have z0_2:=lyf Ly 0 rfl 2;have x0_3:=lyc Ly 0 rfl 3;have z0_3:=lyf Ly 0 rfl 3;have l0_:=Ly.out.lt 0 rfl;gi_upto_region 7 with fail
   have R4:=ret4' (Ly.out.blk 0 rfl) (Below.refl w.heap.size W2) n_R (.int .i64 m.fountains) (.slice A1 nv c1) (.slice A2 na c2) (.slice A3 nt c3);have hl:=iL Ly.out (fun b hb=>by simp only [List.mem_cons,List.not_mem_nil,or_false] at hb;rcases hb with rfl | rfl<;>simp<;>omega) R4.2.2 R4.1;have HMO2:=lh (HMO.out.off R4.2.2 HBL.out);have HSZ:=lh (Nat.le_trans HCB.out R4.2.2.size);clear x0_0 z0_0 x0_1 z0_1 x0_2 z0_2 x0_3 z0_3 l0_;generalize ((((W2.setCell ⟨w.heap.size,0,none⟩ (.int .i64 m.fountains)).setCell ⟨w.heap.size,1,none⟩ (.slice A1 nv c1)).setCell ⟨w.heap.size,2,none⟩ (.slice A2 na c2)).setCell ⟨w.heap.size,3,none⟩ (.slice A3 nt c3))=V3 at *;replace Ly:=lh hl;replace HMO:=HMO2;clear R4 HMO2 hl;have x0_0:=lyc Ly 0 rfl 0;have z0_0:=lyf Ly 0 rfl 0;have x0_1:=lyc Ly 0 rfl 1;have z0_1:=lyf Ly 0 rfl 1;have x0_2:=lyc Ly 0 rfl 2;have z0_2:=lyf Ly 0 rfl 2;have x0_3:=lyc Ly 0 rfl 3;have z0_3:=lyf Ly 0 rfl 3;have l0_:=Ly.out.lt 0 rfl;have a0:=lyc Ly 1 rfl 0;have a1:=lyc Ly 1 rfl 1;have a2:=lyc Ly 1 rfl 2;have a3:=lyc Ly 1 rfl 3;have al:=Ly.out.lt 1 rfl
   gi_wp2_with (first | (gi_at_builtin;refine cG rfl (.tmp 21) (.tmp 23) (by rfl) gR rfl (HMO.out.a.alloc (.cells #[.int .i64 x.kind,.int .i64 x.fr,.int .i64 x.to,.int .i64 x.drops] 62)) rfl (fg V3 62 x.vals rfl) (kO x) (by unfold maxLen;omega) (by omega) (by have:=HSZ.out;simp;omega) ?_) | fail)
   clear x0_0 z0_0 x0_1 z0_1 x0_2 z0_2 x0_3 z0_3 l0_;clear a0 a1 a2 a3 al;rintro A9 c9 V4 hown hg hA;have hrow:=dB HMO.out.a;have HLA2:=lh ((Ly.out.below (b_R.alloc n_R (.cells #[.int .i64 x.kind,.int .i64 x.fr,.int .i64 x.to,.int .i64 x.drops] 62))).row hg (fun r e=>⟨by have:=(hrow r e).1;have:=HBS.out;omega,fun b hb=>by have:=(hrow r e).1;have:=HBL1.out;have:=HBL2.out;have:=HBL.out;simp only [List.mem_cons,List.not_mem_nil,or_false] at hb;rcases hb with rfl | rfl | rfl<;>dsimp only<;>omega⟩));have HMO2:=lh ((HMO.out.below (b_R.alloc n_R (.cells #[.int .i64 x.kind,.int .i64 x.fr,.int .i64 x.to,.int .i64 x.drops] 62))).acts hg hown (by rw [World.size_alloc];exact hA));replace Ly:=HLA2;clear hown hg hA hrow HLA2;have x0_0:=lyc Ly 0 rfl 0;have z0_0:=lyf Ly 0 rfl 0;have x0_1:=lyc Ly 0 rfl 1;have z0_1:=lyf Ly 0 rfl 1;have x0_2:=lyc Ly 0 rfl 2;have z0_2:=lyf Ly 0 rfl 2;have x0_3:=lyc Ly 0 rfl 3;have z0_3:=lyf Ly 0 rfl 3;have l0_:=Ly.out.lt 0 rfl;gi_upto_region 8 with fail
   have hgs:=cC (row:=some w.heap.size) (cR V4 _) (p:=⟨w.heap.size,2,none⟩) (.inl rfl) (.slice A9 (na+1) c9);have hl:=iL Ly.out (fun b hb=>by simp only [List.mem_cons,List.not_mem_nil,or_false] at hb;rcases hb with rfl | rfl<;>simp<;>omega) hgs ((Ly.out.blk 0 rfl).set_ 2 (.slice A9 (na+1) c9));have HMO3:=lh (HMO2.out.off hgs HBL.out);clear x0_0 z0_0 x0_1 z0_1 x0_2 z0_2 x0_3 z0_3 l0_;generalize V4.setCell ⟨w.heap.size,2,none⟩ (.slice A9 (na+1) c9)=V5 at *;replace Ly:=lh (show Lay w V5 [(w.heap.size,26,#[.int .i64 m.fountains,.slice A1 nv c1,.slice A9 (na+1) c9,.slice A3 nt c3]),(w.heap.size+1,62,#[.int .i64 x.kind,.int .i64 x.fr,.int .i64 x.to,.int .i64 x.drops]),(w.heap.size+1+1,26,#[.int .i64 0,.slice none 0 0,.slice none 0 0,.slice none 0 0])] from hl);replace HMO:=HMO3;clear hgs hl HMO2 HMO3;obtain ⟨x0_0,x0_1,x0_2,x0_3⟩:=lyc4 Ly 0 rfl;have l0_:=Ly.out.lt 0 rfl;gi_wp2;clear x0_0 x0_1 x0_2 x0_3 l0_;refine ⟨trivial,(callsIn_wide.2 (mb A1 nv c1 A9 (na+1) c9 A3 nt c3 (ey m (m.acts++[x])) V5 (HMO.out.s hnv (by omega) hnt))).mono ?_⟩;rintro e W6 ⟨rfl,hb⟩;have HBC:=lh hb;replace Ly:=lyb Ly hb;clear hb
   cases hk:cu (ey m (m.acts++[x])) with
   | false =>
    rw [show eM (ey m (m.acts++[x]))=40 from by unfold eM;rw [hk];rfl];replace HF:Hid (doM m x=(dS,41)):=lh (by rw [HF.out,hk];rfl);clear hk HMO;have x2_0:=lyc Ly 2 rfl 0;have z2_0:=lyf Ly 2 rfl 0;have x2_1:=lyc Ly 2 rfl 1;have z2_1:=lyf Ly 2 rfl 1;have x2_2:=lyc Ly 2 rfl 2;have z2_2:=lyf Ly 2 rfl 2;have x2_3:=lyc Ly 2 rfl 3;have z2_3:=lyf Ly 2 rfl 3;have l2_:=Ly.out.lt 2 rfl;gi_wp2;have R4:=ret4' (Ly.out.blk 2 rfl) Ly.out.1 (Ly.out.ge 2 rfl) (.int .i64 0) (.slice none 0 0) (.slice none 0 0) (.slice none 0 0);have v0:=R4.1.cell 0;have v1:=R4.1.cell 1;have v2:=R4.1.cell 2;have v3:=R4.1.cell 3;refine bodyPost_ret (v:=.tuple #[.agg #[.int .i64 0,.slice none 0 0,.slice none 0 0,.slice none 0 0],.int .i64 41]) (by simp [results,Tryz.results46,go_sem,v0,v1,v2,v3]) rfl ?_;rw [HF.out];exact ⟨none,0,0,none,0,0,none,0,0,rfl,di.nothing _ _,⟨by omega,by omega,by omega⟩,R4.2.1⟩
   | true =>
    rw [show eM (ey m (m.acts++[x]))=0 from by unfold eM;rw [hk];rfl];replace HF:Hid (doM m x=(ey m (m.acts++[x]),0)):=lh (by rw [HF.out,hk];rfl);replace HMO:=lh (HMO.out.below HBC.out);clear hk;obtain ⟨x0_0,x0_1,x0_2,x0_3⟩:=lyc4 Ly 0 rfl;have l0_:=Ly.out.lt 0 rfl;have r0:=lyc Ly 2 rfl 0;have rz0:=lyf Ly 2 rfl 0;have r1:=lyc Ly 2 rfl 1;have rz1:=lyf Ly 2 rfl 1;have r2:=lyc Ly 2 rfl 2;have rz2:=lyf Ly 2 rfl 2;have r3:=lyc Ly 2 rfl 3;have rz3:=lyf Ly 2 rfl 3;have rl:=Ly.out.lt 2 rfl;gi_wp2;have R4:=ret4' (Ly.out.blk 2 rfl) Ly.out.1 (Ly.out.ge 2 rfl) (.int .i64 m.fountains) (.slice A1 nv c1) (.slice A9 (na+1) c9) (.slice A3 nt c3);have v0:=R4.1.cell 0;have v1:=R4.1.cell 1;have v2:=R4.1.cell 2;have v3:=R4.1.cell 3;refine bodyPost_ret (v:=.tuple #[.agg #[.int .i64 m.fountains,.slice A1 nv c1,.slice A9 (na+1) c9,.slice A3 nt c3],.int .i64 0]) (by simp [results,Tryz.results46,go_sem,v0,v1,v2,v3]) rfl ?_;rw [HF.out];exact ⟨_,_,_,_,_,_,_,_,_,rfl,(HMO.out.off R4.2.2 HBL2.out).mono HBS.out,⟨by omega,by omega,by omega⟩,R4.2.1⟩
end
section
open Go.RowKit
theorem gl {m:Mix}{l:List MAct}{A:List Held}(h:allM m l=some A)(hv:m.vessels.length≤4)(hz:ec m):∀ {t:Nat} {a:Held},A[t]? =some a→a.length=4∧∀ q:Nat,0≤au a q∧au a q≤12:=by
 intro t
 induction t with
 | zero=>intro a ha;rw [ij h] at ha;cases ha;exact ⟨rfl,fun q=>by
   match q with
   | 0=>decide
   | 1=>decide
   | 2=>decide
   | 3=>decide
   | q+4 =>
    have:au cQ ((q+4:Nat):Int)=0:=by
     unfold au;rw [List.getElem?_eq_none (by simp [cQ];omega)];rfl
    rw [this]
    decide⟩
 | succ t ih =>
  intro a ha;have hl:=dC m l A h
  have ht:t<l.length:=by
   have:=(g_E ha).1;omega
  obtain ⟨b,b',h1,h2,h3⟩:=fO h (List.getElem?_eq_getElem ht);rw [ha] at h2;cases h2;have:=ih h1;exact iH hv hz this.1 this.2 h3
structure TbOk (T:Tb):Prop where
 ok:cu T.m=true
 all:allM T.m T.m.acts=some T.L
section
variable {T:Tb} {x:MAct} {k:Nat}
theorem dh {m:Mix}(h:cu m=true):ec m:=by
 unfold cu at h;simp only [Bool.and_eq_true] at h;exact ke h.1.1.1.1.2
theorem TbOk.vess (h:TbOk T):T.m.vessels.length≤4:=(cI h.ok).1
theorem TbOk.acts (h:TbOk T):T.m.acts.length≤12:=(cI h.ok).2.1
theorem TbOk.long (h:TbOk T):T.L.length=T.m.acts.length+1:=dC _ _ _ h.all
structure jE (T:Tb)(k:Nat)(x:MAct)(all:Held):Prop where
 hx:T.m.acts[k]? =some x
 ha:T.L[k]? =some all
 ok:gv T.m all x
 len:all.length=4
 rng:∀ q:Nat,0≤au all q∧au all q≤12
 size:0≤cZ T.m all x∧cZ T.m all x≤2000
 four:x.kind=4→0≤cp T.m x
 apart:cp T.m x≠toI T.m x∨cp T.m x<0
 next:T.L[k+1]? =some (cE all (cp T.m x) (toI T.m x) (cZ T.m all x))
theorem TbOk.at_ (h:TbOk T)(hx:T.m.acts[k]? =some x):∃ all,jE T k x all:=by
 have hl:=h.long;have hk:=(g_E hx).1;obtain ⟨a,a',h1,h2,h3⟩:=fO h.all hx;have hr:=gl h.all h.vess (dh h.ok) h1;obtain ⟨h4,h5⟩:=mQ h.all h.vess hx h1;have h6:=eB h.vess (dh h.ok) ⟨hr.1,fun q=>by have:=hr.2 q;omega⟩ (by rw [h3];rfl);exact ⟨a,hx,h1,h4,hr.1,hr.2,⟨h6.1,h6.2.1⟩,h6.2.2.1,h6.2.2.2,h5⟩
end
theorem jE.kindOk {T:Tb}{k:Nat}{x:MAct}{all:Held}(h:jE T k x all):gj x:=h.ok.kind
end
section
open Go.RowKit Go.MapKept
open Go.ChangeMaps (setBlock heap_setBlock_other heap_setBlock_same)
open Go.Maps (Keyed)
set_option linter.unusedSectionVars false
structure kd (P:Program)(t k e:TypeId)(α β:Type)(encK:α→Value)(encV:β→Value)(ok:α→Prop)(zero:Value):Prop where
 und:P.underlying t=some (.map k e)
 keyed:Keyed P k
 reads:∀ x,ok x→∃ l,keyOf P k (encK x)=some l
 inj:∀ x y,encK x=encK y→x=y
 zero:∀ w,(zeroValue e).run P w = .ok zero w
def cV {α β:Type}(encK:α→Value)(encV:β→Value)(ok:α→Prop)(w:World)(r:Nat)(m:List (α × β)):Prop :=
 ∃ es clock,w.heap[r]? =some (.map es clock)∧es.toList.map (fun e=>(e.key,e.val))=m.map (fun p=>(encK p.1,encV p.2))∧Stamped es clock∧∀ p∈m,ok p.1
def look {α β:Type}[DecidableEq α](m:List (α × β))(x:α):Option β:=(m.find? fun p=>decide (p.1=x)).map Prod.snd
def put {α β:Type}[DecidableEq α](m:List (α × β))(x:α)(v:β):List (α × β) :=
 if m.any (fun p=>decide (p.1=x)) then m.map (fun p=>if p.1=x then (x,v) else p) else m++[(x,v)]
def cut {α β:Type}[DecidableEq α](m:List (α × β))(x:α):List (α × β):=m.filter fun p=>!decide (p.1=x)
section
variable {α β:Type} [DecidableEq α] {m:List (α × β)} {x y:α} {v:β}
theorem look_none:look m x=none↔∀ p∈m,p.1≠x:=by
 unfold look;simp [List.find?_eq_none]
theorem i8 (h:look m x=some v):(x,v)∈m:=by
 unfold look at h
 cases hf:m.find? (fun p=>decide (p.1=x)) with
 | none=>rw [hf] at h;cases h
 | some p =>
  rw [hf] at h;have h1:=List.find?_some hf;have h2:=List.mem_of_find?_eq_some hf;simp at h h1;obtain ⟨a,b⟩:=p;simp at h h1;subst h h1;exact h2
theorem nW (hn:(m.map Prod.fst).Nodup)(h:(x,v)∈m):look m x=some v:=by
 unfold look
 induction m with
 | nil=>simp at h
 | cons p m ih =>
  rw [List.map_cons,List.nodup_cons] at hn;rcases List.mem_cons.1 h with h | h
  ·subst h;simp
  ·have hne:p.1≠x:=fun e=>hn.1 (by rw [e];exact List.mem_map.2 ⟨_,h,rfl⟩)
   rw [List.find?_cons_of_neg (by simpa using hne)];exact ih hn.2 h
theorem qW:look (put m x v) y=if y=x then some v else look m y:=by
 unfold put;by_cases hany:m.any (fun p=>decide (p.1=x))=true
 ·rw [if_pos hany]
  induction m with
  | nil=>simp at hany
  | cons p m ih =>
   by_cases hp:p.1=x
   ·by_cases hy:y=x
    ·subst hy;simp [look,hp]
    ·rw [if_neg hy]
     by_cases hm:m.any (fun p=>decide (p.1=x))=true
     ·have:=ih hm
      rw [if_neg hy] at this;unfold look at this ⊢;rw [List.map_cons,if_pos hp,List.find?_cons_of_neg (by simpa using fun e=>hy e.symm),List.find?_cons_of_neg (by rw [hp];simpa using fun e=>hy e.symm)];exact this
     ·have hid:m.map (fun p=>if p.1=x then (x,v) else p)=m:=by
       have h1:m.map (fun p=>if p.1=x then (x,v) else p)=m.map id:=List.map_congr_left fun q hq=>by
        have:q.1≠x:=fun e=>hm (List.any_eq_true.2 ⟨q,hq,by simpa using e⟩);simp [this]
       simpa using h1
      unfold look;rw [List.map_cons,if_pos hp,hid,List.find?_cons_of_neg (by simpa using fun e=>hy e.symm),List.find?_cons_of_neg (by rw [hp];simpa using fun e=>hy e.symm)]
   ·have hm:m.any (fun p=>decide (p.1=x))=true:=by simpa [hp] using hany
    have:=ih hm;unfold look at this ⊢;rw [List.map_cons,if_neg hp];by_cases hpy:p.1=y
    ·rw [List.find?_cons_of_pos (by simpa using hpy),List.find?_cons_of_pos (by simpa using hpy),if_neg (fun e=>hp (hpy.trans e))]
    ·rw [List.find?_cons_of_neg (by simpa using hpy),List.find?_cons_of_neg (by simpa using hpy)]
     exact this
 ·rw [if_neg hany]
  have hno:∀ p∈m,p.1≠x:=fun p hp e=>hany (List.any_eq_true.2 ⟨p,hp,by simpa using e⟩);by_cases hy:y=x
  ·subst hy
   have hf:m.find? (fun p=>decide (p.1=y))=none:=by rw [List.find?_eq_none];simpa using hno
   unfold look;rw [List.find?_append,hf];simp
  ·rw [if_neg hy]
   unfold look;rw [List.find?_append];have hxy:¬ x=y:=fun e=>hy e.symm;have hl:[(x,v)].find? (fun p=>decide (p.1=y))=none:=by simp [hxy]
   rw [hl];simp
theorem gi {p:α × β}:p∈cut m x↔p∈m∧p.1≠x:=by unfold cut;simp
theorem jR {p:α × β}(h:p∈put m x v):p=(x,v)∨(p∈m∧p.1≠x):=by
 unfold put at h
 split at h
 ·obtain ⟨q,hq,rfl⟩:=List.mem_map.1 h
  by_cases e:q.1=x
  ·simp [e]
  ·simp [e];exact .inr hq
 ·rename_i hany
  rcases List.mem_append.1 h with h | h
  ·exact .inr ⟨h,fun e=>hany (List.any_eq_true.2 ⟨p,h,by simpa using e⟩)⟩
  ·left;simpa using h
end
section
variable {P:Program} {t k e:TypeId} {α β:Type} [DecidableEq α] {encK:α→Value} {encV:β→Value} {okK:α→Prop} {zero:Value}
variable {w w':World} {r:Nat} {m:List (α × β)}
theorem cV.lt (h:cV encK encV okK w r m):r<w.heap.size:=by
 obtain ⟨es,clock,hb,_⟩:=h;exact (Array.getElem?_eq_some_iff.1 hb).1
theorem cV.ok (h:cV encK encV okK w r m):∀ p∈m,okK p.1:=by
 obtain ⟨_,_,_,_,_,h⟩:=h;exact h
theorem cV.keep (h:cV encK encV okK w r m)(hb:w'.heap[r]? =w.heap[r]?):cV encK encV okK w' r m:=by
 obtain ⟨es,clock,h1,h2⟩:=h;exact ⟨es,clock,hb.trans h1,h2⟩
theorem cV.below {B:Nat}(h:cV encK encV okK w r m)(hb:Below B w w')(hr:r<B):cV encK encV okK w' r m:=h.keep (hb.block r hr)
theorem cV.alloc (h:cV encK encV okK w r m)(o:Obj):cV encK encV okK (w.alloc o) r m:=h.keep (Below.heap_alloc w o r h.lt)
theorem cV.grown {row:Option Nat}(h:cV encK encV okK w r m)(hg:w.grownBy w' row)(hne:some r≠row):cV encK encV okK w' r m:=h.keep (hg.block r h.lt hne)
theorem cV.drewN (h:cV encK encV okK w r m)(n:Nat):cV encK encV okK (w.drewN n) r m:=h
theorem cV.made (w:World):cV (β:=β) encK encV okK (w.alloc (.map #[] 0)) w.heap.size [] :=
 ⟨#[],0,heap_alloc_new w _,rfl,stamped_empty 0,by simp⟩
theorem cV.nodup (T:kd P t k e α β encK encV okK zero)(h:cV encK encV okK w r m):(m.map Prod.fst).Nodup:=by
 obtain ⟨es,clock,hb,hm,hs,hk⟩:=h;have hp:=((stamped_iff es clock).1 hs).2.2
 have h1:(es.toList.map (fun e=>(e.key,e.val))).Pairwise (fun p q=>p.1≠q.1):=by
  rw [List.pairwise_map];exact hp
 rw [hm,List.pairwise_map] at h1;rw [List.Nodup,List.pairwise_map];exact h1.imp fun {a b} hne e=>hne (by simp [e])
theorem cV.find (T:kd P t k e α β encK encV okK zero){es:Array MapEntry}(hm:es.toList.map (fun e=>(e.key,e.val))=m.map (fun p=>(encK p.1,encV p.2)))(hk:∀ p∈m,okK p.1){x:α}(hx:okK x) :
  ((Instr.findKey k (encK x) es.toList).run P w = .ok none w∧look m x=none∧∀ y∈es.toList,y.key≠encK x) ∨
  ∃ (j:Nat) (y:MapEntry) (v:β),(Instr.findKey k (encK x) es.toList).run P w = .ok (some (j,encV v)) w∧es.toList[j]? =some y∧y.key=encK x∧m[j]? =some (x,v):=by
 obtain ⟨l,hl⟩:=T.reads x hx
 have hkeys:∀ y∈es.toList,∃ l,keyOf P k y.key=some l:=by
  intro y hy;have:(y.key,y.val)∈m.map (fun p=>(encK p.1,encV p.2)):=by rw [← hm];exact List.mem_map.2 ⟨y,hy,rfl⟩
  obtain ⟨p,hp,he⟩:=List.mem_map.1 this;simp at he;rw [← he.1];exact T.reads _ (hk p hp)
 rcases T.keyed.find w hl es.toList hkeys with ⟨h1,h2⟩ | ⟨j,y,h1,h2,h3⟩
 ·refine .inl ⟨h1,look_none.2 fun p hp e=>?_,h2⟩
  have:(encK p.1,encV p.2)∈es.toList.map (fun e=>(e.key,e.val)):=by rw [hm];exact List.mem_map.2 ⟨p,hp,rfl⟩
  obtain ⟨y,hy,he⟩:=List.mem_map.1 this;simp at he;exact h2 y hy (by rw [he.1,e])
 ·have hj:(es.toList.map (fun e=>(e.key,e.val)))[j]? =some (y.key,y.val):=by rw [List.getElem?_map,h2];rfl
  rw [hm,List.getElem?_map] at hj
  cases hmj:m[j]? with
  | none=>rw [hmj] at hj;cases hj
  | some p =>
   rw [hmj] at hj;simp at hj;have hpx:p.1=x:=T.inj _ _ (hj.1.trans h3);refine .inr ⟨j,y,p.2,?_,h2,h3,?_⟩
   ·rw [h1,hj.2]
   ·rw [hmj,← hpx]
theorem cV.lookup (T:kd P t k e α β encK encV okK zero)(h:cV encK encV okK w r m){x:α}(hx:okK x)(co:Bool) :
  (Instr.lookup t (.map (some r)) (encK x) co).run P w = .ok (match look m x with | some v=>if co then .tuple #[encV v,.bool true] else encV v | none=>if co then .tuple #[zero,.bool false] else zero) w:=by
 obtain ⟨l,hl⟩:=T.reads x hx;have hn:=cV.nodup T h;obtain ⟨es,clock,hb,hm,hs,hk⟩:=h
 rcases cV.find (w:=w) T hm hk hx with ⟨h1,h2,_⟩ | ⟨j,y,v,h1,h2,h3,h4⟩
 ·rw [h2]
  cases co<;>simp [Instr.lookup,run_underlying T.und,MapKept.run_getObj_map hb,T.keyed.check w _ hl,h1,T.zero,Result.andThen]
 ·have hm':look m x=some v:=nW hn (List.mem_of_getElem? h4)
  rw [hm'];cases co<;>simp [Instr.lookup,run_underlying T.und,MapKept.run_getObj_map hb,T.keyed.check w _ hl,h1,Result.andThen]
theorem cY {es:Array MapEntry}{clock:Nat}(hb:w.heap[r]? =some (.map es clock))(o:Obj):w.grownBy (setBlock w r o) (some r)∧(setBlock w r o).heap.size=w.heap.size :=
 ⟨⟨rfl,rfl,rfl,by simp [setBlock],fun i _ hi=>heap_setBlock_other hb o (fun e=>hi (by rw [e]))⟩,by simp [setBlock]⟩
theorem nb {γ:Type}{l:List γ}{m:List (α × β)}{f:γ→Value × Value}(h:l.map f=m.map (fun p=>(encK p.1,encV p.2))):l.length=m.length:=by
 have:=congrArg List.length h;simpa using this
theorem cV.update (T:kd P t k e α β encK encV okK zero)(h:cV encK encV okK w r m){x:α}(hx:okK x)(v:β) :
  ∃ w',(Instr.mapUpdate t (.map (some r)) (encK x) (encV v)).run P w = .ok () w'∧cV encK encV okK w' r (put m x v)∧w.grownBy w' (some r)∧w'.heap.size=w.heap.size:=by
 obtain ⟨l,hl⟩:=T.reads x hx;have hn:=cV.nodup T h;obtain ⟨es,clock,hb,hm,hs,hk⟩:=h
 rcases cV.find (w:=w) T hm hk hx with ⟨h1,h2,h3⟩ | ⟨j,y,v0,h1,h2,h3,h4⟩
 ·refine ⟨setBlock w r (.map (es.push ⟨encK x,encV v,clock⟩) (clock+1)),?_,⟨_,_,heap_setBlock_same hb _,?_,stamped_push hs h3,?_⟩,(cY hb _).1,(cY hb _).2⟩
  ·simp [Instr.mapUpdate,run_underlying T.und,MapKept.run_getObj_map hb,T.keyed.check w false hl,h1,MapKept.run_setObj_map _ hb,Result.andThen,setBlock]
  ·have hany:¬ m.any (fun p=>decide (p.1=x))=true:=by
    intro ha;obtain ⟨p,hp,he⟩:=List.any_eq_true.1 ha;exact look_none.1 h2 p hp (by simpa using he)
   unfold put;rw [if_neg hany,Array.toList_push,List.map_append,hm,List.map_append];rfl
  ·intro p hp
   rcases jR hp with rfl | ⟨hp,_⟩
   ·exact hx
   ·exact hk p hp
 ·have hjl:j<es.toList.length:=(g_E h2).1
  have hjs:j<es.size:=by simpa using hjl
  have hes:es[j]? =some y:=by rw [← Array.getElem?_toList];exact h2
  have hany:m.any (fun p=>decide (p.1=x))=true:=List.any_eq_true.2 ⟨(x,v0),List.mem_of_getElem? h4,by simp⟩;refine ⟨setBlock w r (.map (es.modify j fun e=>{ e with key:=encK x,val:=encV v }) clock),?_,⟨_,_,heap_setBlock_same hb _,?_,?_,?_⟩,(cY hb _).1,(cY hb _).2⟩
  ·simp [Instr.mapUpdate,run_underlying T.und,MapKept.run_getObj_map hb,T.keyed.check w false hl,h1,MapKept.run_setObj_map _ hb,Result.andThen,setBlock,hes,h3,T.keyed.stays w hl]
  ·unfold put
   rw [if_pos hany]
   apply List.ext_getElem?
   intro i;have hi:((es.toList.map (fun e=>(e.key,e.val)))[i]?)=(m.map (fun p=>(encK p.1,encV p.2)))[i]? :=by rw [hm]
   rw [List.getElem?_map,List.getElem?_map] at hi;rw [List.getElem?_map,List.getElem?_map,List.getElem?_map,Array.getElem?_toList,Array.getElem?_modify];rw [Array.getElem?_toList] at hi;by_cases hij:j=i
   ·subst hij
    rw [if_pos rfl,hes,h4];simp
   ·rw [if_neg hij,hi]
    cases hmi:m[i]? with
    | none=>rfl
    | some p =>
     have hpx:p.1≠x:=by
      intro e1
      apply hij
      have h5:(m.map Prod.fst)[j]? =some x:=by rw [List.getElem?_map,h4];rfl
      have h6:(m.map Prod.fst)[i]? =some x:=by rw [List.getElem?_map,hmi,← e1];rfl
      have h7:j<(m.map Prod.fst).length:=(g_E h5).1;exact (List.getElem?_inj h7 hn).1 (h5.trans h6.symm)
     simp [hpx]
  ·exact stamped_modify hs j _ (fun _ _=>rfl) (fun e' he' hj'=>by
    have:e'=y:=Option.some.inj (hj'.symm.trans hes)
    rw [this];exact h3.symm)
  ·intro p hp
   rcases jR hp with rfl | ⟨hp,_⟩
   ·exact hx
   ·exact hk p hp
theorem cV.delete_ (T:kd P t k e α β encK encV okK zero)(h:cV encK encV okK w r m){x:α}(hx:okK x)(ty:TypeId) :
  ∃ w',(Builtin.delete_ #[t,k] ty #[.map (some r),encK x]).run P w = .ok (.tuple #[]) w'∧cV encK encV okK w' r (cut m x)∧w.grownBy w' (some r)∧w'.heap.size=w.heap.size:=by
 obtain ⟨l,hl⟩:=T.reads x hx;have hn:=cV.nodup T h;obtain ⟨es,clock,hb,hm,hs,hk⟩:=h
 rcases cV.find (w:=w) T hm hk hx with ⟨h1,h2,h3⟩ | ⟨j,y,v0,h1,h2,h3,h4⟩
 ·refine ⟨setBlock w r (.map es clock),?_,⟨_,_,heap_setBlock_same hb _,?_,hs,fun p hp=>hk p (gi.1 hp).1⟩,(cY hb _).1,(cY hb _).2⟩
  ·simp [Builtin.delete_,run_underlying T.und,MapKept.run_getObj_map hb,T.keyed.check w _ hl,h1,MapKept.run_setObj_map _ hb,Result.andThen,setBlock]
  ·rw [hm]
   congr 1
   unfold cut;refine (List.filter_eq_self.2 fun p hp=>?_).symm;simpa using look_none.1 h2 p hp
 ·have hjl:j<es.toList.length:=(g_E h2).1
  have hjs:j<es.size:=by simpa using hjl
  have hsub:(es.eraseIdxIfInBounds j).toList=es.toList.eraseIdx j:=by
   unfold Array.eraseIdxIfInBounds;rw [dif_pos hjs];simp
  refine ⟨setBlock w r (.map (es.eraseIdxIfInBounds j) clock),?_,⟨_,_,heap_setBlock_same hb _,?_,stamped_erase hs j,fun p hp=>hk p (gi.1 hp).1⟩,(cY hb _).1,(cY hb _).2⟩
  ·simp [Builtin.delete_,run_underlying T.und,MapKept.run_getObj_map hb,T.keyed.check w _ hl,h1,MapKept.run_setObj_map _ hb,Result.andThen,setBlock]
  ·rw [hsub,Go.ChangeMaps.map_eraseIdx,hm,← Go.ChangeMaps.map_eraseIdx]
   congr 1
   unfold cut;exact (erase_cut hn h4).symm
 where
 erase_cut {m:List (α × β)} {x:α} {v0:β} {j:Nat} (hn:(m.map Prod.fst).Nodup) (h4:m[j]? =some (x,v0)):(m.filter fun p=>!decide (p.1=x))=m.eraseIdx j:=by
  induction m generalizing j with
  | nil=>simp at h4
  | cons p m ih =>
   rw [List.map_cons,List.nodup_cons] at hn
   cases j with
   | zero =>
    simp at h4;subst h4
    have:(m.filter fun p=>!decide (p.1=x))=m:=List.filter_eq_self.2 fun q hq=>by
     have:q.1≠x:=fun e=>hn.1 (List.mem_map.2 ⟨q,hq,e⟩);simpa using this
    simp [this]
   | succ j =>
    have hne:p.1≠x:=fun e=>hn.1 (List.mem_map.2 ⟨(x,v0),List.mem_of_getElem? (by simpa using h4),e.symm⟩);rw [List.filter_cons_of_pos (by simpa using hne),ih hn.2 (by simpa using h4)];rfl
end
end
section
open Go.RowKit Go.MapKept
open Go.ChangeMaps (setBlock heap_setBlock_other heap_setBlock_same)
open Go.Maps (Keyed)
set_option linter.unusedSectionVars false
def cL {α β:Type}(encK:α→Value)(encV:β→Value)(okK:α→Prop)(w:World)(it r:Nat)(m left:List (α × β)):Prop :=
 ∃ es clock since seen c0,w.heap[r]? =some (.map es clock)∧es.toList.map (fun e=>(e.key,e.val))=m.map (fun p=>(encK p.1,encV p.2))∧Stamped es clock∧(∀ p∈m,okK p.1) ∧
  w.heap[it]? =some (.mapIter (some r) since seen c0)∧(∀ x∈es.toList,x.born<since)∧since≤c0∧since≤clock∧(leftOf es seen).toList.map (fun e=>(e.key,e.val))=left.map (fun p=>(encK p.1,encV p.2))
theorem mz {γ:Type}(f:γ→Nat){l:List γ}{i:Nat}{e:γ}(hn:(l.map f).Nodup)(h:l[i]? =some e):(l.filter fun y=>!(f y==f e))=l.eraseIdx i:=by
 induction l generalizing i with
 | nil=>simp at h
 | cons p l ih =>
  rw [List.map_cons,List.nodup_cons] at hn
  cases i with
  | zero =>
   simp at h;subst h
   have:(l.filter fun y=>!(f y==f p))=l:=List.filter_eq_self.2 fun q hq=>by
    have:f q≠f p:=fun e=>hn.1 (List.mem_map.2 ⟨q,hq,e⟩);simpa using this
   simp [this]
  | succ i =>
   have hne:f p≠f e:=fun e'=>hn.1 (List.mem_map.2 ⟨e,List.mem_of_getElem? (by simpa using h),e'.symm⟩);rw [List.filter_cons_of_pos (by simpa using hne),ih hn.2 (by simpa using h)];rfl
theorem pJ (es:Array MapEntry)(seen:Array Nat)(b:Nat):(leftOf es (seen.push b)).toList=(leftOf es seen).toList.filter fun y=>!(y.born==b):=by
 unfold leftOf;simp only [Array.toList_filter,List.filter_filter]
 congr 1
 funext y
 simp only [Array.contains_push];cases seen.contains y.born<;>cases hb:(y.born==b)<;>simp_all
section
variable {P:Program} {t k e:TypeId} {α β:Type} [DecidableEq α] {encK:α→Value} {encV:β→Value} {okK:α→Prop} {zero:Value}
variable {w w':World} {r it:Nat} {m left:List (α × β)}
theorem cL.map (h:cL encK encV okK w it r m left):cV encK encV okK w r m:=by
 obtain ⟨es,clock,since,seen,c0,h1,h2,h3,h4,_⟩:=h;exact ⟨es,clock,h1,h2,h3,h4⟩
theorem cL.lt (h:cL encK encV okK w it r m left):it<w.heap.size:=by
 obtain ⟨es,clock,since,seen,c0,_,_,_,_,h5,_⟩:=h;exact (Array.getElem?_eq_some_iff.1 h5).1
theorem cL.ne (h:cL encK encV okK w it r m left):it≠r:=by
 obtain ⟨es,clock,since,seen,c0,h1,_,_,_,h5,_⟩:=h;intro e;rw [e,h1] at h5;cases h5
theorem cL.keep (h:cL encK encV okK w it r m left)(hb:w'.heap[r]? =w.heap[r]?)(hi:w'.heap[it]? =w.heap[it]?):cL encK encV okK w' it r m left:=by
 obtain ⟨es,clock,since,seen,c0,h1,h2,h3,h4,h5,h6⟩:=h;exact ⟨es,clock,since,seen,c0,hb.trans h1,h2,h3,h4,hi.trans h5,h6⟩
theorem cL.below {B:Nat}(h:cL encK encV okK w it r m left)(hb:Below B w w')(hr:r<B)(hi:it<B):cL encK encV okK w' it r m left:=h.keep (hb.block r hr) (hb.block it hi)
theorem cL.grown {row:Option Nat}(h:cL encK encV okK w it r m left)(hg:w.grownBy w' row)(hr:some r≠row)(hi:some it≠row):cL encK encV okK w' it r m left:=h.keep (hg.block r h.map.lt hr) (hg.block it h.lt hi)
theorem cV.range {t k e:TypeId}(ht:P.underlying t=some (.map k e))(h:cV encK encV okK w r m) :
  ∃ w',(Instr.range t (.map (some r))).run P w = .ok (.pointer (some ⟨w.heap.size,0,none⟩)) w'∧cL encK encV okK w' w.heap.size r m m∧w.grownBy w' none∧w'.heap.size=w.heap.size+1:=by
 have hlt:=h.lt;obtain ⟨es,clock,hb,hm,hs,hk⟩:=h;refine ⟨_,run_range_map w t k e r es clock ht hb,⟨es,clock,clock,#[],clock,(Below.heap_alloc w _ r hlt).trans hb,hm,hs,hk,heap_alloc_new w _,((stamped_iff es clock).1 hs).1,n_R,n_R,?_⟩,World.grownBy_alloc w _ none,by simp⟩
 have:(leftOf es #[]).toList=es.toList:=by
  unfold leftOf;rw [Array.toList_filter];exact List.filter_eq_self.2 fun _ _=>by simp
 rw [this];exact hm
theorem cL.next (h:cL encK encV okK w it r m left)(ty:TypeId) :
  (left=[]∧(Instr.next (.pointer (some ⟨it,0,none⟩)) false ty).run P w = .ok (.tuple #[.bool false]) w) ∨
  ∃ i p w',left[i]? =some p∧(Instr.next (.pointer (some ⟨it,0,none⟩)) false ty).run P w = .ok (.tuple #[.bool true,encK p.1,encV p.2]) w'∧cL encK encV okK w' it r m (left.eraseIdx i)∧w.grownBy w' (some it)∧w'.heap.size=w.heap.size ∧
   (Instr.entry (.pointer (some ⟨it,0,none⟩))).run P w' = .ok (.tuple #[encK p.1,encV p.2]) w':=by
 have hne:=h.ne;obtain ⟨es,clock,since,seen,c0,hb,hm,hs,hk,hi,hold,hsc,hsk,hl⟩:=h;have hst:=(stamped_iff es clock).1 hs
 rcases run_next_at (P:=P) w ty it r since c0 seen es clock hi hb hold hsc with ⟨h0,hrun⟩ | ⟨e0,he,w1,hal,hrun⟩
 ·refine .inl ⟨?_,hrun⟩
  have:(leftOf es seen).toList=[]:=List.eq_nil_of_length_eq_zero (by simpa using h0);rw [this] at hl;simpa using hl.symm
 ·obtain ⟨i,hj⟩:=List.getElem?_of_mem he
  have hli:(left.map (fun p=>(encK p.1,encV p.2)))[i]? =some (e0.key,e0.val):=by rw [← hl,List.getElem?_map,hj];rfl
  rw [List.getElem?_map] at hli
  cases hlp:left[i]? with
  | none=>rw [hlp] at hli;cases hli
  | some p =>
   rw [hlp] at hli;simp at hli
   have hem:e0∈es.toList:=by
    unfold leftOf at he;simp at he;simpa using he.1
   have hi1:w1.heap[it]? =some (.mapIter (some r) since seen c0):=by rcases hal with rfl | rfl<;>exact hi
   have hb1:w1.heap[r]? =some (.map es clock):=by rcases hal with rfl | rfl<;>exact hb
   have hset:=heap_set (o':=.mapIter (some r) since (seen.push e0.born) clock) hi1;have hb':(setBlock w1 it (.mapIter (some r) since (seen.push e0.born) clock)).heap[r]? =some (.map es clock):=(hset.2 r (fun e1=>hne e1.symm)).trans hb1
   have hsub:((leftOf es seen).toList.map (·.born)).Nodup:=by
    unfold leftOf;rw [Array.toList_filter];exact hst.2.1.sublist (List.filter_sublist.map _)
   refine .inr ⟨i,p,_,hlp,by rw [hrun,hli.1,hli.2],⟨es,clock,since,seen.push e0.born,clock,hb',hm,hs,hk,hset.1,hold,hsk,hsk,?_⟩,?_,?_,?_⟩
   ·rw [pJ,mz (·.born) hsub hj,Go.ChangeMaps.map_eraseIdx,hl,← Go.ChangeMaps.map_eraseIdx]
   ·rcases hal with rfl | rfl<;>exact ⟨rfl,rfl,rfl,by simp [setBlock],fun i _ hi=>hset.2 i (fun e1=>hi (by rw [e1]))⟩
   ·rcases hal with rfl | rfl<;>simp [setBlock]
   ·rw [run_entry_at _ it r since seen es clock e0 hset.1 hb' hem hst.2.1,hli.1,hli.2]
end
end
section
open Go.RowKit Go.MapKept Go.Shelf
open Go.Maps (Keyed)
set_option linter.unusedSectionVars false
def fB (w:World)(it:Nat):Nat:=match w.heap[it]? with
 | some (.mapIter (some r) _ seen _)=>match w.heap[r]? with
  | some (.map es _)=>(leftOf es seen).size
  | _=>0
 | _=>0
section
variable {α β:Type} [DecidableEq α] {encK:α→Value} {encV:β→Value} {okK:α→Prop} {w w':World} {r it:Nat} {m left:List (α × β)}
theorem cL.left_eq (h:cL encK encV okK w it r m left):fB w it=left.length:=by
 obtain ⟨es,clock,since,seen,c0,hb,hm,hs,hk,hi,hold,hsc,hsk,hl⟩:=h;unfold fB;simp only [hi,hb];have:=congrArg List.length hl;simpa using this
theorem cL.walks (h:cL encK encV okK w it r m left)(hk:KeepsWalks w w'):cL encK encV okK w' it r m left:=by
 obtain ⟨es,clock,since,seen,c0,hb,hm,hs,hkk,hi,rest⟩:=h;exact ⟨es,clock,since,seen,c0,hk.same r _ hb rfl,hm,hs,hkk,hk.same it _ hi rfl,rest⟩
theorem cV.walks (h:cV encK encV okK w r m)(hk:KeepsWalks w w'):cV encK encV okK w' r m:=by
 obtain ⟨es,clock,hb,rest⟩:=h;exact ⟨es,clock,hk.same r _ hb rfl,rest⟩
theorem cL.alloc (h:cL encK encV okK w it r m left)(o:Obj):cL encK encV okK (w.alloc o) it r m left:=h.walks (KeepsWalks.alloc w o)
end
theorem dZ {α:Type}:∀ {l:List α} {i:Nat} {x:α},l[i]? =some x→(x::l.eraseIdx i).Perm l
 | [],i,x,h=>by simp at h
 | y::l,0,x,h=>by simp at h;subst h;simp
 | y::l,i+1,x,h=>by
  have:=dZ (l:=l) (i:=i) (x:=x) (by simpa using h);rw [List.eraseIdx_cons_succ];exact (List.Perm.swap y x _).trans (this.cons y)
end
end Go.Proofs.YthofngceiecniaaGreat
