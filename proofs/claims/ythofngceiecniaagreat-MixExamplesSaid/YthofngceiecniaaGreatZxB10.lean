/- Part 10 of the texts of this claim, joined. -/
import Derived.RangeFuncNested
import Derived.Sort.CutIn
import Derived.Sort.WalkA
import Derived.Sort.OwnSortedInts
import Derived.Shelf.SlSortCmp.InsertionK
import Derived.Ground.SlsfProg
import Derived.Test.YthofngceiecniaaGreatZxB9
set_option linter.unusedVariables false
/- mix.first over ways: the first one by their order, whatever function yields them. -/
namespace Go.Proofs.YthofngceiecniaaGreat
set_option maxHeartbeats 16000000
set_option maxRecDepth 100000
open Go.RowKit Go.Shelf
attribute [local go_sem] Oper.semAt_some
theorem ti {W W':World}{B n:Nat}{A:Option Addr}{l:List Int}(h:du W B A n l)(hk:∀ (b:Nat) cs t fr,W.heap[b]? =some (.cells cs t fr)→b<B→W'.heap[b]? =some (.cells cs t fr)):du W' B A n l:=by
 refine ⟨h.1,fun hn=>?_⟩;obtain ⟨ad,e,hb,hc⟩:=h.2 hn;refine ⟨ad,e,hb,fun j u hu=>?_⟩;have h1:=hc j u hu;obtain ⟨o,ho,hcell⟩:=cells_of_cell h1;rw [← h1];refine World.cell?_of_block ?_;rw [ho];cases o<;>simp [Obj.isCells] at hcell;exact hk _ _ _ _ ho (by rw [ii];exact hb)
theorem fz.drew {B:Nat}{w:World}{ds:List Deferred}(h:fz B w ds):fz B w.drew ds:=h.keep fun _ _ _ _ h0=>h0
theorem jw {B:Nat}{W W':World}{A:Option Addr}{n:Nat}{l:List Int}(h:du W W.heap.size A n l)(hs:Shut B W W'):du W' W'.heap.size A n l :=
 (ti h (fun b cs ty fr hb _=>hs.cells _ _ _ _ hb)).more hs.below.size
abbrev sA:Wy:=⟨[],none,0,0⟩
def Wy.at_ (x:Wy)(w:World):Prop:=du w w.heap.size x.A x.n x.l∧x.n≤13
theorem Wy.at_.below {x:Wy}{w w':World}(h:x.at_ w)(hb:Below w.heap.size w w'):x.at_ w':=⟨(h.1.below hb).more hb.size,h.2⟩
def pf (w:World)(S:List Wy→Prop)(e:Ending)(w':World):Prop :=
 ∃ xs,S xs∧Below w.heap.size w w'∧∃ b:Option Wy,(xs.map Wy.l).foldl jy none=b.map Wy.l∧e = .returned (.tuple #[(b.getD sA).val,.bool b.isSome])∧∀ x,b=some x→x.at_ w'∧∀ a,x.A=some a→w.heap.size+3≤a.block
structure FwSt (w:World)(b:Option Wy)(S:Nat)(W:World):Prop where
 bel:Below w.heap.size w W
 ord:Blk W w.heap.size 146 #[.func (.func 80) #[] #[]]
 best:Blk W (w.heap.size+1) 34 #[(b.getD sA).val]
 fnd:Blk W (w.heap.size+1+1) 4 #[.bool b.isSome]
 sz:S≤W.heap.size
 at_:∀ x,b=some x→x.at_ W
 safe:∀ x,b=some x→∀ a,x.A=some a→S≤a.block
section
variable {w W W':World} {b:Option Wy} {S:Nat}
theorem FwSt.below (h:FwSt w b S W)(hb:Below W.heap.size W W'):FwSt w b S W' :=
 ⟨h.bel.trans (hb.mono h.bel.size),h.ord.below hb h.ord.lt,h.best.below hb h.best.lt,h.fnd.below hb h.fnd.lt,Nat.le_trans h.sz hb.size,fun x e=>(h.at_ x e).below hb,h.safe⟩
theorem FwSt.shut (h:FwSt w b S W)(hs:Shut S W W')(hS:w.heap.size≤S):FwSt w b S W' :=
 ⟨h.bel.trans (hs.below.mono hS),hs.blk h.ord,hs.blk h.best,hs.blk h.fnd,Nat.le_trans h.sz hs.below.size,fun x e=>⟨jw (h.at_ x e).1 hs,(h.at_ x e).2⟩,h.safe⟩
end
abbrev putW (W:World)(g g':Nat)(y:Wy):World:=(W.setCell ⟨g,0,none⟩ (.slice y.A y.n y.cap)).setCell ⟨g',0,none⟩ (.bool true)
theorem FwSt.put {w W:World}{b:Option Wy}{S:Nat}(h:FwSt w b S W)(y:Wy)(hS:w.heap.size+3≤S)(hy:y.at_ W)(hyr:∀ a,y.A=some a→S≤a.block) :
  FwSt w (some y) S (putW W (w.heap.size+1) (w.heap.size+1+1) y)∧KeepsFrom S W (putW W (w.heap.size+1) (w.heap.size+1+1) y)∧KpR w.heap.size S W (putW W (w.heap.size+1) (w.heap.size+1+1) y):=by
 have ko:KeepsOthers W (putW W (w.heap.size+1) (w.heap.size+1+1) y):=(KeepsOthers.setCell W _ _).trans (KeepsOthers.setCell _ _ _);have hb3:Blk (W.setCell ⟨w.heap.size+1,0,none⟩ (.slice y.A y.n y.cap)) (w.heap.size+1) 34 #[y.val]:=h.best.set_ 0 _;have ho3:=h.ord.far (p:=⟨w.heap.size+1,0,none⟩) (by simp) (.slice y.A y.n y.cap);have hf3:=h.fnd.far (p:=⟨w.heap.size+1,0,none⟩) (by simp) (.slice y.A y.n y.cap);refine ⟨⟨?_,ho3.far (p:=⟨w.heap.size+1+1,0,none⟩) (by simp;omega) _,hb3.far (p:=⟨w.heap.size+1+1,0,none⟩) (by simp) _,hf3.set_ 0 _,Nat.le_trans h.sz (by simp),?_,fun x e=>by cases e;exact hyr⟩,ko.from S,?_⟩
 ·exact (h.bel.setCell (p:=⟨w.heap.size+1,0,none⟩) (by simp) _).setCell (p:=⟨w.heap.size+1+1,0,none⟩) (by simp;omega) _
 ·intro x e
  cases e
  have g1:W.grownBy (W.setCell ⟨w.heap.size+1,0,none⟩ (.slice y.A y.n y.cap)) (some (w.heap.size+1)) :=
   eu (eY W _) (p:=⟨w.heap.size+1,0,none⟩) (.inl rfl) _
  have h1:=dv.grown hy.1 g1 n_R (fun a ha e=>by have:=hyr a ha;have:=Option.some.inj e;omega);have h2:=dv.grown (h1.more g1.size) (eu (eY _ (some (w.heap.size+1+1))) (p:=⟨w.heap.size+1+1,0,none⟩) (.inl rfl) (.bool true)) n_R (fun a ha e=>by have:=hyr a ha;have:=Option.some.inj e;omega);exact ⟨h2.more (by simp),hy.2⟩
 ·exact (KpR.setCell _ _ _ (by simp) (by simp;omega)).trans (KpR.setCell _ _ _ (by simp;omega) (by simp;omega))
theorem tQ (gf:Nat)(lb:Array Value)(S:List Wy→Prop)(w:World)(eg:∀ args w,(callFunc gf args).run Tryz.prog w = .ok (.enter gf args) w)
  (hseq:∀ w0,Below w.heap.size w w0→uN Fence.wide 8 Tryz.prog gf lb (fun x:Wy=>#[x.val]) (AtW w.heap.size w0.heap.size) (KpR w.heap.size w0.heap.size) S w0) :
  CallsIn Fence.wide 9 Tryz.prog 78 #[.func (.func gf) #[] lb,.func (.func 80) #[] #[]] w (pf w S):=by
 have HSQ:=lh hseq;have HEG:=lh eg;clear hseq eg;refine callsIn_of_wp_marks Tryz.func78 rfl trivial ?_ rfl;simp only [Tryz.ntmps78,es,Nat.reduceAdd,Nat.reduceSub];gi_wp2;have L0:=Lay.three w 146 #[.func (.func 80) #[] #[]] 34 #[.slice none 0 0] 4 #[.bool false];have z0:(((w.alloc (.cells #[.func (.func 80) #[] #[]] 146)).alloc (.cells #[.slice none 0 0] 34)).alloc (.cells #[.bool false] 4)).heap.size=w.heap.size+1+1+1:=by simp
 generalize (((w.alloc (.cells #[.func (.func 80) #[] #[]] 146)).alloc (.cells #[.slice none 0 0] 34)).alloc (.cells #[.bool false] 4))=w0 at *
 have F0:FwSt w none w0.heap.size w0:=⟨L0.1,L0.blk 0 rfl,L0.blk 1 rfl,L0.blk 2 rfl,n_R,(fun x e=>by cases e),fun x e=>by cases e⟩
 have hsq:=HSQ.out w0 L0.1;have hz0:w.heap.size+3≤w0.heap.size:=by omega
 clear L0 z0
 refine pL rfl (by omega) (gf:=gf) (lb:=lb) rfl trivial HEG.out hsq (fun h k=>KpR.trans h k) (fun W l o o' _ h h1 h2=>KpR.put W l o o' h h1 h2) (fun _=>rfl)
  (fun pre Wr=>∃ b,FwSt w b w0.heap.size Wr∧(pre.map Wy.l).foldl jy none=b.map Wy.l)
  (fm (fun s Wr h=>by obtain ⟨b,h,_⟩:=h;exact h.sz) (fun s Wr Wr' h hs=>by obtain ⟨b,h,h2⟩:=h;exact ⟨b,h.shut hs (by omega),h2⟩))
  (fun s A B h hb=>by obtain ⟨b,h,h2⟩:=h;exact ⟨b,h.below hb,h2⟩)
  ⟨none,F0,rfl⟩
  (fun y a' Wr=>w0.heap.size≤Wr.heap.size∧AtW w.heap.size w0.heap.size y Wr ∧
   a'={ tmps:=#[.func (.func gf) #[] lb,.func (.func 80) #[] #[],undef,.pointer (some ⟨w.heap.size,0,none⟩),.slice none 0 0,.bool false,.pointer (some ⟨w.heap.size+1,0,none⟩),.pointer (some ⟨w.heap.size+1+1,0,none⟩),y.val,.func (.func gf) #[] lb,y.val,undef,undef,undef,undef,undef,undef,undef,undef,undef,undef,undef,undef],defers:=[] })
  (fun y a'=>fm (fun _ Wr h=>h.1) (fun _ Wr Wr' h hs=>by obtain ⟨h1,h3,h4⟩:=h;exact ⟨Nat.le_trans h1 hs.below.size,⟨jw h3.1 hs,fun a ha=>⟨(h3.2.1 a ha).1,by obtain ⟨cs,hb⟩:=(h3.2.1 a ha).2;exact ⟨cs,hs.blk hb⟩⟩,h3.2.2⟩,h4⟩)) ?assign ?body ?done
 case assign =>
  rintro l' pre y Wr K ⟨b,hI,hB⟩ hat hK;gi_wp2;exact hK _ _ (fa b_R) (KpR.of_below b_R) ⟨b,hI,hB⟩ ⟨hI.sz,hat,rfl⟩
 case body =>
  rintro l' pre y a' Wr ⟨b,hI,hB⟩ ⟨hsz,hat,rfl⟩;have o0:=hI.ord.cell 0;have f0:=hI.fnd.cell 0;have f1:=hI.fnd.frozen 0;have x0:=hI.best.cell 0;have z0_:=hI.best.frozen 0;have HI:=lh hI;have HB:=lh hB;have HAT:=lh hat;have hyr:=lh (show ∀ a,y.A=some a→w0.heap.size≤a.block from fun a ha=>(hat.2.1 a ha).1);clear hI hB hat
  cases b with
  | none =>
   gi_wp2;refine ⟨fun _ h=>(by cases h),?_⟩;gi_wp2;have hp:=HI.out.put y (by omega) ⟨HAT.out.1,HAT.out.2.2⟩ hyr.out;refine ⟨hp.2.1,hp.2.2,some y,hp.1,?_⟩;rw [HB.out];rfl
  | some z =>
   have hcall:=qI y.A y.n y.cap y.l z.A z.n z.cap z.l Wr HAT.out.1 (HI.out.at_ z rfl).1 (by have:=HAT.out.2.2;omega) (by have:=(HI.out.at_ z rfl).2;omega)
   obtain ⟨cv,hcv⟩:∃ cv,cmpS y.l z.l=cv:=⟨_,rfl⟩
   rw [hcv] at hcall;have HC:=lh hcall;have HCV:=lh hcv;clear hcall hcv;gi_wp2;refine ⟨trivial,(CallsIn.inRound l' (callsIn_wide.2 HC.out)).mono ?_⟩;rintro e w1 ⟨rfl,hb1⟩;have HI1:=lh (HI.out.below hb1);have HA1:=lh (show y.at_ w1 from Wy.at_.below ⟨HAT.out.1,HAT.out.2.2⟩ hb1);have HB1:=lh hb1;clear o0 f0 f1 x0 z0_ hb1;have f0:=HI1.out.fnd.cell 0;have f1:=HI1.out.fnd.frozen 0;have x0:=HI1.out.best.cell 0;have z0_:=HI1.out.best.frozen 0;by_cases hlt:cv<0
   ·gi_wp2
    have hp:=HI1.out.put y (by omega) HA1.out hyr.out;refine ⟨(fa HB1.out).trans hp.2.1,(KpR.of_below HB1.out).trans hp.2.2,some y,hp.1,?_⟩;rw [HB.out]
    show jy (some z.l) y.l=some y.l
    unfold jy;simp only;rw [HCV.out,if_pos hlt]
   ·gi_wp2
    refine ⟨fa HB1.out,KpR.of_below HB1.out,some z,HI1.out,?_⟩;rw [HB.out]
    show jy (some z.l) y.l=some z.l
    unfold jy;simp only;rw [HCV.out,if_neg (by omega)]
 case done =>
  rintro D ys Wr hD hys ⟨b,hI,hB⟩ hK;have f0:=hI.fnd.cell 0;have x0:=hI.best.cell 0
  have hmk:fz w.heap.size Wr [{ target:=.collected D,args:=#[] }]:=⟨⟨D,by omega,rfl,hK,by simp⟩,trivial⟩
  have HMK:=lh hmk;have HBEL:=lh hI.bel;have HAT:=lh hI.at_;have HSF:=lh hI.safe;have HBB:=lh hB;clear hI hK hmk hB
  obtain ⟨bv,hbv⟩:∃ bv,b.getD sA=bv:=⟨_,rfl⟩
  rw [hbv] at x0;have HBV:=lh hbv;clear hbv;gi_wp2
  gi_region
  all_goals
   gi_wp2;refine j0 _ _ (fz.drew HMK.out) ?_;intro w' hs;refine ⟨.tuple #[bv.val,.bool b.isSome],?_,⟨ys,hys,(av HBEL.out 1).trans hs.below,b,HBB.out,by rw [HBV.out],fun x hx=>?_⟩⟩
   ·simp [results,Tryz.results78,go_sem]
   ·have h1:=HAT.out x hx
    exact ⟨⟨jw (dv.drewN h1.1 1) hs,h1.2⟩,fun a ha=>by have:=HSF.out x hx a ha;omega⟩
end Go.Proofs.YthofngceiecniaaGreat
namespace Go.Proofs.YthofngceiecniaaGreat
open Go.RowKit
def ld {α:Type}(F:Fence)(n:Nat)(P:Program)(g:Nat)(lb:Array Value)(encs:α→Array Value)(At:α→World→Prop)(Kp:World→World→Prop)(S:List α→Prop)(N:Nat)(w:World):Prop :=
 ∀ (l:Nat) (J:List α→World→Prop) (W:World),Below w.heap.size w W→(∀ s A B,J s A→Below A.heap.size A B→J s B) →
  (∀ pre x W1,J pre W1→pre.length<N→At x W1→YieldAt F (n - 1) P l (encs x) W1 fun e W'=>e = .returned (.bool true)∧J (pre++[x]) W'∧Kp W1 W') →
  J [] W→CallsIn F n P g (#[.func (.yield l) #[] #[]]++lb) W fun e W'=>(∃ v,e = .returned v)∧∃ xs,S xs∧J xs W'
theorem oF {α:Type}{F:Fence}{n:Nat}{P:Program}{g:Operand}{ps:Array Tmp}{assign body:Code}{Q:Exit→Act→World→Prop}{a:Act}{w:World}
  (hro:F.round=none) (h1:1≤n) {gf:Nat} {lb:Array Value} (hg:a.eval g = .func (.func gf) #[] lb) (hFg:F.fn gf) (eg:∀ args w,(callFunc gf args).run P w = .ok (.enter gf args) w)
  {encs:α→Array Value} {At:α→World→Prop} {Kp:World→World→Prop} {S:List α→Prop} {N:Nat} (hseq:ld F (n - 1) P gf lb encs At Kp S N w)
  (hKt:∀ {A B C:World},Kp A B→Kp B C→Kp A C) (hKb:∀ (W:World) (l:Nat) (o o':Obj),w.heap.size≤l→W.heap[l]? =some o→o.isCells=false→o.isWalk=false→Kp W (W.putObj l o')) (hps:∀ x,(encs x).size=ps.size)
  (I:List α→World→Prop) (hI:OwnFrom w.heap.size I) (hIB:∀ s A B,I s A→Below A.heap.size A B→I s B) (h0:I [] w) (Ax:α→Act→World→Prop) (hAx:∀ x a',OwnFrom w.heap.size (fun (_:Unit) W=>Ax x a' W))
  (hassign:∀ (l:Nat) (pre:List α) (x:α) (W:World) (K:Act→World→Prop),I pre W→At x W→(∀ a' W',KeepsFrom w.heap.size W W'→Kp W W'→I pre W'→Ax x a' W'→K a' W') →
   assign.wpIn (F.inRound l) (n - 1 - 1) P (Exit.then K (fun _ _ _=>False)) { tmps:=(ps.zip (encs x)).foldl (fun t (p,v)=>t.setIfInBounds p v) a.tmps,defers:=[] } W)
  (hbody:∀ (l:Nat) (pre:List α) (x:α) (a':Act) (W:World),I pre W→pre.length<N→Ax x a' W→body.wpIn (F.inRound l) (n - 1 - 1) P (fun e _ W3=>e = .normal∧KeepsFrom w.heap.size W W3∧Kp W W3∧I (pre++[x]) W3) a' W)
  (hdone:∀ (D:Nat) (xs:List α) (W:World),w.heap.size≤D→S xs→I xs W→W.heap[D]? =some (.deferred (some []))→Q .normal { a with defers:={ target:=.collected D,args:=#[] }::a.defers } W) :
  (Code.rangeFunc g ps assign body).wpIn F n P Q a w:=by
 refine wpIn_rangeFunc fun fn hfn=>?_;rw [hro]
 obtain ⟨rec,hrec⟩:∃ rec:LoopState→Loop,rec=fun st=>{ state:=st,pending:=none,fn,tmps:=a.tmps,params:=ps,assign,body,defers:=w.heap.size }:=⟨_,rfl⟩
 have e1:((w.alloc (.deferred (some []))).alloc (.loop (rec .ready))).heap[w.heap.size+1]? =some (.loop (rec .ready)):=by
  have h:=World.alloc_heap_new (w.alloc (.deferred (some []))) (.loop (rec .ready))
  rwa [World.size_alloc] at h
 have e0:((w.alloc (.deferred (some []))).alloc (.loop (rec .ready))).heap[w.heap.size]? =some (.deferred (some [])) :=
  (Below.heap_alloc _ _ _ (by simp)).trans (World.alloc_heap_new w _)
 have i1:=hI.alloc (.loop (rec .ready)) (hI.alloc (.deferred (some [])) h0);have b1:Below w.heap.size w ((w.alloc (.deferred (some []))).alloc (.loop (rec .ready))):=((Below.refl _ w).alloc n_R _).alloc (by simp) _;have z1:((w.alloc (.deferred (some []))).alloc (.loop (rec .ready))).heap.size=w.heap.size+1+1:=by simp
 have en:(Instr.enterLoop fn a.tmps ps assign body none).run P w = .ok (w.heap.size+1,[{ target:=.collected w.heap.size,args:=#[] }]) ((w.alloc (.deferred (some []))).alloc (.loop (rec .ready))):=by
  rw [hrec];exact run_enterLoop_outer _ _ _ _ _
 generalize (w.alloc (.deferred (some []))).alloc (.loop (rec .ready))=W0 at *
 refine ⟨w.heap.size+1,[{ target:=.collected w.heap.size,args:=#[] }],W0,{ target:=.fn (.func gf) lb,args:=#[.func (.yield (w.heap.size+1)) #[] #[]] },W0,gf,
  #[.func (.yield (w.heap.size+1)) #[] #[]]++lb,W0,en,?_,?_,?_,fun _=>h1,?_⟩
 ·simp only [resolve,hg]
  simp [go_sem]
 ·intro f hf
  simp [Target.leads] at hf;subst hf;exact hFg
 ·simp [invoke,go_sem,eg]
 ·refine (hseq (w.heap.size+1) (fun pre W=>I pre W∧W.heap[w.heap.size+1]? =some (.loop (rec .ready))∧W.heap[w.heap.size]? =some (.deferred (some []))) W0 b1
   (fun s A B hs hb=>⟨hIB s A B hs.1 hb,(hb.block _ (Array.getElem?_eq_some_iff.1 hs.2.1).1).trans hs.2.1,(hb.block _ (Array.getElem?_eq_some_iff.1 hs.2.2).1).trans hs.2.2⟩)
   ?_ ⟨i1,e1,e0⟩).mono ?_
  ·rintro pre x W ⟨hi,hl,hk⟩ hpn hat
   have hy:=run_yield (P:=P) (args:=encs x) hl (by rw [hrec];exact hps x);rw [hrec] at hy;refine ⟨fn,_,assign,body,hy,roundIn_of_wpIn hfn (hassign _ pre x W _ hi hat fun a' V kf kp hiV hax=>?_)⟩;have lV:=kf.same _ _ (Nat.le_succ _) hl rfl;have kV:=kf.same _ _ n_R hk rfl;have ltV:=(Array.getElem?_eq_some_iff.1 lV).1;refine ⟨_,run_beginRound lV (by rw [hrec]),?_⟩;have lU:(V.putObj (w.heap.size+1) (.loop { rec .ready with state:=.busy })).heap[w.heap.size+1]? =some (.loop { rec .ready with state:=.busy }):=World.putObj_heap_same ltV;have kU:(V.putObj (w.heap.size+1) (.loop { rec .ready with state:=.busy })).heap[w.heap.size]? =some (.deferred (some [])):=(World.putObj_heap_other (by omega)).trans kV;refine wpIn_mono (hbody _ pre x a' _ (hI.putObj _ hiV (Nat.le_succ _) lV rfl) hpn ((hAx x a').putObj (s:=()) _ hax (Nat.le_succ _) lV rfl)) ?_;rintro e a3 W3 ⟨rfl,kf3,kp3,hi3⟩;have l3:=kf3.same _ _ (Nat.le_succ _) lU rfl;have k3:=kf3.same _ _ n_R kU rfl;have er:=run_endRound (P:=P) none l3;refine ⟨_,_,er,rfl,⟨hI.putObj _ hi3 (Nat.le_succ _) l3 rfl,?_,(World.putObj_heap_other (by omega)).trans k3⟩,hKt kp (hKt (hKt (hKb _ _ _ _ (Nat.le_succ _) lV rfl rfl) kp3) (hKb _ _ _ _ (Nat.le_succ _) l3 rfl rfl))⟩;rw [World.putObj_heap_same (Array.getElem?_eq_some_iff.1 l3).1,hrec];rfl
  ·rintro e W2 ⟨⟨v,rfl⟩,xs,hS,hi,hl,hk⟩
   have el:=run_endLoop (P:=P) hl (by rw [hrec];simp);rw [hrec] at el;exact ⟨none,_,el,hdone _ xs _ n_R hS (hI.putObj _ hi (Nat.le_succ _) hl rfl) ((World.putObj_heap_other (by omega)).trans hk)⟩
theorem ld.plain {α:Type}{F:Fence}{n:Nat}{P:Program}{g:Nat}{lb:Array Value}{encs:α→Array Value}{At:α→World→Prop}{Kp:World→World→Prop}{S:List α→Prop}{N:Nat}{w:World}(h:ld F n P g lb encs At Kp S N w):uN F n P g lb encs At Kp S w :=
 fun l J W hW hJ hY h0=>h l J W hW hJ (fun pre x W1 h1 _ h2=>hY pre x W1 h1 h2) h0
end Go.Proofs.YthofngceiecniaaGreat
namespace Go.Proofs.YthofngceiecniaaGreat
open Go.RowKit Go.Shelf
attribute [local go_sem] Oper.semAt_some
theorem tC:(Tryz.prog.info? 34).map (fun i=>(i.zero,i.size,i.bytes))=some (some (.slice none 0 0),1,24):=by kernel_rfl
theorem my:jm Tryz.prog 45 34 (.slice none 0 0) 1 24:=by
 obtain ⟨i,hi,h0,h1,h2⟩:=info_parts tC;exact ⟨i,Tryz.underlying45,hi,h0,h1,h2,rfl,by decide⟩
theorem mX {W:World}{g:Nat}{x:Value}{B:Nat}(hB:g<B)(h:W.cell? ⟨g,0,none⟩=some x):dv W B 1 (some ⟨g,0,none⟩) 1 [x] :=
 ⟨rfl,fun _=>⟨_,rfl,hB,fun j u hu=>by
  match j,hu with
  | 0,hu=>simp at hu;rw [← hu];simpa [Addr.add] using h⟩⟩
theorem lK {w:World}{base n cap size:Nat}{e:TypeId}{A:Option Addr}{xs:List Value}(h:Own w base e size A n cap xs){p:Addr}(hp:p.block<base)(u:Value):Own (w.setCell p u) base e size A n cap xs:=by
 refine ⟨h.1,?_⟩
 rcases h.2 with h' | ⟨g,cap',cur,hv,hb,hg,hr⟩
 ·exact .inl h'
 ·exact .inr ⟨g,cap',cur,hv,hb,(Below.heap_setCell w p u g (by omega)).trans hg,hr⟩
theorem gP {w:World}{base n cap size:Nat}{e:TypeId}{A:Option Addr}{xs:List Value}(h:Own w base e size A n cap xs):∀ r,A.map (·.block)=some r→base≤r∧∃ cs,Blk w r e cs:=by
 intro r hr
 rcases h.form with ⟨rfl,_⟩ | ⟨g,cur,rfl,h2,hb,_⟩
 ·cases hr
 ·cases hr;exact ⟨h2,_,hb⟩
theorem KpR.of_row {n0 n1:Nat}{A C:World}{row:Option Nat}(h:A.grownBy C row)(hr:∀ r,row=some r→n0≤r∧∃ cs,Blk A r 34 cs):KpR n0 n1 A C :=
 ⟨h.size,fun k o hk ho _=>(h.block k (Array.getElem?_eq_some_iff.1 ho).1 (fun e=>by
  obtain ⟨h1,cs,hb⟩:=hr k e.symm
  rcases hk with hk | ⟨_,hk⟩
  ·omega
  ·unfold Blk at hb
   rw [hb] at ho;cases ho
   exact hk.1 rfl)).trans ho⟩
theorem oi {B:Nat}{W W':World}{row:Option Nat}(hg:W.grownBy W' row)(hr:∀ r,row=some r→∃ t cs,Blk W r t cs):KeepsFrom B W W' :=
 ⟨hg.size,fun k o _ hk hc=>(hg.block k (Array.getElem?_eq_some_iff.1 hk).1 (fun e=>by
  obtain ⟨t,cs,hb⟩:=hr k e.symm;unfold Blk at hb;rw [hb] at hk;cases hk
  cases hc)).trans hk⟩
theorem qm {B:Nat}{W W':World}{base n cap size:Nat}{e:TypeId}{A:Option Addr}{xs:List Value}(h2:Own W base e size A n cap xs)(hs:Shut B W W'):Own W' base e size A n cap xs:=by
 refine ⟨h2.1,?_⟩
 rcases h2.2 with h' | ⟨g,cap',cur,hv,hb,hg,hr⟩
 ·exact .inl h'
 ·exact .inr ⟨g,cap',cur,hv,hb,hs.cells _ _ _ _ hg,hr⟩
def Wy.own (n1:Nat)(x:Wy)(W:World):Prop:=x.at_ W∧Safe n1 W x.A
theorem Wy.own.below {n1:Nat}{x:Wy}{W W':World}(h:x.own n1 W)(hb:Below W.heap.size W W'):x.own n1 W':=⟨h.1.below hb,h.2.kp (n0:=0) (KpR.of_below hb)⟩
theorem Wy.own.kp {n0 n1:Nat}{x:Wy}{W W':World}(h:x.own n1 W)(hk:KpR n0 n1 W W'):x.own n1 W':=⟨⟨h.1.1.safe h.2 hk,h.1.2⟩,h.2.kp hk⟩
theorem Wy.own.shut {n1 B:Nat}{x:Wy}{W W':World}(h:x.own n1 W)(hs:Shut B W W'):x.own n1 W' :=
 ⟨⟨jw h.1.1 hs,h.1.2⟩,fun a ha=>⟨(h.2 a ha).1,by obtain ⟨cs,hb⟩:=(h.2 a ha).2;exact ⟨cs,hs.blk hb⟩⟩⟩
structure CoSt (w:World)(N:Nat)(pre:List Wy)(S:Nat)(B:Option Addr)(q:Nat)(Wr:World):Prop where
 blk:Blk Wr w.heap.size 45 #[.slice B pre.length q]
 own:Own Wr (w.heap.size+1) 34 1 B pre.length q (pre.map Wy.val)
 bel:Below w.heap.size w Wr
 sz:S≤Wr.heap.size
 len:pre.length≤N
 all:∀ x∈pre,x.own S Wr
inductive FrCo (v0 v1 v2 v5:Value):Act→Prop
 | mk (a b c d e f g h i:Value):FrCo v0 v1 v2 v5 ⟨#[v0,v1,v2,a,b,v5,c,d,e,f,g,h,i],[]⟩
def ll (w:World)(S:List Wy→Prop)(N:Nat)(e:Ending)(w':World):Prop :=
 ∃ xs B q,S xs∧xs.length≤N∧e = .returned (.slice B xs.length q)∧Own w' (w.heap.size+1) 34 1 B xs.length q (xs.map Wy.val)∧(∀ x∈xs,x.own (w.heap.size+1) w')∧Below w.heap.size w w'
theorem oE (gf:Nat)(lb:Array Value)(S:List Wy→Prop)(N:Nat)(w:World)(hN:N≤1000000)(eg:∀ args w,(callFunc gf args).run Tryz.prog w = .ok (.enter gf args) w)
  (hseq:∀ w0,Below w.heap.size w w0→ld Fence.wide 8 Tryz.prog gf lb (fun x:Wy=>#[x.val]) (AtW w.heap.size w0.heap.size) (KpR w.heap.size w0.heap.size) S N w0) :
  CallsIn Fence.wide 9 Tryz.prog 118 #[.slice none 0 0,.func (.func gf) #[] lb] w (ll w S N):=by
 have HSQ:=lh hseq;have HEG:=lh eg;clear hseq eg;refine callsIn_of_wp_marks Tryz.func118 rfl trivial ?_ rfl;simp only [Tryz.ntmps118,es,Nat.reduceAdd,Nat.reduceSub];gi_wp2;have B0:=Blk.new w 45 #[.slice none 0 0];have b0:Below w.heap.size w (w.alloc (.cells #[.slice none 0 0] 45)):=b_R.alloc n_R _;have z0:(w.alloc (.cells #[.slice none 0 0] 45)).heap.size=w.heap.size+1:=by simp
 generalize (w.alloc (.cells #[.slice none 0 0] 45))=w0 at *;have hsq:=HSQ.out w0 b0;have Z0:=lh z0;have hz0:w.heap.size+1≤w0.heap.size:=by omega
 clear z0
 refine oF rfl (by omega) (gf:=gf) (lb:=lb) rfl trivial HEG.out hsq (fun h k=>KpR.trans h k) (fun W l o o' _ h h1 h2=>KpR.put W l o o' h h1 h2) (fun _=>rfl)
  (fun pre Wr=>∃ B q,CoSt w N pre w0.heap.size B q Wr)
  (fm (fun s Wr h=>by obtain ⟨B,q,h⟩:=h;exact h.sz) (fun s Wr Wr' h hs=>by
   obtain ⟨B,q,h⟩:=h
   exact ⟨B,q,hs.blk h.blk,qm h.own hs,h.bel.trans (hs.below.mono b0.size),Nat.le_trans h.sz hs.below.size,h.len,fun x hx=>(h.all x hx).shut hs⟩))
  (fun s A C h hb=>by
   obtain ⟨B,q,h⟩:=h
   exact ⟨B,q,h.blk.below hb h.blk.lt,h.own.below hb n_R,h.bel.trans (hb.mono h.bel.size),Nat.le_trans h.sz hb.size,h.len,fun x hx=>(h.all x hx).below hb⟩)
  ⟨none,0,B0,Own.none_ _ _ _ _,b0,n_R,Nat.zero_le _,fun x hx=>by cases hx⟩
  (fun y a' Wr=>w0.heap.size≤Wr.heap.size∧AtW w.heap.size w0.heap.size y Wr∧FrCo (.slice none 0 0) (.func (.func gf) #[] lb) (.pointer (some ⟨w.heap.size,0,none⟩)) y.val a')
  (fun y a'=>fm (fun _ Wr h=>h.1) (fun _ Wr Wr' h hs=>by obtain ⟨h1,h3,h4⟩:=h;exact ⟨Nat.le_trans h1 hs.below.size,⟨jw h3.1 hs,fun a ha=>⟨(h3.2.1 a ha).1,by obtain ⟨cs,hb⟩:=(h3.2.1 a ha).2;exact ⟨cs,hs.blk hb⟩⟩,h3.2.2⟩,h4⟩)) ?assign ?body ?done
 case assign =>
  rintro l' pre y Wr K hI hat hK;gi_wp2;exact hK _ _ (KeepsFrom.refl _ _) (KpR.of_below b_R) hI ⟨by obtain ⟨B,q,h⟩:=hI;exact h.sz,hat,by constructor⟩
 case body =>
  rintro l' pre y a' W ⟨B,q,hI⟩ hpn ⟨hsz,hat,ha'⟩;cases ha';obtain ⟨yl,yA,yn,yc⟩:=y;have c0:=hI.blk.cell 0;have c1:=hI.blk.frozen 0;have hs1:=hI.blk.lt;have HI:=lh hI;have HAT:=lh hat;have HLN:=lh hpn;have HOW:=lh (hI.own.alloc (.cells #[.slice yA yn yc] 34));have HOB:Hid (Blk (W.alloc (.cells #[.slice yA yn yc] 34)) W.heap.size 34 #[.slice yA yn yc]):=lh (Blk.new _ _ _);clear hI hat hpn;dsimp only [Wy.val] at *
  gi_wp2_with (first | (gi_at_builtin;refine eJ rfl (.tmp 8) (.tmp 10) (by rfl) my rfl HOW.out rfl (mX (x:=.slice yA yn yc) HOB.out.lt (HOB.out.cell 0)) (fun u hu=>by rw [List.mem_singleton.1 hu];rfl) (by have:=HLN.out;unfold maxLen;omega) (by have:=HLN.out;omega) (by simp;omega) ?_) | fail)
  rintro A8 c8 W8 hown hgr hA8;have hal:Below W.heap.size W (W.alloc (.cells #[.slice yA yn yc] 34)):=b_R.alloc n_R _
  have hne:some w.heap.size≠B.map (·.block):=by
   intro e;have h5:=(gP HOW.out _ e.symm).1;omega
  have HB8:=lh ((HI.out.blk.alloc (.cells #[.slice yA yn yc] 34)).grown hgr hne);have HO8:=lh hown;have HK8:=lh (show KeepsFrom w0.heap.size W W8 from (fa hal).trans (oi hgr (fun r e=>by obtain ⟨_,cs,hb⟩:=gP HOW.out r e;exact ⟨_,cs,hb⟩)));have HL8:=lh (show Below w.heap.size W W8 from (hal.mono (by omega)).grown hgr (by simp;omega) (fun j hj=>by have:=(gP HOW.out j hj).1;omega));have HR8:=lh (show KpR w.heap.size w0.heap.size W W8 from (KpR.of_below hal).trans (KpR.of_row hgr (fun r e=>⟨by have:=(gP HOW.out r e).1;omega,(gP HOW.out r e).2⟩)));have d0:=HB8.out.cell 0;have d1:=HB8.out.frozen 0;clear hown hgr hA8 hal hne;gi_wp2;have hk9:=HK8.out.trans (ik w0.heap.size W8 ⟨w.heap.size,0,none⟩ (.slice A8 (pre.length+1) c8));have hb9:Below w.heap.size W (W8.setCell ⟨w.heap.size,0,none⟩ (.slice A8 (pre.length+1) c8)):=HL8.out.setCell (p:=⟨w.heap.size,0,none⟩) n_R _;have hr9:KpR w.heap.size w0.heap.size W (W8.setCell ⟨w.heap.size,0,none⟩ (.slice A8 (pre.length+1) c8)):=HR8.out.trans (KpR.setCell _ _ _ n_R (by simp;omega));refine ⟨hk9,hr9,A8,c8,?_,?_,HI.out.bel.trans hb9,by have:=hk9.size;omega,by have:=HLN.out;simp;omega,?_⟩
  ·have:=HB8.out.set_ 0 (.slice A8 (pre.length+1) c8)
   simpa using this
  ·rw [List.length_append,List.map_append]
   exact lK HO8.out (Nat.lt_succ_self _) _
  ·intro x hx
   rcases List.mem_append.1 hx with hx | hx
   ·exact (HI.out.all x hx).kp hr9
   ·rw [List.mem_singleton.1 hx]
    exact Wy.own.kp ⟨⟨HAT.out.1,HAT.out.2.2⟩,HAT.out.2.1⟩ hr9
 case done =>
  rintro D ys Wr hD hys ⟨B,q,hI⟩ hK;have c0:=hI.blk.cell 0;have hs1:=hI.blk.lt
  have hmk:fz w.heap.size Wr [{ target:=.collected D,args:=#[] }]:=⟨⟨D,by omega,rfl,hK,by simp⟩,trivial⟩
  have HI:=lh hI;clear hI hK;gi_wp2;refine j0 _ _ hmk ?_;intro w' hs;refine ⟨.slice B ys.length q,by simp [results,Tryz.results118,go_sem],ys,B,q,hys,HI.out.len,rfl,qm HI.out.own hs,fun x hx=>?_,HI.out.bel.trans hs.below⟩;have h9:=(HI.out.all x hx).shut hs;rw [Z0.out] at h9;exact h9
theorem ry (gf:Nat)(lb:Array Value)(S:List Wy→Prop)(N:Nat)(w:World)(hN:N≤1000000)(eg:∀ args w,(callFunc gf args).run Tryz.prog w = .ok (.enter gf args) w)
  (hseq:∀ w0,Below w.heap.size w w0→ld Fence.wide 8 Tryz.prog gf lb (fun x:Wy=>#[x.val]) (AtW w.heap.size w0.heap.size) (KpR w.heap.size w0.heap.size) S N w0) :
  Calls Tryz.prog 82 #[.func (.func gf) #[] lb] w (ll w S N):=by
 have h:=callsIn_wide.1 (oE gf lb S N w hN eg hseq)
 go_enter Tryz.func82,Tryz.ntmps82
 go_wp2_with (go_at_call 118;refine h.mono ?_;rintro e w' ⟨xs,B,q,hS,hl,rfl,hO,ha,hb⟩)
 go_ret
 exact ⟨xs,B,q,hS,hl,rfl,hO,ha,hb⟩
end Go.Proofs.YthofngceiecniaaGreat
namespace Go.Proofs.YthofngceiecniaaGreat
open Go.RowKit Go.Shelf
attribute [local go_sem] Oper.semAt_some
def ownK (m:Mix)(f:Int)(k:Nat):List Int:=((m.tastes.take k).filter fun x=>decide (x.fountain=f)).map (·.num)
theorem tf {m:Mix}{f:Int}{k:Nat}{x:Tast}(hx:m.tastes[k]? =some x)(h:x.fountain=f):ownK m f (k+1)=ownK m f k++[x.num]:=by
 unfold ownK;rw [List.take_add_one,hx,List.filter_append,List.map_append]
 congr 1
 simp [h]
theorem tT {m:Mix}{f:Int}{k:Nat}{x:Tast}(hx:m.tastes[k]? =some x)(h:¬ x.fountain=f):ownK m f (k+1)=ownK m f k:=by
 unfold ownK;rw [List.take_add_one,hx,List.filter_append,List.map_append];simp [h]
theorem qF {m:Mix}{f:Int}{k:Nat}(h:m.tastes.length=k):ownK m f k=ownL m f:=by
 unfold ownK ownL;rw [List.take_of_length_le (by omega)]
theorem tc {T:Tb}(h:TbOk T){f:Int}:(ownL T.m f).Pairwise (·<·) :=
 (iU (ng h.ok)).1.sublist (List.filter_sublist.map _)
theorem uz {w W:World}{t0 t1 t2:TypeId}{c0 c1:Array Value}{x:Value}(h:Lay w W [(w.heap.size,t0,c0),(w.heap.size+1,t1,c1),(w.heap.size+1+1,t2,#[x])])(v:Value) :
  Lay w (W.setCell ⟨w.heap.size+1+1,0,none⟩ v) [(w.heap.size,t0,c0),(w.heap.size+1,t1,c1),(w.heap.size+1+1,t2,#[v])]:=by
 refine ⟨h.1.setCell (p:=⟨w.heap.size+1+1,0,none⟩) (h.ge 2 rfl) _,fun b hb=>?_⟩;simp only [List.mem_cons,List.not_mem_nil,or_false] at hb;rcases hb with rfl | rfl | rfl
 ·exact ⟨h.ge 0 rfl,(h.blk 0 rfl).far (p:=⟨w.heap.size+1+1,0,none⟩) (by dsimp only;omega) _⟩
 ·exact ⟨h.ge 1 rfl,(h.blk 1 rfl).far (p:=⟨w.heap.size+1+1,0,none⟩) (by dsimp only;omega) _⟩
 ·exact ⟨h.ge 2 rfl,(h.blk 2 rfl).set_ 0 v⟩
def tp (w:World)(T:Tb)(f:Int)(e:Ending)(w':World):Prop :=
 ∃ A n c b r,e = .returned (.tuple #[.slice A n c,.bool b])∧Below w.heap.size w w'∧(b=true→du w' w'.heap.size A n r)∧rL T.m T.L f b r
inductive xB (v2 v3 v6 v17 v18 v19:Value):Act→Prop
 | mk (a b c d e f g h i j k l m n o p q r s t w x y z A B C D E F G H I J K L M N O P:Value):xB v2 v3 v6 v17 v18 v19 ⟨#[a,b,v2,v3,c,d,v6,e,f,g,h,i,j,k,l,m,n,v17,v18,v19,o,p,q,r,s,t,w,x,y,z,A,B,C,D,E,F,G,H,I,J,K,L,M,N,O,P],[]⟩
inductive xv (v9 v34:Value):Act→Prop
 | mk (a b c d e f g h i j k l m n o p q r s t w x y z A B C D E F G H I J K L M N O P Q R S T:Value):xv v9 v34 ⟨#[a,b,c,d,e,f,g,h,i,v9,j,k,l,m,n,o,p,q,r,s,t,w,x,y,z,A,B,C,D,E,F,G,H,I,v34,J,K,L,M,N,O,P,Q,R,S,T],[]⟩
theorem vb (T:Tb)(f:Int)(w:World)(h:TbAt w T)(hok:TbOk T) :
  CallsIn Fence.wide 9 Tryz.prog 59 #[.pointer (some ⟨T.g,0,none⟩),.int .i64 f] w (tp w T f):=by
 have HT:=lh h;have hmf:∀ (fn:Fn) (first cap:Array Value) (w:World),(Instr.makeFunc fn first cap).run Tryz.prog w = .ok (.func fn first cap) w:=fun _ _ _ _=>rfl;clear h;refine callsIn_of_wp Tryz.func59 rfl trivial ?_ rfl;simp only [Tryz.ntmps59,es,Nat.reduceAdd,Nat.reduceSub];gi_upto_region 2 with fail
 have Ly:=lh (Lay.three w 92 #[.pointer (some ⟨T.g,0,none⟩)] 3 #[.int .i64 f] 34 #[.slice none 0 0]);generalize (((w.alloc (.cells #[.pointer (some ⟨T.g,0,none⟩)] 92)).alloc (.cells #[.int .i64 f] 3)).alloc (.cells #[.slice none 0 0] 34))=w0 at *;have HT0:=lh (HT.out.below Ly.out.1);have t3:=HT0.out.blk.cell 3;have tl:=HT0.out.blk.lt;change _=some (Value.slice T.At T.nt T.ct) at t3;have ht8:T.nt≤8:=HT.out.small.2.2.1;have x0_0:=lyc Ly 0 rfl 0;have l0_:=Ly.out.lt 0 rfl;gi_wp2;clear t3 tl;clear x0_0 l0_;refine wpIn_loop (fun ac W=>∃ (k:Nat) (oA:Option Addr) (on oc:Nat),Hid (k≤T.nt∧on≤k∧Own W (w.heap.size+3) 3 1 oA on oc ((ownK T.m f k).map (Value.int .i64))∧Lay w W [(w.heap.size,92,#[.pointer (some ⟨T.g,0,none⟩)]),(w.heap.size+1,3,#[.int .i64 f]),(w.heap.size+1+1,34,#[.slice oA on oc])])∧xB (.pointer (some ⟨w.heap.size,0,none⟩)) (.pointer (some ⟨w.heap.size+1,0,none⟩)) (.pointer (some ⟨w.heap.size+1+1,0,none⟩)) (.slice T.At T.nt T.ct) (.int .i64 (T.nt:Int)) (.int .i64 (k:Int)) ac) (fun ac _=>T.nt - (intOf (ac.tmps.getD 19 undef)).toNat) ?_ ?_
 ·exact ⟨0,none,0,0,lh ⟨Nat.zero_le _,n_R,Own.none_ _ _ _ _,Ly.out⟩,by constructor⟩
 clear Ly HT0;rintro ac W ⟨k,oA,on,oc,HS,ha⟩;cases ha;have Ly:=lh HS.out.2.2.2;by_cases hkn:k<T.nt
 ·
  obtain ⟨bt,ot,x,hAt,hbt,hx,c0,c1,c2,c3,c4,c5⟩:=(HT.out.mix.below Ly.out.1).tast hkn;have hlt:bt<W.heap.size:=Nat.lt_of_lt_of_le hbt Ly.out.1.size;have HX:=lh hx;have HAT:=lh hAt;have hok1:=HS.out.2.1;have HOW:=lh HS.out.2.2.1;have HGL:=lh (Ly.out.lt 2 rfl);rw [hAt];gi_upto_region 5 with fail
  rw [← HAT.out];clear hx hAt hbt c0 c1 c2 c3 c4 c5 hlt
  obtain ⟨V1,hV⟩:∃ V,(W.alloc (.cells #[.int .i64 x.num,.int .i64 x.vessel,.int .i64 x.after,.int .i64 x.fountain,.int .i64 x.lo,.int .i64 x.hi] 69))=V:=⟨_,rfl⟩
  rw [hV];have hb:=eS hV;have hnew:=eT hV;have hge:=Ly.out.bel.size;replace Ly:=lyb Ly hb;replace HOW:=lh (HOW.out.below hb n_R);replace Ly:=lh (Ly.out.add hge hnew);clear hnew hge hb hV
  obtain ⟨G2,hG⟩:∃ g,W.heap.size=g:=⟨_,rfl⟩
  rw [hG] at Ly ⊢;clear hG;by_cases hf:x.fountain=f
  ·
   have hfb:(x.fountain==f)=true:=by simpa using hf
   have HF:=lh hf;have HK:=lh (tf HX.out hf);clear hf;have HL3:Hid (Lay w V1 [(w.heap.size,92,#[.pointer (some ⟨T.g,0,none⟩)]),(w.heap.size+1,3,#[.int .i64 f]),(w.heap.size+1+1,34,#[.slice oA on oc])]):=lh ⟨Ly.out.1,fun b hb=>Ly.out.2 b (by simp only [List.mem_cons,List.not_mem_nil,or_false] at hb ⊢;rcases hb with rfl | rfl | rfl<;>simp)⟩;have hg3:w.heap.size+3≤V1.heap.size:=by have:=Ly.out.lt 2 rfl;omega
   have x1_0:=lyc Ly 1 rfl 0;have l1_:=Ly.out.lt 1 rfl;have x2_0:=lyc Ly 2 rfl 0;have l2_:=Ly.out.lt 2 rfl;obtain ⟨x3_0,x3_1,x3_2,x3_3,x3_4,x3_5⟩:=lyc6 Ly 3 rfl;have l3_:=Ly.out.lt 3 rfl
   gi_wp2_with (first | (gi_at_builtin;refine eJ rfl (.tmp 27) (.tmp 30) (by rfl) fW rfl (HOW.out.alloc _) rfl (du.new V1 3 [x.num] (V1.heap.size+1) (by omega)) (fY [x.num]) (by unfold maxLen;omega) (by omega) (by simp;omega) ?_) | fail)
   rintro A9 c9 V9 hown hg hA;have hb9:Below V1.heap.size V1 (V1.alloc (.cells #[.int .i64 x.num] 3)):=b_R.alloc n_R _;have HL9:=lh (nK (HL3.out.below hb9) hg (fun r hr=>(fu HOW.out r hr).1));have HO9:=lh hown;clear hown hg hA hb9;clear x1_0 l1_ x2_0 l2_ x3_0 x3_1 x3_2 x3_3 x3_4 x3_5 l3_;have z0:=(HL9.out.blk 2 rfl).cell 0;have z1:=(HL9.out.blk 2 rfl).frozen 0;have zl:=HL9.out.lt 2 rfl;gi_wp2;clear z0 z1 zl;refine ⟨⟨k+1,A9,on+1,c9,lh ⟨hkn,by omega,?_,uz HL9.out _⟩,by rw [show ((k+1:Nat):Int)=(k:Int)+1 from by omega];first | constructor | (rw [HAT.out];constructor)⟩,?_⟩
   ·rw [HK.out,List.map_append]
    exact lK HO9.out (p:=⟨w.heap.size+1+1,0,none⟩) (by dsimp only;omega) _
   ·simp [intOf]<;>omega
  ·
   have hfb:(x.fountain==f)=false:=by simpa using hf
   have HK:=lh (tT HX.out hf);clear hf;have HL3:Hid (Lay w V1 [(w.heap.size,92,#[.pointer (some ⟨T.g,0,none⟩)]),(w.heap.size+1,3,#[.int .i64 f]),(w.heap.size+1+1,34,#[.slice oA on oc])]):=lh ⟨Ly.out.1,fun b hb=>Ly.out.2 b (by simp only [List.mem_cons,List.not_mem_nil,or_false] at hb ⊢;rcases hb with rfl | rfl | rfl<;>simp)⟩;have x1_0:=lyc Ly 1 rfl 0;have l1_:=Ly.out.lt 1 rfl;obtain ⟨x3_0,x3_1,x3_2,x3_3,x3_4,x3_5⟩:=lyc6 Ly 3 rfl;have l3_:=Ly.out.lt 3 rfl;gi_wp2;clear x1_0 l1_ x3_0 x3_1 x3_2 x3_3 x3_4 x3_5 l3_;refine ⟨⟨k+1,oA,on,oc,lh ⟨hkn,by omega,?_,HL3.out⟩,by rw [show ((k+1:Nat):Int)=(k:Int)+1 from by omega];first | constructor | (rw [HAT.out];constructor)⟩,?_⟩
   ·rw [HK.out]
    exact HOW.out
   ·simp [intOf]<;>omega
 ·
  obtain rfl:T.nt=k:=by have:=HS.out.1;omega
  have hon:=HS.out.2.1
  have hol:(ownL T.m f).length=on:=by
   have h1:=HS.out.2.2.1.len;rw [qF HT.out.mix.lenT] at h1;simpa using h1
  have HOW:=lh (show Own W (w.heap.size+3) 3 1 oA on oc ((ownL T.m f).map (Value.int .i64)) from by rw [← qF HT.out.mix.lenT];exact HS.out.2.2.1);clear hkn;have hgl:=Ly.out.lt 2 rfl;have HOR:=lh (fun (a:Addr) (ha:oA=some a)=>(HOW.out.lt ha).2);gi_upto_region 9 with fail
  obtain ⟨V3,hV⟩:∃ V,(W.alloc (.cells #[.nilFunc] 162))=V:=⟨_,rfl⟩
  rw [hV];have hb:=eS hV;have hnew:=eT hV;have hge:=Ly.out.bel.size;replace Ly:=lyb Ly hb;replace HOW:=lh (HOW.out.below hb n_R);replace Ly:=lh (Ly.out.add hge hnew);clear hnew hge hb hV
  obtain ⟨G4,hG⟩:∃ g,W.heap.size=g:=⟨_,rfl⟩
  rw [hG] at Ly ⊢;have HG_:=lh hG;clear hG;have HGW:Hid (w.heap.size+1+1<G4):=lh (by rw [← HG_.out];exact hgl);have HOA:Hid (∀ a,oA=some a→a.block<G4):=lh (fun a ha=>by rw [← HG_.out];exact HOR.out a ha);clear hgl HOR;have z0:=lyc Ly 3 rfl 0;have z1:=lyf Ly 3 rfl 0;have zl:=Ly.out.lt 3 rfl;gi_wp2;clear z0 z1 zl
  have HBX:Hid (qr (V3.setCell ⟨G4,0,none⟩ (.func (.func 95) #[] #[.pointer (some ⟨w.heap.size,0,none⟩),.pointer (some ⟨w.heap.size+1,0,none⟩),.pointer (some ⟨w.heap.size+1+1,0,none⟩),.pointer (some ⟨G4,0,none⟩)])) T f w.heap.size (w.heap.size+1) (w.heap.size+1+1) G4 oA on oc (ownL T.m f)):=lh (by
   have hg:=HGW.out;have hbel:=Ly.out.1.setCell (p:=⟨G4,0,none⟩) (Ly.out.ge 3 rfl) (.func (.func 95) #[] #[.pointer (some ⟨w.heap.size,0,none⟩),.pointer (some ⟨w.heap.size+1,0,none⟩),.pointer (some ⟨w.heap.size+1+1,0,none⟩),.pointer (some ⟨G4,0,none⟩)])
   exact ⟨HT.out.below hbel,(Ly.out.blk 0 rfl).far (p:=⟨G4,0,none⟩) (by dsimp only;omega) _,(Ly.out.blk 1 rfl).far (p:=⟨G4,0,none⟩) (by dsimp only;omega) _,(Ly.out.blk 2 rfl).far (p:=⟨G4,0,none⟩) (by dsimp only;omega) _,(Ly.out.blk 3 rfl).set_ 0 _,
    (fG HOW.out n_R).hold (fun b o ho hc a ha hab=>(Below.heap_setCell _ _ _ _ (by dsimp only;have:=(HOA.out a ha);omega)).trans ho) |>.more (by simp),by omega⟩)
  have HB0:=lh (show Below w.heap.size w (V3.setCell ⟨G4,0,none⟩ (.func (.func 95) #[] #[.pointer (some ⟨w.heap.size,0,none⟩),.pointer (some ⟨w.heap.size+1,0,none⟩),.pointer (some ⟨w.heap.size+1+1,0,none⟩),.pointer (some ⟨G4,0,none⟩)])) from Ly.out.1.setCell (p:=⟨G4,0,none⟩) (Ly.out.ge 3 rfl) _);generalize (V3.setCell ⟨G4,0,none⟩ (.func (.func 95) #[] #[.pointer (some ⟨w.heap.size,0,none⟩),.pointer (some ⟨w.heap.size+1,0,none⟩),.pointer (some ⟨w.heap.size+1+1,0,none⟩),.pointer (some ⟨G4,0,none⟩)]))=S0 at *;clear Ly HOW;refine wpIn_loop (fun ac W9=>∃ (n:Nat),Hid (n≤4∧(∀ k<n,∀ y∈gv (ownL T.m f) k,¬ WrP T.m T.L f y)∧Below S0.heap.size S0 W9)∧xv (.pointer (some ⟨G4,0,none⟩)) (.int .i64 (n:Int)) ac) (fun ac _=>4 - (intOf (ac.tmps.getD 34 undef)).toNat) ?_ ?_
  ·exact ⟨0,lh ⟨by omega,(fun k hk=>absurd hk (Nat.not_lt_zero _)),b_R⟩,by constructor⟩
  rintro ac W9 ⟨n,HN,ha⟩;cases ha;have HX9:=lh (HBX.out.below HN.out.2.2);have HB9:=lh (HB0.out.trans (HN.out.2.2.mono HB0.out.size));by_cases hn4:n<4
  ·
   have z0:=HX9.out.b3.cell 0;have zl:=HX9.out.b3.lt;have hsk:=tg T f hok w.heap.size (w.heap.size+1) (w.heap.size+1+1) G4 oA on oc (ownL T.m f) n 0 [] none 0 0 W9 HX9.out (dv.none_ (w:=W9) (B:=W9.heap.size)) (by omega) (Nat.zero_le _);rw [tm] at hsk;replace hsk:=lh hsk;gi_wp2;clear z0 zl;refine ⟨trivial,(c_W hsk.out).mono ?_⟩;clear hsk;rintro e W10 ⟨A,an,c,b,r,rfl,hb,hin,hfi⟩;have HIN:=lh hin;have HFI:=lh hfi;have HB10:=lh (HN.out.2.2.trans (hb.mono HN.out.2.2.size));clear hb hin hfi
   cases b with
   | true =>
    gi_wp2;refine bodyPost_ret (v:=.tuple #[.slice A an c,.bool true]) (by simp [results,Tryz.results59,go_sem]) rfl ?_;exact ⟨A,an,c,true,r,rfl,HB0.out.trans (HB10.out.mono HB0.out.size),fun _=>(HIN.out (by first | rfl | trivial)).1,sn (tc hok) (by omega) HFI.out HN.out.2.1⟩
   | false =>
    gi_wp2;refine ⟨⟨n+1,lh ⟨by omega,fun k hk y hy=>?_,HB10.out⟩,by rw [show ((n+1:Nat):Int)=(n:Int)+1 from by omega];constructor⟩,?_⟩
    ·by_cases e:k=n
     ·subst e
      rcases HFI.out with ⟨h,_⟩ | ⟨_,h⟩
      ·cases h
      ·exact h y hy
     ·exact HN.out.2.1 k (by omega) y hy
    ·simp [intOf]<;>omega
  ·
   obtain rfl:n=4:=by have:=HN.out.1;omega
   gi_wp2;refine bodyPost_ret (v:=.tuple #[.slice none 0 0,.bool false]) (by simp [results,Tryz.results59,go_sem]) rfl ?_;exact ⟨none,0,0,false,[],rfl,HB9.out,(fun h=>by cases h),rH HN.out.2.1⟩
end Go.Proofs.YthofngceiecniaaGreat
namespace Go.Proofs.YthofngceiecniaaGreat
open Go.RowKit Go.Sort
theorem q6 (x y:Int)(w:World):Calls Tryz.prog 133 #[.int .i64 x,.int .i64 y] w fun e w'=>e = .returned (.bool (Sort.ltInt x y))∧w'=w:=by
 go_enter Tryz.func133,Tryz.ntmps133
 go_wp2_with (go_at_call 111;refine (mh _ _).mono ?_;rintro e w' ⟨rfl,rfl⟩)
 go_ret
 exact ⟨rfl,rfl⟩
theorem om (blk off cap a b:Nat)(d:Array Int)(w:World)(hH:Holds (Value.int .i64) w blk off d)(hab:a≤b)(hb:b≤d.size)(hsz:d.size<4611686018427387904) :
  Calls Tryz.prog 127 #[.slice (some ⟨blk,off,none⟩) d.size cap,.int .i64 a,.int .i64 b] w fun e w' =>
   e = .returned (.tuple #[])∧∃ n,w'=putRow (Value.int .i64) (Sort.ahead w n) blk off (Sort.insertionSort ltInt d a b):=by
 go_enter Tryz.func127,Tryz.ntmps127
 go_wp2
 go_loopw [6] (fun vi wr=>∃ (i n:Nat) (dk:Array Int),vi = .int .i64 i∧a<i∧i≤b+1∧dk.size=d.size∧wr=putRow (Value.int .i64) (Sort.ahead w n) blk off dk ∧
   insOuter ltInt a b i dk=insOuter ltInt a b (a+1) d) (fun vi _=>b+1 - (intOf vi).toNat)
 case atStart=>exact ⟨a+1,0,d,by go_num,by omega,by omega,rfl,(putRow_self _ _ _ _ _ hH).symm,rfl⟩
 case round =>
  obtain ⟨i,n,dk,rfl,hai,hib,hsk,hwr,hO⟩:=hrel;have HO:Hid (insOuter ltInt a b i dk=insOuter ltInt a b (a+1) d):=hO;clear hO
  go_wp2
  ·go_loopw [7] (fun vj wr2=>∃ (j m:Nat) (dj:Array Int),vj = .int .i64 j∧a≤j∧j≤i∧dj.size=d.size∧wr2=putRow (Value.int .i64) (Sort.ahead w m) blk off dj ∧
     insInner ltInt a j dj=insInner ltInt a i dk) (fun vj _=>(intOf vj).toNat)
   case atStart=>exact ⟨i,n,dk,rfl,by omega,n_R,hsk,rfl,rfl⟩
   case round =>
    obtain ⟨j,m,dj,rfl,haj,hji,hsj,hw2,hI⟩:=hrel;have hlt:i<b:=by assumption
    obtain ⟨G,hG⟩:∃ G:Nat→Int,∀ t,G t=dj[t]! :=⟨fun t=>dj[t]!,fun _=>rfl⟩
    have hcw:∀ t,t<d.size→wr.cell? ⟨blk,off+t,none⟩=some (.int .i64 (G t)):=fun t ht=>by
     rw [hw2,hG];exact cell?_putRow _ _ _ _ d dj (holds_ahead _ _ _ _ _ _ hH) hsj t (by omega)
    have hfw:∀ t,t<d.size→wr.frozen? ⟨blk,off+t,none⟩=false:=fun t ht=>by
     rw [hw2,frozen?_putRow];exact ((holds_ahead _ _ m _ _ _ hH) t ht).2
    have HW:Hid (wr=putRow (Value.int .i64) (Sort.ahead w m) blk off dj):=hw2;have HG:Hid (∀ t,G t=dj[t]!):=hG;have HI:Hid (insInner ltInt a j dj=insInner ltInt a i dk):=hI;clear hw2 hG hI hH
    have out:(j≤a∨ltInt dj[j]! dj[j - 1]! = false)→∀ q,∃ i' n' dk',Value.int .i64 ((i:Int)+1) = .int .i64 (i':Nat)∧a<i'∧i'≤b+1∧dk'.size=d.size ∧
      wr.drewN q=putRow (Value.int .i64) (Sort.ahead w n') blk off dk'∧insOuter ltInt a b i' dk'=insOuter ltInt a b (a+1) d:=fun hs q =>
     ⟨i+1,m+q,dj,by go_num,by omega,by omega,hsj,by rw [HW.out];exact putRow_drewN _ _ _ _ _ _ _,
      by rw [← HO.out,insOuter_go _ _ _ _ _ hlt,← HI.out,insInner_stop _ _ _ _ hs]⟩
    have OUT:Hid _:=out;clear out
    go_wp2
    by_cases hja:a<j
    ·go_quiet (first | (go_at_call 133;refine Calls.quiet_of_same (q6 _ _ _)))
     go_wp2
     ·have hl:ltInt (G j) (G (j - 1))=true:=by assumption
      go_region
      all_goals go_wp2
      go_roundw
      case rel =>
       refine ⟨j - 1,m+(nq+1),swp dj j (j - 1),by congr 1;omega,by omega,by omega,by rw [size_swp];exact hsj,?_,?_⟩
       ·rw [HW.out,HG.out,HG.out]
        exact swap_worldA _ w m (nq+1) blk off dj j (j - 1) (by omega) (by omega)
       ·rw [← HI.out,insInner_go ltInt a j dj hja (by rw [← HG.out,← HG.out];exact hl)]
      case measure=>simp [intOf];omega
     ·have hl:ltInt (G j) (G (j - 1))=false:=by assumption
      go_roundw
      case rel=>exact OUT.out (Or.inr (by rw [← HG.out,← HG.out];exact hl)) nq
      case measure=>simp [intOf];omega
    ·go_quiet (first | (go_at_call 133;refine Calls.quiet_of_same (q6 _ _ _)))
     go_wp2
     go_roundw
     case rel=>exact OUT.out (Or.inl (by omega)) nq
     case measure=>simp [intOf];omega
  ·have hge:¬ i<b:=by assumption
   go_end0
   exact ⟨rfl,n,by unfold Sort.insertionSort;rw [← HO.out,insOuter_stop _ _ _ _ _ hge]⟩
theorem oD (p:Option Addr)(cap:Nat)(w:World) :
  Calls Tryz.prog 127 #[.slice p 0 cap,.int .i64 0,.int .i64 0] w fun e w'=>e = .returned (.tuple #[])∧w'=w:=by
 go_enter Tryz.func127,Tryz.ntmps127
 go_wp2
 refine wp_loop_rounds 1 ?_;rw [rounds_succ]
 go_wp2
 go_end0
 exact ⟨rfl,rfl⟩
theorem qK (x:Int)(h0:0≤x)(hx:x≤12)(w:World):Calls Tryz.prog 137 #[.int .u64 x] w fun e w'=>(∃ k,e = .returned (.int .i64 k))∧w'=w:=by
 have h:x=0∨x=1∨x=2∨x=3∨x=4∨x=5∨x=6∨x=7∨x=8∨x=9∨x=10∨x=11∨x=12:=by omega
 clear h0 hx;rcases h with rfl | rfl | rfl | rfl | rfl | rfl | rfl | rfl | rfl | rfl | rfl | rfl | rfl
 all_goals
  go_enter Tryz.func137,Tryz.ntmps137
  go_wp2
  go_ret
  exact ⟨⟨_,rfl⟩,rfl⟩
theorem s8 (x:Int)(h0:0≤x)(hx:x≤12)(w:World):Calls Tryz.prog 97 #[.int .u64 x] w fun e w'=>(∃ k,e = .returned (.int .i64 k))∧w'=w:=by
 go_enter Tryz.func97,Tryz.ntmps97
 go_wp2_with (go_at_call 137;refine (qK _ h0 hx _).mono ?_;rintro e w' ⟨⟨k,rfl⟩,rfl⟩)
 go_ret
 exact ⟨⟨k,rfl⟩,rfl⟩
theorem tu (R:Ending→World→Prop)(p:Option Addr)(n cap:Nat)(k:Int)(w:World)(hn:n≤12)(h:Calls Tryz.prog 127 #[.slice p n cap,.int .i64 0,.int .i64 n] w R)(hR:∀ e w',R e w'→e = .returned (.tuple #[])) :
  Calls Tryz.prog 96 #[.slice p n cap,.int .i64 0,.int .i64 n,.int .i64 k] w R:=by
 go_enter Tryz.func96,Tryz.ntmps96
 go_wp2
 refine wp_loop_rounds 1 ?_;rw [rounds_succ];have hn':(n:Int)≤12:=by omega
 go_wp2_with (first | (go_at_call 127;refine h.mono ?_;rintro e w' hr;obtain rfl:=hR _ _ hr))
 refine bodyPost_ret (results_none rfl _ _ _) rfl ?_;exact hr
theorem xu (R:Ending→World→Prop)(p:Option Addr)(n cap:Nat)(w:World)(hn:n≤12)(h:Calls Tryz.prog 127 #[.slice p n cap,.int .i64 0,.int .i64 n] w R)(hR:∀ e w',R e w'→e = .returned (.tuple #[])) :
  Calls Tryz.prog 60 #[.slice p n cap] w R:=by
 go_enter Tryz.func60,Tryz.ntmps60
 go_wp2_with (first
  | (go_at_call 97;refine (s8 _ (by omega) (by omega) _).mono ?_;rintro e w' ⟨⟨k,rfl⟩,rfl⟩)
  | (go_at_call 96;refine (tu R p n cap _ _ hn h hR).mono ?_;rintro e w' hr;obtain rfl:=hR _ _ hr))
 go_end0
 exact hr
abbrev upI (l:List Int):List Int:=l.mergeSort fun x y=>decide (x≤y)
theorem rC (l:List Int):(upI l).Perm l:=List.mergeSort_perm _ _
theorem r4 (l:List Int):(upI l).Pairwise (·≤·):=by
 have h:=List.pairwise_mergeSort (le:=fun x y:Int=>decide (x≤y)) (fun a b c h1 h2=>by simp at h1 h2 ⊢;omega) (fun a b=>by simp;omega) l;exact h.imp fun h=>by simpa using h
theorem pS (l:List Int):(Sort.insertionSort ltInt l.toArray 0 l.length)=(upI l).toArray:=by
 obtain ⟨hP,hSo⟩:=insertionSort_holds (lt:=ltInt) swo_ltInt l.toArray 0 l.length (Nat.zero_le _) (by simp);have h:=sorted_unique_holds swo_ltInt (fun x y h1 h2=>by simp only [ltInt,decide_eq_false_iff_not] at h1 h2;omega) l.toArray _ (by simpa using hP) (by simpa using hSo)
 have e:(fun x y:Int=>!ltInt y x)=fun x y=>decide (x≤y):=by
  funext x y
  simp only [ltInt];by_cases hxy:y<x<;>simp [hxy]<;>omega
 rw [e] at h
 apply Array.ext'
 simpa using h
theorem ug (base:Nat)(A:Option Addr)(n c:Nat)(l:List Int)(w:World)(hO:Own w base 3 1 A n c (l.map (Value.int .i64)))(hn:n≤12) :
  Calls Tryz.prog 60 #[.slice A n c] w fun e w'=>e = .returned (.tuple #[])∧Own w' base 3 1 A n c ((upI l).map (Value.int .i64))∧w.grownBy w' (A.map (·.block)):=by
 have hl:l.length=n:=by have:=hO.len;simpa using this
 rcases hO.form with ⟨rfl,rfl,rfl,hxs⟩ | ⟨g,cur,rfl,hbg,hblk,hnc,hcm,hsz,htake,_⟩
 ·obtain rfl:l=[]:=List.length_eq_zero_iff.1 hl
  refine (xu (fun e w'=>e = .returned (.tuple #[])∧w'=w) none 0 0 w (by omega) (oD none 0 w) (fun e w' h=>h.1)).mono ?_;rintro e w' ⟨rfl,rfl⟩;exact ⟨rfl,by simpa [upI] using Own.none_ _ _ _ _,eY _ _⟩
 ·have hat:∀ j,j<l.length→cur[j]? =some (.int .i64 l[j]!):=by
   intro j hj;have h1:(cur.toList.take (n * 1))[j]? =(l.map (Value.int .i64))[j]? :=by rw [htake]
   rw [List.getElem?_take_of_lt (by omega),Array.getElem?_toList] at h1;rw [h1];simp [hj]
  have hH:Holds (Value.int .i64) w g 0 l.toArray:=by
   intro j hj;have hj':j<l.length:=by simpa using hj
   refine ⟨?_,hblk.frozen _⟩;rw [Nat.zero_add,hblk.cell,hat j hj'];simp [hj']
  have hw:=om g 0 c 0 l.length l.toArray w hH (Nat.zero_le _) (by simp) (by simp;omega);have hs:l.toArray.size=n:=by simpa using hl
  rw [pS,hs,hl] at hw;refine (xu _ (some ⟨g,0,none⟩) n c w hn hw (fun e w' h=>h.1)).mono ?_;rintro e w' ⟨rfl,q,rfl⟩;have hlu:(upI l).length=n:=by rw [(rC l).length_eq];exact hl
  have hb2:Blk (putRow (Value.int .i64) (Sort.ahead w q) g 0 (upI l).toArray) g 3 (putCells (Value.int .i64) 0 (upI l).toArray cur):=by
   have h0:w.heap[g]? =some (.cells cur 3 (0,0)):=hblk
   show (putRow (Value.int .i64) (Sort.ahead w q) g 0 (upI l).toArray).heap[g]? =_
   simp [putRow,mapBlock,Sort.ahead,Array.getElem?_modify,h0,onCells]
  refine ⟨rfl,Own.mk_ hbg hb2 hnc hcm (by simpa [putCells] using hsz) (by simpa using hlu) ?_,⟨rfl,rfl,rfl,by simp [putRow,mapBlock,Sort.ahead],fun k hk hne=>?_⟩⟩
  ·intro k hk
   have h1:=take_putCellsI cur (upI l) (by rw [hlu];omega);have h2:((putCells (Value.int .i64) 0 (upI l).toArray cur).toList.take (upI l).length)[k]? =((upI l).map (Value.int .i64))[k]? :=by rw [h1]
   rwa [List.getElem?_take_of_lt (by omega),Array.getElem?_toList] at h2
  ·have:g≠k:=fun e=>hne (by rw [← e];rfl)
   simp [putRow,mapBlock,Sort.ahead,Array.getElem?_modify,this]
end Go.Proofs.YthofngceiecniaaGreat
namespace Go.Proofs.YthofngceiecniaaGreat
open Go.RowKit Go.Shelf
attribute [local go_sem] Oper.semAt_some
structure Er8 {α:Type}(P:α→Prop):Prop where
 ex:∃ a,P a
theorem pb {R S:Int→List Int}:∀ {q:Nat},(∀ f:Int,1≤f→f≤q→R f=S f)→catR R q=catR S q
 | 0,_=>rfl
 | q+1,h=>by
  unfold catR;rw [pb (q:=q) fun f a b=>h f a (by omega),h _ (by omega) (by omega)]
theorem uE (R:Int→List Int)(r:List Int)(q:Nat):catR (fun f=>if f=(q:Int)+1 then r else R f) (q+1)=catR R q++r:=by
 show catR (fun f=>if f=(q:Int)+1 then r else R f) q++(if (q:Int)+1=(q:Int)+1 then r else R ((q:Int)+1))=_
 rw [if_pos rfl,pb (S:=R) fun f a b=>if_neg (by omega)]
def vF (w:World)(m:Mix)(e:Ending)(w':World):Prop :=
 ∃ l A n c x,e = .returned (.tuple #[.slice A n c,.int .i64 x])∧jI m l x∧du w' w'.heap.size A n l∧n≤3∧Below w.heap.size w w'∧∀ ad,A=some ad→w.heap.size≤ad.block
inductive FrWw (v4 v6 v18 v19:Value):Act→Prop
 | mk (a b c d e f g h i j k l m n o p q r s t w x y z A B C D E F G H I J K L M:Value):FrWw v4 v6 v18 v19 ⟨#[a,b,c,d,v4,e,v6,f,g,h,i,j,k,l,m,n,o,p,v18,v19,q,r,s,t,w,x,y,z,A,B,C,D,E,F,G,H,I,J,K,L,M],[]⟩
theorem tL (Av:Option Addr)(nv cv:Nat)(Aa:Option Addr)(na ca:Nat)(At:Option Addr)(nt ct:Nat)(m:Mix)(w:World)(h:MixS w Av nv Aa na At nt m) :
  CallsIn Fence.wide 9 Tryz.prog 18 #[.agg #[.int .i64 m.fountains,.slice Av nv cv,.slice Aa na ca,.slice At nt ct]] w (vF w m):=by
 have HM:=lh h;clear h;refine callsIn_of_wp Tryz.func18 rfl trivial ?_ rfl;simp only [Tryz.ntmps18,es,Nat.reduceAdd,Nat.reduceSub];gi_upto_region 1 with fail
 have Ly:=lh (Lay.one w 26 #[.int .i64 m.fountains,.slice Av nv cv,.slice Aa na ca,.slice At nt ct]);generalize (w.alloc (.cells #[.int .i64 m.fountains,.slice Av nv cv,.slice Aa na ca,.slice At nt ct] 26))=w0 at *;obtain ⟨x0_0,x0_1,x0_2,x0_3⟩:=lyc4 Ly 0 rfl;have l0_:=Ly.out.lt 0 rfl;gi_wp2;clear x0_0 x0_1 x0_2 x0_3 l0_;refine ⟨trivial,(callsIn_wide.2 (MixS.laid (HM.out.up Ly.out.1))).mono ?_⟩;rintro e W1 ⟨p,rfl,hb,hp⟩;have HP:=lh hp;clear hp;replace Ly:=lyb Ly hb;clear hb
 cases hk:eO m with
 | false =>
  have HK:=lh hk;clear hk;gi_wp2;refine bodyPost_ret (v:=.tuple #[.slice none 0 0,.int .i64 40]) (by simp [results,Tryz.results18,go_sem]) rfl ?_;exact ⟨[],none,0,0,40,rfl,.inl ⟨HK.out,rfl,rfl⟩,dv.none_,by omega,Ly.out.1,fun a h=>by cases h⟩
 | true =>
  obtain ⟨g,AA,nl,cl,L,rfl,hg,hL,hT⟩:=HP.out hk
  obtain ⟨T,hTT⟩:∃ T:Tb,T=⟨g,Av,nv,cv,Aa,na,ca,At,nt,ct,AA,nl,cl,m,L⟩:=⟨_,rfl⟩
  have hTg:g=T.g:=by rw [hTT]
  have hTm:T.m=m:=by rw [hTT]
  have HTL:Hid (allM m m.acts=some T.L):=lh (by rw [hTT];exact hL);rw [← hTT] at hT;subst hTg;have HK:=lh hk;have HV:=lh (fj hk);have HT:=lh hT.at_;have HTM:=lh hTm;have HOK:Hid (TbOk T):=lh ⟨by rw [hTm];exact hk,by rw [hTm];exact HTL.out⟩;clear HP hTT hL hg hT hk hTm
  obtain ⟨N,hN⟩:∃ N:Nat,m.fountains=(N:Int):=⟨m.fountains.toNat,by have:=HV.out;omega⟩
  have hN4:N≤4:=by have:=HV.out;omega
  have HN:Hid (m.fountains.toNat=N):=lh (by rw [hN];simp);obtain ⟨x0_0,x0_1,x0_2,x0_3⟩:=lyc4 Ly 0 rfl;have l0_:=Ly.out.lt 0 rfl;rw [hN] at x0_0;gi_wp2;clear x0_0 x0_1 x0_2 x0_3 l0_;refine wpIn_loop (fun ac9 W=>∃ (q:Nat) (aA:Option Addr) (an ac:Nat),Hid (Er8 fun (R:Int→List Int)=>q≤N∧(∀ f:Int,1≤f→f≤(q:Int)→(R f).length≤3∧fI (fun k=>List.Sublist k (ownL m f)∧WrP m T.L f k) (R f))∧an=(catR R q).length∧Own W W1.heap.size 3 1 aA an ac ((catR R q).map (Value.int .i64))∧Below W1.heap.size W1 W)∧FrWw (.pointer (some ⟨T.g,0,none⟩)) (.slice aA an ac) (.int .i64 (N:Int)) (.int .i64 (q:Int)) ac9) (fun ac9 _=>N - (intOf (ac9.tmps.getD 19 undef)).toNat) ?_ ?_
  ·exact ⟨0,none,0,0,lh ⟨fun _=>[],Nat.zero_le _,(fun f h1 h2=>by omega),rfl,Own.none_ _ _ _ _,b_R⟩,by constructor⟩
  rintro ac9 W ⟨q,aA,an,ac,HS,ha⟩;cases ha;obtain ⟨R,hs9⟩:=HS.out;replace HS:=lh hs9;clear hs9;have HB:=lh HS.out.2.2.2.2
  have h3q:an≤3 * q:=by
   rw [HS.out.2.2.1];exact sC fun f a b=>(HS.out.2.1 f a b).1
  by_cases hqn:q<N
  ·
   gi_wp2;refine ⟨trivial,(c_W (vb T ((q:Int)+1) W (HT.out.below HB.out) HOK.out)).mono ?_⟩;rintro e W2 ⟨A,n,c,b,r,rfl,hb,hin,hwf⟩;rw [HTM.out] at hwf;have HIN:=lh hin;have HWF:=lh hwf;have HB2:=lh (HB.out.trans (hb.mono HB.out.size));have HO2:=lh (HS.out.2.2.2.1.below hb n_R);clear hin hwf hb
   cases b with
   | false =>
    gi_wp2;refine bodyPost_ret (v:=.tuple #[.slice none 0 0,.int .i64 4]) (by simp [results,Tryz.results18,go_sem]) rfl ?_;refine ⟨[],none,0,0,4,rfl,.inr ⟨HK.out,T.L,HTL.out,.inr ⟨rfl,rfl,fun k hk=>?_⟩⟩,dv.none_,by omega,Ly.out.1.trans (HB2.out.mono Ly.out.1.size),fun a h=>by cases h⟩
    rcases HWF.out with ⟨h,_⟩ | ⟨_,h⟩
    ·cases h
    ·exact vZ HK.out (by omega) (by rw [hN];omega) h hk
   | true =>
    have hr:=HWF.out
    obtain ⟨hr3,hrf⟩:r.length≤3∧fI (fun l=>l.Sublist (ownL m ((q:Int)+1))∧WrP m T.L ((q:Int)+1) l) r:=by
     rcases hr with ⟨_,h1,h2⟩ | ⟨h,_⟩
     ·exact ⟨h1,h2⟩
     ·cases h
    have HRF:=lh hrf;have HIR:=lh (HIN.out rfl);have hrl:=HIR.out.len;have hzz:=Nat.le_trans HB.out.size n_R;have hz2:=HB2.out.size;clear hr hrf HIN HWF
    gi_wp2_with (first | (gi_at_builtin;refine eJ rfl (.tmp 31) (.tmp 32) (by rfl) fW rfl HO2.out rfl HIR.out (fY r) (by unfold maxLen;omega) (by omega) (by omega) ?_) | fail)
    rintro A9 c9 W3 hown hg hA;have HR':Hid (catR (fun f=>if f=(q:Int)+1 then r else R f) (q+1)=catR R q++r):=lh (uE R r q);have HO3:=lh (show Own W3 W1.heap.size 3 1 A9 (an+n) c9 ((catR (fun f=>if f=(q:Int)+1 then r else R f) (q+1)).map (Value.int .i64)) from by rw [HR'.out,List.map_append];exact hown);have HB3:=lh (HB2.out.grown hg HB2.out.size (fun k e=>(fu HO2.out k e).1));clear hown hg hA;gi_wp2;refine ⟨⟨q+1,A9,an+n,c9,lh ⟨fun f=>if f=(q:Int)+1 then r else R f,hqn,fun f f1 f2=>?_,?_,HO3.out,HB3.out⟩,by rw [show ((q+1:Nat):Int)=(q:Int)+1 from by omega];constructor⟩,?_⟩
    ·by_cases e:f=(q:Int)+1
     ·subst e
      simp only [if_true];exact ⟨hr3,HRF.out⟩
     ·simp only [if_neg e]
      exact HS.out.2.1 f f1 (by omega)
    ·rw [HR'.out,List.length_append,← HS.out.2.2.1,hrl]
    ·simp [intOf]<;>omega
  ·
   obtain rfl:N=q:=by have:=HS.out.1;omega
   have HRS:Hid (∀ f:Int,1≤f→f≤(m.fountains.toNat:Int)→fI (fun k=>List.Sublist k (ownL m f)∧WrP m T.L f k) (R f)):=lh (by rw [HN.out];exact fun f a b=>(HS.out.2.1 f a b).2);have HO:=lh HS.out.2.2.2.1;have HAN:=lh HS.out.2.2.1;have HWZ:=lh (Nat.le_trans Ly.out.1.size (Nat.le_refl W1.heap.size));have HBW:=lh (Ly.out.1.trans (HB.out.mono Ly.out.1.size));by_cases h3:3<an
   ·
    gi_wp2;refine bodyPost_ret (v:=.tuple #[.slice none 0 0,.int .i64 4]) (by simp [results,Tryz.results18,go_sem]) rfl ?_;refine ⟨[],none,0,0,4,rfl,.inr ⟨HK.out,T.L,HTL.out,.inr ⟨rfl,rfl,fun k hk=>?_⟩⟩,dv.none_,by omega,HBW.out,fun a h=>by cases h⟩;have h9:=tv HK.out HRS.out hk;rw [HN.out,← HAN.out] at h9;omega
   ·
    gi_wp2;refine ⟨trivial,(callsIn_wide.2 (ug W1.heap.size aA an ac (catR R N) W HO.out (by omega))).mono ?_⟩;rintro e W2 ⟨rfl,hso,hsg⟩;have HSO:=lh hso;have HSG:=lh hsg;have HB2:=lh (HB.out.grown hsg HB.out.size (fun k e=>(fu HO.out k e).1));clear hso hsg;gi_wp2;refine bodyPost_ret (v:=.tuple #[.slice aA an ac,.int .i64 0]) (by simp [results,Tryz.results18,go_sem]) rfl ?_;have hpm:=rC (catR R N);refine ⟨upI (catR R N),aA,an,ac,0,rfl,.inr ⟨HK.out,T.L,HTL.out,.inl ⟨rfl,by rw [hpm.length_eq,← HAN.out];omega,tI HK.out HRS.out (by rw [HN.out];exact hpm) (r4 _)⟩⟩,fG HSO.out n_R,by omega,Ly.out.1.trans (HB2.out.mono Ly.out.1.size),fun a h=>?_⟩;have h1:=(HSO.out.lt h).1;have h2:=HWZ.out;omega
end Go.Proofs.YthofngceiecniaaGreat
namespace Go.Proofs.YthofngceiecniaaGreat
open Go.RowKit
instance:Inhabited Tast:=⟨⟨0,0,0,0,0,0⟩⟩
def ltT (x y:Tast):Bool:=decide (x.num<y.num)
theorem sF (a b:List Tast)(x:Tast):(a++x::b).toArray[a.length]! = x:=by simp
theorem vH (a b:List Tast)(y x:Tast):Sort.swp (a++y::x::b).toArray (a.length+1) a.length=(a++x::y::b).toArray:=by
 unfold Sort.swp
 apply Array.ext'
 simp
theorem uV {l:List Tast}{x:Tast}(hl:l.Pairwise (fun a b=>a.num<b.num)):∀ (a b:List Tast),a++b=l→(∀ y∈b,x.num<y.num) →
  Sort.insInner ltT 0 a.length (a++x::b).toArray=(insS l x).toArray:=by
 intro a;generalize hn:a.length=n
 induction n generalizing a with
 | zero =>
  intro b hab hb;obtain rfl:a=[]:=List.length_eq_zero_iff.1 hn;obtain rfl:b=l:=by simpa using hab
  rw [Sort.insInner];unfold insS
  cases b with
  | nil=>rfl
  | cons y b =>
   have:=hb y (by simp);have h0:decide (y.num≤x.num)=false:=by simp;omega
   rw [List.takeWhile_cons_of_neg (by rw [h0];simp),List.dropWhile_cons_of_neg (by rw [h0];simp)];rfl
 | succ n ih =>
  intro b hab hb
  rcases List.eq_nil_or_concat a with rfl | ⟨a',y,rfl⟩
  ·simp at hn
  simp only [List.concat_eq_append] at hn hab ⊢;have ha:a'.length=n:=by simpa using hn
  have e1:(a'++[y]++x::b).toArray[n+1]! = x:=by rw [show n+1=(a'++[y]).length from by simp [ha]];exact sF _ _ _
  have e2:(a'++[y]++x::b).toArray[n]! = y:=by rw [← ha,show a'++[y]++x::b=a'++y::(x::b) from by simp];exact sF _ _ _
  by_cases h:x.num<y.num
  ·rw [insInner_go ltT 0 (n+1) _ (by omega) (by rw [Nat.add_sub_cancel,e1,e2];unfold ltT;simp [h]),Nat.add_sub_cancel]
   have:=vH a' b y x;rw [ha] at this;rw [show a'++[y]++x::b=a'++y::x::b from by simp,this]
   exact ih a' ha (y::b) (by rw [← hab];simp) (fun z hz=>by
    rcases List.mem_cons.1 hz with rfl | hz
    ·exact h
    ·exact hb z hz)
  ·rw [insInner_stop ltT 0 (n+1) _ (.inr (by rw [Nat.add_sub_cancel,e1,e2];unfold ltT;simp [h]))]
   have hle:∀ z∈a'++[y],decide (z.num≤x.num)=true:=fun z hz=>by
    rw [← hab,List.pairwise_append] at hl;have h1:=hl.1;rw [List.pairwise_append] at h1;rcases List.mem_append.1 hz with hz | hz
    ·have:=h1.2.2 z hz y (by simp)
     simp;omega
    ·obtain rfl:=List.mem_singleton.1 hz
     simp;omega
   have htw:l.takeWhile (fun y=>decide (y.num≤x.num))=a'++[y]∧l.dropWhile (fun y=>decide (y.num≤x.num))=b:=by
    rw [← hab,List.takeWhile_append_of_pos hle,List.dropWhile_append_of_pos hle]
    cases b with
    | nil=>simp
    | cons z b =>
     have:=hb z (by simp);have h0:decide (z.num≤x.num)=false:=by simp;omega
     rw [List.takeWhile_cons_of_neg (by rw [h0];simp),List.dropWhile_cons_of_neg (by rw [h0];simp)];simp
   unfold insS;rw [htw.1,htw.2];simp
theorem qh {l:List Tast}{x:Tast}{i:Nat}(hi:i<l.length):(l++[x]).toArray[i]! = l[i]:=by
 simp [List.getElem?_append_left hi,hi]
theorem xg {l:List Tast}{x:Tast}(hl:l.Pairwise (fun a b=>a.num<b.num)):Sort.insertionSort ltT (l++[x]).toArray 0 (l.length+1)=(insS l x).toArray:=by
 have hstep:∀ k i,i+k=l.length→0<i→Sort.insOuter ltT 0 (l.length+1) i (l++[x]).toArray=(insS l x).toArray:=by
  intro k
  induction k with
  | zero =>
   intro i hi h0;obtain rfl:i=l.length:=by omega
   rw [insOuter_go _ _ _ _ _ (by omega),uV hl l [] (by simp) (fun y hy=>by cases hy),insOuter_stop _ _ _ _ _ (by omega)]
  | succ k ih =>
   intro i hi h0;have hlt:i<l.length:=by omega
   have hp:=List.pairwise_iff_getElem.1 hl (i - 1) i (by omega) hlt (by omega);rw [insOuter_go _ _ _ _ _ (by omega),insInner_stop ltT 0 i _ (.inr (by rw [qh hlt,qh (show i - 1<l.length by omega)];unfold ltT;simp;omega))];exact ih (i+1) (by omega) (by omega)
 unfold Sort.insertionSort
 cases h:l with
 | nil =>
  rw [insOuter_stop _ _ _ _ _ (by simp)];rfl
 | cons y t =>
  rw [← h];exact hstep (l.length - 1) 1 (by rw [h];simp;omega) (by omega)
end Go.Proofs.YthofngceiecniaaGreat
namespace Go.Proofs
open Go.Shelf
def YthofngceiecniaaGreat.insTast_ren:Go.Shelf.Ren:=⟨fun | 20=>142 | n=>n,fun | 24=>69 | 22=>24 | 3=>3 | 25=>136 | 4=>4 | 0=>0 | n=>n,fun | n=>n⟩
theorem YthofngceiecniaaGreat.insTast:Go.Proofs.SlLaysF0.n20 Tryz.prog YthofngceiecniaaGreat.insTast_ren:={
 mixed:=by kernel_rfl
 f20:=⟨Tryz.f142.name,by decide,Tryz.func142.trans (congrArg some (by kernel_rfl))⟩
 t0:=Tryz.underlying0
 a0:=Tryz.isAgg0
 z0:=Tryz.sizeOf0
 v0:=Tryz.zeroValue0
 t3:=Tryz.underlying3
 a3:=Tryz.isAgg3
 z3:=Tryz.sizeOf3
 v3:=Tryz.zeroValue3
 t4:=Tryz.underlying4
 a4:=Tryz.isAgg4
 z4:=Tryz.sizeOf4
 v4:=Tryz.zeroValue4
 t22:=Tryz.underlying24
 a22:=Tryz.isAgg24
 z22:=Tryz.sizeOf24
 v22:=Tryz.zeroValue24
 t25:=Tryz.underlying136
 a25:=Tryz.isAgg136
 z25:=Tryz.sizeOf136
 v25:=Tryz.zeroValue136 }
end Go.Proofs
namespace Go.Proofs.YthofngceiecniaaGreat
open Go.RowKit Go.Sort
theorem uR (x y:Tast)(W:World):Calls Tryz.prog 74 #[.agg x.vals.toArray,.agg y.vals.toArray] W fun e w'=>e = .returned (.int .i64 (cmpI x.num y.num))∧∃ q os',w'=grow (W.drewN q) os':=by
 have hcon:=fun W'=>pG x.num y.num W';generalize cmpI x.num y.num=r at hcon ⊢;simp only [Tast.vals]
 go_enter Tryz.func74,Tryz.ntmps74
 go_wp2_with (go_at_call 75;refine (hcon _).mono ?_;rintro e w' ⟨rfl,rfl⟩)
 go_ret
 exact ⟨rfl,0,_,by rw [alloc_eq_grow,alloc_eq_grow,grow_grow];rfl⟩
theorem tG (blk off size:Nat)(w:World):CmpLays Tryz.prog 74 #[] Tast.vals 6 (fun x y=>cmpI x.num y.num) blk off size w :=
 fun _ _ _ _ x y=>uR x y _
theorem wC:ltOf (fun x y:Tast=>cmpI x.num y.num)=ltT:=by
 funext x y
 unfold ltOf ltT cmpI;by_cases h:x.num<y.num
 ·simp [h]
 ·by_cases h2:y.num<x.num<;>simp [h,h2]
theorem pZ:∀ (l:List Tast) (t:Nat),t<l.length * 6→(l.flatMap Tast.vals)[t]? =some ((l.toArray[t / 6]!).vals[t % 6]!)
 | [],t,h=>by simp at h
 | x::l,t,h=>by
  rw [List.flatMap_cons];by_cases ht:t<6
  ·rw [List.getElem?_append_left (by rw [ig];exact ht),Nat.div_eq_of_lt ht,Nat.mod_eq_of_lt ht]
   have:t<x.vals.length:=by rw [ig];exact ht
   simp [this]
  ·obtain ⟨u,rfl⟩:∃ u,t=u+6:=⟨t - 6,by omega⟩
   rw [List.getElem?_append_right (by rw [ig];omega),ig,Nat.add_sub_cancel,pZ l u (by simp at h;omega),Nat.add_div_right _ (by omega),Nat.add_mod_right];simp
theorem rT (l:List Tast)(cur:Array Value)(hl:l.length * 6≤cur.size)(t:Nat)(ht:t<l.length * 6):(putCells id 0 (flatK Tast.vals 6 l.toArray) cur)[t]? =(l.flatMap Tast.vals)[t]? :=by
 rw [pZ l t ht];unfold putCells;rw [Array.getElem?_mapIdx,Array.getElem?_eq_getElem (show t<cur.size by omega)];have hs:(flatK Tast.vals 6 l.toArray).size=l.length * 6:=by simp
 simp only [Option.map_some,Nat.zero_le,true_and,Nat.zero_add,Nat.sub_zero,hs,ht,if_true,id];rw [get_flatK _ _ _ _ (by simpa using ht)]
theorem wu (l:List Tast)(x:Tast):(insS l x).length=l.length+1:=by
 unfold insS;have:=congrArg List.length (List.takeWhile_append_dropWhile (p:=fun y:Tast=>decide (y.num≤x.num)) (l:=l));rw [List.length_append] at this;rw [List.length_append,List.length_append,List.length_singleton];omega
theorem rG (R:Ending→World→Prop)(p:Option Addr)(n cap:Nat)(fv:Value)(w:World)(hn:n<20)(h:Calls Tryz.prog 142 #[.slice p n cap,.int .i64 0,.int .i64 n,fv] w R)(hR:∀ e w',R e w'→e = .returned (.tuple #[])) :
  Calls Tryz.prog 110 #[.slice p n cap,.int .i64 n,fv] w R:=by
 have hn':¬ (20:Int)≤(n:Int):=by omega
 have hn2:¬ (20:Int)<(n:Int):=by omega
 go_enter Tryz.func110,Tryz.ntmps110
 go_wp2_with fail
 refine wp_loop_rounds 1 ?_;rw [rounds_succ]
 go_wp2_with (go_at_call 142;refine h.mono ?_;rintro e w' hr;obtain rfl:=hR _ _ hr)
 refine wp_loop_rounds 1 ?_;rw [rounds_succ]
 go_wp2_with fail
 go_end0
 exact hr
theorem sg (R:Ending→World→Prop)(p:Option Addr)(n cap:Nat)(fv:Value)(w:World)(hn:n<20)(h:Calls Tryz.prog 142 #[.slice p n cap,.int .i64 0,.int .i64 n,fv] w R)(hR:∀ e w',R e w'→e = .returned (.tuple #[])) :
  Calls Tryz.prog 73 #[.slice p n cap,fv] w R:=by
 go_enter Tryz.func73,Tryz.ntmps73
 go_wp2_with (go_at_call 110;refine (rG R p n cap fv _ hn h hR).mono ?_;rintro e w' hr;obtain rfl:=hR _ _ hr)
 go_end0
 exact hr
theorem tj (base:Nat)(A:Option Addr)(n c:Nat)(l:List Tast)(x:Tast)(w:World)(hO:Own w base 69 6 A (n+1) c ((l++[x]).flatMap Tast.vals))(hn:n≤18)(hl:l.Pairwise (fun a b=>a.num<b.num)) :
  Calls Tryz.prog 73 #[.slice A (n+1) c,.func (.func 74) #[] #[]] w fun e w' =>
   e = .returned (.tuple #[])∧Own w' base 69 6 A (n+1) c ((insS l x).flatMap Tast.vals)∧w.grownBy w' (A.map (·.block)):=by
 have hlen:l.length=n:=by
  have:=hO.len;rw [flat_len' ig,List.length_append,List.length_singleton] at this;omega
 rcases hO.form with ⟨rfl,h0,_,_⟩ | ⟨g,cur,rfl,hbg,hblk,hnc,hcm,hsz,htake,_⟩
 ·omega
 have hd:(l++[x]).toArray.size=n+1:=by simp [hlen]
 have hat:∀ t,t<(n+1) * 6→cur[t]? =((l++[x]).flatMap Tast.vals)[t]? :=fun t ht=>by
  rw [← htake,List.getElem?_take_of_lt (by omega),Array.getElem?_toList]
 have hH:HoldsK Tast.vals 6 w g 0 (l++[x]).toArray:=by
  intro t ht;rw [size_flatK,hd] at ht;refine ⟨?_,hblk.frozen _⟩;rw [Nat.zero_add,hblk.cell,hat t ht,pZ _ _ (by rw [List.length_append,List.length_singleton,hlen];exact ht),get_flatK _ _ _ _ (by rw [hd];exact ht)];rfl
 have eg:∀ args w,(callFunc 74 args).run Tryz.prog w = .ok (.enter 74 args) w:=enters_of Tryz.func74 (by kernel_rfl) rfl;have hcon:=AnyQ.insertionSortCmpFunc insTast 6 Tryz.isAgg69 Tryz.sizeOf69 Tast.vals ig (fun x v hv=>by simp [Tast.vals] at hv;rcases hv with rfl | rfl | rfl | rfl | rfl | rfl<;>rfl) (fun x y=>cmpI x.num y.num) 74 #[] g 0 c 0 (n+1) (l++[x]).toArray w eg (tG _ _ _ _) hH hblk.lt (Nat.zero_le _) (by rw [hd];exact n_R) (by rw [hd];omega);rw [wC,hd] at hcon;have hs:=xg (x:=x) hl;rw [hlen] at hs;rw [hs] at hcon;refine (sg _ (some ⟨g,0,none⟩) (n+1) c _ w (by omega) hcon (fun e w' h=>h.1)).mono ?_;rintro e w' ⟨rfl,q,os,rfl⟩;have hli:(insS l x).length=n+1:=by rw [wu,hlen]
 have h0:w.heap[g]? =some (.cells cur 69 (0,0)):=hblk;have hgs:g<(putRowK Tast.vals 6 (Sort.ahead w q) g 0 (insS l x).toArray).heap.size:=by rw [size_putRowK];exact hblk.lt
 have hb2:Blk (sortWorldK Tast.vals 6 w g 0 q (insS l x).toArray os) g 69 (putCells id 0 (flatK Tast.vals 6 (insS l x).toArray) cur):=by
  unfold sortWorldK
  show (grow _ os).heap[g]? =_
  rw [heap_grow_old _ os hgs];simp [putRowK,putRow,mapBlock,Sort.ahead,Array.getElem?_modify,h0,onCells]
 refine ⟨rfl,Own.mk_ hbg hb2 hnc hcm (by simpa [putCells] using hsz) (by rw [flat_len' ig,hli]) (fun k hk=>rT (insS l x) cur (by rw [hli,hsz];exact Nat.mul_le_mul_right 6 hnc) k (by rw [hli];exact hk)),⟨rfl,rfl,rfl,?_,fun k hk hne=>?_⟩⟩
 ·unfold sortWorldK
  rw [size_grow,size_putRowK];exact Nat.le_add_right _ _
 ·have hgk:g≠k:=fun e=>hne (by rw [← e];rfl)
  unfold sortWorldK;rw [heap_grow_old _ os (by rw [size_putRowK];exact hk)];simp [putRowK,putRow,mapBlock,Sort.ahead,Array.getElem?_modify,hgk]
end Go.Proofs.YthofngceiecniaaGreat
namespace Go.Proofs.YthofngceiecniaaGreat
open Go.RowKit
theorem rZ {m:Mix}(h:eO m=true):m.tastes.Pairwise (fun a b=>a.num<b.num):=by
 unfold eO at h;simp only [Bool.and_eq_true] at h;exact List.pairwise_map.1 (iU h.2).1
theorem uP (Av:Option Addr)(nv cv:Nat)(Aa:Option Addr)(na ca:Nat)(At:Option Addr)(nt ct:Nat)(m:Mix)(x:Tast)(w:World)(h:MixS w Av nv Aa na At nt m) :
  CallsIn Fence.wide 9 Tryz.prog 34 #[.agg #[.int .i64 m.fountains,.slice Av nv cv,.slice Aa na ca,.slice At nt ct],.agg #[.int .i64 x.num,.int .i64 x.vessel,.int .i64 x.after,.int .i64 x.fountain,.int .i64 x.lo,.int .i64 x.hi]] w (ni w (putS m x)):=by
 have HM:=lh h;have HLV:=lh h.at_.lenV;have HLA:=lh h.at_.lenA;have HLT:=lh h.at_.lenT;have hnv:=h.hv;have hna:=h.ha;have hnt:=h.ht;clear h;refine callsIn_of_wp Tryz.func34 rfl trivial ?_ rfl;simp only [Tryz.ntmps34,es,Nat.reduceAdd,Nat.reduceSub];gi_upto_region 1 with fail
 have Ly:=lh (Lay.three w 26 #[.int .i64 m.fountains,.slice Av nv cv,.slice Aa na ca,.slice At nt ct] 69 #[.int .i64 x.num,.int .i64 x.vessel,.int .i64 x.after,.int .i64 x.fountain,.int .i64 x.lo,.int .i64 x.hi] 26 #[.int .i64 0,.slice none 0 0,.slice none 0 0,.slice none 0 0]);generalize (((w.alloc (.cells #[.int .i64 m.fountains,.slice Av nv cv,.slice Aa na ca,.slice At nt ct] 26)).alloc (.cells #[.int .i64 x.num,.int .i64 x.vessel,.int .i64 x.after,.int .i64 x.fountain,.int .i64 x.lo,.int .i64 x.hi] 69)).alloc (.cells #[.int .i64 0,.slice none 0 0,.slice none 0 0,.slice none 0 0] 26))=w0 at *;obtain ⟨x0_0,x0_1,x0_2,x0_3⟩:=lyc4 Ly 0 rfl;have l0_:=Ly.out.lt 0 rfl;gi_wp2;clear x0_0 x0_1 x0_2 x0_3 l0_;refine ⟨trivial,(callsIn_wide.2 (gF Av nv cv Aa na ca At nt ct m w0 (HM.out.up Ly.out.1))).mono ?_⟩;rintro e W1 ⟨rfl,hb⟩;have HBC:=lh hb;replace Ly:=lyb Ly hb;clear hb
 cases hk:eO m with
 | false =>
  have HF:Hid (putS m x=(fd,40)):=lh (by unfold putS;rw [hk];rfl);rw [show fk m=40 from by unfold fk;rw [hk];rfl];clear hk;have x2_0:=lyc Ly 2 rfl 0;have z2_0:=lyf Ly 2 rfl 0;have x2_1:=lyc Ly 2 rfl 1;have z2_1:=lyf Ly 2 rfl 1;have x2_2:=lyc Ly 2 rfl 2;have z2_2:=lyf Ly 2 rfl 2;have x2_3:=lyc Ly 2 rfl 3;have z2_3:=lyf Ly 2 rfl 3;have l2_:=Ly.out.lt 2 rfl;gi_wp2;have R4:=ret4' (Ly.out.blk 2 rfl) Ly.out.1 (Ly.out.ge 2 rfl) (.int .i64 0) (.slice none 0 0) (.slice none 0 0) (.slice none 0 0);have v0:=R4.1.cell 0;have v1:=R4.1.cell 1;have v2:=R4.1.cell 2;have v3:=R4.1.cell 3;refine bodyPost_ret (v:=.tuple #[.agg #[.int .i64 0,.slice none 0 0,.slice none 0 0,.slice none 0 0],.int .i64 40]) (by simp [results,Tryz.results34,go_sem,v0,v1,v2,v3]) rfl ?_;rw [HF.out];exact ⟨none,0,0,none,0,0,none,0,0,rfl,fe.nothing _ _,⟨by omega,by omega,by omega⟩,R4.2.1⟩
 | true =>
  have HK:=lh hk;have HRI:=lh (rZ hk);have hlim:=fj hk;have hv4:nv≤4:=by have:=HLV.out;omega
  have ha12:na≤12:=by have:=HLA.out;omega
  have ht8:nt≤8:=by have:=HLT.out;omega
  clear hlim;rw [show fk m=0 from by unfold fk;rw [hk];rfl];clear hk;by_cases h12:nt=8
  ·
   have HF:Hid (putS m x=(fd,9)):=lh (by unfold putS;rw [if_pos HK.out,if_pos (by rw [HLT.out];exact h12)]);have h12a:((nt:Int)==8)=true:=by simp;omega
   have H12:=lh h12;clear h12;obtain ⟨x0_0,x0_1,x0_2,x0_3⟩:=lyc4 Ly 0 rfl;have l0_:=Ly.out.lt 0 rfl;have x2_0:=lyc Ly 2 rfl 0;have z2_0:=lyf Ly 2 rfl 0;have x2_1:=lyc Ly 2 rfl 1;have z2_1:=lyf Ly 2 rfl 1;have x2_2:=lyc Ly 2 rfl 2;have z2_2:=lyf Ly 2 rfl 2;have x2_3:=lyc Ly 2 rfl 3;have z2_3:=lyf Ly 2 rfl 3;have l2_:=Ly.out.lt 2 rfl;gi_wp2;have R4:=ret4' (Ly.out.blk 2 rfl) Ly.out.1 (Ly.out.ge 2 rfl) (.int .i64 0) (.slice none 0 0) (.slice none 0 0) (.slice none 0 0);have v0:=R4.1.cell 0;have v1:=R4.1.cell 1;have v2:=R4.1.cell 2;have v3:=R4.1.cell 3;refine bodyPost_ret (v:=.tuple #[.agg #[.int .i64 0,.slice none 0 0,.slice none 0 0,.slice none 0 0],.int .i64 9]) (by simp [results,Tryz.results34,go_sem,v0,v1,v2,v3]) rfl ?_;rw [HF.out];exact ⟨none,0,0,none,0,0,none,0,0,rfl,fe.nothing _ _,⟨by omega,by omega,by omega⟩,R4.2.1⟩
  ·
   have h12a:((nt:Int)==8)=false:=by simp;omega
   have HF:Hid (putS m x=if eO (gK m (insS m.tastes x))=true then ((gK m (insS m.tastes x)),0) else (fd,42)):=lh (by unfold putS;rw [if_pos HK.out,if_neg (by rw [HLT.out];exact h12)]);have H12:=lh h12;clear h12;obtain ⟨x0_0,x0_1,x0_2,x0_3⟩:=lyc4 Ly 0 rfl;have l0_:=Ly.out.lt 0 rfl;gi_wp2;clear x0_0 x0_1 x0_2 x0_3 l0_;have HBL:Hid (w.heap.size<W1.heap.size):=lh (Ly.out.lt 0 rfl);have HBS:=lh (Ly.out.1.size);have HBL1:=lh (Ly.out.lt 1 rfl);have HBL2:=lh (Ly.out.lt 2 rfl);refine ⟨trivial,(c_W (kM Av nv cv Aa na ca At nt ct m W1 (HM.out.up Ly.out.1))).mono ?_⟩;rintro e W2 ⟨A1,c1,A2,c2,A3,c3,rfl,hmo,hb⟩;have HCB:=lh hb.size;replace Ly:=lyb Ly hb;clear hb;have HMO:=lh hmo;clear hmo;have x0_0:=lyc Ly 0 rfl 0;have z0_0:=lyf Ly 0 rfl 0;have x0_1:=lyc Ly 0 rfl 1;have z0_1:=lyf Ly 0 rfl 1;have x0_2:=lyc Ly 0 rfl 2;have z0_2:=lyf Ly 0 rfl 2;have x0_3:=lyc Ly 0 rfl 3;have z0_3:=lyf Ly 0 rfl 3;have l0_:=Ly.out.lt 0 rfl;gi_upto_region 7 with fail
   have R4:=ret4' (Ly.out.blk 0 rfl) (Below.refl w.heap.size W2) n_R (.int .i64 m.fountains) (.slice A1 nv c1) (.slice A2 na c2) (.slice A3 nt c3);have hl:=iF Ly.out (fun b hb=>by simp only [List.mem_cons,List.not_mem_nil,or_false] at hb;rcases hb with rfl | rfl<;>simp<;>omega) R4.2.2 R4.1;have HMO2:=lh (HMO.out.off R4.2.2 HBL.out);have HSZ:=lh (Nat.le_trans HCB.out R4.2.2.size);clear x0_0 z0_0 x0_1 z0_1 x0_2 z0_2 x0_3 z0_3 l0_;generalize ((((W2.setCell ⟨w.heap.size,0,none⟩ (.int .i64 m.fountains)).setCell ⟨w.heap.size,1,none⟩ (.slice A1 nv c1)).setCell ⟨w.heap.size,2,none⟩ (.slice A2 na c2)).setCell ⟨w.heap.size,3,none⟩ (.slice A3 nt c3))=V3 at *;replace Ly:=lh hl;replace HMO:=HMO2;clear R4 HMO2 hl;have x0_0:=lyc Ly 0 rfl 0;have z0_0:=lyf Ly 0 rfl 0;have x0_1:=lyc Ly 0 rfl 1;have z0_1:=lyf Ly 0 rfl 1;have x0_2:=lyc Ly 0 rfl 2;have z0_2:=lyf Ly 0 rfl 2;have x0_3:=lyc Ly 0 rfl 3;have z0_3:=lyf Ly 0 rfl 3;have l0_:=Ly.out.lt 0 rfl;have a0:=lyc Ly 1 rfl 0;have a1:=lyc Ly 1 rfl 1;have a2:=lyc Ly 1 rfl 2;have a3:=lyc Ly 1 rfl 3;have a4:=lyc Ly 1 rfl 4;have a5:=lyc Ly 1 rfl 5;have al:=Ly.out.lt 1 rfl
   gi_wp2_with (first | (gi_at_builtin;refine eJ rfl (.tmp 21) (.tmp 23) (by rfl) pk rfl (HMO.out.t.alloc (.cells #[.int .i64 x.num,.int .i64 x.vessel,.int .i64 x.after,.int .i64 x.fountain,.int .i64 x.lo,.int .i64 x.hi] 69)) rfl (fP V3 69 x.vals rfl) (o4 x) (by unfold maxLen;omega) (by omega) (by have:=HSZ.out;simp;omega) ?_) | fail)
   clear x0_0 z0_0 x0_1 z0_1 x0_2 z0_2 x0_3 z0_3 l0_;clear a0 a1 a2 a3 a4 a5 al;rintro A9 c9 V4 hown hg hA;have hrow:=fu HMO.out.t;have HLA2:=lh ((Ly.out.below (b_R.alloc n_R (.cells #[.int .i64 x.num,.int .i64 x.vessel,.int .i64 x.after,.int .i64 x.fountain,.int .i64 x.lo,.int .i64 x.hi] 69))).row hg (fun r e=>⟨by have:=(hrow r e).1;have:=HBS.out;omega,fun b hb=>by have:=(hrow r e).1;have:=HBL1.out;have:=HBL2.out;have:=HBL.out;simp only [List.mem_cons,List.not_mem_nil,or_false] at hb;rcases hb with rfl | rfl | rfl<;>dsimp only<;>omega⟩));have HMO2:=lh ((HMO.out.below (b_R.alloc n_R (.cells #[.int .i64 x.num,.int .i64 x.vessel,.int .i64 x.after,.int .i64 x.fountain,.int .i64 x.lo,.int .i64 x.hi] 69))).tasts (l:=m.tastes++[x]) hg (by rw [List.flatMap_append];simpa using hown) (by rw [World.size_alloc];exact hA));replace Ly:=HLA2;clear hown hg hA hrow HLA2;have x0_0:=lyc Ly 0 rfl 0;have z0_0:=lyf Ly 0 rfl 0;have x0_1:=lyc Ly 0 rfl 1;have z0_1:=lyf Ly 0 rfl 1;have x0_2:=lyc Ly 0 rfl 2;have z0_2:=lyf Ly 0 rfl 2;have x0_3:=lyc Ly 0 rfl 3;have z0_3:=lyf Ly 0 rfl 3;have l0_:=Ly.out.lt 0 rfl;gi_upto_region 8 with fail
   have hgs:=eu (row:=some w.heap.size) (eY V4 _) (p:=⟨w.heap.size,3,none⟩) (.inl rfl) (.slice A9 (nt+1) c9);have hl:=iF Ly.out (fun b hb=>by simp only [List.mem_cons,List.not_mem_nil,or_false] at hb;rcases hb with rfl | rfl<;>simp<;>omega) hgs ((Ly.out.blk 0 rfl).set_ 3 (.slice A9 (nt+1) c9));have HMO3:=lh (HMO2.out.off hgs HBL.out);clear x0_0 z0_0 x0_1 z0_1 x0_2 z0_2 x0_3 z0_3 l0_;generalize V4.setCell ⟨w.heap.size,3,none⟩ (.slice A9 (nt+1) c9)=V5 at *;replace Ly:=lh (show Lay w V5 [(w.heap.size,26,#[.int .i64 m.fountains,.slice A1 nv c1,.slice A2 na c2,.slice A9 (nt+1) c9]),(w.heap.size+1,69,#[.int .i64 x.num,.int .i64 x.vessel,.int .i64 x.after,.int .i64 x.fountain,.int .i64 x.lo,.int .i64 x.hi]),(w.heap.size+1+1,26,#[.int .i64 0,.slice none 0 0,.slice none 0 0,.slice none 0 0])] from hl);replace HMO:=HMO3;clear hgs hl HMO2 HMO3;obtain ⟨x0_0,x0_1,x0_2,x0_3⟩:=lyc4 Ly 0 rfl;have l0_:=Ly.out.lt 0 rfl;gi_wp2;clear x0_0 x0_1 x0_2 x0_3 l0_;refine ⟨trivial,(callsIn_wide.2 (tj W1.heap.size A9 nt c9 m.tastes x V5 HMO.out.t (by omega) HRI.out)).mono ?_⟩;rintro e V6 ⟨rfl,hown,hg⟩;have hrow:=fu HMO.out.t;have HLA2:=lh (Ly.out.row hg (fun r e=>⟨by have:=(hrow r e).1;have:=HBS.out;omega,fun b hb=>by have:=(hrow r e).1;have:=HBL1.out;have:=HBL2.out;have:=HBL.out;simp only [List.mem_cons,List.not_mem_nil,or_false] at hb;rcases hb with rfl | rfl | rfl<;>dsimp only<;>omega⟩));have HMO2:=lh (show fe V6 _ A1 nv c1 A2 na c2 A9 (nt+1) c9 (gK m (insS m.tastes x)) from HMO.out.tasts (l:=insS m.tastes x) hg hown (.inl rfl));replace Ly:=HLA2;replace HMO:=HMO2;clear hown hg hrow HLA2 HMO2;obtain ⟨x0_0,x0_1,x0_2,x0_3⟩:=lyc4 Ly 0 rfl;have l0_:=Ly.out.lt 0 rfl;gi_wp2;clear x0_0 x0_1 x0_2 x0_3 l0_;refine ⟨trivial,(callsIn_wide.2 (gF A1 nv c1 A2 na c2 A9 (nt+1) c9 (gK m (insS m.tastes x)) V6 (HMO.out.s hnv hna (by omega)))).mono ?_⟩;rintro e W7 ⟨rfl,hb⟩;have HBC:=lh hb;replace Ly:=lyb Ly hb;clear hb
   cases hk:eO (gK m (insS m.tastes x)) with
   | false =>
    rw [show fk (gK m (insS m.tastes x))=40 from by unfold fk;rw [hk];rfl];replace HF:Hid (putS m x=(fd,42)):=lh (by rw [HF.out,hk];rfl);clear hk HMO;have x2_0:=lyc Ly 2 rfl 0;have z2_0:=lyf Ly 2 rfl 0;have x2_1:=lyc Ly 2 rfl 1;have z2_1:=lyf Ly 2 rfl 1;have x2_2:=lyc Ly 2 rfl 2;have z2_2:=lyf Ly 2 rfl 2;have x2_3:=lyc Ly 2 rfl 3;have z2_3:=lyf Ly 2 rfl 3;have l2_:=Ly.out.lt 2 rfl;gi_wp2;have R4:=ret4' (Ly.out.blk 2 rfl) Ly.out.1 (Ly.out.ge 2 rfl) (.int .i64 0) (.slice none 0 0) (.slice none 0 0) (.slice none 0 0);have v0:=R4.1.cell 0;have v1:=R4.1.cell 1;have v2:=R4.1.cell 2;have v3:=R4.1.cell 3;refine bodyPost_ret (v:=.tuple #[.agg #[.int .i64 0,.slice none 0 0,.slice none 0 0,.slice none 0 0],.int .i64 42]) (by simp [results,Tryz.results34,go_sem,v0,v1,v2,v3]) rfl ?_;rw [HF.out];exact ⟨none,0,0,none,0,0,none,0,0,rfl,fe.nothing _ _,⟨by omega,by omega,by omega⟩,R4.2.1⟩
   | true =>
    rw [show fk (gK m (insS m.tastes x))=0 from by unfold fk;rw [hk];rfl];replace HF:Hid (putS m x=((gK m (insS m.tastes x)),0)):=lh (by rw [HF.out,hk];rfl);replace HMO:=lh (HMO.out.below HBC.out);clear hk;obtain ⟨x0_0,x0_1,x0_2,x0_3⟩:=lyc4 Ly 0 rfl;have l0_:=Ly.out.lt 0 rfl;have r0:=lyc Ly 2 rfl 0;have rz0:=lyf Ly 2 rfl 0;have r1:=lyc Ly 2 rfl 1;have rz1:=lyf Ly 2 rfl 1;have r2:=lyc Ly 2 rfl 2;have rz2:=lyf Ly 2 rfl 2;have r3:=lyc Ly 2 rfl 3;have rz3:=lyf Ly 2 rfl 3;have rl:=Ly.out.lt 2 rfl;gi_wp2;have R4:=ret4' (Ly.out.blk 2 rfl) Ly.out.1 (Ly.out.ge 2 rfl) (.int .i64 m.fountains) (.slice A1 nv c1) (.slice A2 na c2) (.slice A9 (nt+1) c9);have v0:=R4.1.cell 0;have v1:=R4.1.cell 1;have v2:=R4.1.cell 2;have v3:=R4.1.cell 3;refine bodyPost_ret (v:=.tuple #[.agg #[.int .i64 m.fountains,.slice A1 nv c1,.slice A2 na c2,.slice A9 (nt+1) c9],.int .i64 0]) (by simp [results,Tryz.results34,go_sem,v0,v1,v2,v3]) rfl ?_;rw [HF.out];exact ⟨_,_,_,_,_,_,_,_,_,rfl,(HMO.out.off R4.2.2 HBL2.out).mono HBS.out,⟨by omega,by omega,by omega⟩,R4.2.1⟩
end Go.Proofs.YthofngceiecniaaGreat
namespace Go.Proofs.YthofngceiecniaaGreat
open Go.RowKit
attribute [local go_sem] Oper.semAt_some
def ra (T:Tb)(f:Int)(k:Nat)(x:MAct)(all s:Held)(n:Int):Prop:=((fi T.m x f all s).1≤n∧n≤(fi T.m x f all s).2)∧eN T.m f T.L (k+1) (eI s (cu T.m x) (toI T.m x) n)
def MovQ (T:Tb)(f:Int)(k:Nat)(x:MAct)(all:Held)(n:Int):Prop:=∃ y:D4,eN T.m f T.L k y.toH∧ra T f k x all y.toH n
theorem k7 {F:Fence}{n:Nat}{P:Program}{fn:Func}{tmps:Array Value}{R:Ending→World→Prop}{B:Nat}{I:World→Prop}(hI:∀ W r,I W→W.heap[r]? =some (.deferred (some []))→B≤r→I (W.putObj r (.deferred none))):∀ (ds:List Deferred) (w:World),fz B w ds→I w →
  (∀ w',I w'→LeavesIn F n P fn tmps R [] .returning w')→LeavesInM F n P fn tmps R ds .returning w
 | [],w,_,hi,h=>h w hi
 | d::ds,w,⟨⟨r,h1,h2,h3,h4⟩,h5⟩,hi,h=>by
  refine ⟨by simp,.inl ⟨r,_,h2,run_takeDeferred h3,?_⟩⟩;refine k7 hI ds _ (h5.keep fun d' hd r' hr h0=>?_) (hI _ _ hi h3 h1) h
  have hne:r'≠r:=by
   intro e;subst e;exact h4 d' hd hr
  exact (World.putObj_heap_other hne).trans h0
theorem xH {T:Tb}{k:Nat}{x:MAct}{all s:Held}{f:Int}(hA:j5 T k x all)(hf:Fits all s)(hv:T.m.vessels.length≤4):((fi T.m x f all s).2+1 - (fi T.m x f all s).1).toNat≤13:=by
 unfold fi;by_cases h0:0≤cu T.m x
 ·rw [if_pos h0]
  have h1:=fp (m:=T.m) hv x;have h2:=hA.rng (cu T.m x).toNat;have h3:=hf.le (cu T.m x).toNat (by omega);rw [Int.toNat_of_nonneg h0] at h2 h3;dsimp only;omega
 ·rw [if_neg h0]
  split<;>dsimp only<;>omega
def UpK (n₀:Nat)(A C:World):Prop:=(n₀≤A.heap.size→Below n₀ A C∧ls A C)∧A.heap.size≤C.heap.size
instance upk_grows (n₀:Nat):Gr.Grows (UpK n₀) where
 refl:=fun W=>⟨fun _=>⟨b_R,fun _ _ _ _ _ _ h=>h⟩,n_R⟩
 trans:=fun h k=>⟨fun hn=>⟨(h.1 hn).1.trans (k.1 (Nat.le_trans hn h.2)).1,fun b cs t fr h1 h2 h3=>(k.1 (Nat.le_trans hn h.2)).2 b cs t fr h1 h2 ((h.1 hn).2 b cs t fr h1 h2 h3)⟩,Nat.le_trans h.2 k.2⟩
 below:=fun h=>⟨fun hn=>⟨h.mono hn,jQ h⟩,h.size⟩
 size:=fun h=>h.2
theorem qe {m m':Nat}{P:Program}{l l':Nat}{f:FuncId}{tmps:Array Value}{assign body:Code}{w:World}{R:Ending→World→Prop}(h:RoundIn Fence.wide m P l f tmps assign body w R):RoundIn (Fence.wide.inRound l') m' P l f tmps assign body w R :=
 ⟨trivial,fun c cs _=>h.2 c cs (fun d hd=>by cases hd)⟩
theorem fz.keepFrom {B:Nat}{w w':World}:∀ {ds:List Deferred},fz B w ds→KeepsFrom B w w'→fz B w' ds
 | [],_,_=>trivial
 | d::ds,⟨⟨r,h1,h2,h3,h4⟩,h5⟩,hk=>⟨⟨r,h1,h2,hk.same _ _ h1 h3 rfl,h4⟩,fz.keepFrom h5 hk⟩
inductive FrV (v0 v1 v2 v3 v4 v5 v17:Value) (ds:List Deferred):Act→Prop
 | mk (u6 u7 u8 u9 u10 u11 u12 u13 u14 u15 u16 u18 u19 u20 u21 u22 u23 u24 u25 u26 u27 u28 u29 u30 u31 u32 u33 u34 u35 u36 u37 u38 u39 u40 u41 u42 u43 u44:Value):FrV v0 v1 v2 v3 v4 v5 v17 ds { tmps:=#[v0,v1,v2,v3,v4,v5,u6,u7,u8,u9,u10,u11,u12,u13,u14,u15,u16,v17,u18,u19,u20,u21,u22,u23,u24,u25,u26,u27,u28,u29,u30,u31,u32,u33,u34,u35,u36,u37,u38,u39,u40,u41,u42,u43,u44],defers:=ds }
inductive FrW (v1 v2 v5 v7 v8:Value) (ds:List Deferred):Act→Prop
 | mk (u0 u3 u4 u6 u9 u10 u11 u12 u13 u14 u15 u16 u17 u18 u19 u20 u21 u22 u23 u24 u25 u26 u27 u28 u29 u30 u31 u32 u33 u34 u35 u36 u37 u38 u39 u40 u41 u42 u43 u44:Value):FrW v1 v2 v5 v7 v8 ds { tmps:=#[u0,v1,v2,u3,u4,v5,u6,v7,v8,u9,u10,u11,u12,u13,u14,u15,u16,u17,u18,u19,u20,u21,u22,u23,u24,u25,u26,u27,u28,u29,u30,u31,u32,u33,u34,u35,u36,u37,u38,u39,u40,u41,u42,u43,u44],defers:=ds }
theorem sj (n:Nat)(hn:3≤n)(gU:Nat)(T:Tb)(f:Int)(A:Option Addr)(nt c:Nat)(rs:List Nat)(ms:List (List (D4 × Bool)))(g1 g2 g3 g4 k rk rn:Nat)(mk mn:List (D4 × Bool))(x:MAct)(all:Held)(w:World)(hT:TrAt w gU T f A nt c rs ms)
  (h1:Blk w g1 107 #[.pointer (some ⟨gU,0,none⟩)]) (h2:Blk w g2 3 #[.int .i64 ((k:Int)+1)]) (h3:Blk w g3 92 #[.pointer (some ⟨T.g,0,none⟩)]) (h4:Blk w g4 3 #[.int .i64 f]) (hok:TbOk T) (hA:j5 T k x all)
  (hrk:rs[k]? =some rk) (hmk:ms[k]? =some mk) (hrn:rs[k+1]? =some rn) (hmn:ms[k+1]? =some mn) (hck:fo mk (eN T.m f T.L k)) (hcn:fo mn (eN T.m f T.L (k+1))) :
  jg Fence.wide n Tryz.prog 69 #[.pointer (some ⟨g1,0,none⟩),.pointer (some ⟨g2,0,none⟩),.pointer (some ⟨g3,0,none⟩),.pointer (some ⟨g4,0,none⟩)] (encI (P:=MovQ T f k x all)) (iM w.heap.size) PAll (mk.length * 13) w:=by
 intro l J w0 hW hJ hY h0;have hmf:∀ (fn:Fn) (first cap:Array Value) (w:World),(Instr.makeFunc fn first cap).run Tryz.prog w = .ok (.func fn first cap) w:=fun _ _ _ _=>rfl;have HJ:=lh hJ;have HY:=lh hY;have H0:=lh h0;have HT:=lh hT;have H1:=lh h1;have H2:=lh h2;have H3:=lh h3;have H4:=lh h4;have HOK:=lh hok;have HAT:=lh hA;have HMK:=lh hmk;have HMN:=lh hmn;have HCK:=lh hck;have HCN:=lh hcn;have HRK:=lh hrk;have HRN:=lh hrn;have HW:=lh hW;have hk12:k≤12:=by have h1:=(g_E hA.hx).1;have h2:=hok.acts;omega
 have HK12:=lh hk12;have hb0:Below w0.heap.size w0 (w0.alloc (.cells #[.func (.yield l) #[] #[]] 127)):=b_R.alloc n_R _;have h5:=Blk.new w0 127 #[.func (.yield l) #[] #[]];have hz5:w0.heap.size<(w0.alloc (.cells #[.func (.yield l) #[] #[]] 127)).heap.size:=by simp
 have hja:J [] (w0.alloc (.cells #[.func (.yield l) #[] #[]] 127)):=hJ [] w0 _ none h0 (eL hb0 none) (fun r e=>by cases e);clear hJ hY h0 hT h1 h2 h3 h4 hok hA hmk hmn hck hcn hrk hrn hW;refine callsIn_of_wp_marks Tryz.func69 rfl trivial ?_ rfl;simp only [Tryz.ntmps69,es,Nat.reduceAdd,Nat.reduceSub];gi_upto_region 1 with fail
 obtain ⟨g5,hg5⟩:∃ g,w0.heap.size=g:=⟨_,rfl⟩
 have HG5:=lh hg5;rw [hg5] at h5 ⊢;generalize (w0.alloc (.cells #[.func (.yield l) #[] #[]] 127))=wa at *;have hWa:=HW.out.trans (hb0.mono HW.out.size);have HB5:=lh h5;have HJA:=lh hja;have HWA:=lh hWa;clear hg5 h5 hb0 hja;have hrd:=(HT.out.below hWa).rd;obtain ⟨g,off,hA2,hgl,hrd2⟩:=dv.plain hrd (by have:=(g_E HRK.out).1;simp;omega);have q9:=hrd2 k (canV rk) (by rw [List.getElem?_map,HRK.out];rfl);have hrn2:w.heap.size≤wa.heap.size:=hWa.size;obtain ⟨g',off',hA3,hgl',hrd3⟩:=dv.plain HT.out.rd (by have:=(g_E HRK.out).1;simp;omega);have q10:=hrd3 (k+1) (canV rn) (by rw [List.getElem?_map,HRN.out];rfl);obtain ⟨rfl,rfl⟩:g=g'∧off=off':=by rw [hA2] at hA3;simpa using hA3
 have HQN:Hid (w.cell? ⟨g,off+(k+1),none⟩=some (.map (some rn))∧g<w.heap.size):=lh ⟨q10,hgl'⟩;unfold canV at q9;subst hA2;have hkn:k+1<nt:=by have h1:=HT.out.rd.1;have h2:=(g_E HRN.out).1;simp at h1;omega
 have HKN:=lh hkn;obtain ⟨w1,hr1,hi1,hg1,hs1⟩:=eZ.range (P:=Tryz.prog) (t:=129) Tryz.underlying129 (show fL wa.drew rk mk from (HT.out.below hWa).maps k rk mk HRK.out HMK.out);have q0:=(HT.out.below hWa).blk.cell 2;have q1:=(H1.out.below hWa H1.out.lt).cell 0;have q2:=(H2.out.below hWa H2.out.lt).cell 0;have l0:=(HT.out.below hWa).blk.lt;have l1:=(H1.out.below hWa H1.out.lt).lt;have l2:=(H2.out.below hWa H2.out.lt).lt;unfold trC at q0;clear hWa hrd hrd2 hrd3 q10 hA3 hgl';have e1:(k:Int)+1 - 1=k:=by omega
 gi_region
 clear q0 q1 q2 q9 l0 l1 l2 hr1 hgl e1;have hb1:Below wa.heap.size wa w1:=(av (Below.refl wa.heap.size wa) 1).grown hg1 n_R (fun k e=>by cases e);replace hi1:eR D4.key Value.bool okD w1 wa.heap.size rk mk mk:=hi1;have hj1:J [] w1:=HJ.out [] wa w1 none HJA.out (eL hb1 none) (fun r e=>by cases e);have HB1:=lh (HWA.out.trans (hb1.mono HWA.out.size));replace HB5:=lh (HB5.out.below hb1 HB5.out.lt);have hit0:w0.heap.size≤wa.heap.size:=Nat.le_of_lt hz5
 obtain ⟨it,hit⟩:∃ i,wa.heap.size=i:=⟨_,rfl⟩
 rw [hit] at hi1 hit0 ⊢;have HIT:=lh hit0;have HI1:=lh hi1;have HJ1:=lh hj1;clear hg1 hs1 hi1 hj1 hb1 hit0 hz5 hkn hrn2 hit;gi_wp2
 refine wpIn_loop (fun a W=>∃ (left:List (D4 × Bool)) (vis:List D4) (pre:List (Pn (MovQ T f k x all))) (ds:List Deferred),Hid (eR D4.key Value.bool okD W it rk mk left∧J pre W∧Below w.heap.size w W∧Blk W g5 127 #[.func (.yield l) #[] #[]]∧fz w0.heap.size W ds∧pre.length+left.length * 13≤mk.length * 13∧(vis++left.map Prod.fst).Perm (mk.map Prod.fst)∧∀ n,(∃ y∈vis,ra T f k x all y.toH n)→∃ z∈pre,z.1=n)∧FrV (.func (.yield l) #[] #[]) (.pointer (some ⟨g1,0,none⟩)) (.pointer (some ⟨g2,0,none⟩)) (.pointer (some ⟨g3,0,none⟩)) (.pointer (some ⟨g4,0,none⟩)) (.pointer (some ⟨g5,0,none⟩)) (.pointer (some ⟨it,0,none⟩)) ds a)
  (fun _ W=>gi W it) ?_ ?_
 ·exact ⟨mk,[],[],[],lh ⟨HI1.out,HJ1.out,HB1.out,HB5.out,trivial,by simp,by simp,fun n ⟨y,hy,_⟩=>by cases hy⟩,by constructor⟩
 clear HB1 HI1 HJ1 HB5 HJA HWA;rintro a W ⟨left,vis,pre,ds,HS,ha⟩;cases ha
 rcases HS.out.1.next (P:=Tryz.prog) 0 with ⟨hl,hr⟩ | ⟨i,⟨y,v⟩,w2,hp,hr,hi2,hg2,hs2,he2⟩
 ·gi_wp2
  subst hl;refine k7 (B:=w0.heap.size) (I:=fun W'=>J pre W') (fun W' r h1 h2 h3=>HJ.out pre W' _ (some r) h1 (grownBy_putObj' W' r _) (fun r' e=>by cases e;exact ⟨h3,_,h2,rfl⟩)) _ _ HS.out.2.2.2.2.1 HS.out.2.1 ?_;intro w' hj;refine ⟨.tuple #[],results_none rfl _ _ _,⟨_,rfl⟩,pre,fun n ⟨y,hy,hm⟩=>HS.out.2.2.2.2.2.2.2 n ⟨y,?_,hm⟩,hj⟩;obtain ⟨v,hv⟩:=(HCK.out.keys y).2 hy;have hpm:=HS.out.2.2.2.2.2.2.1;rw [List.map_nil,List.append_nil] at hpm;exact hpm.mem_iff.2 (List.mem_map.2 ⟨_,hv,rfl⟩)
 obtain ⟨v',hym⟩:=HS.out.1.sub (List.mem_of_getElem? hp);have hyP:eN T.m f T.L k y.toH:=(HCK.out.keys y).1 ⟨v',hym⟩;have hfit:Fits all y.toH:=hyP.fits HOK.out.all HOK.out.vess HAT.out.ha;obtain ⟨x1,x2,x3,x4,ho⟩:=eR.obj HS.out.1;have hj2:J pre w2:=HJ.out pre W w2 _ HS.out.2.1 hg2 (fun r e=>by cases e;exact ⟨HIT.out,_,ho,rfl⟩);have hb2:Below w.heap.size w w2:=HS.out.2.2.1.grown hg2 HS.out.2.2.1.size (fun k e=>by cases e;exact Nat.le_trans HW.out.size HIT.out);have h52:=HS.out.2.2.2.1.grown hg2 (fun e=>mV HS.out.2.2.2.1 ho rfl (Option.some.inj e))
 have hm2:fz w0.heap.size w2 ds:=HS.out.2.2.2.2.1.keep fun d hd r hr' h0'=>(hg2.block r (Array.getElem?_eq_some_iff.1 h0').1 (fun e=>by
  rw [Option.some.inj e,ho] at h0'
  cases h0')).trans h0'
 obtain ⟨s,hs⟩:∃ s,y.toH=s:=⟨_,rfl⟩
 replace hr:(Instr.next (.pointer (some ⟨it,0,none⟩)) false 0).run Tryz.prog W = .ok (.tuple #[.bool true,.agg #[.int .i64 (au s 0),.int .i64 (au s 1),.int .i64 (au s 2),.int .i64 (au s 3)],.bool v]) w2:=by rw [← hs];exact hr
 replace he2:(Instr.entry (.pointer (some ⟨it,0,none⟩))).run Tryz.prog w2 = .ok (.tuple #[.agg #[.int .i64 (au s 0),.int .i64 (au s 1),.int .i64 (au s 2),.int .i64 (au s 3)],.bool v]) w2:=by rw [← hs];exact he2
 rw [hs] at hyP hfit;have HYP:=lh hyP;have HSY:=lh hs;have HFI:=lh hfit;have HI2:=lh hi2;have HJ2:=lh hj2;have HB2:=lh hb2;have HP:=lh hp;have H52:=lh h52;have HM2:=lh hm2;have HLW:=lh HS.out.1.left_eq;have HLEN:Hid (pre.length+left.length * 13≤mk.length * 13):=lh HS.out.2.2.2.2.2.1;have HPM:Hid ((vis++left.map Prod.fst).Perm (mk.map Prod.fst)):=lh HS.out.2.2.2.2.2.2.1;have HQI:Hid (∀ n,(∃ y∈vis,ra T f k x all y.toH n)→∃ z∈pre,z.1=n):=lh HS.out.2.2.2.2.2.2.2;clear hyP hs hi2 hj2 hb2 hp hg2 hs2 ho hym hfit h52 hm2 HS;have q2:=(H2.out.below HB2.out H2.out.lt).cell 0;have q3:=(H3.out.below HB2.out H3.out.lt).cell 0;have q4:=(H4.out.below HB2.out H4.out.lt).cell 0;have l2:=(H2.out.below HB2.out H2.out.lt).lt;have l3:=(H3.out.below HB2.out H3.out.lt).lt;have l4:=(H4.out.below HB2.out H4.out.lt).lt;have hk12:=HK12.out;have e1:(k:Int)+1 - 1=k:=by omega
 gi_wp2;clear hr he2 q2 q3 q4 l2 l3 l4 e1;have hb3:Below w2.heap.size w2 (w2.alloc (.cells #[.int .i64 (au s 0),.int .i64 (au s 1),.int .i64 (au s 2),.int .i64 (au s 3)] 115)):=b_R.alloc n_R _;generalize (w2.alloc (.cells #[.int .i64 (au s 0),.int .i64 (au s 1),.int .i64 (au s 2),.int .i64 (au s 3)] 115))=w3 at *;refine ⟨trivial,fun _=>by omega,(callsIn_wide.2 (mj T k f s w3)).mono ?_⟩;rintro e w4 ⟨rfl,hlay⟩;have hb4:Below w2.heap.size w2 w4:=hb3.trans (hlay.1.mono hb3.size);have HJ4:Hid (J pre w4):=lh (HJ.out pre w2 w4 none HJ2.out (eL hb4 none) (fun r e=>by cases e));have HI4:=lh (HI2.out.below hb4 HI2.out.map.lt HI2.out.lt);have HB4:=lh (HB2.out.trans (hb4.mono HB2.out.size));have H54:=lh (H52.out.below hb4 H52.out.lt);have HM4:=lh (HM2.out.below hb4);have HMV:=lh (MvIn.of_lay hlay (HT.out.tb.below (HB2.out.trans (hb3.mono HB2.out.size))));have hz4:w0.heap.size≤w4.heap.size:=by have:=HI4.out.lt;have:=HIT.out;omega
 have HZ4:=lh hz4;clear hb3 hb4 hlay HJ2 HI2 HB2 H52 HM2 hz4
 obtain ⟨g0,hg0⟩:∃ g0,w3.heap.size=g0:=⟨_,rfl⟩
 rw [hg0] at HMV ⊢;clear hg0;gi_wp2;have hlo13:((fi T.m x f all s).2+1 - (fi T.m x f all s).1).toNat≤13:=xH HAT.out HFI.out HOK.out.vess;have HLO:=lh hlo13;have hws:w.heap.size≤w4.heap.size:=HB4.out.size;have hit4:=HI4.out.lt;have hrk4:=HI4.out.map.lt;have hdl:=HM4.out.lt
 obtain ⟨P0,hP0⟩:∃ P0,pre.length=P0:=⟨_,rfl⟩
 have HP0:=lh hP0;clear hP0 hlo13
 refine wpIn_rangeFunc_ownH rfl (by omega) (gf:=105) (lb:=#[.pointer (some ⟨g0,0,none⟩),.pointer (some ⟨g0+1,0,none⟩),.pointer (some ⟨g0+1+1+1,0,none⟩),.pointer (some ⟨g0+1+1,0,none⟩)]) rfl trivial (enters_of Tryz.func105 (by kernel_rfl) rfl)
  (jH (n - 1) (by omega) T HOK.out k x all HAT.out f s HFI.out g0 (g0+1) (g0+1+1) (g0+1+1+1) w4 HMV.out) (fun h k h2=>k (h h2)) pN b_R (fun _=>rfl)
  (fun ys Wr=>w4.heap.size≤Wr.heap.size∧∃ pre,eR D4.key Value.bool okD Wr it rk mk (left.eraseIdx i)∧J pre Wr∧Below w.heap.size w Wr∧Blk Wr g5 127 #[.func (.yield l) #[] #[]]∧fz w0.heap.size Wr ds∧Blk Wr (g0+1+1+1) 115 #[.int .i64 (au s 0),.int .i64 (au s 1),.int .i64 (au s 2),.int .i64 (au s 3)]∧pre.length≤P0+ys.length∧ys.length≤13∧∀ n,((∃ y∈vis,ra T f k x all y.toH n)∨(n∈ys.map Subtype.val∧eN T.m f T.L (k+1) (eI s (cu T.m x) (toI T.m x) n)))→∃ z∈pre,z.1=n)
  (fun cd pre Wr=>False)
  (fun ys Wr Wr' row h hg hr=>by
   obtain ⟨hz,pre,h1,h2,h3,h4,h5,h6,h7⟩:=h;have hsh:=kY hg hr hz
   exact ⟨Nat.le_trans hz hsh.below.size,pre,h1.below hsh.below hrk4 hit4,HJ.out pre Wr Wr' row h2 hg (fun r e=>⟨Nat.le_trans HZ4.out (hr r e).1,(hr r e).2⟩),h3.trans (hsh.below.mono hws),hsh.blk h4,h5.shut hsh hdl,hsh.blk h6,h7⟩)
  (fun cd=>fm (fun pre Wr h=>h.elim) (fun pre Wr Wr' h hs=>h))
  ⟨n_R,pre,HI4.out,HJ4.out,HB4.out,H54.out,HM4.out,HMV.out.h,by rw [HP0.out];exact n_R,Nat.zero_le _,fun n h=>HQI.out n (h.resolve_right fun h=>by cases h.1)⟩
  (fun y a' Wr=>∃ Bx,w4.heap.size≤Bx∧Blk Wr Bx 115 #[.int .i64 (au (eI s (cu T.m x) (toI T.m x) y.1) 0),.int .i64 (au (eI s (cu T.m x) (toI T.m x) y.1) 1),.int .i64 (au (eI s (cu T.m x) (toI T.m x) y.1) 2),.int .i64 (au (eI s (cu T.m x) (toI T.m x) y.1) 3)]∧FrW (.pointer (some ⟨g1,0,none⟩)) (.pointer (some ⟨g2,0,none⟩)) (.pointer (some ⟨g5,0,none⟩)) (.int .i64 y.1) (.pointer (some ⟨Bx,0,none⟩)) [] a')
  (fun y a'=>fm (fun _ Wr h=>by obtain ⟨Bx,h1,h2,_⟩:=h;exact Nat.le_trans h1 (Nat.le_of_lt h2.lt)) (fun _ Wr Wr' h hs=>by obtain ⟨Bx,h1,h2,h3⟩:=h;exact ⟨Bx,h1,hs.blk h2,h3⟩)) ?assign ?body ?done ?stop
 case stop =>
  rintro D cd pre Wr _ _ h _;exact h.elim
 case assign =>
  rintro l' ys ⟨j,hj⟩ Wr K ⟨hz,pre,h1,h2,h3,h4,h5,h6,h7⟩ hK;unfold Mv.enc;gi_wp2;have hb:Below Wr.heap.size Wr (Wr.alloc (.cells #[.int .i64 (au (eI s (cu T.m x) (toI T.m x) j) 0),.int .i64 (au (eI s (cu T.m x) (toI T.m x) j) 1),.int .i64 (au (eI s (cu T.m x) (toI T.m x) j) 2),.int .i64 (au (eI s (cu T.m x) (toI T.m x) j) 3)] 115)):=b_R.alloc n_R _;exact hK _ _ (fa hb) (fun h=>h.below hb h.lt) ⟨Nat.le_trans hz hb.size,pre,h1.below hb h1.map.lt h1.lt,HJ.out pre Wr _ none h2 (eL hb none) (fun r e=>by cases e),h3.trans (hb.mono h3.size),h4.below hb h4.lt,h5.below hb,h6.below hb h6.lt,h7⟩ ⟨Wr.heap.size,hz,Blk.new Wr _ _,by constructor⟩
 case done =>
  rintro D ys Wr hD hys ⟨hz,pre2,h1,h2,h3,h4,h5,h6,h7,h8,h9⟩ hK;gi_wp2;refine ⟨⟨left.eraseIdx i,vis++[y],pre2,_,lh ⟨h1,h2,h3,h4,h5.more (Nat.le_trans HZ4.out hD) hK (fun dd hd r hr=>Nat.lt_of_lt_of_le (hdl dd hd r hr) hD) #[],?_,?_,fun n hn=>h9 n ?_⟩,by constructor⟩,?_⟩
  ·have h10:=(g_E HP.out).1
   have h11:=HLEN.out;have h12:=HP0.out;rw [List.length_eraseIdx_of_lt h10];omega
  ·have h10:=(fE HP.out).map Prod.fst
   rw [List.append_assoc];exact (List.Perm.append_left vis h10).trans HPM.out
  ·obtain ⟨z,hz2,hm⟩:=hn
   rcases List.mem_append.1 hz2 with hz2 | hz2
   ·exact .inl ⟨z,hz2,hm⟩
   ·obtain rfl:=List.mem_singleton.1 hz2
    rw [HSY.out] at hm;obtain ⟨z2,hz3,e2⟩:=hys n hm.1.1 hm.1.2;exact .inr ⟨List.mem_map.2 ⟨z2,hz3,e2⟩,hm.2⟩
  ·rw [h1.left_eq,HLW.out]
   have h10:=(g_E HP.out).1;rw [List.length_eraseIdx_of_lt h10];omega
 case body =>
  rintro l' ys ⟨j,hj⟩ a' Wr hl ⟨r,hrr⟩ ⟨hz,pre2,h1,h2,h3,h4,h5,h6,h7,h8,h9⟩ ⟨Bx,hBx,bX,ha'⟩ hlen;cases ha';have hfs:=(jS HAT.out.ok HFI.out HOK.out.vess hj).2.2;have hod:=lz hfs (gX HOK.out.all HOK.out.vess (hZ HOK.out.ok) HAT.out.next).2
  obtain ⟨s2,hs2⟩:∃ s2,eI s (cu T.m x) (toI T.m x) j=s2:=⟨_,rfl⟩
  dsimp only at bX;have hs2l:(ofH s2).toH=s2:=iE (by rw [← hs2];unfold eI;rw [i5,gO];exact HFI.out.lh);rw [hs2] at bX hod
  obtain ⟨bt,hbt,hlk⟩:∃ bt:Bool,(bt=true↔eN T.m f T.L (k+1) s2)∧∀ W',Below w.heap.size w W'→(Instr.lookup 129 (.map (some rn)) (.agg #[.int .i64 (au s2 0),.int .i64 (au s2 1),.int .i64 (au s2 2),.int .i64 (au s2 3)]) false).run Tryz.prog W' = .ok (.bool bt) W':=by
   have hmap:fL w rn mn:=HT.out.maps (k+1) rn mn HRN.out HMN.out;by_cases ht:eN T.m f T.L (k+1) s2
   ·refine ⟨true,by simp [ht],fun W' hW'=>?_⟩
    have h5:=(hmap.below hW' hmap.lt).lookup kl hod false;rw [HCN.out.look_some (by rw [hs2l];exact ht)] at h5;exact h5
   ·refine ⟨false,by simp [ht],fun W' hW'=>?_⟩
    have h5:=(hmap.below hW' hmap.lt).lookup kl hod false;rw [HCN.out.look_none (by rw [hs2l];exact ht)] at h5;exact h5
  have HBT:=lh hbt;have HLK:=lh hlk;have HS2:=lh hs2;have HBX:=lh bX;have H1R:=lh h1;have HJR:=lh h2;have HBR:=lh h3;have H5R:=lh h4;have HMR:=lh h5;have H6R:=lh h6;have HLR:=lh (ai h7 (ai h8 hlen));have H9R:=lh h9;have HZR:=lh hz;clear hfs hod hs2 hs2l hbt hlk bX h1 h2 h3 h4 h5 h6 h7 h8 h9 hz hrr hlen
  cases bt with
  | false =>
   gi_wp2;refine wpIn_flow_old [] [true,true,true,true,true,true,true,true,true,true,true,true,true,true,true] [] (by kernel_rfl) (by kernel_rfl) (by kernel_rfl) (av b_R 1) ?_;refine wpFlow_nil (A:=?AFa) ?hqa ?_
   case hqa =>
    rintro σ hσ of hof hcl;have HOF:Hid (∀ z,Below Wr.heap.size Wr (of z)):=lh hof;clear hof hcl;have hbz:∀ z,Below w.heap.size w (of z):=fun z=>HBR.out.trans ((HOF.out z).mono HBR.out.size);have hkz:∀ z,ls Wr (of z):=fun z=>jQ (HOF.out z);have q1:∀ z,(of z).cell? ⟨g1,0,none⟩=some (.pointer (some ⟨gU,0,none⟩)):=fun z=>(H1.out.below (hbz z) H1.out.lt).cell 0;have q2:∀ z,(of z).cell? ⟨g2,0,none⟩=some (.int .i64 ((k:Int)+1)):=fun z=>(H2.out.below (hbz z) H2.out.lt).cell 0;have q0:∀ z,(of z).cell? ⟨gU,2,none⟩=some (.slice (some ⟨g,off,none⟩) nt c):=fun z=>(HT.out.blk.below (hbz z) HT.out.blk.lt).cell 2;have q9:∀ z,(of z).cell? ⟨g,off+(k+1),none⟩=some (.map (some rn)):=fun z=>((hbz z).cell (p:=⟨g,off+(k+1),none⟩) HQN.out.2).trans HQN.out.1;have q5:∀ z,(of z).cell? ⟨g5,0,none⟩=some (.func (.yield l) #[] #[]):=fun z=>(show Blk (of z) g5 127 #[.func (.yield l) #[] #[]] from hkz z _ _ _ _ (by decide) (by decide) H5R.out).cell 0;have hbx:∀ z,Blk (of z) Bx 115 #[.int .i64 (au s2 0),.int .i64 (au s2 1),.int .i64 (au s2 2),.int .i64 (au s2 3)]:=fun z=>hkz z _ _ _ _ (by decide) (by decide) HBX.out;have y0:=fun z=>(hbx z).cell 0;have y1:=fun z=>(hbx z).cell 1;have y2:=fun z=>(hbx z).cell 2;have y3:=fun z=>(hbx z).cell 3;have hlk:∀ z,(Instr.lookup 129 (.map (some rn)) (.agg #[.int .i64 (au s2 0),.int .i64 (au s2 1),.int .i64 (au s2 2),.int .i64 (au s2 3)]) false).run Tryz.prog (of z) = .ok (.bool false) (of z):=fun z=>HLK.out _ (hbz z);have hij:(k:Int)+1<nt:=by have:=HKN.out;omega
    have hn1:((k:Int)+1).toNat=k+1:=by omega
    have hfw:=hfT;clear hbx;simp only [bu]
    repeat (gi_big_quiet_step (fail))
    refine wpQuietIn_nil ?_;exact rfl
   intro V hW;simp only [bu];refine eK ?_;gi_wp2;have hnt:¬ eN T.m f T.L (k+1) s2:=fun h=>by have:=HBT.out.2 h;cases this
   refine ⟨fa hW,fun h=>h.below hW h.lt,Nat.le_trans HZR.out hW.size,pre2,H1R.out.below hW H1R.out.map.lt H1R.out.lt,HJ.out pre2 Wr V none HJR.out (eL hW none) (fun r e=>by cases e),HBR.out.trans (hW.mono HBR.out.size),H5R.out.below hW H5R.out.lt,HMR.out.below hW,H6R.out.below hW H6R.out.lt,?_,?_,fun n hn=>H9R.out n ?_⟩
   ·have h10:=HLR.out;simp;omega
   ·have h10:=HLR.out;have h11:=HLO.out;simp;omega
   ·rcases hn with h | ⟨h,ht⟩
    ·exact .inl h
    ·rw [List.map_append,List.mem_append] at h
     rcases h with h | h
     ·exact .inr ⟨h,ht⟩
     ·obtain rfl:n=j:=by simpa using h
      rw [HS2.out] at ht;exact absurd ht hnt
  | true =>
   gi_wp2;refine Gr.wpIn_flow_old (G:=UpK w.heap.size) [([true,true,true,true,true,true,true,true,true,true,true,true],12)] [false,false,false,false,false,false,false,false,false,false,false,false,false,true,true] [] (by kernel_rfl) (by kernel_rfl) (by kernel_rfl) (av b_R 1) ?_;refine Gr.wpFlow_cons (A:=?AFb) rfl ?hqb ?_
   case hqb =>
    rintro σ hσ of hof hcl;have HOF:Hid (∀ z,UpK w.heap.size Wr (of z)):=lh hof;clear hof hcl;have hbz:∀ z,Below w.heap.size w (of z):=fun z=>HBR.out.trans ((HOF.out z).1 HBR.out.size).1;have hkz:∀ z,ls Wr (of z):=fun z=>((HOF.out z).1 HBR.out.size).2;have q1:∀ z,(of z).cell? ⟨g1,0,none⟩=some (.pointer (some ⟨gU,0,none⟩)):=fun z=>(H1.out.below (hbz z) H1.out.lt).cell 0;have q2:∀ z,(of z).cell? ⟨g2,0,none⟩=some (.int .i64 ((k:Int)+1)):=fun z=>(H2.out.below (hbz z) H2.out.lt).cell 0;have q0:∀ z,(of z).cell? ⟨gU,2,none⟩=some (.slice (some ⟨g,off,none⟩) nt c):=fun z=>(HT.out.blk.below (hbz z) HT.out.blk.lt).cell 2;have q9:∀ z,(of z).cell? ⟨g,off+(k+1),none⟩=some (.map (some rn)):=fun z=>((hbz z).cell (p:=⟨g,off+(k+1),none⟩) HQN.out.2).trans HQN.out.1;have q5:∀ z,(of z).cell? ⟨g5,0,none⟩=some (.func (.yield l) #[] #[]):=fun z=>(show Blk (of z) g5 127 #[.func (.yield l) #[] #[]] from hkz z _ _ _ _ (by decide) (by decide) H5R.out).cell 0;have hbx:∀ z,Blk (of z) Bx 115 #[.int .i64 (au s2 0),.int .i64 (au s2 1),.int .i64 (au s2 2),.int .i64 (au s2 3)]:=fun z=>hkz z _ _ _ _ (by decide) (by decide) HBX.out;have y0:=fun z=>(hbx z).cell 0;have y1:=fun z=>(hbx z).cell 1;have y2:=fun z=>(hbx z).cell 2;have y3:=fun z=>(hbx z).cell 3;have hlk:∀ z,(Instr.lookup 129 (.map (some rn)) (.agg #[.int .i64 (au s2 0),.int .i64 (au s2 1),.int .i64 (au s2 2),.int .i64 (au s2 3)]) false).run Tryz.prog (of z) = .ok (.bool true) (of z):=fun z=>HLK.out _ (hbz z);have hij:(k:Int)+1<nt:=by have:=HKN.out;omega
    have hn1:((k:Int)+1).toNat=k+1:=by omega
    have hfw:=hfT;clear hbx;simp only [bu]
    repeat (gi_big_quiet_step (fail))
    refine wpQuietIn_nil ?_;exact rfl
   intro V1 hW;have HJV:Hid (J pre2 V1):=lh (HJ.out pre2 Wr V1 none HJR.out (eL hW none) (fun r e=>by cases e));have H1V:=lh (H1R.out.below hW H1R.out.map.lt H1R.out.lt);have HBV:=lh (HBR.out.trans (hW.mono HBR.out.size));have H5V:=lh (H5R.out.below hW H5R.out.lt);have HMV1:=lh (HMR.out.below hW);have H6V:=lh (H6R.out.below hW H6R.out.lt);have HKV:=lh (fa (B:=w4.heap.size) hW);have HZV:=lh (Nat.le_trans HZR.out hW.size);clear hW;have htt:eN T.m f T.L (k+1) s2:=by have h:=HBT.out;simpa using h
   obtain ⟨fn,tmps,assign,body,hy,hR⟩:=HY.out pre2 ⟨j,y,by rw [HSY.out];exact HYP.out,by rw [HSY.out];exact ⟨hj,by rw [HS2.out];exact htt⟩⟩ V1 HJV.out (by
    have h1:=HLR.out;have h2:=HLO.out;have h3:=HLEN.out;have h4:=(g_E HP.out).1;have h5:=HP0.out
    omega)
   unfold encI at hy;dsimp only at hy;have HR:=lh hR;clear hR;gi_wp2;refine ⟨fun _=>by omega,(qe HR.out).mono ?_⟩;rintro e V2 ⟨rfl,hJ2,hK2,hF2⟩;have HJ2:=lh hJ2;have HK2:=lh hK2;have HF2:=lh hF2
   have hgr:UpK w.heap.size V1 V2:=⟨fun _=>⟨hK2.1,hK2.2.2⟩,hF2.size⟩
   have HGR:=lh hgr;clear hJ2 hK2 hF2 hgr hy;gi_wp2;refine ⟨trivial,HGR.out,?_⟩;refine Gr.wpFlow_nil (A:=?AFc) ?hqc ?_
   case hqc =>
    rintro σ hσ of hof hcl;clear hof hcl;simp only [bu]
    repeat (gi_big_quiet_step (fail))
    refine wpQuietIn_nil ?_;exact rfl
   intro V3 hW;simp only [bu];refine eK ?_;gi_wp2;have hI2:=H1V.out.walks HK2.out.2.1;have h52:Blk V2 g5 127 #[.func (.yield l) #[] #[]]:=HK2.out.2.2 _ _ _ _ (by decide) (by decide) H5V.out;have h62:Blk V2 (g0+1+1+1) 115 #[.int .i64 (au s 0),.int .i64 (au s 1),.int .i64 (au s 2),.int .i64 (au s 3)]:=HK2.out.2.2 _ _ _ _ (by decide) (by decide) H6V.out;have hm2:fz w0.heap.size V2 ds:=HMV1.out.keepFrom HF2.out;have hb2:=HBV.out.trans HK2.out.1;refine ⟨(HKV.out.trans (mq HF2.out HZ4.out)).trans (fa hW),fun _=>h62.below hW h62.lt,Nat.le_trans HZV.out (Nat.le_trans HF2.out.size hW.size),pre2++[⟨j,_⟩],hI2.below hW hI2.map.lt hI2.lt,HJ.out _ V2 V3 none HJ2.out (eL hW none) (fun r e=>by cases e),hb2.trans (hW.mono hb2.size),h52.below hW h52.lt,hm2.below hW,h62.below hW h62.lt,?_,?_,fun n hn=>?_⟩
   ·have h10:=HLR.out;simp;omega
   ·have h10:=HLR.out;have h11:=HLO.out;simp;omega
   ·rcases hn with h | ⟨h,ht⟩
    ·obtain ⟨z,hz,e⟩:=H9R.out n (.inl h)
     exact ⟨z,List.mem_append_left _ hz,e⟩
    ·rw [List.map_append,List.mem_append] at h
     rcases h with h | h
     ·obtain ⟨z,hz,e⟩:=H9R.out n (.inr ⟨h,ht⟩)
      exact ⟨z,List.mem_append_left _ hz,e⟩
     ·obtain rfl:n=j:=by simpa using h
      exact ⟨_,List.mem_append_right _ (List.mem_singleton_self _),rfl⟩
theorem og (args:Array Value)(W:World):(callFunc 69 args).run Tryz.prog W = .ok (.enter 69 args) W:=by
 simp [go_sem]
def vm (w:World)(m:Mix)(act fountain:Int)(e:Ending)(w':World):Prop:=∃ lo hi ee:Int,e = .returned (.tuple #[.agg #[.int .i64 lo,.int .i64 hi],.int .i64 ee])∧fR m act fountain (lo,hi) ee∧Below w.heap.size w w'
theorem oO {m:Mix}{act f:Int}(hk:eO m=true)(h:¬ ((1≤act∧act≤m.acts.length)∧1≤f∧f≤m.fountains)):fR m act f (0,0) 2 :=
 .inl ⟨by unfold actM;rw [if_pos hk,if_neg h];decide,rfl,by unfold actM;rw [if_pos hk,if_neg h]⟩
theorem can_small' {m:Mix}{f:Int}{T:Tb}{k r:Nat}{W:World}{mk:List (D4 × Bool)}(hTm:T.m=m)(hok:TbOk T)(hk:k≤m.acts.length)(hm:fL W r mk)(hc:fo mk (eN m f T.L k)):mk.length≤28561:=by
 subst hTm;have hL:k<T.L.length:=by have:=hok.long;omega
 have hr:=gX hok.all hok.vess (hZ hok.ok) (List.getElem?_eq_getElem hL)
 exact s4 (eZ.nodup kl hm) (fun p hp=>by
  have h1:=(hc.keys p.1).1 ⟨p.2,hp⟩;have h2:=h1.fits hok.all hok.vess (List.getElem?_eq_getElem hL);have a0:=h2.le 0 (by decide);have a1:=h2.le 1 (by decide);have a2:=h2.le 2 (by decide);have a3:=h2.le 3 (by decide);have b0:=hr.2 0;have b1:=hr.2 1;have b2:=hr.2 2;have b3:=hr.2 3;have e0:au p.1.toH (0:Nat)=p.1.a:=rfl;have e1:au p.1.toH (1:Nat)=p.1.b:=rfl;have e2:au p.1.toH (2:Nat)=p.1.c:=rfl;have e3:au p.1.toH (3:Nat)=p.1.d:=rfl
  omega)
theorem t6 {T:Tb}{f:Int}{k:Nat}{x:MAct}{all:Held}(hok:TbOk T)(hA:j5 T k x all)(ht:eN T.m f T.L 0 fh):∃ n,MovQ T f k x all n:=by
 have hk:=(g_E hA.hx).1;obtain ⟨s,hs⟩:=kF ht (Nat.le_of_lt hk);obtain ⟨s',hg,hs'⟩:=hs.next hk;obtain ⟨j,h1,h2,e⟩:=(lT hA).1 hg;have e2:=iE (hs.fits hok.all hok.vess hA.ha).lh;exact ⟨j,ofH s,by rw [e2];exact hs,by rw [e2];exact ⟨⟨h1,h2⟩,by rw [← e];exact hs'⟩⟩
theorem tx {T:Tb}{m:Mix}{f:Int}{k:Nat}{x:MAct}{all:Held}(hTm:T.m=m)(hok:TbOk T)(hA:j5 T k x all):∀ n,MovQ T f k x all n↔p5 m ((k:Int)+1) f T.L n:=fun n=>by
 subst hTm;unfold MovQ ra p5;have e1:((k:Int)+1).toNat=k+1:=by omega
 rw [e1,Nat.add_sub_cancel];constructor
 ·rintro ⟨y,h1,⟨h2,h3⟩,h4⟩
  exact ⟨x,all,y.toH,hA.hx,hA.ha,h1,h2,h3,h4⟩
 ·rintro ⟨x2,all2,s,h1,h2,h3,h4,h5,h6⟩
  rw [hA.hx] at h1;cases h1;rw [hA.ha] at h2;cases h2;have e2:=iE (h3.fits hok.all hok.vess hA.ha).lh;exact ⟨ofH s,by rw [e2];exact h3,by rw [e2];exact ⟨⟨h4,h5⟩,h6⟩⟩
theorem lZ (Av:Option Addr)(nv cv:Nat)(Aa:Option Addr)(na ca:Nat)(At:Option Addr)(nt ct:Nat)(m:Mix)(act fountain:Int)(w:World)(h:MixS w Av nv Aa na At nt m) :
  CallsIn Fence.wide 9 Tryz.prog 32 #[.agg #[.int .i64 m.fountains,.slice Av nv cv,.slice Aa na ca,.slice At nt ct],.int .i64 act,.int .i64 fountain] w (vm w m act fountain):=by
 have hmf:∀ (fn:Fn) (first cap:Array Value) (w:World),(Instr.makeFunc fn first cap).run Tryz.prog w = .ok (.func fn first cap) w:=fun _ _ _ _=>rfl;have HM:=lh h;have HLA:=lh h.at_.lenA;clear h;refine callsIn_of_wp Tryz.func32 rfl trivial ?_ rfl;simp only [Tryz.ntmps32,es,Nat.reduceAdd,Nat.reduceSub];gi_upto_region 1 with fail
 have Ly:=lh (Lay.four w 26 #[.int .i64 m.fountains,.slice Av nv cv,.slice Aa na ca,.slice At nt ct] 3 #[.int .i64 act] 3 #[.int .i64 fountain] 54 #[.int .i64 0,.int .i64 0]);generalize ((((w.alloc (.cells #[.int .i64 m.fountains,.slice Av nv cv,.slice Aa na ca,.slice At nt ct] 26)).alloc (.cells #[.int .i64 act] 3)).alloc (.cells #[.int .i64 fountain] 3)).alloc (.cells #[.int .i64 0,.int .i64 0] 54))=w0 at *;obtain ⟨x0_0,x0_1,x0_2,x0_3⟩:=lyc4 Ly 0 rfl;have l0_:=Ly.out.lt 0 rfl;gi_wp2;clear x0_0 x0_1 x0_2 x0_3 l0_;refine ⟨trivial,(callsIn_wide.2 (MixS.laid (HM.out.up Ly.out.1))).mono ?_⟩;rintro e W1 ⟨pp,rfl,hb,hp⟩;have HP:=lh hp;clear hp;replace Ly:=lyb Ly hb;clear hb
 cases hk:eO m with
 | false =>
  have HF:Hid (fR m act fountain (0,0) 40):=lh (.inl ⟨by unfold actM;rw [if_neg (by rw [hk];decide)];decide,rfl,by unfold actM;rw [if_neg (by rw [hk];decide)]⟩);clear hk HP;gi_upto_region 2 with fail
  obtain ⟨V2,hV⟩:∃ V,(W1.alloc (.cells #[.pointer pp] 92))=V:=⟨_,rfl⟩
  rw [hV];have hb:=eS hV;have hnew:=eT hV;have hge:=Ly.out.bel.size;replace Ly:=lyb Ly hb;replace Ly:=lh (Ly.out.add hge hnew);clear hnew hge hb hV
  obtain ⟨G3,hG⟩:∃ g,W1.heap.size=g:=⟨_,rfl⟩
  rw [hG] at Ly ⊢;clear hG;replace Ly:=lh (show Lay w V2 [(w.heap.size,26,#[.int .i64 m.fountains,.slice Av nv cv,.slice Aa na ca,.slice At nt ct]),(w.heap.size+1,3,#[.int .i64 act]),(w.heap.size+1+1,3,#[.int .i64 fountain]),(w.heap.size+1+1+1,54,#[.int .i64 0,.int .i64 0]),(G3,92,#[.pointer pp])] from Ly.out);have x3_0:=lyc Ly 3 rfl 0;have z3_0:=lyf Ly 3 rfl 0;have x3_1:=lyc Ly 3 rfl 1;have z3_1:=lyf Ly 3 rfl 1;have l3_:=Ly.out.lt 3 rfl;gi_wp2;have R2:=ret2' (Ly.out.blk 3 rfl) Ly.out.1 (Ly.out.ge 3 rfl) (.int .i64 (0)) (.int .i64 (0));have v0:=R2.1.cell 0;have v1:=R2.1.cell 1;refine bodyPost_ret (v:=.tuple #[.agg #[.int .i64 (0),.int .i64 (0)],.int .i64 (40)]) (by simp [results,Tryz.results32,go_sem,v0,v1]) rfl ?_;exact ⟨_,_,_,rfl,HF.out,R2.2.1⟩
 | true =>
  obtain ⟨g,AA,nl,cl,L,rfl,hg,hL,hT⟩:=HP.out hk
  obtain ⟨T,hTT⟩:∃ T:Tb,T=⟨g,Av,nv,cv,Aa,na,ca,At,nt,ct,AA,nl,cl,m,L⟩:=⟨_,rfl⟩
  have hTg:g=T.g:=by rw [hTT]
  have hTm:T.m=m:=by rw [hTT]
  have HTL:Hid (allM m m.acts=some T.L):=lh (by rw [hTT];exact hL);rw [← hTT] at hT;subst hTg;have HOK:Hid (TbOk T):=lh ⟨by rw [hTm];exact hk,by rw [hTm];exact HTL.out⟩;have HK:=lh hk;have HT:=lh hT.at_;have HTM:=lh hTm;clear HP hTT hL hg hT hk hTm;gi_upto_region 2 with fail
  obtain ⟨V4,hV⟩:∃ V,(W1.alloc (.cells #[.pointer (some ⟨T.g,0,none⟩)] 92))=V:=⟨_,rfl⟩
  rw [hV];have hb:=eS hV;have hnew:=eT hV;have hge:=Ly.out.bel.size;replace Ly:=lyb Ly hb;replace HT:=lh (HT.out.below hb);replace Ly:=lh (Ly.out.add hge hnew);clear hnew hge hb hV
  obtain ⟨G5,hG⟩:∃ g,W1.heap.size=g:=⟨_,rfl⟩
  rw [hG] at Ly ⊢;clear hG;replace Ly:=lh (show Lay w V4 [(w.heap.size,26,#[.int .i64 m.fountains,.slice Av nv cv,.slice Aa na ca,.slice At nt ct]),(w.heap.size+1,3,#[.int .i64 act]),(w.heap.size+1+1,3,#[.int .i64 fountain]),(w.heap.size+1+1+1,54,#[.int .i64 0,.int .i64 0]),(G5,92,#[.pointer (some ⟨T.g,0,none⟩)])] from Ly.out);obtain ⟨x0_0,x0_1,x0_2,x0_3⟩:=lyc4 Ly 0 rfl;have l0_:=Ly.out.lt 0 rfl;have x1_0:=lyc Ly 1 rfl 0;have l1_:=Ly.out.lt 1 rfl;gi_wp2;clear x0_0 x0_1 x0_2 x0_3 l0_ x1_0 l1_;have Y:=du.new V4 3 [act] (V4.heap.size+1) (by omega);have hb1:Below V4.heap.size V4 (V4.alloc (.cells #[.int .i64 act] 3)):=b_R.alloc n_R _;have hc:=gm 1 na (some ⟨V4.heap.size,0,none⟩) 1 1 [act] _ (Y.more (by simp)) (by decide);refine ⟨trivial,(callsIn_wide.2 hc).mono ?_⟩;clear hc Y;rintro e W18 ⟨rfl,hb⟩;have hbb:=hb1.trans (hb.mono hb1.size);clear hb hb1;replace Ly:=lyb Ly hbb;replace HT:=lh (HT.out.below hbb);clear hbb;by_cases hr:1≤act∧act≤na
  ·
   have hi:inB 1 na [act]=true:=by rw [fw];exact decide_eq_true hr
   rw [hi];have HR:=lh hr;clear hr hi;obtain ⟨x0_0,x0_1,x0_2,x0_3⟩:=lyc4 Ly 0 rfl;have l0_:=Ly.out.lt 0 rfl;have x2_0:=lyc Ly 2 rfl 0;have l2_:=Ly.out.lt 2 rfl;gi_wp2;clear x0_0 x0_1 x0_2 x0_3 l0_ x2_0 l2_;have Y:=du.new W18 3 [fountain] (W18.heap.size+1) (by omega);have hb1:Below W18.heap.size W18 (W18.alloc (.cells #[.int .i64 fountain] 3)):=b_R.alloc n_R _;have hc:=gm 1 m.fountains (some ⟨W18.heap.size,0,none⟩) 1 1 [fountain] _ (Y.more (by simp)) (by decide);refine ⟨trivial,(callsIn_wide.2 hc).mono ?_⟩;clear hc Y;rintro e W19 ⟨rfl,hb⟩;have hbb:=hb1.trans (hb.mono hb1.size);clear hb hb1;replace Ly:=lyb Ly hbb;replace HT:=lh (HT.out.below hbb);clear hbb;by_cases hq:1≤fountain∧fountain≤m.fountains
   ·
    have hi:inB 1 m.fountains [fountain]=true:=by rw [fw];exact decide_eq_true hq
    rw [hi];have HAM:Hid (actM m act fountain=0):=lh (by unfold actM;rw [if_pos HK.out,if_pos ⟨by rw [HLA.out];exact HR.out,hq⟩]);clear hq hi;have x2_0:=lyc Ly 2 rfl 0;have l2_:=Ly.out.lt 2 rfl;have x4_0:=lyc Ly 4 rfl 0;have l4_:=Ly.out.lt 4 rfl;gi_wp2;clear x2_0 l2_ x4_0 l4_;have HTD:=lh HT.out;refine ⟨trivial,(c_W (m5 T fountain W19 HTD.out HOK.out)).mono ?_⟩;rintro e W6 ⟨gU,b,A,n,c,rs,ms,rfl,hb,htr,hn,hcan,hb0⟩;have HTR:=lh htr;have HN:=lh hn;have HCN:=lh hcan;have HBB:=lh hb0;clear htr hn hcan hb0;replace Ly:=lyb Ly hb;replace HT:=lh (HT.out.below hb);clear hb;gi_upto_region 7 with fail
    obtain ⟨V7,hV⟩:∃ V,(W6.alloc (.cells #[.pointer (some ⟨gU,0,none⟩)] 107))=V:=⟨_,rfl⟩
    rw [hV];have hb:=eS hV;have hnew:=eT hV;have hge:=Ly.out.bel.size;replace Ly:=lyb Ly hb;replace HT:=lh (HT.out.below hb);replace HTR:=lh (HTR.out.below hb);replace Ly:=lh (Ly.out.add hge hnew);clear hnew hge hb hV
    obtain ⟨G8,hG⟩:∃ g,W6.heap.size=g:=⟨_,rfl⟩
    rw [hG] at Ly ⊢;clear hG;replace Ly:=lh (show Lay w V7 [(w.heap.size,26,#[.int .i64 m.fountains,.slice Av nv cv,.slice Aa na ca,.slice At nt ct]),(w.heap.size+1,3,#[.int .i64 act]),(w.heap.size+1+1,3,#[.int .i64 fountain]),(w.heap.size+1+1+1,54,#[.int .i64 0,.int .i64 0]),(G5,92,#[.pointer (some ⟨T.g,0,none⟩)]),(G8,107,#[.pointer (some ⟨gU,0,none⟩)])] from Ly.out)
    cases b with
    | false =>
     have HF:Hid (fR m act fountain (0,0) 8):=lh (.inr ⟨HAM.out,T.L,HTL.out,.inl ⟨fun h=>by have h2:=HBB.out;rw [HTM.out] at h2;simp [h] at h2,rfl,rfl⟩⟩);have x3_0:=lyc Ly 3 rfl 0;have z3_0:=lyf Ly 3 rfl 0;have x3_1:=lyc Ly 3 rfl 1;have z3_1:=lyf Ly 3 rfl 1;have l3_:=Ly.out.lt 3 rfl;gi_wp2;have R2:=ret2' (Ly.out.blk 3 rfl) Ly.out.1 (Ly.out.ge 3 rfl) (.int .i64 (0)) (.int .i64 (0));have v0:=R2.1.cell 0;have v1:=R2.1.cell 1;refine bodyPost_ret (v:=.tuple #[.agg #[.int .i64 (0),.int .i64 (0)],.int .i64 (8)]) (by simp [results,Tryz.results32,go_sem,v0,v1]) rfl ?_;exact ⟨_,_,_,rfl,HF.out,R2.2.1⟩
    | true =>
     have HTT:Hid (eN m fountain T.L 0 fh):=lh (by have h:=HBB.out;rw [HTM.out] at h;simpa using h)
     obtain ⟨k,hk⟩:∃ k:Nat,act=(k:Int)+1:=⟨(act - 1).toNat,by have:=HR.out;omega⟩
     subst hk;have hkl:k<m.acts.length:=by have h1:=HR.out;have h2:=HLA.out;omega
     obtain ⟨x,hx⟩:∃ x,T.m.acts[k]? =some x:=⟨_,List.getElem?_eq_getElem (by rw [HTM.out];exact hkl)⟩
     obtain ⟨all,hA⟩:=HOK.out.at_ hx;have HAT:=lh hA;have hn:=HN.out;rw [HTM.out] at hn;have hkr:k+1<rs.length:=by have h:=HTR.out.own.len;simp at h;omega
     have hkm:k+1<ms.length:=by have h:=HTR.out.len;omega
     have HRK:Hid (rs[k]? =some rs[k]):=lh (List.getElem?_eq_getElem (by omega));have HMK:Hid (ms[k]? =some ms[k]):=lh (List.getElem?_eq_getElem (by omega));have HRN:Hid (rs[k+1]? =some rs[k+1]):=lh (List.getElem?_eq_getElem hkr);have HMN:Hid (ms[k+1]? =some ms[k+1]):=lh (List.getElem?_eq_getElem hkm);have HCK:=lh (HCN.out k _ HMK.out);have HCL:=lh (HCN.out (k+1) _ HMN.out);have HML:Hid (ms[k].length≤28561):=lh (can_small' HTM.out HOK.out (Nat.le_of_lt hkl) (HTR.out.maps k _ _ HRK.out HMK.out) (by rw [← HTM.out];exact HCK.out));have HEX:Hid (∃ n,MovQ T fountain k x all n):=lh (t6 HOK.out hA (by rw [HTM.out];exact HTT.out));have HF:Hid (∀ lo hi:Int,ir (MovQ T fountain k x all) (lo,hi)→fR m ((k:Int)+1) fountain (lo,hi) 0):=lh fun lo hi hs=>.inr ⟨HAM.out,T.L,HTL.out,.inr ⟨HTT.out,rfl,hs.congr (tx HTM.out HOK.out hA)⟩⟩;have HTRA:=lh (HTR.out.at_ HT.out);clear hkl hx hA hn HCN HBB HN HTR;gi_wp2;refine ⟨trivial,(callsIn_wide.2 (kv 69 #[.pointer (some ⟨G8,0,none⟩),.pointer (some ⟨w.heap.size+1,0,none⟩),.pointer (some ⟨G5,0,none⟩),.pointer (some ⟨w.heap.size+1+1,0,none⟩)] (ms[k].length * 13) V7 (by have:=HML.out;omega) og HEX.out (fun w1 hw1 nq hnq=>sj nq hnq gU T fountain A n c rs ms G8 (w.heap.size+1) G5 (w.heap.size+1+1) k rs[k] rs[k+1] ms[k] ms[k+1] x all w1 (HTRA.out.below hw1) ((Ly.out.below hw1).blk 5 rfl) ((Ly.out.below hw1).blk 1 rfl) ((Ly.out.below hw1).blk 4 rfl) ((Ly.out.below hw1).blk 2 rfl) HOK.out HAT.out HRK.out HMK.out HRN.out HMN.out HCK.out HCL.out))).mono ?_⟩;rintro e W9 ⟨lo,hi,rfl,hsp,hb⟩;have HSP:=lh (HF.out lo hi hsp);clear hsp;replace Ly:=lyb Ly hb;replace HT:=lh (HT.out.below hb);replace HTRA:=lh (HTRA.out.below hb);clear hb;have x3_0:=lyc Ly 3 rfl 0;have z3_0:=lyf Ly 3 rfl 0;have x3_1:=lyc Ly 3 rfl 1;have z3_1:=lyf Ly 3 rfl 1;have l3_:=Ly.out.lt 3 rfl;gi_wp2;have R2:=ret2' (Ly.out.blk 3 rfl) Ly.out.1 (Ly.out.ge 3 rfl) (.int .i64 (lo)) (.int .i64 (hi));have v0:=R2.1.cell 0;have v1:=R2.1.cell 1;refine bodyPost_ret (v:=.tuple #[.agg #[.int .i64 (lo),.int .i64 (hi)],.int .i64 (0)]) (by simp [results,Tryz.results32,go_sem,v0,v1]) rfl ?_;exact ⟨lo,hi,0,rfl,HSP.out,R2.2.1⟩
   ·
    have hi:inB 1 m.fountains [fountain]=false:=by rw [fw];exact decide_eq_false hq
    rw [hi];have HF:Hid (fR m act fountain (0,0) 2):=lh (oO HK.out (fun h=>hq h.2));clear hq hi;have x3_0:=lyc Ly 3 rfl 0;have z3_0:=lyf Ly 3 rfl 0;have x3_1:=lyc Ly 3 rfl 1;have z3_1:=lyf Ly 3 rfl 1;have l3_:=Ly.out.lt 3 rfl;gi_wp2;have R2:=ret2' (Ly.out.blk 3 rfl) Ly.out.1 (Ly.out.ge 3 rfl) (.int .i64 (0)) (.int .i64 (0));have v0:=R2.1.cell 0;have v1:=R2.1.cell 1;refine bodyPost_ret (v:=.tuple #[.agg #[.int .i64 (0),.int .i64 (0)],.int .i64 (2)]) (by simp [results,Tryz.results32,go_sem,v0,v1]) rfl ?_;exact ⟨_,_,_,rfl,HF.out,R2.2.1⟩
  ·
   have hi:inB 1 na [act]=false:=by rw [fw];exact decide_eq_false hr
   rw [hi];have HF:Hid (fR m act fountain (0,0) 2):=lh (oO HK.out (fun h=>hr (by rw [HLA.out] at h;exact h.1)));clear hr hi;obtain ⟨x0_0,x0_1,x0_2,x0_3⟩:=lyc4 Ly 0 rfl;have l0_:=Ly.out.lt 0 rfl;gi_wp2;refine ⟨trivial,?_⟩;clear x0_0 x0_1 x0_2 x0_3 l0_;have x3_0:=lyc Ly 3 rfl 0;have z3_0:=lyf Ly 3 rfl 0;have x3_1:=lyc Ly 3 rfl 1;have z3_1:=lyf Ly 3 rfl 1;have l3_:=Ly.out.lt 3 rfl;gi_wp2;have R2:=ret2' (Ly.out.blk 3 rfl) Ly.out.1 (Ly.out.ge 3 rfl) (.int .i64 (0)) (.int .i64 (0));have v0:=R2.1.cell 0;have v1:=R2.1.cell 1;refine bodyPost_ret (v:=.tuple #[.agg #[.int .i64 (0),.int .i64 (0)],.int .i64 (2)]) (by simp [results,Tryz.results32,go_sem,v0,v1]) rfl ?_;exact ⟨_,_,_,rfl,HF.out,R2.2.1⟩
end Go.Proofs.YthofngceiecniaaGreat
