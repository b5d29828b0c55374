/- Part 15 of the texts of this claim, joined. -/
import Derived.Sort.CutIn
import Derived.Test.YthofngceiecniaaGreatZxB14
set_option linter.unusedVariables false
/- Drops followed one by one: what lies in memory meanwhile. -/
namespace Go.Proofs.YthofngceiecniaaGreat
set_option maxHeartbeats 32000000
set_option maxRecDepth 100000
section
open Go.RowKit Go.Shelf
def KI (W W':World):Prop:=W.heap.size≤W'.heap.size∧∀ g cs,Blk W g 3 cs→Blk W' g 3 cs
theorem KI.trans {A B C:World}(h:KI A B)(k:KI B C):KI A C:=⟨Nat.le_trans h.1 k.1,fun g cs hb=>k.2 g cs (h.2 g cs hb)⟩
theorem KI.of_below {A B:World}(h:Below A.heap.size A B):KI A B:=⟨h.size,fun g cs hb=>hb.below h hb.lt⟩
theorem KI.setCell {W:World}{g:Nat}{t:TypeId}{cs:Array Value}(hb:Blk W g t cs)(ht:t≠3)(q:Nat)(v:Value):KI W (W.setCell ⟨g,q,none⟩ v) :=
 ⟨by simp,fun k ks hk=>hk.far (p:=⟨g,q,none⟩) (fun e=>by
  subst e;unfold Blk at hk hb;rw [hb] at hk;cases hk
  exact ht rfl) v⟩
theorem KI.grown {W W':World}{row:Option Nat}(h:W.grownBy W' row)(hr:∀ r,row=some r→∃ t cs,Blk W r t cs∧t≠3):KI W W' :=
 ⟨h.size,fun k ks hk=>hk.grown h (fun e=>by
  obtain ⟨t,cs,hb,ht⟩:=hr k e.symm;unfold Blk at hk hb;rw [hb] at hk;cases hk
  exact ht rfl)⟩
theorem KI.own {W W':World}{base size n cap:Nat}{e:TypeId}{A:Option Addr}{xs:List Value}(h:Own W base e size A n cap xs)(he:e≠3)(hg:W.grownBy W' (A.map (·.block))):KI W W' :=
 KI.grown hg fun r hr=>by
  obtain ⟨_,cs,hb⟩:=eR h r hr;exact ⟨e,cs,hb,he⟩
structure LI (W:World)(x:Wy):Prop where
 ints:db W W.heap.size x.A x.n x.l
 typ:∀ a,x.A=some a→∃ cs,Blk W a.block 3 cs
 le:x.n≤12
theorem LI.keep {W W':World}{x:Wy}(h:LI W x)(hk:KI W W'):LI W' x :=
 ⟨df.more (df.hold h.ints fun b o ho hc a ha hab=>by
  obtain ⟨cs,hb⟩:=h.typ a ha;rw [hab] at hb;have h2:=hk.2 b cs hb;unfold Blk at hb h2;rw [ho] at hb;cases hb
  exact h2) hk.1,fun a ha=>by
  obtain ⟨cs,hb⟩:=h.typ a ha
  exact ⟨cs,hk.2 _ _ hb⟩,h.le⟩
theorem LI.below {W W':World}{x:Wy}(h:LI W x)(hb:Below W.heap.size W W'):LI W' x:=h.keep (KI.of_below hb)
theorem LI.none_ {W:World}:LI W ⟨[],none,0,0⟩:=⟨df.none_,(fun a e=>by cases e),by decide⟩
theorem LI.own {W:World}{base n cap:Nat}{A:Option Addr}{l:List Int}(h:Own W base 3 1 A n cap (l.map (Value.int .i64)))(hn:n≤12):LI W ⟨l,A,n,cap⟩ :=
 ⟨h.reads n_R,fun a ha=>by
  obtain ⟨_,cs,hb⟩:=eR h a.block (by rw [show A=some a from ha];rfl)
  exact ⟨cs,hb⟩,hn⟩
def fz (F:Nat→Wy):Array Value:=#[(F 0).val,(F 1).val,(F 2).val,(F 3).val]
def updW (F:Nat→Wy)(q:Nat)(v:Wy):Nat→Wy:=fun i=>if i=q then v else F i
def hpOf (F:Nat→Wy):fc:=[(F 0).l,(F 1).l,(F 2).l,(F 3).l]
theorem ij (F:Nat→Wy){q:Nat}(hq:q<4):(fz F)[q]? =some (F q).val:=by
 match q,hq with
 | 0,_=>rfl
 | 1,_=>rfl
 | 2,_=>rfl
 | 3,_=>rfl
theorem sf (F:Nat→Wy){q:Nat}(hq:q<4)(v:Wy):(fz F).setIfInBounds q v.val=fz (updW F q v):=by
 match q,hq with
 | 0,_=>rfl
 | 1,_=>rfl
 | 2,_=>rfl
 | 3,_=>rfl
theorem pF {F:Nat→Wy}{q:Nat}{v:Wy}:updW F q v q=v:=if_pos rfl
theorem sh {F:Nat→Wy}{q i:Nat}{v:Wy}(h:i≠q):updW F q v i=F i:=if_neg h
theorem kZ (F:Nat→Wy){q:Nat}(hq:q<4)(v:Wy):(hpOf F).set q v.l=hpOf (updW F q v):=by
 match q,hq with
 | 0,_=>rfl
 | 1,_=>rfl
 | 2,_=>rfl
 | 3,_=>rfl
theorem jW (F:Nat→Wy){q:Nat}(hq:q<4):hpAt (hpOf F) (q:Int)=(F q).l:=by
 match q,hq with
 | 0,_=>rfl
 | 1,_=>rfl
 | 2,_=>rfl
 | 3,_=>rfl
theorem io (F:Nat→Wy):(fz F).toList.length=4:=rfl
def gn (Q:List (Nat→Wy)):List Value:=Q.flatMap fun F=>(fz F).toList
theorem kv:∀ Q:List (Nat→Wy),(gn Q).length=Q.length * 4
 | []=>rfl
 | F::Q=>by
  unfold gn;rw [List.flatMap_cons,List.length_append];have:=kv Q;unfold gn at this;rw [this,io,List.length_cons];omega
theorem ni:∀ {Q:List (Nat→Wy)} {F:Nat→Wy} {t i:Nat},Q[t]? =some F→i<4→(gn Q)[t * 4+i]? =some (F i).val
 | [],F,t,i,h,_=>by simp at h
 | G::Q,F,0,i,h,hi=>by
  have e:G=F:=by simpa using h
  subst e;unfold gn;rw [List.flatMap_cons,List.getElem?_append_left (by rw [io];omega),Array.getElem?_toList,Nat.zero_mul,Nat.zero_add,ij G hi]
 | G::Q,F,t+1,i,h,hi=>by
  have h':Q[t]? =some F:=by simpa using h
  have:=ni h' hi;unfold gn at this ⊢;rw [List.flatMap_cons,List.getElem?_append_right (by rw [io];omega),io,← this]
  congr 1
  omega
structure WS (g:Nat)(W:World)(F:Nat→Wy)(Q:List (Nat→Wy))(R:List Wy)(hA:Option Addr)(hc:Nat)(mA:Option Addr)(mc:Nat):Prop where
 now:Blk W g 52 (fz F)
 nowI:∀ i,i<4→LI W (F i)
 holds:Own W (g+1) 52 4 hA Q.length hc (gn Q)
 holdsI:∀ G∈Q,∀ i,i<4→LI W (G i)
 moves:Own W (g+1) 34 1 mA R.length mc (R.map Wy.val)
 movesI:∀ x∈R,LI W x
section
variable {g:Nat} {W W':World} {F:Nat→Wy} {Q:List (Nat→Wy)} {R:List Wy} {hA mA:Option Addr} {hc mc:Nat}
theorem WS.below (h:WS g W F Q R hA hc mA mc)(hb:Below W.heap.size W W'):WS g W' F Q R hA hc mA mc :=
 ⟨h.now.below hb h.now.lt,fun i hi=>(h.nowI i hi).below hb,h.holds.below hb n_R,fun G hG i hi=>(h.holdsI G hG i hi).below hb,h.moves.below hb n_R,fun x hx=>(h.movesI x hx).below hb⟩
theorem WS.set (h:WS g W F Q R hA hc mA mc){q:Nat}(hq:q<4){x:Wy}(hx:LI W x):WS g (W.setCell ⟨g,q,none⟩ x.val) (updW F q x) Q R hA hc mA mc:=by
 have hk:=KI.setCell h.now (by decide) q x.val;refine ⟨?_,fun i hi=>?_,gQ h.holds (Nat.lt_succ_self _) _,fun G hG i hi=>(h.holdsI G hG i hi).keep hk,gQ h.moves (Nat.lt_succ_self _) _,fun y hy=>(h.movesI y hy).keep hk⟩
 ·have:=h.now.set_ q x.val
  rwa [sf F hq x] at this
 ·by_cases e:i=q
  ·subst e
   rw [pF];exact hx.keep hk
  ·rw [sh e]
   exact (h.nowI i hi).keep hk
theorem WS.push (h:WS g W F Q R hA hc mA mc){hA':Option Addr}{hc':Nat}(ho:Own W' (g+1) 52 4 hA' (Q.length+1) hc' (gn Q++(fz F).toList))(hg:W.grownBy W' (hA.map (·.block))):WS g W' F (Q++[F]) R hA' hc' mA mc:=by
 have hk:=KI.own h.holds (by decide) hg;have hb:=h.now.grown hg (fun e=>by have:=(eR h.holds g e.symm).1;omega);refine ⟨hb,fun i hi=>(h.nowI i hi).keep hk,?_,fun G hG i hi=>?_,h.moves.grown hg (oR h.moves h.holds (by decide)),fun y hy=>(h.movesI y hy).keep hk⟩
 ·have e:gn (Q++[F])=gn Q++(fz F).toList:=by unfold gn;simp
  rw [List.length_append,e];exact ho
 ·rcases List.mem_append.1 hG with hG | hG
  ·exact (h.holdsI G hG i hi).keep hk
  ·rw [List.mem_singleton.1 hG]
   exact (h.nowI i hi).keep hk
theorem WS.move (h:WS g W F Q R hA hc mA mc){mA':Option Addr}{mc':Nat}{x:Wy}(hx:LI W x)(ho:Own W' (g+1) 34 1 mA' (R.length+1) mc' (R.map Wy.val++[x.val]))(hg:W.grownBy W' (mA.map (·.block))):WS g W' F Q (R++[x]) hA hc mA' mc':=by
 have hk:=KI.own h.moves (by decide) hg;have hb:=h.now.grown hg (fun e=>by have:=(eR h.moves g e.symm).1;omega);refine ⟨hb,fun i hi=>(h.nowI i hi).keep hk,h.holds.grown hg (oR h.holds h.moves (by decide)),fun G hG i hi=>(h.holdsI G hG i hi).keep hk,?_,fun y hy=>?_⟩
 ·rw [List.length_append,List.map_append]
  exact ho
 ·rcases List.mem_append.1 hy with hy | hy
  ·exact (h.movesI y hy).keep hk
  ·rw [List.mem_singleton.1 hy]
   exact hx.keep hk
end
theorem Went.snoc {m:Mix}{n:Nat}{H:Nat→fc}{Dr:Nat→List Int}(h:Went m n H Dr){x:MAct}(hx:m.acts[n]? =some x){drops:List Int}{H':fc}(hs:oM m x (H n) drops H') :
  Went m (n+1) (fun i=>if i=n+1 then H' else H i) (fun i=>if i=n then drops else Dr i):=by
 refine ⟨by rw [if_neg (by omega)];exact h.zero,fun {t} {y} ht hy=>?_⟩;by_cases e:t=n
 ·subst e
  rw [hx] at hy;cases hy;rw [if_neg (by omega),if_pos rfl,if_pos rfl];exact hs
 ·rw [if_neg (by omega),if_neg e,if_neg (by omega)]
  exact h.step (by omega) hy
def mG (Q:List (Nat→Wy))(n:Nat)(H:Nat→fc):Prop:=Q.length=n+1∧∀ t G,Q[t]? =some G→H t=hpOf G
def oP (R:List Wy)(n:Nat)(Dr:Nat→List Int):Prop:=R.length=n∧∀ t x,R[t]? =some x→Dr t=x.l
theorem mG.snoc {Q:List (Nat→Wy)}{n:Nat}{H:Nat→fc}(h:mG Q n H)(G:Nat→Wy):mG (Q++[G]) (n+1) (fun i=>if i=n+1 then hpOf G else H i):=by
 refine ⟨by rw [List.length_append,h.1];rfl,fun t K hK=>?_⟩;dsimp only;by_cases e:t=n+1
 ·subst e
  rw [List.getElem?_append_right (by rw [h.1];exact n_R),h.1] at hK;have:G=K:=by simpa using hK
  rw [if_pos rfl,this]
 ·rw [if_neg e]
  have hl:=(g_E hK).1;rw [List.length_append,h.1] at hl;simp only [List.length_cons,List.length_nil] at hl;rw [List.getElem?_append_left (by rw [h.1];omega)] at hK;exact h.2 t K hK
theorem oP.snoc {R:List Wy}{n:Nat}{Dr:Nat→List Int}(h:oP R n Dr)(x:Wy):oP (R++[x]) (n+1) (fun i=>if i=n then x.l else Dr i):=by
 refine ⟨by rw [List.length_append,h.1];rfl,fun t K hK=>?_⟩;dsimp only;by_cases e:t=n
 ·subst e
  rw [List.getElem?_append_right (by rw [h.1];exact n_R),h.1] at hK;have:x=K:=by simpa using hK
  rw [if_pos rfl,this]
 ·rw [if_neg e]
  have hl:=(g_E hK).1;rw [List.length_append,h.1] at hl;simp only [List.length_cons,List.length_nil] at hl;rw [List.getElem?_append_left (by rw [h.1];omega)] at hK;exact h.2 t K hK
theorem ry {l d h:List Int}{i:Nat}{x:Int}(hp:(d++l).Perm h)(hx:l[i]? =some x):((d++[x])++(l.take i++l.drop (i+1))).Perm h:=by
 obtain ⟨hi,rfl⟩:=g_E hx;refine List.Perm.trans ?_ hp;rw [List.append_assoc];refine List.Perm.append_left d ?_;have e:l=l.take i++l[i]::l.drop (i+1):=by rw [← List.drop_eq_getElem_cons hi,List.take_append_drop]
 have h1:(l[i]::(l.take i++l.drop (i+1))).Perm (l.take i++l[i]::l.drop (i+1)):=(List.perm_middle).symm;rw [← e] at h1;exact h1
theorem oV {w:World}{B n r:Nat}{A:Option Addr}{l:List Int}(h:db w B A n l)(hr:r≤n):db w B A r (l.take r):=by
 have hl:=h.len;refine ⟨by simp;omega,fun h0=>?_⟩;obtain ⟨ad,e,hb,hc⟩:=h.2 (by omega);refine ⟨ad,e,hb,fun j u hu=>hc j u ?_⟩;rw [List.getElem?_map,List.getElem?_take] at hu
 split at hu
 ·rw [List.getElem?_map];exact hu
 ·cases hu
theorem tK {w:World}{B n r b off:Nat}{l:List Int}(h:db w B (some ⟨b,off,none⟩) n l)(hr:r≤n):db w B (some ⟨b,off+r,none⟩) (n - r) (l.drop r):=by
 have hl:=h.len;refine ⟨by simp;omega,fun h0=>?_⟩;obtain ⟨ad,e,hb,hc⟩:=h.2 (by omega);cases e;refine ⟨_,rfl,hb,fun j u hu=>?_⟩;rw [List.getElem?_map,List.getElem?_drop] at hu;have h1:=hc (r+j) u (by rw [List.getElem?_map];exact hu);rw [← h1]
 congr 1
 unfold Addr.add;by_cases h2:j=0
 ·subst h2
  by_cases h3:r=0
  ·subst h3;simp
  ·simp [h3]
 ·have h3:¬ r+j=0:=by omega
  simp only [h2,h3,if_false];simp
theorem uj {w:World}{B:Nat}{A:Option Addr}:db w B A 0 []:=⟨rfl,fun h=>absurd h (Nat.lt_irrefl 0)⟩
section
variable {m:Mix} {A:List Held} {all:Held} {x:MAct} {t:Nat} {F F1:Nat→Wy} {d:List Int}
theorem qP (hok:dm m=true)(hA:allM m m.acts=some A)(hx:m.acts[t]? =some x)(ha:A[t]? =some all)(h4:x.kind≠4):1≤x.drops∧x.drops≤12:=by
 have hv:=(dv hok).1;obtain ⟨h1,h2⟩:=iz hA hv hx ha;have hr:=eM hA hv (eU hok) ha;have hr2:=eM hA hv (eU hok) h2;have hs:=h1.size;have hkd:=h1.kind;by_cases e1:x.kind=1
 ·have ht:=h1.to_ (.inl e1)
  have ht4:=eN (id:=x.to) hv;have e2:toI m x=idxV m.vessels x.to:=by unfold toI;rw [if_pos (.inl e1)]
  have e3:cu m x = -1:=by unfold cu;rw [if_pos e1]
  have e4:dw m all x=x.drops:=by unfold dw;rw [if_neg h4]
  have e5:=fx hv x hr.1 (dw m all x) (i:=(idxV m.vessels x.to).toNat) (by omega);have e6:=hr2.2 (idxV m.vessels x.to).toNat;have e7:=hr.2 (idxV m.vessels x.to).toNat;rw [e2,e3,e4,if_pos (by omega),if_neg (by omega)] at e5;rw [e2,e3,e4] at e6;have:=hs.1 e1;omega
 ·have hf:=h1.from_ e1
  have:=hs.2 (by omega);have e7:=hr.2 (idxV m.vessels x.fr).toNat;rw [show (((idxV m.vessels x.fr).toNat:Nat):Int)=idxV m.vessels x.fr by omega] at e7;omega
def Mid (m:Mix)(x:MAct)(F:Nat→Wy)(d:List Int)(F1:Nat→Wy):Prop :=
 (x.kind=1→F1=F∧d=List.replicate x.drops.toNat x.fr)∧(x.kind≠1→∃ (qf:Nat) (L:Wy),qf<4∧idxV m.vessels x.fr=(qf:Int)∧(d++L.l).Perm (F qf).l∧F1=updW F qf L∧(x.kind=4→L.l=[])∧(x.kind≠4→d.length=x.drops.toNat))
theorem Mid.out (h:Mid m x F d F1)(hx:kY m all x)(hk:¬ x.kind≤2):oM m x (hpOf F) d (hpOf F1):=by
 obtain ⟨qf,L,h4,hq,hp,rfl,k4,k5⟩:=h.2 (by omega);have e1:cu m x=(qf:Int):=by unfold cu;rw [if_neg (by omega),hq]
 have e2:toI m x = -1:=by unfold toI;rw [if_neg (by omega)]
 refine ⟨L.l,fun e=>absurd e (by omega),fun _=>?_,k4,k5,?_⟩
 ·rw [e1,jW F h4]
  exact hp
 ·unfold l5
  dsimp only;rw [e1,e2,if_neg (show ¬ ((0:Int)≤-1) by decide),if_pos (show (0:Int)≤(qf:Int) by omega),Int.toNat_natCast,kZ F h4]
theorem Mid.into (h:Mid m x F d F1)(hx:kY m all x)(hk:x.kind≤2){qt:Nat}{T:Wy}(hq4:qt<4)(hqt:idxV m.vessels x.to=(qt:Int))(hT:T.l=(F1 qt).l++d):oM m x (hpOf F) d (hpOf (updW F1 qt T)):=by
 have hkd:=hx.kind;have e2:toI m x=(qt:Int):=by unfold toI;rw [if_pos (by omega),hqt]
 by_cases e:x.kind=1
 ·obtain ⟨rfl,rfl⟩:=h.1 e
  have e1:cu m x = -1:=by unfold cu;rw [if_pos e]
  refine ⟨[],fun _=>rfl,fun k=>absurd e k,fun k=>by omega,fun _=>by rw [List.length_replicate],?_⟩;unfold l5;dsimp only;rw [e1,e2,if_neg (show ¬ ((0:Int)≤-1) by decide),if_pos (show (0:Int)≤(qt:Int) by omega),jW F1 hq4,Int.toNat_natCast,← hT,kZ F1 hq4]
 ·obtain ⟨qf,L,h4,hq,hp,rfl,k4,k5⟩:=h.2 e
  have e1:cu m x=(qf:Int):=by unfold cu;rw [if_neg e,hq]
  refine ⟨L.l,fun k=>absurd k e,fun _=>?_,k4,k5,?_⟩
  ·rw [e1,jW F h4]
   exact hp
  ·unfold l5
   dsimp only;rw [e1,e2,if_pos (show (0:Int)≤(qf:Int) by omega),if_pos (show (0:Int)≤(qt:Int) by omega),Int.toNat_natCast,kZ F h4,jW (updW F qf L) hq4,Int.toNat_natCast,← hT,kZ (updW F qf L) hq4]
theorem Went.le {H:Nat→fc}{Dr:Nat→List Int}{n:Nat}(hok:dm m=true)(hA:allM m m.acts=some A)(h:Went m n H Dr)(hn:n≤m.acts.length){G:Nat→Wy}(hG:H n=hpOf G){q:Nat}(hq:q<4):(G q).l.length≤12∧∀ a,A[n]? =some a→((G q).l.length:Int)=au a q:=by
 have hv:=(dv hok).1;have hl:=eH m m.acts A hA;have h0:A[n]? =some (A[n]'(by omega)):=List.getElem?_eq_getElem (by omega);have h1:=h.holds hA hv hn n_R h0 hq;have h2:=(eM hA hv (eU hok) h0).2 q;rw [hG,jW G hq] at h1;refine ⟨by omega,fun a ha=>?_⟩;rw [h0] at ha;cases ha;exact h1
end
structure WOut (W:World)(hA:Option Addr)(mA:Option Addr)(n:Nat)(Q:List (Nat→Wy))(R:List Wy):Prop where
 holds:df W W.heap.size 4 hA (n+1) (gn Q)
 holdsI:∀ G∈Q,∀ i,i<4→LI W (G i)
 moves:df W W.heap.size 1 mA n (R.map Wy.val)
 movesI:∀ x∈R,LI W x
theorem WOut.below {W W':World}{hA mA:Option Addr}{n:Nat}{Q:List (Nat→Wy)}{R:List Wy}(h:WOut W hA mA n Q R)(hb:Below W.heap.size W W'):WOut W' hA mA n Q R :=
 ⟨(h.holds.below hb).more hb.size,fun G hG i hi=>(h.holdsI G hG i hi).below hb,(h.moves.below hb).more hb.size,fun x hx=>(h.movesI x hx).below hb⟩
def qAt (Q:List (Nat→Wy))(t i:Nat):Wy:=((Q[t]?).getD fun _=>⟨[],none,0,0⟩) i
theorem WOut.atq {W:World}{b off:Nat}{mA:Option Addr}{n:Nat}{Q:List (Nat→Wy)}{R:List Wy}(h:WOut W (some ⟨b,off,none⟩) mA n Q R){t i:Nat}(hQ:Q.length=n+1)(ht:t≤n)(hi:i<4) :
  b<W.heap.size∧LI W (qAt Q t i)∧W.cell? ⟨b,off+t * 4+i,none⟩=some (qAt Q t i).val:=by
 have hG:Q[t]? =some (Q[t]'(by rw [hQ];omega)):=List.getElem?_eq_getElem (by rw [hQ];omega);obtain ⟨b',off',e,hb,hc⟩:=h.holds.plain (by rw [kv,hQ];omega);cases e;have h1:=hc _ _ (ni hG hi);have e2:qAt Q t i=(Q[t]'(by rw [hQ];omega)) i:=by unfold qAt;rw [hG];rfl
 rw [e2];exact ⟨hb,h.holdsI _ (List.mem_of_getElem? hG) i hi,by rw [Nat.add_assoc];exact h1⟩
theorem yC {n:Nat}{Q:List (Nat→Wy)}{H:Nat→fc}(hQ:mG Q n H){t i:Nat}(ht:t≤n)(hi:i<4):(qAt Q t i).l=hpAt (H t) (i:Int):=by
 have hG:Q[t]? =some (Q[t]'(by rw [hQ.1];omega)):=List.getElem?_eq_getElem (by rw [hQ.1];omega);unfold qAt;rw [hG,hQ.2 t _ hG,jW _ hi];rfl
theorem WOut.plain {W:World}{hA mA:Option Addr}{n:Nat}{Q:List (Nat→Wy)}{R:List Wy}(h:WOut W hA mA n Q R)(hQ:Q.length=n+1):∃ b off,hA=some ⟨b,off,none⟩:=by
 obtain ⟨b,off,e,_⟩:=h.holds.plain (by rw [kv,hQ];omega);exact ⟨b,off,e⟩
theorem WOut.mv {W:World}{hA mA:Option Addr}{n:Nat}{Q:List (Nat→Wy)}{R:List Wy}{Dr:Nat→List Int}(h:WOut W hA mA n Q R)(hR:oP R n Dr){t:Nat}(ht:t<n) :
  ∃ b off x,mA=some ⟨b,off,none⟩∧b<W.heap.size∧LI W x∧x.l=Dr t∧W.cell? ⟨b,off+t,none⟩=some x.val:=by
 have hG:R[t]? =some (R[t]'(by rw [hR.1];omega)):=List.getElem?_eq_getElem (by rw [hR.1];omega);obtain ⟨b,off,e,hb,hc⟩:=h.moves.plain (by rw [List.length_map,hR.1];omega);exact ⟨b,off,_,e,hb,h.movesI _ (List.mem_of_getElem? hG),(hR.2 t _ hG).symm,hc t _ (by rw [List.getElem?_map,hG];rfl)⟩
end
section
open Go.RowKit Go.Shelf
attribute [local go_sem] Oper.semAt_some
inductive yD (v1 v5 v8 v9 v10:Value):Act→Prop
 | mk (a b c d e f g h i j k l m n o p:Value):yD v1 v5 v8 v9 v10 ⟨#[a,v1,b,c,d,v5,e,f,v8,v9,v10,g,h,i,j,k,l,m,n,o,p],[]⟩
theorem mO (A:Option Addr)(n c:Nat)(l:List Int)(f:Int)(w:World)(hl:db w w.heap.size A n l)(hn:n≤1000) :
  CallsIn Fence.wide 9 Tryz.prog 26 #[.slice A n c,.int .i64 f] w fun e w'=>e = .returned (.int .i64 ((l.count f:Nat):Int))∧Below w.heap.size w w':=by
 have HA:=lh hl;have LA:=lh hl.len;clear hl;refine callsIn_of_wp Tryz.func26 rfl trivial ?_ rfl;simp only [Tryz.ntmps26,es,Nat.reduceAdd,Nat.reduceSub];gi_wp2;refine wpIn_loop (fun a' W=>∃ (k:Nat),Hid (k≤n∧Below w.heap.size w W)∧yD (.int .i64 f) (.int .i64 (((l.take k).count f:Nat):Int)) (.slice A n c) (.int .i64 (n:Int)) (.int .i64 (k:Int)) a') (fun a' _=>n - (intOf (a'.tmps.getD 10 undef)).toNat) ?_ ?_
 ·exact ⟨0,lh ⟨Nat.zero_le _,b_R⟩,by constructor⟩
 rintro a' W ⟨k,HK,hf⟩;cases hf
 have hcb:(l.take k).count f≤1000:=by
  have h1:(l.take k).count f≤(l.take k).length:=List.count_le_length;have h2:=List.length_take_le' k l;have h3:=LA.out;omega
 by_cases hlt:k<n
 ·obtain ⟨b1,o1,x,hA1,h1,hx,cx⟩:=(HA.out.below HK.out.2).cell hlt
  have HX:=lh hx;have HA1:=lh hA1
  have htk:(l.take (k+1)).count f=(l.take k).count f+if x=f then 1 else 0:=by
   rw [List.take_add_one,hx,List.count_append]
   congr 1
   by_cases h:x=f
   ·subst h;simp
   ·simp [h]
  have HTK:=lh htk;clear htk;rw [hA1];gi_upto_region 5 with fail
  rw [← HA1.out];clear hx hA1 h1 cx
  obtain ⟨q,hq⟩:∃ q,(l.take k).count f=q:=⟨_,rfl⟩
  rw [hq] at hcb HTK ⊢;clear hq;by_cases hxy:x=f
  ·have hxb:(x==f)=true:=by simpa using hxy
   have HY:=lh hxy;clear hxy;gi_wp2;refine ⟨⟨k+1,lh ⟨hlt,HK.out.2⟩,by rw [HTK.out,if_pos HY.out,show ((k+1:Nat):Int)=(k:Int)+1 from by omega,show ((q+1:Nat):Int)=(q:Int)+1 from by omega];first | constructor | (rw [HA1.out];constructor)⟩,?_⟩;simp [intOf]<;>omega
  ·have hxb:(x==f)=false:=by simpa using hxy
   have HY:=lh hxy;clear hxy;gi_wp2;refine ⟨⟨k+1,lh ⟨hlt,HK.out.2⟩,by rw [HTK.out,if_neg HY.out,Nat.add_zero,show ((k+1:Nat):Int)=(k:Int)+1 from by omega];first | constructor | (rw [HA1.out];constructor)⟩,?_⟩;simp [intOf]<;>omega
 ·obtain rfl:n=k:=by have:=HK.out.1;omega
  have hno:(l.take n).count f=l.count f:=by rw [List.take_of_length_le (by rw [LA.out];exact n_R)]
  rw [hno];gi_wp2;exact bodyPost_ret (v:=.int .i64 ((l.count f:Nat):Int)) (by simp [results,Tryz.results26,go_sem]) rfl ⟨rfl,HK.out.2⟩
theorem t5 (A:Option Addr)(n c:Nat)(l:List Nat)(i:Nat)(w:World)(hl:j9 w w.heap.size A n l)(hn:n≤maxLen)(hi:i≤1000) :
  CallsIn Fence.wide 9 Tryz.prog 62 #[.slice A n c,.int .i64 (i:Int)] w fun e w'=>(∃ k:Nat,k≤255∧e = .returned (.int .i64 (k:Int)))∧Below w.heap.size w w':=by
 have HA:=lh hl;clear hl;unfold maxLen at hn;refine callsIn_of_wp Tryz.func62 rfl trivial ?_ rfl;simp only [Tryz.ntmps62,es,Nat.reduceAdd,Nat.reduceSub];by_cases h0:n=0
 ·have h0b:(((n:Nat):Int)==0)=true:=by simp;omega
  gi_wp2;exact bodyPost_ret (v:=.int .i64 0) (by simp [results,Tryz.results62,go_sem]) rfl ⟨⟨0,by omega,rfl⟩,b_R⟩
 ·have h0b:(((n:Nat):Int)==0)=false:=by simp;omega
  have dz:¬ (n:Int)=0:=by omega
  have dy:((n:Int)==0)=false:=by simp;omega
  have hlt:i % n<n:=Nat.mod_lt _ (by omega);have tm:Int.tmod (i:Int) (n:Int)=((i % n:Nat):Int):=by rw [Int.tmod_eq_emod_of_nonneg (by omega)];push_cast;rfl
  obtain ⟨r,hq⟩:∃ r,i % n=r:=⟨_,rfl⟩
  rw [hq] at hlt tm;clear hq;obtain ⟨b,off,rfl,hb,hc⟩:=df.plain HA.out.1 (by have:=HA.out.1.1;rw [this];omega);have hll:l.length=n:=by have:=HA.out.1.1;simpa using this
  obtain ⟨z,hz⟩:∃ z,l[r]? =some z:=⟨_,List.getElem?_eq_getElem (by omega)⟩
  have cz:w.cell? ⟨b,off+r,none⟩=some (.int .u8 (z:Nat)):=hc r _ (by rw [List.getElem?_map,hz];rfl);have hz2:=HA.out.2 z (List.mem_of_getElem? hz);have wz:IntKind.i64.wrap (z:Int)=(z:Int):=IntWalk.i64_in _ (by omega);clear hc hz hb hll;gi_wp2;exact bodyPost_ret (v:=.int .i64 (z:Int)) (by simp [results,Tryz.results62,go_sem]) rfl ⟨⟨z,hz2,rfl⟩,b_R⟩
end
section
open Go.RowKit Go.Shelf
attribute [local go_sem] Oper.semAt_some
theorem uu:(Tryz.prog.info? 52).map (fun i=>(i.zero,i.size,i.bytes))=some (some (.agg #[.slice none 0 0,.slice none 0 0,.slice none 0 0,.slice none 0 0]),4,96):=by kernel_rfl
theorem pG:gK Tryz.prog 44 52 (.agg #[.slice none 0 0,.slice none 0 0,.slice none 0 0,.slice none 0 0]) 4 96:=by
 obtain ⟨i0,hi,hz0,hz1,hz2⟩:=info_parts uu;exact ⟨i0,Tryz.underlying44,hi,hz0,hz1,hz2,rfl,by decide⟩
theorem tA (F:Nat→Wy):∀ u∈(fz F).toList,u.oneCell'=true:=by
 intro u hu;simp [fz] at hu;rcases hu with rfl | rfl | rfl | rfl<;>rfl
theorem tF {w W W':World}{g g1:Nat}{c0 c1 cs:Array Value}(h:Lay w W [(w.heap.size,26,c0),(g1,62,c1)])(hn:Blk W g 52 cs)(hg:w.heap.size<g)(hgr:W.grownBy W' (some g)):Lay w W' [(w.heap.size,26,c0),(g1,62,c1)] :=
 h.row hgr fun r e=>by
  cases e;refine ⟨Nat.le_of_lt hg,fun b hb=>?_⟩;simp only [List.mem_cons,List.not_mem_nil,or_false] at hb;rcases hb with rfl | rfl
  ·dsimp only;omega
  ·exact jP (h.blk 1 rfl) hn (by decide)
theorem rB {w W:World}{A:Option Addr}{n:Nat}{l:List Nat}(h:j9 w w.heap.size A n l)(hb:Below w.heap.size w W):j9 W W.heap.size A n l:=⟨df.more (h.1.below hb) hb.size,h.2⟩
theorem lB (W:World)(g q:Nat)(v:Value):W.grownBy (W.setCell ⟨g,q,none⟩ v) (some g):=di (dK W (some g)) (p:=⟨g,q,none⟩) (.inl rfl) v
theorem LI.apart {W W':World}{x:Wy}{row:Option Nat}(h:LI W x)(hg:W.grownBy W' row)(hn:∀ a,x.A=some a→some a.block≠row):LI W' x :=
 ⟨df.more (df.hold h.ints fun b o ho hc a ha hab=>by
  obtain ⟨cs,hb⟩:=h.typ a ha;have hb2:=hb.grown hg (hn a ha);rw [hab] at hb hb2;unfold Blk at hb hb2;rw [ho] at hb;cases hb
  exact hb2) hg.size,fun a ha=>by
  obtain ⟨cs,hb⟩:=h.typ a ha
  exact ⟨cs,hb.grown hg (hn a ha)⟩,h.le⟩
def kn (m:Mix)(t:Nat)(F:Nat→Wy)(Q:List (Nat→Wy))(R:List Wy):Prop:=∃ H Dr,Went m t H Dr∧mG Q t H∧oP R t Dr∧H t=hpOf F
theorem kn.next {m:Mix}{t:Nat}{F F2:Nat→Wy}{Q:List (Nat→Wy)}{R:List Wy}{x:MAct}{X:Wy}(h:kn m t F Q R)(hx:m.acts[t]? =some x)(hs:oM m x (hpOf F) X.l (hpOf F2)):kn m (t+1) F2 (Q++[F2]) (R++[X]):=by
 obtain ⟨H,Dr,h1,h2,h3,h4⟩:=h;exact ⟨_,_,h1.snoc hx (by rw [h4];exact hs),h2.snoc F2,h3.snoc X,if_pos rfl⟩
theorem kn.zero {m:Mix}:kn m 0 (fun _=>⟨[],none,0,0⟩) [fun _=>⟨[],none,0,0⟩] [] :=
 ⟨fun _=>[[],[],[],[]],fun _=>[],⟨rfl,fun h=>absurd h (Nat.not_lt_zero _)⟩,⟨rfl,fun t G h=>by
  match t,h with
  | 0,h=>cases h;rfl⟩,⟨rfl,fun t x h=>by simp at h⟩,rfl⟩
def td (w:World)(m:Mix)(na:Nat)(e:Ending)(w':World):Prop :=
 ∃ H Dr Q R hA hc mA mc,e = .returned (.tuple #[.slice hA (na+1) hc,.slice mA na mc])∧Went m na H Dr∧mG Q na H∧oP R na Dr∧WOut w' hA mA na Q R∧Below w.heap.size w w'
inductive FrWn (v1 v2 v4 v5 v6 v7 v20 v21 v22:Value):Act→Prop
 | mk (a b c d e f g h i j k l m n o p q r s t w x y z A B C D E F G H I J K L M N O P Q R S T U V W X Y Z aa ab ac ad ae af ag ah ai aj ak al am an ao ap aq ar aw ax ay az aA aB aC aD aE aF aG aH aI aJ aK aL aM aN aO aP aQ aR aS aT aU aV aW aX aY aZ a0 a1 a2 a3 a4 a5 a6 a7 a8:Value):FrWn v1 v2 v4 v5 v6 v7 v20 v21 v22 ⟨#[a,v1,v2,b,v4,v5,v6,v7,c,d,e,f,g,h,i,j,k,l,m,n,v20,v21,v22,o,p,q,r,s,t,w,x,y,z,A,B,C,D,E,F,G,H,I,J,K,L,M,N,O,P,Q,R,S,T,U,V,W,X,Y,Z,aa,ab,ac,ad,ae,af,ag,ah,ai,aj,ak,al,am,an,ao,ap,aq,ar,aw,ax,ay,az,aA,aB,aC,aD,aE,aF,aG,aH,aI,aJ,aK,aL,aM,aN,aO,aP,aQ,aR,aS,aT,aU,aV,aW,aX,aY,aZ,a0,a1,a2,a3,a4,a5,a6,a7,a8],[]⟩
inductive FrWm (v1 v2 v4 v5 v6 v7 v9 v10 v11 v12 v20 v21 v22 v77 v78:Value):Act→Prop
 | mk (a b c d e f g h i j k l m n o p q r s t w x y z A B C D E F G H I J K L M N O P Q R S T U V W X Y Z aa ab ac ad ae af ag ah ai aj ak al am an ao ap aq ar aw ax ay az aA aB aC aD aE aF aG aH aI aJ aK aL aM aN aO aP aQ aR aS aT aU aV aW aX aY aZ a0 a1 a2:Value):FrWm v1 v2 v4 v5 v6 v7 v9 v10 v11 v12 v20 v21 v22 v77 v78 ⟨#[a,v1,v2,b,v4,v5,v6,v7,c,v9,v10,v11,v12,d,e,f,g,h,i,j,v20,v21,v22,k,l,m,n,o,p,q,r,s,t,w,x,y,z,A,B,C,D,E,F,G,H,I,J,K,L,M,N,O,P,Q,R,S,T,U,V,W,X,Y,Z,aa,ab,ac,ad,ae,af,ag,ah,ai,aj,ak,al,am,an,v77,v78,ao,ap,aq,ar,aw,ax,ay,az,aA,aB,aC,aD,aE,aF,aG,aH,aI,aJ,aK,aL,aM,aN,aO,aP,aQ,aR,aS,aT,aU,aV,aW,aX,aY,aZ,a0,a1,a2],[]⟩
inductive FrWl (v1 v2 v4 v5 v6 v7 v9 v10 v11 v12 v13 v20 v21 v22 v42 v43:Value):Act→Prop
 | mk (a b c d e f g h i j k l m n o p q r s t w x y z A B C D E F G H I J K L M N O P Q R S T U V W X Y Z aa ab ac ad ae af ag ah ai aj ak al am an ao ap aq ar aw ax ay az aA aB aC aD aE aF aG aH aI aJ aK aL aM aN aO aP aQ aR aS aT aU aV aW aX aY aZ a0 a1:Value):FrWl v1 v2 v4 v5 v6 v7 v9 v10 v11 v12 v13 v20 v21 v22 v42 v43 ⟨#[a,v1,v2,b,v4,v5,v6,v7,c,v9,v10,v11,v12,v13,d,e,f,g,h,i,v20,v21,v22,j,k,l,m,n,o,p,q,r,s,t,w,x,y,z,A,B,C,D,v42,v43,E,F,G,H,I,J,K,L,M,N,O,P,Q,R,S,T,U,V,W,X,Y,Z,aa,ab,ac,ad,ae,af,ag,ah,ai,aj,ak,al,am,an,ao,ap,aq,ar,aw,ax,ay,az,aA,aB,aC,aD,aE,aF,aG,aH,aI,aJ,aK,aL,aM,aN,aO,aP,aQ,aR,aS,aT,aU,aV,aW,aX,aY,aZ,a0,a1],[]⟩
theorem yj (Av:Option Addr)(nv cv:Nat)(Aa:Option Addr)(na ca:Nat)(At:Option Addr)(nt ct:Nat)(m:Mix)(By:Option Addr)(bn bc:Nat)(bl:List Nat)(L:List Held)(w:World)(h:MixS w Av nv Aa na At nt m)(hok:dm m=true)(hL:allM m m.acts=some L)(hby:j9 w w.heap.size By bn bl)(hbn:bn≤maxLen) :
  CallsIn Fence.wide 9 Tryz.prog 24 #[.agg #[.int .i64 m.fountains,.slice Av nv cv,.slice Aa na ca,.slice At nt ct],.slice By bn bc] w (td w m na):=by
 have HMS:=lh h;have HOK:=lh hok;have HLL:=lh hL;have HBY:=lh hby;have HV4:=lh (dv hok).1;have HLN:=lh h.at_.lenA;have hna12:na≤12:=by have h1:=(dv hok).2.1;have h2:=h.at_.lenA;omega
 have hbn2:bn≤9223372036854775807:=hbn;clear h hok hL hby;refine callsIn_of_wp Tryz.func24 rfl trivial ?_ rfl;simp only [Tryz.ntmps24,es,Nat.reduceAdd,Nat.reduceSub];gi_upto_region 1 with fail
 have Ly:=lh (Lay.one w 26 #[.int .i64 m.fountains,.slice Av nv cv,.slice Aa na ca,.slice At nt ct]);generalize (w.alloc (.cells #[.int .i64 m.fountains,.slice Av nv cv,.slice Aa na ca,.slice At nt ct] 26))=w0 at *;gi_upto_region 2 with fail
 obtain ⟨V1,hV⟩:∃ V,(w0.alloc (.cells #[.slice none 0 0,.slice none 0 0,.slice none 0 0,.slice none 0 0] 52))=V:=⟨_,rfl⟩
 rw [hV];have hb:=dB hV;have hnew:=dE hV;have hge:=Ly.out.bel.size;replace Ly:=lyb Ly hb;replace Ly:=lh (Ly.out.add hge hnew);clear hnew hge hb hV
 obtain ⟨G2,hG⟩:∃ g,w0.heap.size=g:=⟨_,rfl⟩
 rw [hG] at Ly ⊢;have HG_:=lh hG;clear hG;replace Ly:=lh (show Lay w V1 [(w.heap.size,26,#[.int .i64 m.fountains,.slice Av nv cv,.slice Aa na ca,.slice At nt ct]),(G2,52,#[.slice none 0 0,.slice none 0 0,.slice none 0 0,.slice none 0 0])] from Ly.out);have HWS:Hid (WS G2 V1 (fun _=>⟨[],none,0,0⟩) [] [] none 0 none 0):=lh ⟨Ly.out.blk 1 rfl,fun _ _=>LI.none_,Own.none_ _ _ _ _,(fun G hG=>by cases hG),Own.none_ _ _ _ _,(fun x hx=>by cases hx)⟩;have HGW:Hid (w.heap.size<G2):=lh (by have h1:=Ly.out.lt 0 rfl;have h2:=Ly.out.ge 1 rfl;have h3:=Ly.out.blk 0 rfl;have h4:=Ly.out.blk 1 rfl;have h5:=jP h3 h4 (by decide);omega);replace Ly:=lh (show Lay w V1 [(w.heap.size,26,#[.int .i64 m.fountains,.slice Av nv cv,.slice Aa na ca,.slice At nt ct])] from Ly.out.sub (by intro b hb;simp only [List.mem_cons,List.not_mem_nil,or_false] at hb ⊢;exact .inl hb));clear HG_;have y0:=HWS.out.now.cell 0;have y1:=HWS.out.now.cell 1;have y2:=HWS.out.now.cell 2;have y3:=HWS.out.now.cell 3;have yl:=HWS.out.now.lt;simp only [fz,List.getElem?_toArray,List.getElem?_cons_zero,List.getElem?_cons_succ] at y0 y1 y2 y3;have hb:Below V1.heap.size V1 (V1.alloc (.cells #[.slice none 0 0,.slice none 0 0,.slice none 0 0,.slice none 0 0] 52)):=b_R.alloc n_R _;have HWA:=lh (HWS.out.below hb);have HIN:=lh (show df (V1.alloc (.cells #[.slice none 0 0,.slice none 0 0,.slice none 0 0,.slice none 0 0] 52)) (V1.alloc (.cells #[.slice none 0 0,.slice none 0 0,.slice none 0 0,.slice none 0 0] 52)).heap.size 4 (some ⟨V1.heap.size,0,none⟩) 1 (fz (fun _=>⟨[],none,0,0⟩)).toList from eT V1 52 (k:=4) (n:=1) (fz (fun _=>⟨[],none,0,0⟩)).toList rfl);have HHO:=lh (show Own (V1.alloc (.cells #[.slice none 0 0,.slice none 0 0,.slice none 0 0,.slice none 0 0] 52)) (G2+1) 52 4 none 0 0 [] from HWA.out.holds);have hgz:G2+1≤(V1.alloc (.cells #[.slice none 0 0,.slice none 0 0,.slice none 0 0,.slice none 0 0] 52)).heap.size:=HWA.out.now.lt;replace Ly:=lyb Ly hb;clear hb HWS
 gi_wp2_with (first | (gi_at_builtin;refine da rfl (.tmp 15) (.tmp 17) (by rfl) pG rfl HHO.out rfl HIN.out (tA _) (by unfold maxLen;omega) (by omega) hgz ?_) | fail)
 rintro hA hc V3 hown hg hAe;have HWS:=lh (HWA.out.push (hA':=hA) (hc':=hc) hown hg);replace Ly:=lh (Ly.out.row hg (fun r e=>by cases e));clear hown hg hAe HWA HIN HHO hgz y0 y1 y2 y3 yl;obtain ⟨x0_0,x0_1,x0_2,x0_3⟩:=lyc4 Ly 0 rfl;have l0_:=Ly.out.lt 0 rfl;gi_wp2;clear x0_0 x0_1 x0_2 x0_3 l0_;refine wpIn_loop (fun a W=>∃ (t tn:Nat) (F:Nat→Wy) (Q:List (Nat→Wy)) (R:List Wy) (hA:Option Addr) (hc:Nat) (mA:Option Addr) (mc:Nat),Hid ((t≤na∧tn≤12 * t)∧Lay w W [(w.heap.size,26,#[.int .i64 m.fountains,.slice Av nv cv,.slice Aa na ca,.slice At nt ct])]∧WS G2 W F Q R hA hc mA mc∧kn m t F Q R)∧FrWn (.slice By bn bc) (.pointer (some ⟨w.heap.size,0,none⟩)) (.slice hA (t+1) hc) (.slice mA t mc) (.pointer (some ⟨G2,0,none⟩)) (.int .i64 (tn:Int)) (.slice Aa na ca) (.int .i64 (na:Int)) (.int .i64 (t:Int)) a) (fun a _=>na - (intOf (a.tmps.getD 22 undef)).toNat) ?_ ?_
 ·exact ⟨0,0,_,_,_,hA,hc,none,0,lh ⟨⟨Nat.zero_le _,Nat.zero_le _⟩,Ly.out,HWS.out,kn.zero⟩,by constructor⟩
 clear Ly HWS;rintro a W ⟨t,tn,F,Q,R,hA,hc,mA,mc,HS,ha⟩;cases ha;have Ly:=lh HS.out.2.1;have HWS:=lh HS.out.2.2.1;have HST:=lh HS.out.2.2.2;have htn:=HS.out.1;clear HS;by_cases hlt:t<na
 ·
  obtain ⟨ba,oa,x,e1,hba,hx,c0,c1,c2,c3⟩:=(HMS.out.at_.below Ly.out.1).act hlt
  obtain ⟨all,hall⟩:∃ all,L[t]? =some all:=⟨_,List.getElem?_eq_getElem (by have h1:=eH m m.acts L HLL.out;have h2:=HLN.out;omega)⟩
  have HACT:=lh (iz HLL.out HV4.out hx hall).1;have HX:=lh hx;have HALL:=lh hall;have HAA:=lh e1;have hkd:1≤x.kind∧x.kind≤4:=by have:=HACT.out.kind;omega
  rw [e1];clear e1 hba hx hall;gi_upto_region 7 with fail
  clear c0 c1 c2 c3
  obtain ⟨V4,hV⟩:∃ V,(W.alloc (.cells #[.int .i64 x.kind,.int .i64 x.fr,.int .i64 x.to,.int .i64 x.drops] 62))=V:=⟨_,rfl⟩
  rw [hV];have hb:=dB hV;have hnew:=dE hV;have hge:=Ly.out.bel.size;replace Ly:=lyb Ly hb;replace HWS:=lh (HWS.out.below hb);replace Ly:=lh (Ly.out.add hge hnew);clear hnew hge hb hV
  obtain ⟨G5,hG⟩:∃ g,W.heap.size=g:=⟨_,rfl⟩
  rw [hG] at Ly ⊢;clear hG;replace Ly:=lh (show Lay w V4 [(w.heap.size,26,#[.int .i64 m.fountains,.slice Av nv cv,.slice Aa na ca,.slice At nt ct]),(G5,62,#[.int .i64 x.kind,.int .i64 x.fr,.int .i64 x.to,.int .i64 x.drops])] from Ly.out);rw [← HAA.out]
  obtain ⟨jf,hjf⟩:∃ j,idxV m.vessels x.fr=j:=⟨_,rfl⟩
  obtain ⟨jt,hjt⟩:∃ j,idxV m.vessels x.to=j:=⟨_,rfl⟩
  have HJF:=lh hjf;have HJT:=lh hjt;clear hjf hjt;refine wpIn_flow_old [([true,true,true,false,true,true,true],3),([],7)] [false,false,false,false,false,false,false,false,true,true] [] (by kernel_rfl) (by kernel_rfl) (by kernel_rfl) (av b_R 1) ?_;refine wpFlow_cons (A:=?AF1) rfl ?hq1 ?_
  case hq1 =>
   rintro σ hσ of hof hcl;have HOF:=lh hof;clear hof hcl;obtain ⟨c0_,c1_,c2_,c3_⟩:=lyz4 Ly HOF 0 rfl;obtain ⟨c4_,c5_,c6_,c7_⟩:=lyz4 Ly HOF 1 rfl;have hfw:=hfT;simp only [bu]
   repeat (gi_big_quiet_step (fail))
   refine wpQuietIn_nil ?_;exact rfl
  intro W6 hW;replace Ly:=lyb Ly hW;replace HWS:=lh (HWS.out.below hW);clear hW;gi_wp2;refine ⟨trivial,(callsIn_wide.2 (gp Av nv cv Aa na ca At nt ct m x.fr W6 (HMS.out.up Ly.out.1))).mono ?_⟩;rintro e W7 ⟨rfl,hb⟩;replace Ly:=lyb Ly hb;replace HWS:=lh (HWS.out.below hb);rw [HJF.out];gi_wp2;refine ⟨trivial,hb,?_⟩;clear hb;refine wpFlow_cons rfl Quietly.none ?_;intro W8 hW;replace Ly:=lyb Ly hW;replace HWS:=lh (HWS.out.below hW);clear hW;gi_wp2;refine ⟨trivial,(callsIn_wide.2 (gp Av nv cv Aa na ca At nt ct m x.to W8 (HMS.out.up Ly.out.1))).mono ?_⟩;rintro e W9 ⟨rfl,hb⟩;replace Ly:=lyb Ly hb;replace HWS:=lh (HWS.out.below hb);rw [HJT.out];gi_wp2;refine ⟨trivial,hb,?_⟩;clear hb;refine wpFlow_nil (A:=?AF2) ?hq2 ?_
  case hq2 =>
   rintro σ hσ of hof hcl;have HOF:=lh hof;clear hof hcl;obtain ⟨c0_,c1_,c2_,c3_⟩:=lyz4 Ly HOF 0 rfl;obtain ⟨c4_,c5_,c6_,c7_⟩:=lyz4 Ly HOF 1 rfl;have hfw:=hfT;simp only [bu]
   repeat (gi_big_quiet_step (fail))
   refine wpQuietIn_nil ?_;exact rfl
  intro W10 hW;replace Ly:=lyb Ly hW;replace HWS:=lh (HWS.out.below hW);clear hW;simp only [bu];refine de ?_;gi_upto_region 9 with fail
  gi_cut [35] from 34 (fun v35 wx=>v35 = .int .i64 x.kind∧wx=W10)
  case first =>
   obtain ⟨x1_0,x1_1,x1_2,x1_3⟩:=lyc4 Ly 1 rfl;have l1_:=Ly.out.lt 1 rfl;gi_wp2;clear x1_0 x1_1 x1_2 x1_3 l1_;gi_meet;exact ⟨rfl,rfl⟩
  case rest =>
   obtain ⟨rfl,hcw⟩:=hcut;have hcw2:=hcw.symm;clear hcw;subst hcw2;refine (‹∀ (a:Act) (w:World),Code.wpIn Fence.wide 9 Tryz.prog (Code.block 2 _) _ a w→_›) _ _ ?_
   gi_cut [1,2,4,5,6,7,9,10,11,12,20,21,22] from 0 (fun v1 v2 v4 v5 v6 v7 v9 v10 v11 v12 v20 v21 v22 wx=>∃ (tn':Nat) (X:Wy) (F1:Nat→Wy),v1 = .slice By bn bc∧v2 = .pointer (some ⟨w.heap.size,0,none⟩)∧v4 = .slice hA (t+1) hc∧v5 = .slice mA t mc∧v6 = .pointer (some ⟨G2,0,none⟩)∧v7 = .int .i64 (tn':Int)∧v9 = .pointer (some ⟨G5,0,none⟩)∧v10 = .int .i64 jf∧v11 = .int .i64 jt∧v12=X.val∧v20 = .slice Aa na ca∧v21 = .int .i64 (na:Int)∧v22 = .int .i64 (t:Int)∧Hid (tn'≤tn+12∧LI wx X∧WS G2 wx F1 Q R hA hc mA mc∧Mid m x F X.l F1∧Lay w wx [(w.heap.size,26,#[.int .i64 m.fountains,.slice Av nv cv,.slice Aa na ca,.slice At nt ct]),(G5,62,#[.int .i64 x.kind,.int .i64 x.fr,.int .i64 x.to,.int .i64 x.drops])]))
   case first =>
    by_cases hk1:x.kind=1
    ·
     have hk1b:(x.kind==1)=true:=by simpa using hk1
     have HK1:=lh hk1;have hdb:=qP HOK.out HLL.out HX.out HALL.out (by omega);clear hk1;obtain ⟨x1_0,x1_1,x1_2,x1_3⟩:=lyc4 Ly 1 rfl;have l1_:=Ly.out.lt 1 rfl;gi_wp2;clear x1_0 x1_1 x1_2 x1_3 l1_;refine wpIn_loop (fun a U=>∃ (k:Nat) (dA:Option Addr) (dc:Nat),Hid ((k:Int)≤x.drops∧Own U W10.heap.size 3 1 dA k dc ((List.replicate k x.fr).map (Value.int .i64))∧Below W10.heap.size W10 U)∧FrWm (.slice By bn bc) (.pointer (some ⟨w.heap.size,0,none⟩)) (.slice hA (t+1) hc) (.slice mA t mc) (.pointer (some ⟨G2,0,none⟩)) (.int .i64 (tn:Int)) (.pointer (some ⟨G5,0,none⟩)) (.int .i64 jf) (.int .i64 jt) (.slice dA k dc) (.slice Aa na ca) (.int .i64 (na:Int)) (.int .i64 (t:Int)) (.int .i64 x.drops) (.int .i64 (k:Int)) a) (fun a _=>x.drops.toNat - (intOf (a.tmps.getD 78 undef)).toNat) ?_ ?_
     ·exact ⟨0,none,0,lh ⟨by omega,Own.none_ _ _ _ _,b_R⟩,by constructor⟩
     rintro a U ⟨k,dA,dc,HS,ha⟩;cases ha;have HO:=lh HS.out.2.1;have HB:=lh HS.out.2.2;have hkx:=HS.out.1;have hb:=HS.out.2.2;clear HS;replace Ly:=lyb Ly hb;replace HWS:=lh (HWS.out.below hb);clear hb;by_cases hkd2:(k:Int)<x.drops
     ·
      obtain ⟨x1_0,x1_1,x1_2,x1_3⟩:=lyc4 Ly 1 rfl;have l1_:=Ly.out.lt 1 rfl;have hus:=HB.out.size;have hk12:k+1≤12:=by omega
      have HIN:=lh (db.new U 3 [x.fr] (U.heap.size+1) (by omega))
      gi_wp2_with (first | (gi_at_builtin;refine da rfl (.tmp 80) (.tmp 83) (by rfl) dY rfl (HO.out.alloc _) rfl HIN.out (dX [x.fr]) (by unfold maxLen;omega) (by omega) (by simp;omega) ?_) | fail)
      rintro A9 c9 U9 hown hg hA9;have HO9:=lh (show Own U9 W10.heap.size 3 1 A9 (k+1) c9 ((List.replicate (k+1) x.fr).map (Value.int .i64)) from by rw [List.replicate_succ',List.map_append,List.map_replicate];exact hown);have HB9:=lh (show Below W10.heap.size W10 U9 from (HB.out.alloc hus _).grown hg (by simp;omega) (fun k e=>(dL HO.out k e).1));clear hown hg hA9 HIN;clear x1_0 x1_1 x1_2 x1_3 l1_;gi_wp2;refine ⟨⟨k+1,A9,c9,lh ⟨by omega,HO9.out,HB9.out⟩,by rw [show ((k+1:Nat):Int)=(k:Int)+1 from by omega];constructor⟩,?_⟩;simp [intOf]<;>omega
     ·
      have HKX2:Hid (k=x.drops.toNat):=lh (by omega);have HLI:=lh (LI.own HO.out (show k≤12 by omega));gi_wp2;gi_meet;exact ⟨tn,⟨List.replicate k x.fr,dA,k,dc⟩,F,rfl,rfl,rfl,rfl,rfl,rfl,rfl,rfl,rfl,rfl,rfl,rfl,rfl,lh ⟨by omega,HLI.out,HWS.out,⟨fun _=>⟨rfl,by rw [HKX2.out]⟩,fun h=>absurd HK1.out h⟩,Ly.out⟩⟩
    ·
     have hk1b:(x.kind==1)=false:=by simpa using hk1
     have HK1:=lh hk1
     obtain ⟨qf,rfl⟩:∃ q:Nat,jf=(q:Int):=⟨jf.toNat,by have h1:=HACT.out.from_ hk1;rw [HJF.out] at h1;omega⟩
     have hq4:qf<4:=by have h1:=eN (id:=x.fr) HV4.out;rw [HJF.out] at h1;omega
     have i0:(0:Int)≤(qf:Int):=by omega
     have i1:(qf:Int)<4:=by omega
     have hni:=HWS.out.nowI qf hq4;have hnc:W10.cell? ⟨G2,qf,none⟩=some (F qf).val:=(HWS.out.now.cell qf).trans (ij F hq4)
     have hlen:((F qf).l.length:Int)=au all (qf:Int):=by
      obtain ⟨H,Dr,h1,_,_,h4⟩:=HST.out;exact (h1.le HOK.out HLL.out (by have:=HLN.out;omega) h4 hq4).2 all HALL.out
     obtain ⟨⟨l0,A0,n0,c0⟩,hfq⟩:∃ y,F qf=y:=⟨_,rfl⟩
     rw [hfq] at hni hnc hlen;have HNI:=lh hni;have HNC:=lh hnc;have HLEN:=lh hlen;have HFQ:=lh hfq;clear hk1 hni hnc hlen hfq;by_cases hk4:x.kind=4
     ·
      have hk4b:(x.kind==4)=true:=by simpa using hk4
      have HK4:=lh hk4;clear hk4;have yc:W10.cell? ⟨G2,qf,none⟩=some (.slice A0 n0 c0):=HNC.out;have yl:=HWS.out.now.lt;have yz:=HWS.out.now.frozen qf;obtain ⟨x1_0,x1_1,x1_2,x1_3⟩:=lyc4 Ly 1 rfl;have l1_:=Ly.out.lt 1 rfl;gi_wp2;clear x1_0 x1_1 x1_2 x1_3 l1_;have hgr:=lB W10 G2 qf (.slice none 0 0);have HW2:=lh (HWS.out.set hq4 (x:=⟨[],none,0,0⟩) LI.none_);have HKI:=lh (KI.setCell HWS.out.now (by decide) qf (.slice none 0 0));have HL2:=lh (tF Ly.out HWS.out.now HGW.out hgr);clear hgr;gi_meet;exact ⟨tn,⟨l0,A0,n0,c0⟩,updW F qf ⟨[],none,0,0⟩,rfl,rfl,rfl,rfl,rfl,rfl,rfl,rfl,rfl,rfl,rfl,rfl,rfl,lh ⟨by omega,HNI.out.keep HKI.out,HW2.out,⟨fun h=>absurd h HK1.out,fun _=>⟨qf,⟨[],none,0,0⟩,hq4,HJF.out,by rw [HFQ.out];simp,rfl,fun _=>rfl,fun h=>absurd HK4.out h⟩⟩,HL2.out⟩⟩
     ·
      have hk4b:(x.kind==4)=false:=by simpa using hk4
      have hdb:=qP HOK.out HLL.out HX.out HALL.out hk4;have HK4:=lh hk4
      have hdl:x.drops≤(n0:Int):=by
       have h1:=(HACT.out.size.2 (by have:=HACT.out.kind;have:=HK1.out;have:=HK4.out;omega)).2;rw [HJF.out,← HLEN.out] at h1;have h2:=HNI.out.ints.len;dsimp only at h1 h2;omega
      have hn12:n0≤12:=HNI.out.le;clear hk4;have yc:W10.cell? ⟨G2,qf,none⟩=some (.slice A0 n0 c0):=HNC.out;have yl:=HWS.out.now.lt;have HE:Hid (Own (W10.alloc (.cells #[] 3)) W10.heap.size 3 1 (some ⟨W10.heap.size,0,none⟩) 0 0 []):=lh (Own.mk_ n_R (Blk.new W10 _ _) n_R (Nat.zero_le _) rfl rfl (fun k hk=>by omega));have HbA:Hid (Below W10.heap.size W10 (W10.alloc (.cells #[] 3))):=lh ((Below.refl W10.heap.size W10).alloc n_R (.cells #[] 3));have HI:=lh ((HNI.out.below HbA.out).ints);have x1_0:=lyc Ly 1 rfl 0
      gi_wp2_with (first | (gi_at_builtin;refine da rfl (.tmp 36) (.tmp 39) (by rfl) dY rfl HE.out rfl HI.out (dX _) (by unfold maxLen;omega) (by omega) HbA.out.size ?_) | fail)
      rintro lA lc V hown hg hA9;have HO:=lh (show Own V W10.heap.size 3 1 lA n0 lc (l0.map (Value.int .i64)) from by simpa using hown);have hb:Below W10.heap.size W10 V:=HbA.out.grown hg HbA.out.size (fun k hk=>by simp at hk;omega);have HCP:=lh HO.out.cap_le;clear hown hg hA9 HE HI HbA yc yl x1_0;replace Ly:=lyb Ly hb;replace HWS:=lh (HWS.out.below hb);replace HNI:=lh (HNI.out.below hb);have HBV:=lh hb;clear hb;obtain ⟨x1_0,x1_1,x1_2,x1_3⟩:=lyc4 Ly 1 rfl;have l1_:=Ly.out.lt 1 rfl;gi_wp2;clear x1_0 x1_1 x1_2 x1_3 l1_;refine wpIn_loop (fun a U=>∃ (k un nl:Nat) (dA:Option Addr) (dc:Nat) (dl:List Int) (lA:Option Addr) (lc:Nat) (ll:List Int),Hid (((k:Int)≤x.drops∧un≤tn+k∧nl+k=n0)∧((dl++ll).Perm l0∧dl.length=k)∧Own U V.heap.size 3 1 dA k dc (dl.map (Value.int .i64))∧LI U ⟨ll,lA,nl,lc⟩∧(nl≤lc∧lc≤maxLen)∧(∀ a,lA=some a→some a.block≠dA.map (·.block))∧Below V.heap.size V U)∧FrWl (.slice By bn bc) (.pointer (some ⟨w.heap.size,0,none⟩)) (.slice hA (t+1) hc) (.slice mA t mc) (.pointer (some ⟨G2,0,none⟩)) (.int .i64 (un:Int)) (.pointer (some ⟨G5,0,none⟩)) (.int .i64 (qf:Int)) (.int .i64 jt) (.slice dA k dc) (.slice lA nl lc) (.slice Aa na ca) (.int .i64 (na:Int)) (.int .i64 (t:Int)) (.int .i64 x.drops) (.int .i64 (k:Int)) a) (fun a _=>x.drops.toNat - (intOf (a.tmps.getD 43 undef)).toNat) ?_ ?_
      ·exact ⟨0,tn,n0,none,0,[],lA,lc,l0,lh ⟨⟨by omega,by omega,by omega⟩,⟨by simp,rfl⟩,Own.none_ _ _ _ _,LI.own HO.out hn12,HCP.out,(fun a _ e=>by cases e),b_R⟩,by constructor⟩
      clear HO HCP;rintro a U ⟨k,un,nl,dA,dc,dl,lA,lc,ll,HS,ha⟩;cases ha;have hkx:=HS.out.1;have HPM:=lh HS.out.2.1;have HO:=lh HS.out.2.2.1;have HLE:=lh HS.out.2.2.2.1;have HLC:=lh HS.out.2.2.2.2.1;have HAP:=lh HS.out.2.2.2.2.2.1;have HB:=lh HS.out.2.2.2.2.2.2;have hb:=HS.out.2.2.2.2.2.2;clear HS;replace Ly:=lyb Ly hb;replace HWS:=lh (HWS.out.below hb);replace HNI:=lh (HNI.out.below hb);clear hb;by_cases hkd2:(k:Int)<x.drops
      ·
       obtain ⟨nm,hnm⟩:∃ q,q+1=nl:=⟨nl - 1,by omega⟩
       have HNM:=lh hnm;have hnl:0<nl:=by omega
       have hnn:¬ (nl:Int)=0:=by omega
       have hnb:((nl:Int)==0)=false:=by simp;omega
       clear hnm;gi_wp2;refine ⟨trivial,(c_W (t5 By bn bc bl un U (rB HBY.out Ly.out.1) hbn (by omega))).mono ?_⟩;rintro e W11 ⟨⟨kk,hkk,rfl⟩,hb⟩;replace Ly:=lyb Ly hb;replace HWS:=lh (HWS.out.below hb);replace HNI:=lh (HNI.out.below hb);replace HLE:=lh (HLE.out.below hb);replace HO:=lh (HO.out.below hb n_R);replace HB:=lh (HB.out.trans (hb.mono HB.out.size));clear hb;have hlt_r:kk % nl<nl:=Nat.mod_lt _ (by omega);have tm_r:Int.tmod (kk:Int) (nl:Int)=((kk % nl:Nat):Int):=by rw [Int.tmod_eq_emod_of_nonneg (by omega)];push_cast;rfl
       obtain ⟨r,hq_r⟩:∃ r,kk % nl=r:=⟨_,rfl⟩
       rw [hq_r] at hlt_r tm_r;clear hq_r;have wx_r:IntKind.i64.wrap (kk:Int)=(kk:Int):=IntWalk.i64_in _ (by omega);obtain ⟨bL,oL,z,rfl,hbL,hz,cz⟩:=HLE.out.ints.cell (show r<nl from hlt_r);have HZ:=lh hz;have HBL:Hid (bL<W11.heap.size):=lh hbL;have wun:IntKind.i64.wrap ((un:Int)+1)=((un+1:Nat):Int):=by rw [show ((un+1:Nat):Int)=(un:Int)+1 from by omega];exact IntWalk.i64_in _ (by omega)
       have f0:(0:Int)≤(r:Int):=by omega
       have f1:(r:Int)<(nl:Int):=by omega
       have hus:=HB.out.size;have hk12:k+1≤12:=by omega
       have HIN:=lh (db.new W11 3 [z] (W11.heap.size+1) (by omega));have HLE1:=lh (HLE.out.below (show Below W11.heap.size W11 (W11.alloc (.cells #[.int .i64 z] 3)) from b_R.alloc n_R _));clear hz hbL
       gi_wp2_with (first | (gi_at_builtin;refine da rfl (.tmp 53) (.tmp 58) (by rfl) dY rfl (HO.out.alloc _) rfl HIN.out (dX [z]) (by unfold maxLen;omega) (by omega) (by simp;omega) ?_) | fail)
       rintro A9 c9 U9 hown hg hA9;have HO9:=lh (show Own U9 V.heap.size 3 1 A9 (k+1) c9 ((dl++[z]).map (Value.int .i64)) from by rw [List.map_append];exact hown);have hb9:Below V.heap.size V U9:=(HB.out.alloc hus _).grown hg (by simp;omega) (fun k e=>(dL HO.out k e).1);have HLE9:=lh (HLE1.out.apart hg HAP.out);have HAP9:Hid (∀ q,A9.map (·.block)=some q→q<U9.heap.size):=lh (fun q e=>(dL HO9.out q e).2);clear hown hg hA9 HIN HLE1 HLE HO cz wx_r tm_r;have HB9:=lh hb9;have HLIc:=lh (show db U9 U9.heap.size (some ⟨bL,oL,none⟩) nl ll from HLE9.out.ints)
       obtain ⟨r1,hr1⟩:∃ y,r+1=y:=⟨_,rfl⟩
       have HRN:=lh hr1;have hcl:=HLC.out;have hcl2:lc≤9223372036854775807:=hcl.2;gi_upto_region 16 with fail
       clear wun f0 f1 hus hcl hb9;have hlc:=HLC.out.1;have wr1:IntKind.i64.wrap ((r:Int)+1)=((r1:Nat):Int):=by rw [← hr1];exact IntWalk.i64_in _ (by omega)
       have f0:(0:Int)≤(r:Int):=by omega
       have f1:((r:Nat):Int)≤((nl:Nat):Int):=by omega
       have f2:((r:Nat):Int)≤((lc:Nat):Int):=by omega
       have f3:(0:Int)≤((r1:Nat):Int):=by omega
       have f4:((r1:Nat):Int)≤((nl:Nat):Int):=by omega
       have f5:((nl:Nat):Int)≤((lc:Nat):Int):=by omega
       have hrl:r≤nl:=by omega
       have hrl1:r1≤nl:=by omega
       clear hr1;by_cases hrq:r1=lc
       ·
        have hq1:(((r1:Nat):Int)==((lc:Nat):Int))=true:=by simp;omega
        refine Gr.wpIn_flow_old (G:=UpB U9.heap.size) [([false,true,true,true,false,true,true,true,true],0),([],4),([],9)] [false,false,false,false,false,false,false,false,false,false,true] [] (by kernel_rfl) (by kernel_rfl) (by kernel_rfl) (av b_R 1) ?_;refine Gr.wpFlow_cons (A:=?AG1) rfl ?hg1 ?_
        case hg1 =>
         rintro σ hσ of hof hcl;clear hof hcl;have hfw:=hfT;simp only [bu]
         repeat (gi_big_quiet_step (fail))
         refine wpQuietIn_nil ?_;exact rfl
        intro W1 hW;have HB1:=lh hW;clear hW;have hb:Below W1.heap.size W1 (W1.alloc (.cells #[] 3)):=(Below.refl W1.heap.size W1).alloc n_R (.cells #[] 3);have HO:Hid (Own (W1.alloc (.cells #[] 3)) U9.heap.size 3 1 (some ⟨W1.heap.size,0,none⟩) 0 0 []):=lh (Own.mk_ HB1.out.size (Blk.new W1 _ _) n_R (Nat.zero_le _) rfl rfl (fun k hk=>by omega));have HU:Hid (UpB U9.heap.size W1 (W1.alloc (.cells #[] 3))):=lh (UpB.of_below' hb);gi_wp2
        first | refine ⟨trivial,HU.out,?_⟩ | refine ⟨rfl,HU.out,?_⟩ | refine ⟨HU.out,?_⟩
        have HB2:=lh (HB1.out.trans (hb.mono HB1.out.size));clear HU hb HB1
        obtain ⟨P1,hP⟩:∃ P,W1.heap.size=P:=⟨_,rfl⟩
        rw [hP] at HO ⊢;generalize (W1.alloc (.cells #[] 3))=W2 at *;clear hP;refine Gr.wpFlow_cons rfl Gr.Quietly.none ?_;intro W3 hW;replace HO:=lh (HO.out.below hW n_R);have HB3:=lh (HB2.out.trans (hW.mono HB2.out.size));clear hW HB2;have HI:=lh (oV ((HLIc.out.below HB3.out).more HB3.out.size) hrl)
        gi_wp2_with (first | (gi_at_builtin;refine da rfl (.tmp 60) (.tmp 63) (by rfl) dY rfl HO.out rfl HI.out (dX _) (by unfold maxLen;omega) (by omega) HB3.out.size ?_) | fail)
        rintro A6 c6 W4 hown hg hA6;have hb2:Below U9.heap.size W3 W4:=fk hg (fun k hk=>(dL HO.out k hk).1) HB3.out.size;have HU:Hid (UpB U9.heap.size W3 W4):=lh ⟨hg.size,fun _=>hb2⟩;have HO4:=lh (show Own W4 U9.heap.size 3 1 A6 r c6 ((ll.take r).map (Value.int .i64)) from by simpa using hown);have HB4:=lh (HB3.out.trans hb2);clear hown hg hA6 hb2 HI HO HB3;gi_wp2
        first | refine ⟨trivial,HU.out,?_⟩ | refine ⟨rfl,HU.out,?_⟩ | refine ⟨HU.out,?_⟩
        clear HU;refine Gr.wpFlow_cons rfl Gr.Quietly.none ?_;intro W5 hW;replace HO4:=lh (HO4.out.below hW n_R);have HB5:=lh (HB4.out.trans (hW.mono HB4.out.size));clear hW HB4
        gi_wp2_with (first | (gi_at_builtin;refine da rfl (.tmp 64) (.tmp 68) (by rfl) dY rfl HO4.out rfl (uj:db W5 W5.heap.size _ 0 []) (dX _) (by unfold maxLen;omega) (by omega) HB5.out.size ?_) | fail)
        rintro AE cE W6 hown hg hA6;have hb2:Below U9.heap.size W5 W6:=fk hg (fun k hk=>(dL HO4.out k hk).1) HB5.out.size;have HU:Hid (UpB U9.heap.size W5 W6):=lh ⟨hg.size,fun _=>hb2⟩;have hne:r=nm:=by have:=HNM.out;have:=HRN.out;omega
        have HO6:=lh (show Own W6 U9.heap.size 3 1 AE nm cE ((ll.take r++ll.drop (r+1)).map (Value.int .i64)) from by rw [← hne,List.drop_of_length_le (by have:=HLIc.out.len;have:=HRN.out;omega)];simpa using hown);have HB6:=lh (HB5.out.trans hb2);clear hown hg hA6 hb2 HO4 HB5;gi_wp2
        first | refine ⟨trivial,HU.out,?_⟩ | refine ⟨rfl,HU.out,?_⟩ | refine ⟨HU.out,?_⟩
        clear HU;refine Gr.wpFlow_nil (A:=?AG2) ?hg2 ?_
        case hg2 =>
         rintro σ hσ of hof hcl;clear hof hcl;have hfw:=hfT;simp only [bu]
         repeat (gi_big_quiet_step (fail))
         refine wpQuietIn_nil ?_;exact rfl
        intro W7 hW;simp only [bu];refine de ?_;have HB7:=lh (HB6.out.trans (hW.mono HB6.out.size));have HO7:=lh (HO6.out.below hW n_R);clear hW HB6 HO6;gi_wp2;rw [hne];have HCE:=lh HO7.out.cap_le;refine ⟨⟨k+1,un+1,nm,A9,c9,dl++[z],AE,cE,ll.take r++ll.drop (r+1),lh ⟨⟨by omega,by omega,by have:=HNM.out;omega⟩,⟨ry HPM.out.1 HZ.out,by rw [List.length_append,HPM.out.2];rfl⟩,HO9.out.below HB7.out n_R,LI.own HO7.out (by have:=HNM.out;omega),HCE.out,(fun a e h=>by have h1:=(dL HO7.out a.block (by rw [e];rfl)).1;have h2:=HAP9.out a.block h.symm;omega),HB9.out.trans (HB7.out.mono HB9.out.size)⟩,by rw [show ((k+1:Nat):Int)=(k:Int)+1 from by omega,show ((un+1:Nat):Int)=(un:Int)+1 from by omega];constructor⟩,?_⟩;simp [intOf]<;>omega
       ·
        have hq1:(((r1:Nat):Int)==((lc:Nat):Int))=false:=beq_eq_false_iff_ne.2 (by omega);refine Gr.wpIn_flow_old (G:=UpB U9.heap.size) [([false,true,true,true,false,true,true,true,true],0),([],4),([],9)] [false,false,false,false,false,false,false,false,false,false,true] [] (by kernel_rfl) (by kernel_rfl) (by kernel_rfl) (av b_R 1) ?_;refine Gr.wpFlow_cons (A:=?AG3) rfl ?hg3 ?_
        case hg3 =>
         rintro σ hσ of hof hcl;clear hof hcl;have hfw:=hfT;simp only [bu]
         repeat (gi_big_quiet_step (fail))
         refine wpQuietIn_nil ?_;exact rfl
        intro W1 hW;have HB1:=lh hW;clear hW;have hb:Below W1.heap.size W1 (W1.alloc (.cells #[] 3)):=(Below.refl W1.heap.size W1).alloc n_R (.cells #[] 3);have HO:Hid (Own (W1.alloc (.cells #[] 3)) U9.heap.size 3 1 (some ⟨W1.heap.size,0,none⟩) 0 0 []):=lh (Own.mk_ HB1.out.size (Blk.new W1 _ _) n_R (Nat.zero_le _) rfl rfl (fun k hk=>by omega));have HU:Hid (UpB U9.heap.size W1 (W1.alloc (.cells #[] 3))):=lh (UpB.of_below' hb);gi_wp2
        first | refine ⟨trivial,HU.out,?_⟩ | refine ⟨rfl,HU.out,?_⟩ | refine ⟨HU.out,?_⟩
        have HB2:=lh (HB1.out.trans (hb.mono HB1.out.size));clear HU hb HB1
        obtain ⟨P1,hP⟩:∃ P,W1.heap.size=P:=⟨_,rfl⟩
        rw [hP] at HO ⊢;generalize (W1.alloc (.cells #[] 3))=W2 at *;clear hP;refine Gr.wpFlow_cons rfl Gr.Quietly.none ?_;intro W3 hW;replace HO:=lh (HO.out.below hW n_R);have HB3:=lh (HB2.out.trans (hW.mono HB2.out.size));clear hW HB2;have HI:=lh (oV ((HLIc.out.below HB3.out).more HB3.out.size) hrl)
        gi_wp2_with (first | (gi_at_builtin;refine da rfl (.tmp 60) (.tmp 63) (by rfl) dY rfl HO.out rfl HI.out (dX _) (by unfold maxLen;omega) (by omega) HB3.out.size ?_) | fail)
        rintro A6 c6 W4 hown hg hA6;have hb2:Below U9.heap.size W3 W4:=fk hg (fun k hk=>(dL HO.out k hk).1) HB3.out.size;have HU:Hid (UpB U9.heap.size W3 W4):=lh ⟨hg.size,fun _=>hb2⟩;have HO4:=lh (show Own W4 U9.heap.size 3 1 A6 r c6 ((ll.take r).map (Value.int .i64)) from by simpa using hown);have HB4:=lh (HB3.out.trans hb2);clear hown hg hA6 hb2 HI HO HB3;gi_wp2
        first | refine ⟨trivial,HU.out,?_⟩ | refine ⟨rfl,HU.out,?_⟩ | refine ⟨HU.out,?_⟩
        clear HU;refine Gr.wpFlow_cons rfl Gr.Quietly.none ?_;intro W5 hW;replace HO4:=lh (HO4.out.below hW n_R);have HB5:=lh (HB4.out.trans (hW.mono HB4.out.size));clear hW HB4;have HI:=lh (tK ((HLIc.out.below HB5.out).more HB5.out.size) hrl1)
        gi_wp2_with (first | (gi_at_builtin;refine da rfl (.tmp 64) (.tmp 68) (by rfl) dY rfl HO4.out rfl HI.out (dX _) (by unfold maxLen;omega) (by omega) HB5.out.size ?_) | fail)
        rintro AE cE W6 hown hg hA6;have hb2:Below U9.heap.size W5 W6:=fk hg (fun k hk=>(dL HO4.out k hk).1) HB5.out.size;have HU:Hid (UpB U9.heap.size W5 W6):=lh ⟨hg.size,fun _=>hb2⟩;have hne:r+(nl - r1)=nm:=by have:=HNM.out;have:=HRN.out;omega
        have HO6:=lh (show Own W6 U9.heap.size 3 1 AE nm cE ((ll.take r++ll.drop (r+1)).map (Value.int .i64)) from by rw [← hne,HRN.out,List.map_append,List.map_take,List.map_drop];exact hown);have HB6:=lh (HB5.out.trans hb2);clear hown hg hA6 hb2 HO4 HB5;gi_wp2
        first | refine ⟨trivial,HU.out,?_⟩ | refine ⟨rfl,HU.out,?_⟩ | refine ⟨HU.out,?_⟩
        clear HU;refine Gr.wpFlow_nil (A:=?AG4) ?hg4 ?_
        case hg4 =>
         rintro σ hσ of hof hcl;clear hof hcl;have hfw:=hfT;simp only [bu]
         repeat (gi_big_quiet_step (fail))
         refine wpQuietIn_nil ?_;exact rfl
        intro W7 hW;simp only [bu];refine de ?_;have HB7:=lh (HB6.out.trans (hW.mono HB6.out.size));have HO7:=lh (HO6.out.below hW n_R);clear hW HB6 HO6;gi_wp2;rw [hne];have HCE:=lh HO7.out.cap_le;refine ⟨⟨k+1,un+1,nm,A9,c9,dl++[z],AE,cE,ll.take r++ll.drop (r+1),lh ⟨⟨by omega,by omega,by have:=HNM.out;omega⟩,⟨ry HPM.out.1 HZ.out,by rw [List.length_append,HPM.out.2];rfl⟩,HO9.out.below HB7.out n_R,LI.own HO7.out (by have:=HNM.out;omega),HCE.out,(fun a e h=>by have h1:=(dL HO7.out a.block (by rw [e];rfl)).1;have h2:=HAP9.out a.block h.symm;omega),HB9.out.trans (HB7.out.mono HB9.out.size)⟩,by rw [show ((k+1:Nat):Int)=(k:Int)+1 from by omega,show ((un+1:Nat):Int)=(un:Int)+1 from by omega];constructor⟩,?_⟩;simp [intOf]<;>omega
      ·
       have HDX:Hid (dl.length=x.drops.toNat):=lh (by have:=HPM.out.2;omega);have HK12:Hid (k≤12):=lh (by omega)
       have yc:U.cell? ⟨G2,qf,none⟩=some (.slice A0 n0 c0):=by
        have h1:=(HWS.out.now.cell qf).trans (ij F hq4);rw [HFQ.out] at h1;exact h1
       have yl:=HWS.out.now.lt;have yz:=HWS.out.now.frozen qf;gi_wp2;have hgr:=lB U G2 qf (.slice lA nl lc);have HW2:=lh (HWS.out.set hq4 (x:=⟨ll,lA,nl,lc⟩) HLE.out);have HKI:=lh (KI.setCell HWS.out.now (by decide) qf (.slice lA nl lc));have HL2:=lh (tF Ly.out HWS.out.now HGW.out hgr);clear hgr;gi_meet;exact ⟨un,⟨dl,dA,k,dc⟩,updW F qf ⟨ll,lA,nl,lc⟩,rfl,rfl,rfl,rfl,rfl,rfl,rfl,rfl,rfl,rfl,rfl,rfl,rfl,lh ⟨by omega,(LI.own HO.out HK12.out).keep HKI.out,HW2.out,⟨fun h=>absurd h HK1.out,fun _=>⟨qf,⟨ll,lA,nl,lc⟩,hq4,HJF.out,by rw [HFQ.out];exact HPM.out.1,rfl,fun h=>absurd h HK4.out,fun _=>HDX.out⟩⟩,HL2.out⟩⟩
   case rest =>
    obtain ⟨tn',X,F1,rfl,rfl,rfl,rfl,rfl,rfl,rfl,rfl,rfl,rfl,rfl,rfl,rfl,HMID⟩:=hcut;rename World=>C1;obtain ⟨dl,dA,dn,dc⟩:=X;have HTN:=lh HMID.out.1;have HLI:=lh HMID.out.2.1;have HWS:=lh HMID.out.2.2.1;have HMI:=lh HMID.out.2.2.2.1;have Ly:=lh HMID.out.2.2.2.2;clear HMID;dsimp only [Wy.val];gi_upto_region 26 with fail
    gi_cut [95] from 93 (fun v95 wx=>v95 = .bool (decide (x.kind≤2))∧wx=C1)
    case first =>
     obtain ⟨x1_0,x1_1,x1_2,x1_3⟩:=lyc4 Ly 1 rfl;have l1_:=Ly.out.lt 1 rfl;gi_wp2;clear x1_0 x1_1 x1_2 x1_3 l1_;gi_meet;exact ⟨rfl,rfl⟩
    case rest =>
     obtain ⟨rfl,hcw⟩:=hcut;have hcw2:=hcw.symm;clear hcw;subst hcw2;refine (‹∀ (a:Act) (w:World),Code.wpIn Fence.wide 9 Tryz.prog (Code.cond (.tmp 95) _ _) _ a w→_›) _ _ ?_;replace Ly:=lh (show Lay w C1 [(w.heap.size,26,#[.int .i64 m.fountains,.slice Av nv cv,.slice Aa na ca,.slice At nt ct])] from Ly.out.sub (by intro b hb;simp only [List.mem_cons,List.not_mem_nil,or_false] at hb ⊢;exact .inl hb))
     gi_cut [1,2,4,5,6,7,12,20,21,22] from 0 (fun v1 v2 v4 v5 v6 v7 v12 v20 v21 v22 wx=>∃ (F2:Nat→Wy),v1 = .slice By bn bc∧v2 = .pointer (some ⟨w.heap.size,0,none⟩)∧v4 = .slice hA (t+1) hc∧v5 = .slice mA t mc∧v6 = .pointer (some ⟨G2,0,none⟩)∧v7 = .int .i64 (tn':Int)∧v12 = .slice dA dn dc∧v20 = .slice Aa na ca∧v21 = .int .i64 (na:Int)∧v22 = .int .i64 (t:Int)∧Hid (LI wx ⟨dl,dA,dn,dc⟩∧WS G2 wx F2 Q R hA hc mA mc∧oM m x (hpOf F) dl (hpOf F2)∧Lay w wx [(w.heap.size,26,#[.int .i64 m.fountains,.slice Av nv cv,.slice Aa na ca,.slice At nt ct])]))
     case first =>
      by_cases hk2:x.kind≤2
      ·
       obtain ⟨qt,rfl⟩:∃ q:Nat,jt=(q:Int):=⟨jt.toNat,by have h1:=HACT.out.to_ (by omega);rw [HJT.out] at h1;omega⟩
       have hq4:qt<4:=by have h1:=eN (id:=x.to) HV4.out;rw [HJT.out] at h1;omega
       have i0:(0:Int)≤(qt:Int):=by omega
       have i1:(qt:Int)<4:=by omega
       have hni:=HWS.out.nowI qt hq4;have hnc:C1.cell? ⟨G2,qt,none⟩=some (F1 qt).val:=(HWS.out.now.cell qt).trans (ij F1 hq4)
       obtain ⟨⟨l1,A1,n1,c1⟩,hfq⟩:∃ y,F1 qt=y:=⟨_,rfl⟩
       rw [hfq] at hni hnc
       have HT12:Hid (n1+dn≤12):=lh (by
        have h0:=HST.out.next HX.out (X:=⟨dl,dA,dn,dc⟩) (HMI.out.into HACT.out hk2 hq4 HJT.out (T:=⟨l1++dl,none,0,0⟩) (by rw [hfq]));obtain ⟨H,Dr,h1,_,_,h4⟩:=h0;have h2:=(h1.le HOK.out HLL.out (by have:=HLN.out;omega) h4 hq4).1;rw [pF] at h2;have h5:=hni.ints.len;have h6:=HLI.out.ints.len;simp only [List.length_append] at h2 h5 h6
        omega)
       have HNI:=lh hni;have HFQ:=lh hfq;have HK2:=lh hk2;have yc:C1.cell? ⟨G2,qt,none⟩=some (.slice A1 n1 c1):=hnc;have yl:=HWS.out.now.lt;rw [show decide (x.kind≤2)=true from by simpa using hk2];have h12:=HT12.out;clear hni hnc hfq hk2;have HE:Hid (Own (C1.alloc (.cells #[] 3)) C1.heap.size 3 1 (some ⟨C1.heap.size,0,none⟩) 0 0 []):=lh (Own.mk_ n_R (Blk.new C1 _ _) n_R (Nat.zero_le _) rfl rfl (fun k hk=>by omega));have HbA:Hid (Below C1.heap.size C1 (C1.alloc (.cells #[] 3))):=lh ((Below.refl C1.heap.size C1).alloc n_R (.cells #[] 3));have HI:=lh ((HNI.out.below HbA.out).ints)
       gi_wp2_with (first | (gi_at_builtin;refine da rfl (.tmp 97) (.tmp 100) (by rfl) dY rfl HE.out rfl HI.out (dX _) (by unfold maxLen;omega) (by omega) HbA.out.size ?_) | fail)
       rintro A3 c3 V3 hown hg hA3;have HO1:=lh (show Own V3 C1.heap.size 3 1 A3 n1 c3 (l1.map (Value.int .i64)) from by simpa using hown);have HB1:Hid (Below C1.heap.size C1 V3):=lh (HbA.out.grown hg HbA.out.size (fun k hk=>by simp at hk;omega));have HI2:=lh ((HLI.out.below HB1.out).ints);clear hown hg hA3 HE HI HbA
       gi_wp2_with (first | (gi_at_builtin;refine da rfl (.tmp 101) (.tmp 102) (by rfl) dY rfl HO1.out rfl HI2.out (dX _) (by unfold maxLen;omega) (by omega) HB1.out.size ?_) | fail)
       rintro AT cT V4 hown hg hA3;have hb:Below C1.heap.size C1 V4:=HB1.out.grown hg HB1.out.size (fun k e=>(dL HO1.out k e).1);have HOT:=lh (show Own V4 C1.heap.size 3 1 AT (n1+dn) cT ((l1++dl).map (Value.int .i64)) from by rw [List.map_append];exact hown);clear hown hg hA3 HO1 HB1 HI2 yc yl;replace Ly:=lyb Ly hb;replace HWS:=lh (HWS.out.below hb);replace HLI:=lh (HLI.out.below hb);clear hb;have yc:V4.cell? ⟨G2,qt,none⟩=some (F1 qt).val:=(HWS.out.now.cell qt).trans (ij F1 hq4);rw [HFQ.out] at yc;have yl:=HWS.out.now.lt;have yz:=HWS.out.now.frozen qt;gi_wp2;have hgr:=lB V4 G2 qt (.slice AT (n1+dn) cT);have HW2:=lh (HWS.out.set hq4 (x:=⟨l1++dl,AT,n1+dn,cT⟩) (LI.own HOT.out HT12.out));have HKI:=lh (KI.setCell HWS.out.now (by decide) qt (.slice AT (n1+dn) cT));have HL2:=lh (Ly.out.row hgr (fun r e=>by cases e;exact ⟨Nat.le_of_lt HGW.out,by intro b hb;rw [List.mem_singleton.1 hb];have:=HGW.out;dsimp only;omega⟩));clear hgr;gi_meet;exact ⟨updW F1 qt ⟨l1++dl,AT,n1+dn,cT⟩,rfl,rfl,rfl,rfl,rfl,rfl,rfl,rfl,rfl,rfl,lh ⟨HLI.out.keep HKI.out,HW2.out,HMI.out.into HACT.out HK2.out hq4 HJT.out (by rw [HFQ.out]),HL2.out⟩⟩
      ·
       rw [show decide (x.kind≤2)=false from by simpa using hk2];have HK2:=lh hk2;clear hk2;gi_wp2;gi_meet;exact ⟨F1,rfl,rfl,rfl,rfl,rfl,rfl,rfl,rfl,rfl,rfl,lh ⟨HLI.out,HWS.out,HMI.out.out HACT.out (by have:=HK2.out;omega),Ly.out⟩⟩
     case rest =>
      obtain ⟨F2,rfl,rfl,rfl,rfl,rfl,rfl,rfl,rfl,rfl,rfl,HMID⟩:=hcut;rename World=>C2;have HST2:=lh (HST.out.next HX.out (X:=⟨dl,dA,dn,dc⟩) HMID.out.2.2.1);have HQL:Hid (Q.length=t+1):=lh (by obtain ⟨_,_,_,h,_,_⟩:=HST.out;exact h.1);have HRL:Hid (R.length=t):=lh (by obtain ⟨_,_,_,_,h,_⟩:=HST.out;exact h.1);replace HLI:=lh HMID.out.1;replace HWS:=lh HMID.out.2.1;replace Ly:=lh HMID.out.2.2.2;clear HMID HMI HST;refine (‹∀ (a:Act) (w:World),Code.wpIn Fence.wide 9 Tryz.prog (Code.region 28 _ _) _ a w→_›) _ _ ?_;have y0:=HWS.out.now.cell 0;have y1:=HWS.out.now.cell 1;have y2:=HWS.out.now.cell 2;have y3:=HWS.out.now.cell 3;have yl:=HWS.out.now.lt;simp only [fz,List.getElem?_toArray,List.getElem?_cons_zero,List.getElem?_cons_succ] at y0 y1 y2 y3;have hb:Below C2.heap.size C2 (C2.alloc (.cells #[.slice (F2 0).A (F2 0).n (F2 0).cap,.slice (F2 1).A (F2 1).n (F2 1).cap,.slice (F2 2).A (F2 2).n (F2 2).cap,.slice (F2 3).A (F2 3).n (F2 3).cap] 52)):=b_R.alloc n_R _;have HWA:=lh (HWS.out.below hb);have HIN:=lh (show df (C2.alloc (.cells #[.slice (F2 0).A (F2 0).n (F2 0).cap,.slice (F2 1).A (F2 1).n (F2 1).cap,.slice (F2 2).A (F2 2).n (F2 2).cap,.slice (F2 3).A (F2 3).n (F2 3).cap] 52)) (C2.alloc (.cells #[.slice (F2 0).A (F2 0).n (F2 0).cap,.slice (F2 1).A (F2 1).n (F2 1).cap,.slice (F2 2).A (F2 2).n (F2 2).cap,.slice (F2 3).A (F2 3).n (F2 3).cap] 52)).heap.size 4 (some ⟨C2.heap.size,0,none⟩) 1 (fz F2).toList from eT C2 52 (k:=4) (n:=1) (fz F2).toList rfl);have HHO:=lh (show Own (C2.alloc (.cells #[.slice (F2 0).A (F2 0).n (F2 0).cap,.slice (F2 1).A (F2 1).n (F2 1).cap,.slice (F2 2).A (F2 2).n (F2 2).cap,.slice (F2 3).A (F2 3).n (F2 3).cap] 52)) (G2+1) 52 4 hA (t+1) hc (gn Q) from HQL.out ▸ HWA.out.holds);have hgz:G2+1≤(C2.alloc (.cells #[.slice (F2 0).A (F2 0).n (F2 0).cap,.slice (F2 1).A (F2 1).n (F2 1).cap,.slice (F2 2).A (F2 2).n (F2 2).cap,.slice (F2 3).A (F2 3).n (F2 3).cap] 52)).heap.size:=HWA.out.now.lt;replace Ly:=lyb Ly hb;replace HLI:=lh (HLI.out.below hb);clear hb HWS
      gi_wp2_with (first | (gi_at_builtin;refine da rfl (.tmp 105) (.tmp 107) (by rfl) pG rfl HHO.out rfl HIN.out (tA _) (by unfold maxLen;omega) (by omega) hgz ?_) | fail)
      rintro hA hc V12 hown hg hAe;have HWS:=lh (HWA.out.push (hA':=hA) (hc':=hc) (by rw [HQL.out];exact hown) hg);replace Ly:=lh (Ly.out.row hg (fun r e=>⟨by have h1:=(dL HHO.out r e).1;have h2:=HGW.out;omega,by intro b hb;rw [List.mem_singleton.1 hb];have h1:=(dL HHO.out r e).1;have h2:=HGW.out;dsimp only;omega⟩));replace HLI:=lh (HLI.out.keep (KI.own HHO.out (by decide) hg));clear hown hg hAe HWA HIN HHO hgz y0 y1 y2 y3 yl;have hb:Below V12.heap.size V12 (V12.alloc (.cells #[.slice dA dn dc] 34)):=b_R.alloc n_R _;have HWA:=lh (HWS.out.below hb);have HIN:=lh (show df (V12.alloc (.cells #[.slice dA dn dc] 34)) (V12.alloc (.cells #[.slice dA dn dc] 34)).heap.size 1 (some ⟨V12.heap.size,0,none⟩) 1 [.slice dA dn dc] from eT V12 34 (k:=1) (n:=1) [.slice dA dn dc] rfl);have HHO:=lh (show Own (V12.alloc (.cells #[.slice dA dn dc] 34)) (G2+1) 34 1 mA t mc (R.map Wy.val) from HRL.out ▸ HWA.out.moves);have hgz:G2+1≤(V12.alloc (.cells #[.slice dA dn dc] 34)).heap.size:=HWA.out.now.lt;replace Ly:=lyb Ly hb;replace HLI:=lh (HLI.out.below hb);clear hb HWS
      gi_wp2_with (first | (gi_at_builtin;refine da rfl (.tmp 109) (.tmp 111) (by rfl) jY rfl HHO.out rfl HIN.out (by intro u hu;rw [List.mem_singleton.1 hu];rfl) (by unfold maxLen;omega) (by omega) hgz ?_) | fail)
      rintro mA' mc' V9 hown hg hAe;have HWS:=lh (HWA.out.move HLI.out (mA':=mA') (mc':=mc') (by rw [HRL.out];exact hown) hg);replace Ly:=lh (Ly.out.row hg (fun r e=>⟨by have h1:=(dL HHO.out r e).1;have h2:=HGW.out;omega,by intro b hb;rw [List.mem_singleton.1 hb];have h1:=(dL HHO.out r e).1;have h2:=HGW.out;dsimp only;omega⟩));clear hown hg hAe HWA HIN HHO hgz;gi_wp2;refine ⟨⟨t+1,tn',F2,Q++[F2],R++[⟨dl,dA,dn,dc⟩],hA,hc,mA',mc',lh ⟨⟨by omega,by have:=HTN.out;omega⟩,by have h:=Ly.out;rw [HAA.out] at h;exact h,HWS.out,HST2.out⟩,by rw [show ((t+1:Nat):Int)=(t:Int)+1 from by omega];first | constructor | (rw [HAA.out];constructor)⟩,?_⟩;simp [intOf]<;>omega
 ·
  obtain rfl:na=t:=by omega
  obtain ⟨H,Dr,h1,h2,h3,h4⟩:=HST.out;have HFI:=lh (show td w m na (.returned (.tuple #[.slice hA (na+1) hc,.slice mA na mc])) W from ⟨H,Dr,Q,R,hA,hc,mA,mc,rfl,h1,h2,h3,⟨by have h:=HWS.out.holds;rw [h2.1] at h;exact h.reads n_R,HWS.out.holdsI,by have h:=HWS.out.moves;rw [h3.1] at h;exact h.reads n_R,HWS.out.movesI⟩,Ly.out.1⟩);clear h1 h2 h3 h4;gi_wp2;refine bodyPost_ret (v:=.tuple #[.slice hA (na+1) hc,.slice mA na mc]) (by simp [results,Tryz.results24,go_sem]) rfl ?_;exact HFI.out
end
section
open Go.RowKit Go.Shelf
attribute [local go_sem] Oper.semAt_some
theorem sy {m:Mix}(h:dm m=true){x:Tast}(hx:x∈m.tastes):(0≤x.after∧x.after≤m.acts.length)∧0≤idxV m.vessels x.vessel:=by
 unfold dm at h;simp only [Bool.and_eq_true] at h;have h6:=List.all_eq_true.1 h.1.1.1.2 x hx;unfold eo at h6;have:=of_decide_eq_true h6;omega
def tasB (f:Int)(H:Nat→fc)(m:Mix)(x:Tast):Bool:=!(decide (x.fountain=f) && (decide (((hpAt (H x.after.toNat) (idxV m.vessels x.vessel)).count x.fountain:Int)<x.lo) || decide (x.hi<((hpAt (H x.after.toNat) (idxV m.vessels x.vessel)).count x.fountain:Int))))
theorem lz (m:Mix)(f:Int)(H:Nat→fc):oy m f H=m.tastes.all (tasB f H m):=rfl
theorem pi {p:Tast→Bool}{l:List Tast}{k:Nat}{x:Tast}(hx:l[k]? =some x)(h:(l.take k).all p=true)(hp:p x=true):(l.take (k+1)).all p=true:=by
 rw [List.take_add_one,hx,List.all_append,h];simpa using hp
def TkT (f:Int)(H:Nat→fc)(m:Mix)(k:Nat):Prop:=(m.tastes.take k).all (tasB f H m)=true
theorem wm {p:Tast→Bool}{l:List Tast}{k:Nat}{x:Tast}(hx:l[k]? =some x)(hp:p x=false):l.all p=false:=by
 cases h:l.all p with
 | false=>rfl
 | true =>
  have:=List.all_eq_true.1 h x (List.mem_of_getElem? hx);rw [hp] at this;cases this
inductive FrTs (v1 v2 v3 v11 v12 v13:Value):Act→Prop
 | mk (a b c d e f g h i j k l m n o p q r s t w x y z A B C D E F G H I J K L M N O P Q R S:Value):FrTs v1 v2 v3 v11 v12 v13 ⟨#[a,v1,v2,v3,b,c,d,e,f,g,h,v11,v12,v13,i,j,k,l,m,n,o,p,q,r,s,t,w,x,y,z,A,B,C,D,E,F,G,H,I,J,K,L,M,N,O,P,Q,R,S],[]⟩
theorem tV (Av:Option Addr)(nv cv:Nat)(Aa:Option Addr)(na ca:Nat)(At:Option Addr)(nt ct:Nat)(m:Mix)(f:Int)(hA:Option Addr)(hc:Nat)(mA:Option Addr)(Q:List (Nat→Wy))(R:List Wy)(H:Nat→fc)(w:World)(h:MixS w Av nv Aa na At nt m)(hok:dm m=true)(hw:WOut w hA mA na Q R)(hQ:mG Q na H) :
  CallsIn Fence.wide 9 Tryz.prog 25 #[.agg #[.int .i64 m.fountains,.slice Av nv cv,.slice Aa na ca,.slice At nt ct],.int .i64 f,.slice hA (na+1) hc] w (fun e w'=>e = .returned (.bool (oy m f H))∧Below w.heap.size w w'):=by
 obtain ⟨bh,oh,rfl⟩:=hw.plain hQ.1;have HMS:=lh h;have HOK:=lh hok;have HWO:=lh hw;have HQ:=lh hQ;have HV4:=lh (dv hok).1;have hla:=h.at_.lenA;have hlt0:=h.at_.lenT;have HLN:=lh hla;have HLT:=lh hlt0;have hna12:na≤12:=by have h1:=(dv hok).2.1;omega
 have hnt8:nt≤8:=by have h1:=(dv hok).2.2.1;omega
 clear h hok hw hQ hla hlt0;refine callsIn_of_wp Tryz.func25 rfl trivial ?_ rfl;simp only [Tryz.ntmps25,es,Nat.reduceAdd,Nat.reduceSub];gi_upto_region 1 with fail
 have Ly:=lh (Lay.one w 26 #[.int .i64 m.fountains,.slice Av nv cv,.slice Aa na ca,.slice At nt ct]);generalize (w.alloc (.cells #[.int .i64 m.fountains,.slice Av nv cv,.slice Aa na ca,.slice At nt ct] 26))=w0 at *;have hbw:=Ly.out.1;replace HWO:=lh (HWO.out.below hbw);clear hbw;obtain ⟨x0_0,x0_1,x0_2,x0_3⟩:=lyc4 Ly 0 rfl;have l0_:=Ly.out.lt 0 rfl;gi_wp2;clear x0_0 x0_1 x0_2 x0_3 l0_;refine wpIn_loop (fun a W=>∃ (k:Nat),Hid (k≤nt∧TkT f H m k∧Lay w W [(w.heap.size,26,#[.int .i64 m.fountains,.slice Av nv cv,.slice Aa na ca,.slice At nt ct])]∧WOut W (some ⟨bh,oh,none⟩) mA na Q R)∧FrTs (.int .i64 f) (.slice (some ⟨bh,oh,none⟩) (na+1) hc) (.pointer (some ⟨w.heap.size,0,none⟩)) (.slice At nt ct) (.int .i64 (nt:Int)) (.int .i64 (k:Int)) a) (fun a _=>nt - (intOf (a.tmps.getD 13 undef)).toNat) ?_ ?_
 ·exact ⟨0,lh ⟨Nat.zero_le _,rfl,Ly.out,HWO.out⟩,by constructor⟩
 clear Ly HWO;rintro a W ⟨k,HS,ha⟩;cases ha;have Ly:=lh HS.out.2.2.1;have HWO:=lh HS.out.2.2.2;have HTK:=lh HS.out.2.1;have hk0:=HS.out.1;clear HS;by_cases hlt:k<nt
 ·
  obtain ⟨ba,oa,x,e1,hba,hx,c0,c1,c2,c3,c4,c5⟩:=(HMS.out.at_.below Ly.out.1).tast hlt;have htb:=sy HOK.out (List.mem_of_getElem? hx)
  obtain ⟨aq,haq⟩:∃ q:Nat,x.after=(q:Int):=⟨x.after.toNat,by omega⟩
  obtain ⟨vq,hvq⟩:∃ q:Nat,idxV m.vessels x.vessel=(q:Int):=⟨(idxV m.vessels x.vessel).toNat,by omega⟩
  have hv4:=eN (id:=x.vessel) HV4.out;have ha9:aq≤na:=by have:=HLN.out;omega
  have hq4:vq<4:=by omega
  rw [haq] at c2
  obtain ⟨⟨xl,xA,xn,xc⟩,hxq⟩:∃ y,qAt Q aq vq=y:=⟨_,rfl⟩
  have hat:=HWO.out.atq HQ.out.1 ha9 hq4;have hl:=yC HQ.out ha9 hq4;rw [hxq] at hat hl;have HLX:=lh hat.2.1;have HXL:Hid (xl=hpAt (H x.after.toNat) (idxV m.vessels x.vessel)):=lh (by rw [haq,hvq,Int.toNat_natCast];exact hl)
  have HCQ:Hid (∀ W',WOut W' (some ⟨bh,oh,none⟩) mA na Q R→W'.cell? ⟨bh,oh+aq * 4+vq,none⟩=some (.slice xA xn xc)):=lh (fun W' h'=>by
   have h1:=(h'.atq HQ.out.1 ha9 hq4).2.2;rw [hxq] at h1
   exact h1)
  have HX:=lh hx;have HAQ:=lh haq;have HVQ:=lh hvq;have HAA:=lh e1;clear hx hxq hat hl haq hvq hv4 htb;rw [e1];clear e1 hba;gi_upto_region 4 with fail
  clear c0 c1 c2 c3 c4 c5
  obtain ⟨V1,hV⟩:∃ V,(W.alloc (.cells #[.int .i64 x.num,.int .i64 x.vessel,.int .i64 (aq:Int),.int .i64 x.fountain,.int .i64 x.lo,.int .i64 x.hi] 69))=V:=⟨_,rfl⟩
  rw [hV];have hb:=dB hV;have hnew:=dE hV;have hge:=Ly.out.bel.size;replace Ly:=lyb Ly hb;replace HWO:=lh (HWO.out.below hb);replace HLX:=lh (HLX.out.below hb);replace Ly:=lh (Ly.out.add hge hnew);clear hnew hge hb hV
  obtain ⟨G2,hG⟩:∃ g,W.heap.size=g:=⟨_,rfl⟩
  rw [hG] at Ly ⊢;clear hG;replace Ly:=lh (show Lay w V1 [(w.heap.size,26,#[.int .i64 m.fountains,.slice Av nv cv,.slice Aa na ca,.slice At nt ct]),(G2,69,#[.int .i64 x.num,.int .i64 x.vessel,.int .i64 (aq:Int),.int .i64 x.fountain,.int .i64 x.lo,.int .i64 x.hi])] from Ly.out);rw [← HAA.out];refine wpIn_flow_old [([true,true,true,true,true,true,false,true,false,false,true,true],6),([false,false,false,false,false,false,false,false,true,true],12)] [false,false,false,false,false,false,false,false,false,false,false,false,false,true] [] (by kernel_rfl) (by kernel_rfl) (by kernel_rfl) (av b_R 1) ?_;refine wpFlow_cons (A:=?AF1) rfl ?hq1 ?_
  case hq1 =>
   rintro σ hσ of hof hcl;have HOF:=lh hof;clear hof hcl;obtain ⟨c0_,c1_,c2_,c3_⟩:=lyz4 Ly HOF 0 rfl;obtain ⟨c4_,c5_,c6_,c7_,c8_,c9_⟩:=lyz6 Ly HOF 1 rfl;have hfw:=hfT;have ch:∀ z,(of z).cell? ⟨bh,oh+aq * 4+vq,none⟩=some (.slice xA xn xc):=fun z=>HCQ.out _ (HWO.out.below (HOF.out z));have g0:(0:Int)≤(aq:Int):=by omega
   have g1:(aq:Int)<((na+1:Nat):Int):=by omega
   have g2:(0:Int)≤(vq:Int):=by omega
   have g3:(vq:Int)<4:=by omega
   simp only [bu]
   repeat (gi_big_quiet_step (fail))
   refine wpQuietIn_nil ?_;exact rfl
  intro W3 hW;replace Ly:=lyb Ly hW;replace HWO:=lh (HWO.out.below hW);replace HLX:=lh (HLX.out.below hW);clear hW;gi_wp2;refine ⟨trivial,(callsIn_wide.2 (gp Av nv cv Aa na ca At nt ct m x.vessel W3 (HMS.out.up Ly.out.1))).mono ?_⟩;rintro e W4 ⟨rfl,hb⟩;replace Ly:=lyb Ly hb;replace HWO:=lh (HWO.out.below hb);replace HLX:=lh (HLX.out.below hb);rw [HVQ.out];gi_wp2;refine ⟨trivial,hb,?_⟩;clear hb;refine wpFlow_cons (A:=?AF2) rfl ?hq2 ?_
  case hq2 =>
   rintro σ hσ of hof hcl;have HOF:=lh hof;clear hof hcl;obtain ⟨c0_,c1_,c2_,c3_⟩:=lyz4 Ly HOF 0 rfl;obtain ⟨c4_,c5_,c6_,c7_,c8_,c9_⟩:=lyz6 Ly HOF 1 rfl;have hfw:=hfT;have ch:∀ z,(of z).cell? ⟨bh,oh+aq * 4+vq,none⟩=some (.slice xA xn xc):=fun z=>HCQ.out _ (HWO.out.below (HOF.out z));have g0:(0:Int)≤(aq:Int):=by omega
   have g1:(aq:Int)<((na+1:Nat):Int):=by omega
   have g2:(0:Int)≤(vq:Int):=by omega
   have g3:(vq:Int)<4:=by omega
   simp only [bu]
   repeat (gi_big_quiet_step (fail))
   refine wpQuietIn_nil ?_;exact rfl
  intro W5 hW;replace Ly:=lyb Ly hW;replace HWO:=lh (HWO.out.below hW);replace HLX:=lh (HLX.out.below hW);clear hW;gi_wp2;refine ⟨trivial,(c_W (mO xA xn xc xl x.fountain W5 HLX.out.ints (by have:=HLX.out.le;dsimp only at this;omega))).mono ?_⟩;rintro e W6 ⟨rfl,hb⟩;replace Ly:=lyb Ly hb;replace HWO:=lh (HWO.out.below hb);replace HLX:=lh (HLX.out.below hb);gi_wp2;refine ⟨trivial,hb,?_⟩;clear hb;refine wpFlow_nil (A:=?AF3) ?hq3 ?_
  case hq3 =>
   rintro σ hσ of hof hcl;have HOF:=lh hof;clear hof hcl;obtain ⟨c0_,c1_,c2_,c3_⟩:=lyz4 Ly HOF 0 rfl;obtain ⟨c4_,c5_,c6_,c7_,c8_,c9_⟩:=lyz6 Ly HOF 1 rfl;have hfw:=hfT;have ch:∀ z,(of z).cell? ⟨bh,oh+aq * 4+vq,none⟩=some (.slice xA xn xc):=fun z=>HCQ.out _ (HWO.out.below (HOF.out z));have g0:(0:Int)≤(aq:Int):=by omega
   have g1:(aq:Int)<((na+1:Nat):Int):=by omega
   have g2:(0:Int)≤(vq:Int):=by omega
   have g3:(vq:Int)<4:=by omega
   simp only [bu]
   repeat (gi_big_quiet_step (fail))
   refine wpQuietIn_nil ?_;exact rfl
  intro W7 hW;replace Ly:=lyb Ly hW;replace HWO:=lh (HWO.out.below hW);replace HLX:=lh (HLX.out.below hW);clear hW;simp only [bu];refine de ?_
  obtain ⟨c,hcn⟩:∃ c:Int,((xl.count x.fountain:Nat):Int)=c:=⟨_,rfl⟩
  rw [hcn];have HB:Hid (tasB f H m x = !(decide (x.fountain=f) && (decide (c<x.lo) || decide (x.hi<c)))):=lh (by unfold tasB;rw [← HXL.out,hcn]);clear hcn;by_cases hf:x.fountain=f
  ·
   have hfb:(x.fountain==f)=true:=by simpa using hf
   have HF:=lh hf;clear hf;by_cases hlo:c<x.lo
   ·
    have HNO:Hid (tasB f H m x=false):=lh (by rw [HB.out,decide_eq_true HF.out,decide_eq_true hlo];rfl);obtain ⟨x1_0,x1_1,x1_2,x1_3,x1_4,x1_5⟩:=lyc6 Ly 1 rfl;have l1_:=Ly.out.lt 1 rfl;gi_wp2
    all_goals try (rename_i hA hB;exact undef_ne hA)
    clear x1_0 x1_1 x1_2 x1_3 x1_4 x1_5 l1_;refine bodyPost_ret (v:=.bool false) (by simp [results,Tryz.results25,go_sem]) rfl ?_;exact ⟨by rw [lz,wm HX.out HNO.out],Ly.out.1⟩
   ·
    by_cases hhi:x.hi<c
    ·
     have HNO:Hid (tasB f H m x=false):=lh (by rw [HB.out,decide_eq_true HF.out,decide_eq_true hhi,Bool.or_true];rfl);have hlo2:decide (c<x.lo)=false:=by simpa using hlo
     obtain ⟨x1_0,x1_1,x1_2,x1_3,x1_4,x1_5⟩:=lyc6 Ly 1 rfl;have l1_:=Ly.out.lt 1 rfl;gi_wp2
     all_goals try (rename_i hA hB;exact undef_ne hA)
     clear x1_0 x1_1 x1_2 x1_3 x1_4 x1_5 l1_;refine bodyPost_ret (v:=.bool false) (by simp [results,Tryz.results25,go_sem]) rfl ?_;exact ⟨by rw [lz,wm HX.out HNO.out],Ly.out.1⟩
    ·
     have HLO:=lh hlo;have HHI:=lh hhi;have hlo2:decide (c<x.lo)=false:=by simpa using hlo
     have hhi2:decide (x.hi<c)=false:=by simpa using hhi
     obtain ⟨x1_0,x1_1,x1_2,x1_3,x1_4,x1_5⟩:=lyc6 Ly 1 rfl;have l1_:=Ly.out.lt 1 rfl;gi_wp2
     all_goals try (rename_i hA hB;exact undef_ne hA)
     clear x1_0 x1_1 x1_2 x1_3 x1_4 x1_5 l1_;refine ⟨⟨k+1,lh ⟨hlt,pi HX.out HTK.out (by rw [HB.out];rw [decide_eq_false (show ¬ c<x.lo by have:=HLO.out;omega),decide_eq_false (show ¬ x.hi<c by have:=HHI.out;omega)];simp),by have h:=Ly.out.sub (bs':=[(w.heap.size,26,#[.int .i64 m.fountains,.slice Av nv cv,.slice Aa na ca,.slice At nt ct])]) (by intro b hb;simp only [List.mem_cons,List.not_mem_nil,or_false] at hb ⊢;exact .inl hb);rw [HAA.out] at h;exact h,HWO.out⟩,by rw [show ((k+1:Nat):Int)=(k:Int)+1 from by omega];first | constructor | (rw [HAA.out];constructor)⟩,?_⟩;simp [intOf]<;>omega
  ·
   have hfb:(x.fountain==f)=false:=by simpa using hf
   have HF:=lh hf;clear hf;obtain ⟨x1_0,x1_1,x1_2,x1_3,x1_4,x1_5⟩:=lyc6 Ly 1 rfl;have l1_:=Ly.out.lt 1 rfl;gi_wp2
   all_goals try (rename_i hA hB;exact undef_ne hA)
   clear x1_0 x1_1 x1_2 x1_3 x1_4 x1_5 l1_;refine ⟨⟨k+1,lh ⟨hlt,pi HX.out HTK.out (by rw [HB.out];rw [decide_eq_false HF.out];rfl),by have h:=Ly.out.sub (bs':=[(w.heap.size,26,#[.int .i64 m.fountains,.slice Av nv cv,.slice Aa na ca,.slice At nt ct])]) (by intro b hb;simp only [List.mem_cons,List.not_mem_nil,or_false] at hb ⊢;exact .inl hb);rw [HAA.out] at h;exact h,HWO.out⟩,by rw [show ((k+1:Nat):Int)=(k:Int)+1 from by omega];first | constructor | (rw [HAA.out];constructor)⟩,?_⟩;simp [intOf]<;>omega
 ·
  obtain rfl:nt=k:=by omega
  have HTR:Hid (oy m f H=true):=lh (by
   rw [lz];have h:=HTK.out;unfold TkT at h
   rwa [List.take_of_length_le (by rw [HLT.out];exact n_R)] at h)
  gi_wp2;refine bodyPost_ret (v:=.bool true) (by simp [results,Tryz.results25,go_sem]) rfl ?_;exact ⟨by rw [HTR.out],Ly.out.1⟩
end
section
open Go.RowKit Go.Shelf
attribute [local go_sem] Oper.semAt_some
theorem r7 {m:Mix}{f:Int}{Dr:Nat→List Int}{t:Nat}{x:MAct}{c:Int}(hx:m.acts[t]? =some x)(hc:((Dr t).count f:Int)=c):lk m f Dr (t+1)=lk m f Dr t+if 2<x.kind then c else 0:=by
 rw [lk,hx];dsimp only;rw [hc]
inductive FrSa (v3 v7 v8 v9 v10 v11 v57 v58:Value):Act→Prop
 | mk (a b c d e f g h i j k l m n o p q r s t w x y z A B C D E F G H I J K L M N O P Q R S T U V W X Y Z aa ab ac ad ae af ag ah ai aj ak al am an ao ap aq ar aw ax ay az aA aB aC aD aE aF aG aH aI aJ aK aL aM aN aO aP aQ aR aS aT aU aV aW aX aY aZ a0 a1 a2 a3 a4 a5 a6 a7 a8 a9 ba bb bc bd be bf bg bh bi bj bk bl bm bn bo bp bq br bs bt bw bx bz bA bB bC bD bE bF bG bH bI bJ bK bL bM bN bO bP bQ bR bS bT bU bV bW bX bY bZ b0 b1 b2 b3 b4 b5 b6 b7 b8 b9 ca cb cc cd ce cf cg ch ci cj ck cl cm cn co cp cq cr cs ct cw cx cy cz cA cB cC cD cE cF cG cH cI cJ cK cL cM cN cO cP cQ cR cS cT cU cV cW cX cY cZ c0 c1 c2 c3 c4:Value):FrSa v3 v7 v8 v9 v10 v11 v57 v58 ⟨#[a,b,c,v3,d,e,f,v7,v8,v9,v10,v11,g,h,i,j,k,l,m,n,o,p,q,r,s,t,w,x,y,z,A,B,C,D,E,F,G,H,I,J,K,L,M,N,O,P,Q,R,S,T,U,V,W,X,Y,Z,aa,v57,v58,ab,ac,ad,ae,af,ag,ah,ai,aj,ak,al,am,an,ao,ap,aq,ar,aw,ax,ay,az,aA,aB,aC,aD,aE,aF,aG,aH,aI,aJ,aK,aL,aM,aN,aO,aP,aQ,aR,aS,aT,aU,aV,aW,aX,aY,aZ,a0,a1,a2,a3,a4,a5,a6,a7,a8,a9,ba,bb,bc,bd,be,bf,bg,bh,bi,bj,bk,bl,bm,bn,bo,bp,bq,br,bs,bt,bw,bx,bz,bA,bB,bC,bD,bE,bF,bG,bH,bI,bJ,bK,bL,bM,bN,bO,bP,bQ,bR,bS,bT,bU,bV,bW,bX,bY,bZ,b0,b1,b2,b3,b4,b5,b6,b7,b8,b9,ca,cb,cc,cd,ce,cf,cg,ch,ci,cj,ck,cl,cm,cn,co,cp,cq,cr,cs,ct,cw,cx,cy,cz,cA,cB,cC,cD,cE,cF,cG,cH,cI,cJ,cK,cL,cM,cN,cO,cP,cQ,cR,cS,cT,cU,cV,cW,cX,cY,cZ,c0,c1,c2,c3,c4],[]⟩
inductive FrSb (v3 v7 v8 v9 v10 v11 v12 v57 v58 v62 v63 v64:Value):Act→Prop
 | mk (a b c d e f g h i j k l m n o p q r s t w x y z A B C D E F G H I J K L M N O P Q R S T U V W X Y Z aa ab ac ad ae af ag ah ai aj ak al am an ao ap aq ar aw ax ay az aA aB aC aD aE aF aG aH aI aJ aK aL aM aN aO aP aQ aR aS aT aU aV aW aX aY aZ a0 a1 a2 a3 a4 a5 a6 a7 a8 a9 ba bb bc bd be bf bg bh bi bj bk bl bm bn bo bp bq br bs bt bw bx bz bA bB bC bD bE bF bG bH bI bJ bK bL bM bN bO bP bQ bR bS bT bU bV bW bX bY bZ b0 b1 b2 b3 b4 b5 b6 b7 b8 b9 ca cb cc cd ce cf cg ch ci cj ck cl cm cn co cp cq cr cs ct cw cx cy cz cA cB cC cD cE cF cG cH cI cJ cK cL cM cN cO cP cQ cR cS cT cU cV cW cX cY cZ c0:Value):FrSb v3 v7 v8 v9 v10 v11 v12 v57 v58 v62 v63 v64 ⟨#[a,b,c,v3,d,e,f,v7,v8,v9,v10,v11,v12,g,h,i,j,k,l,m,n,o,p,q,r,s,t,w,x,y,z,A,B,C,D,E,F,G,H,I,J,K,L,M,N,O,P,Q,R,S,T,U,V,W,X,Y,Z,v57,v58,aa,ab,ac,v62,v63,v64,ad,ae,af,ag,ah,ai,aj,ak,al,am,an,ao,ap,aq,ar,aw,ax,ay,az,aA,aB,aC,aD,aE,aF,aG,aH,aI,aJ,aK,aL,aM,aN,aO,aP,aQ,aR,aS,aT,aU,aV,aW,aX,aY,aZ,a0,a1,a2,a3,a4,a5,a6,a7,a8,a9,ba,bb,bc,bd,be,bf,bg,bh,bi,bj,bk,bl,bm,bn,bo,bp,bq,br,bs,bt,bw,bx,bz,bA,bB,bC,bD,bE,bF,bG,bH,bI,bJ,bK,bL,bM,bN,bO,bP,bQ,bR,bS,bT,bU,bV,bW,bX,bY,bZ,b0,b1,b2,b3,b4,b5,b6,b7,b8,b9,ca,cb,cc,cd,ce,cf,cg,ch,ci,cj,ck,cl,cm,cn,co,cp,cq,cr,cs,ct,cw,cx,cy,cz,cA,cB,cC,cD,cE,cF,cG,cH,cI,cJ,cK,cL,cM,cN,cO,cP,cQ,cR,cS,cT,cU,cV,cW,cX,cY,cZ,c0],[]⟩
theorem wK (Av:Option Addr)(nv cv:Nat)(Aa:Option Addr)(na ca:Nat)(At:Option Addr)(nt ct:Nat)(m:Mix)(By:Option Addr)(bn bc:Nat)(bl:List Nat)(which:Nat)(w:World)(h:ej w w.heap.size Av nv Aa na At nt m)(hbn:bn≤maxLen)(hby:j9 w w.heap.size By bn bl)(h_which:which≤255) :
  CallsIn Fence.wide 9 Tryz.prog 4 #[.agg #[.int .i64 m.fountains,.slice Av nv cv,.slice Aa na ca,.slice At nt ct],.slice By bn bc,.int .u8 which] w (vx w):=by
 have HBY:=lh hby;have HBN:=lh hbn;clear hby hbn;have HM:=lh h;clear h;refine callsIn_of_wp Tryz.func4 rfl trivial ?_ rfl;simp only [Tryz.ntmps4,es,Nat.reduceAdd,Nat.reduceSub];gi_upto_region 1 with fail
 have Ly:=lh (Lay.one w 26 #[.int .i64 m.fountains,.slice Av nv cv,.slice Aa na ca,.slice At nt ct]);generalize (w.alloc (.cells #[.int .i64 m.fountains,.slice Av nv cv,.slice Aa na ca,.slice At nt ct] 26))=w0 at *;gi_wp2;refine ⟨trivial,(c_W (vc w0)).mono ?_⟩;rintro e W1 ⟨rfl,hb⟩;replace Ly:=lyb Ly hb;clear hb;obtain ⟨x0_0,x0_1,x0_2,x0_3⟩:=lyc4 Ly 0 rfl;have l0_:=Ly.out.lt 0 rfl;gi_wp2;clear x0_0 x0_1 x0_2 x0_3 l0_;refine ⟨trivial,(c_W (vp Av nv cv Aa na ca At nt ct m W1 (HM.out.up Ly.out.1))).mono ?_⟩;rintro e W2 ⟨rfl,hb⟩;replace Ly:=lyb Ly hb;clear hb
 cases hr:lM nv na nt m with
 | false =>
  clear hr;gi_wp2;refine bodyPost_ret (v:=.bool true) (by simp [results,Tryz.results4,go_sem]) rfl ?_;exact ⟨rfl,Ly.out.1⟩
 | true =>
  have hok:=(rh hr).2;have hvs:=dv hok;have hl1:=HM.out.lenV;have hl2:=HM.out.lenA;have hl3:=HM.out.lenT
  have hsx:MixS w Av nv Aa na At nt m:=⟨HM.out,by omega,by omega,by omega⟩
  have HMS:=lh hsx;have HOK:=lh hok;have HL1:=lh hl1;have HL2:=lh hl2;have HL3:=lh hl3;have hnv:nv≤4:=by omega
  have hna:na≤12:=by omega
  have hnt:nt≤8:=by omega
  have hF:1≤m.fountains∧m.fountains≤4:=by omega
  have HFF:=lh hF;clear hr hok hvs hsx hl1 hl2 hl3 hF
  obtain ⟨F,hFn⟩:∃ F:Nat,m.fountains=(F:Int):=⟨m.fountains.toNat,by have:=HFF.out;omega⟩
  have hF4:1≤F∧F≤4:=by have:=HFF.out;omega
  have HFn:=lh hFn;have dz_F:¬ m.fountains=0:=by omega
  have dy_F:(m.fountains==0)=false:=by simp;omega
  clear hFn;have hlt_r:which % F<F:=Nat.mod_lt _ (by omega);have tm_r:Int.tmod (which:Int) m.fountains=((which % F:Nat):Int):=by rw [HFn.out,Int.tmod_eq_emod_of_nonneg (by omega)];push_cast;rfl
  obtain ⟨r,hq_r⟩:∃ r,which % F=r:=⟨_,rfl⟩
  rw [hq_r] at hlt_r tm_r;clear hq_r;have wx_r:IntKind.i64.wrap (which:Int)=(which:Int):=IntWalk.i64_in _ (by omega);obtain ⟨x0_0,x0_1,x0_2,x0_3⟩:=lyc4 Ly 0 rfl;have l0_:=Ly.out.lt 0 rfl;gi_upto_region 5 with fail
  clear x0_0 x0_1 x0_2 x0_3 l0_
  obtain ⟨f,hf⟩:∃ f:Int,1+(r:Int)=f:=⟨_,rfl⟩
  rw [hf];have HFB:Hid (1≤f∧f≤m.fountains):=lh (by have:=HFn.out;omega);obtain ⟨L,hL⟩:=tY HOK.out;have HLL:=lh hL;clear hf hL;obtain ⟨x0_0,x0_1,x0_2,x0_3⟩:=lyc4 Ly 0 rfl;have l0_:=Ly.out.lt 0 rfl;gi_wp2;clear x0_0 x0_1 x0_2 x0_3 l0_;refine ⟨trivial,(c_W (yj Av nv cv Aa na ca At nt ct m By bn bc bl L W2 (HMS.out.up Ly.out.1) HOK.out HLL.out (rB HBY.out Ly.out.1) HBN.out)).mono ?_⟩;rintro e W3 ⟨H,Dr,Q,R,hA,hc,mA,mc,rfl,hwn,hq,hr,hwo,hb⟩;replace Ly:=lyb Ly hb;clear hb;have HWN:Hid (Went m m.acts.length H Dr):=lh (by rw [HL2.out];exact hwn);obtain ⟨bh,oh,rfl⟩:=hwo.plain hq.1;have HHQ:=lh hq;have HMR:=lh hr;have HWO:=lh hwo;clear hwn hq hr hwo;obtain ⟨x0_0,x0_1,x0_2,x0_3⟩:=lyc4 Ly 0 rfl;have l0_:=Ly.out.lt 0 rfl;gi_wp2;clear x0_0 x0_1 x0_2 x0_3 l0_;refine ⟨trivial,(c_W (tV Av nv cv Aa na ca At nt ct m f (some ⟨bh,oh,none⟩) hc mA Q R H W3 (HMS.out.up Ly.out.1) HOK.out HWO.out HHQ.out)).mono ?_⟩;rintro e W4 ⟨rfl,hb⟩;replace Ly:=lyb Ly hb;replace HWO:=lh (HWO.out.below hb);clear hb
  cases htr:oy m f H with
  | false =>
   clear htr;gi_wp2;refine bodyPost_ret (v:=.bool true) (by simp [results,Tryz.results4,go_sem]) rfl ?_;exact ⟨rfl,Ly.out.1⟩
  | true =>
   have HRUN:=lh (uO HOK.out HLL.out HWN.out htr);clear htr;obtain ⟨x0_0,x0_1,x0_2,x0_3⟩:=lyc4 Ly 0 rfl;have l0_:=Ly.out.lt 0 rfl;gi_wp2;clear x0_0 x0_1 x0_2 x0_3 l0_;refine wpIn_loop (fun a W=>∃ (t:Nat) (gv:Int),Hid ((t≤na+1∧0≤gv∧gv≤12 * t)∧gv=lk m f Dr (t - 1)∧Lay w W [(w.heap.size,26,#[.int .i64 m.fountains,.slice Av nv cv,.slice Aa na ca,.slice At nt ct])]∧WOut W (some ⟨bh,oh,none⟩) mA na Q R)∧FrSa (.pointer (some ⟨w.heap.size,0,none⟩)) (.bool true) (.int .i64 f) (.slice (some ⟨bh,oh,none⟩) (na+1) hc) (.slice mA na mc) (.int .i64 gv) (.int .i64 ((na:Int)+1)) (.int .i64 (t:Int)) a) (fun a _=>na+1 - (intOf (a.tmps.getD 58 undef)).toNat) ?_ ?_
   ·exact ⟨0,0,lh ⟨⟨by omega,by omega,by omega⟩,rfl,Ly.out,HWO.out⟩,by constructor⟩
   clear Ly HWO;rintro a W ⟨t,gv,HS,ha⟩;cases ha;have Ly:=lh HS.out.2.2.1;have HWO:=lh HS.out.2.2.2;have HGV:=lh HS.out.2.1;have htg:=HS.out.1;clear HS;by_cases hlt:t<na+1
   ·
    have hltI:(t:Int)<(na:Int)+1:=by omega
    obtain ⟨x0_0,x0_1,x0_2,x0_3⟩:=lyc4 Ly 0 rfl;have l0_:=Ly.out.lt 0 rfl;gi_wp2;clear x0_0 x0_1 x0_2 x0_3 l0_;refine wpIn_loop (fun a W=>∃ (i:Nat),Hid (i≤nv∧Lay w W [(w.heap.size,26,#[.int .i64 m.fountains,.slice Av nv cv,.slice Aa na ca,.slice At nt ct])]∧WOut W (some ⟨bh,oh,none⟩) mA na Q R)∧FrSb (.pointer (some ⟨w.heap.size,0,none⟩)) (.bool true) (.int .i64 f) (.slice (some ⟨bh,oh,none⟩) (na+1) hc) (.slice mA na mc) (.int .i64 gv) (.int .i64 (t:Int)) (.int .i64 ((na:Int)+1)) (.int .i64 (t:Int)) (.slice Av nv cv) (.int .i64 (nv:Int)) (.int .i64 (i:Int)) a) (fun a _=>nv - (intOf (a.tmps.getD 64 undef)).toNat) ?_ ?_
    ·exact ⟨0,lh ⟨Nat.zero_le _,Ly.out,HWO.out⟩,by constructor⟩
    clear Ly HWO;rintro a W ⟨i,HS,ha⟩;cases ha;have Ly:=lh HS.out.2.1;have HWO:=lh HS.out.2.2;have hin:=HS.out.1;clear HS;by_cases hli:i<nv
    ·
     obtain ⟨bv,ov,x,e1,hbv,hx,c0,c1⟩:=(HMS.out.at_.below Ly.out.1).vess hli;have hi4:i<4:=by omega
     have ht9:t≤na:=by omega
     obtain ⟨⟨xl,xA,xn,xc⟩,hxq⟩:∃ y,qAt Q t i=y:=⟨_,rfl⟩
     have hat:=HWO.out.atq HHQ.out.1 ht9 hi4;have hql:=yC HHQ.out ht9 hi4;rw [hxq] at hat hql;have HLX:=lh hat.2.1;have HXL:Hid (xl=hpAt (H t) (i:Int)):=lh hql;have HXN:Hid (xl.length=xn):=lh hat.2.1.ints.len
     have HCQ:Hid (∀ W',WOut W' (some ⟨bh,oh,none⟩) mA na Q R→W'.cell? ⟨bh,oh+t * 4+i,none⟩=some (.slice xA xn xc)):=lh (fun W' h'=>by
      have h1:=(h'.atq HHQ.out.1 ht9 hi4).2.2;rw [hxq] at h1
      exact h1)
     have HXI:=lh (yb HOK.out hx);have HAA:=lh e1;clear hx hxq hat hql;rw [e1];clear e1 hbv;gi_upto_region 15 with fail
     clear c0 c1
     obtain ⟨V5,hV⟩:∃ V,(W.alloc (.cells #[.int .i64 x.id,.int .i64 x.size] 50))=V:=⟨_,rfl⟩
     rw [hV];have hb:=dB hV;have hnew:=dE hV;have hge:=Ly.out.bel.size;replace Ly:=lyb Ly hb;replace HWO:=lh (HWO.out.below hb);replace HLX:=lh (HLX.out.below hb);replace Ly:=lh (Ly.out.add hge hnew);clear hnew hge hb hV
     obtain ⟨G6,hG⟩:∃ g,W.heap.size=g:=⟨_,rfl⟩
     rw [hG] at Ly ⊢;clear hG;replace Ly:=lh (show Lay w V5 [(w.heap.size,26,#[.int .i64 m.fountains,.slice Av nv cv,.slice Aa na ca,.slice At nt ct]),(G6,50,#[.int .i64 x.id,.int .i64 x.size])] from Ly.out);rw [← HAA.out];have g0:(0:Int)≤(t:Int):=by omega
     have g1:(t:Int)<((na+1:Nat):Int):=by omega
     have g2:(0:Int)≤(i:Int):=by omega
     have g3:(i:Int)<4:=by omega
     have cc:=HCQ.out _ HWO.out;gi_wp2;refine ⟨trivial,(c_W (mO xA xn xc xl f V5 HLX.out.ints (by have:=HLX.out.le;dsimp only at this;omega))).mono ?_⟩;rintro e W7 ⟨rfl,hb⟩;replace Ly:=lyb Ly hb;replace HWO:=lh (HWO.out.below hb);replace HLX:=lh (HLX.out.below hb);clear hb
     obtain ⟨c,hcn⟩:∃ c:Int,((xl.count f:Nat):Int)=c:=⟨_,rfl⟩
     rw [hcn];have HCN:=lh hcn;clear hcn cc g0 g1 g2 g3;obtain ⟨x0_0,x0_1,x0_2,x0_3⟩:=lyc4 Ly 0 rfl;have l0_:=Ly.out.lt 0 rfl;obtain ⟨x1_0,x1_1⟩:=lyc2 Ly 1 rfl;have l1_:=Ly.out.lt 1 rfl;gi_wp2;clear x0_0 x0_1 x0_2 x0_3 l0_ x1_0 x1_1 l1_;refine ⟨trivial,(c_W (sJ Av nv cv Aa na ca At nt ct m x.id (t:Int) f W7 (HMS.out.up Ly.out.1))).mono ?_⟩;rintro e W8 ⟨s1,s2,e1,rfl,hma,hb⟩;replace Ly:=lyb Ly hb;replace HWO:=lh (HWO.out.below hb);replace HLX:=lh (HLX.out.below hb);clear hb;have H1:=lh hma;clear hma;gi_upto_region 17 with fail
     obtain ⟨V9,hV⟩:∃ V,(W8.alloc (.cells #[.int .i64 s1,.int .i64 s2] 54))=V:=⟨_,rfl⟩
     rw [hV];have hb:=dB hV;have hnew:=dE hV;have hge:=Ly.out.bel.size;replace Ly:=lyb Ly hb;replace HWO:=lh (HWO.out.below hb);replace HLX:=lh (HLX.out.below hb);replace Ly:=lh (Ly.out.add hge hnew);clear hnew hge hb hV
     obtain ⟨G10,hG⟩:∃ g,W8.heap.size=g:=⟨_,rfl⟩
     rw [hG] at Ly ⊢;clear hG;replace Ly:=lh (show Lay w V9 [(w.heap.size,26,#[.int .i64 m.fountains,.slice Av nv cv,.slice Aa na ca,.slice At nt ct]),(G6,50,#[.int .i64 x.id,.int .i64 x.size]),(G10,54,#[.int .i64 s1,.int .i64 s2])] from Ly.out);obtain ⟨x0_0,x0_1,x0_2,x0_3⟩:=lyc4 Ly 0 rfl;have l0_:=Ly.out.lt 0 rfl;obtain ⟨x1_0,x1_1⟩:=lyc2 Ly 1 rfl;have l1_:=Ly.out.lt 1 rfl;gi_wp2;clear x0_0 x0_1 x0_2 x0_3 l0_ x1_0 x1_1 l1_;refine ⟨trivial,(c_W (oQ Av nv cv Aa na ca At nt ct m x.id (t:Int) f V9 (HMS.out.up Ly.out.1))).mono ?_⟩;rintro e W11 ⟨lo,hi,e2,rfl,hma,hb⟩;replace Ly:=lyb Ly hb;replace HWO:=lh (HWO.out.below hb);replace HLX:=lh (HLX.out.below hb);clear hb;have H2:=lh hma;clear hma
     obtain ⟨kk,hkr⟩:∃ k,fK (decide (0<lo)) (decide (0<hi))=k:=⟨_,rfl⟩
     rw [hkr];have HKR:=lh hkr;clear hkr;obtain ⟨x0_0,x0_1,x0_2,x0_3⟩:=lyc4 Ly 0 rfl;have l0_:=Ly.out.lt 0 rfl;obtain ⟨x1_0,x1_1⟩:=lyc2 Ly 1 rfl;have l1_:=Ly.out.lt 1 rfl;gi_wp2;clear x0_0 x0_1 x0_2 x0_3 l0_ x1_0 x1_1 l1_;refine ⟨trivial,(c_W ((nG Av nv cv Aa na ca At nt ct m x.id (t:Int) f W11 (HMS.out.up Ly.out.1)).mono fun _ _ h=>lH h)).mono ?_⟩;rintro e W12 ⟨pp,e3,rfl,hma,hb⟩;replace Ly:=lyb Ly hb;replace HWO:=lh (HWO.out.below hb);replace HLX:=lh (HLX.out.below hb);clear hb;have H3:=lh hma;clear hma;obtain ⟨x0_0,x0_1,x0_2,x0_3⟩:=lyc4 Ly 0 rfl;have l0_:=Ly.out.lt 0 rfl;obtain ⟨x1_0,x1_1⟩:=lyc2 Ly 1 rfl;have l1_:=Ly.out.lt 1 rfl;gi_wp2;clear x0_0 x0_1 x0_2 x0_3 l0_ x1_0 x1_1 l1_;refine ⟨trivial,(c_W (qy Av nv cv Aa na ca At nt ct m x.id (t:Int) W12 (HMS.out.up Ly.out.1))).mono ?_⟩;rintro e W13 ⟨al,e4,rfl,hma,hb⟩;replace Ly:=lyb Ly hb;replace HWO:=lh (HWO.out.below hb);replace HLX:=lh (HLX.out.below hb);clear hb;have hlaw:=sr HOK.out HLL.out HRUN.out HWN.out (show 0≤idxV m.vessels x.id by rw [HXI.out];omega) (show (0:Int)≤(t:Int)∧((t:Nat):Int)≤m.acts.length by have:=HL2.out;omega) HFB.out (n:=c) (i:=0) (by rw [Int.toNat_natCast,HXI.out,← HXL.out];exact HCN.out.symm) H1.out H2.out (fun _=>HKR.out.symm) H3.out hma;rw [Int.toNat_natCast,HXI.out,← HXL.out,HXN.out] at hlaw;obtain ⟨h1,h2,h3,h4,h5,h6,h7,h8,h9,h10,h11⟩:=hlaw;obtain rfl:e1=0:=h1;obtain rfl:e2=0:=h2;obtain rfl:e3=0:=h3;obtain rfl:e4=0:=h4;obtain rfl:al=(xn:Int):=h5;have HD:Hid (¬ (kk=2∧c=0)∧¬ (kk=0∧0<c)∧¬ (pp=2∧c<(xn:Int))∧¬ (pp=0∧c=(xn:Int))):=lh ⟨h8,h9,h10,h11⟩;have HW1:Hid (decide (s1≤c∧c≤s2)=true):=lh (decide_eq_true ⟨h6,h7⟩);clear hma h6 h7 h8 h9 h10 h11 H1 H2 H3 HKR;gi_upto_region 20 with fail
     simp only [List.append_eq,List.cons_append,List.nil_append]
     gi_cut [176] from 112 (fun v176 wx=>v176 = .bool false∧Hid (Below W13.heap.size W13 wx))
     case first =>
      have HB0:=lh (Below.refl W13.heap.size W13);have g0:(0:Int)≤(t:Int):=by omega
      have g1:(t:Int)<((na+1:Nat):Int):=by omega
      have g2:(0:Int)≤(i:Int):=by omega
      have g3:(i:Int)<4:=by omega
      have cc:=HCQ.out _ HWO.out;obtain ⟨x2_0,x2_1⟩:=lyc2 Ly 2 rfl;have l2_:=Ly.out.lt 2 rfl;gi_wp2;clear x2_0 x2_1 l2_;clear cc g0 g1 g2 g3;refine ⟨trivial,(c_W (lO s1 s2 c W13)).mono ?_⟩;rintro e W14 ⟨rfl,hb⟩;replace Ly:=lyb Ly hb;replace HWO:=lh (HWO.out.below hb);replace HLX:=lh (HLX.out.below hb);replace HB0:=lh (HB0.out.trans (hb.mono HB0.out.size));clear hb;rw [HW1.out];rcases (show kk=2∨kk=0∨(kk≠2∧kk≠0) by omega) with hk | hk | hk
      ·
       subst hk;have hc:=HD.out.1;have c0b:(c==0)=false:=by rw [beq_eq_false_iff_ne];intro h;exact hc ⟨rfl,h⟩
       clear hc;rcases (show pp=2∨pp=0∨(pp≠2∧pp≠0) by omega) with hp | hp | hp
       ·
        subst hp;have hc:=HD.out.2.2.1;have c1b:decide (c<(xn:Int))=false:=decide_eq_false (fun h=>hc ⟨rfl,h⟩);clear hc;gi_wp2
        all_goals try (rename_i hA hB;exact undef_ne hA)
        gi_meet;exact ⟨rfl,HB0⟩
       ·
        subst hp;have hc:=HD.out.2.2.2;have c1b:(c==(xn:Int))=false:=by rw [beq_eq_false_iff_ne];intro h;exact hc ⟨rfl,h⟩
        clear hc;gi_wp2
        all_goals try (rename_i hA hB;exact undef_ne hA)
        gi_meet;exact ⟨rfl,HB0⟩
       ·
        have p2b:(pp==2)=false:=beq_eq_false_iff_ne.2 hp.1;have p0b:(pp==0)=false:=beq_eq_false_iff_ne.2 hp.2;clear hp;gi_wp2
        all_goals try (rename_i hA hB;exact undef_ne hA)
        gi_meet;exact ⟨rfl,HB0⟩
      ·
       subst hk;have hc:=HD.out.2.1;have c0b:decide (0<c)=false:=decide_eq_false (fun h=>hc ⟨rfl,h⟩);clear hc;rcases (show pp=2∨pp=0∨(pp≠2∧pp≠0) by omega) with hp | hp | hp
       ·
        subst hp;have hc:=HD.out.2.2.1;have c1b:decide (c<(xn:Int))=false:=decide_eq_false (fun h=>hc ⟨rfl,h⟩);clear hc;gi_wp2
        all_goals try (rename_i hA hB;exact undef_ne hA)
        gi_meet;exact ⟨rfl,HB0⟩
       ·
        subst hp;have hc:=HD.out.2.2.2;have c1b:(c==(xn:Int))=false:=by rw [beq_eq_false_iff_ne];intro h;exact hc ⟨rfl,h⟩
        clear hc;gi_wp2
        all_goals try (rename_i hA hB;exact undef_ne hA)
        gi_meet;exact ⟨rfl,HB0⟩
       ·
        have p2b:(pp==2)=false:=beq_eq_false_iff_ne.2 hp.1;have p0b:(pp==0)=false:=beq_eq_false_iff_ne.2 hp.2;clear hp;gi_wp2
        all_goals try (rename_i hA hB;exact undef_ne hA)
        gi_meet;exact ⟨rfl,HB0⟩
      ·
       have k2b:(kk==2)=false:=beq_eq_false_iff_ne.2 hk.1;have k0b:(kk==0)=false:=beq_eq_false_iff_ne.2 hk.2;clear hk;rcases (show pp=2∨pp=0∨(pp≠2∧pp≠0) by omega) with hp | hp | hp
       ·
        subst hp;have hc:=HD.out.2.2.1;have c1b:decide (c<(xn:Int))=false:=decide_eq_false (fun h=>hc ⟨rfl,h⟩);clear hc;gi_wp2
        all_goals try (rename_i hA hB;exact undef_ne hA)
        gi_meet;exact ⟨rfl,HB0⟩
       ·
        subst hp;have hc:=HD.out.2.2.2;have c1b:(c==(xn:Int))=false:=by rw [beq_eq_false_iff_ne];intro h;exact hc ⟨rfl,h⟩
        clear hc;gi_wp2
        all_goals try (rename_i hA hB;exact undef_ne hA)
        gi_meet;exact ⟨rfl,HB0⟩
       ·
        have p2b:(pp==2)=false:=beq_eq_false_iff_ne.2 hp.1;have p0b:(pp==0)=false:=beq_eq_false_iff_ne.2 hp.2;clear hp;gi_wp2
        all_goals try (rename_i hA hB;exact undef_ne hA)
        gi_meet;exact ⟨rfl,HB0⟩
     case rest =>
      obtain ⟨rfl,hcb⟩:=hcut;rename World=>C1;have hb:=hcb.out;clear hcb;replace Ly:=lyb Ly hb;replace HWO:=lh (HWO.out.below hb);replace HLX:=lh (HLX.out.below hb);clear hb;gi_wp2;refine ⟨⟨i+1,lh ⟨hli,by have h:=Ly.out.sub (bs':=[(w.heap.size,26,#[.int .i64 m.fountains,.slice Av nv cv,.slice Aa na ca,.slice At nt ct])]) (by intro b hb;simp only [List.mem_cons,List.not_mem_nil,or_false] at hb ⊢;exact .inl hb);rw [HAA.out] at h;exact h,HWO.out⟩,by rw [show ((i+1:Nat):Int)=(i:Int)+1 from by omega];first | constructor | (rw [HAA.out];constructor)⟩,?_⟩;simp [intOf]<;>omega
    ·
     obtain rfl:nv=i:=by omega
     by_cases ht0:t=0
     ·
      subst ht0;gi_wp2;refine ⟨⟨1,gv,lh ⟨⟨by omega,by omega,by omega⟩,HGV.out,Ly.out,HWO.out⟩,by constructor⟩,?_⟩;simp [intOf]<;>omega
     ·
      obtain ⟨s,rfl⟩:∃ s,t=s+1:=⟨t - 1,by omega⟩
      have hsn:s<na:=by omega
      have t0b:(((s+1:Nat):Int)==0)=false:=by rw [beq_eq_false_iff_ne];omega
      have t0c:((s:Int)+1==0)=false:=by rw [beq_eq_false_iff_ne];omega
      have ts:((s+1:Nat):Int) - 1=(s:Int):=by omega
      have ts2:(s:Int)+1 - 1=(s:Int):=by omega
      obtain ⟨bm,om,X,e1,hbm,hlx,hxl,cX⟩:=HWO.out.mv HMR.out hsn;obtain ⟨xl,xA,xn,xc⟩:=X;have HLX:=lh hlx;have HXL:Hid (xl=Dr s):=lh hxl;have HAM:=lh e1;have f0:(0:Int)≤(s:Int):=by omega
      have f1:(s:Int)<(na:Int):=by omega
      have hgv:=HGV.out;rw [show s+1 - 1=s by omega] at hgv;have HGS:=lh hgv;rw [e1];clear e1 hbm hlx hxl hgv;gi_wp2;refine ⟨trivial,(c_W (mO xA xn xc xl f W HLX.out.ints (by have:=HLX.out.le;dsimp only at this;omega))).mono ?_⟩;rintro e W15 ⟨rfl,hb⟩;replace Ly:=lyb Ly hb;replace HWO:=lh (HWO.out.below hb);replace HLX:=lh (HLX.out.below hb);clear hb;rw [← HAM.out]
      obtain ⟨c,hcn⟩:∃ c:Int,((xl.count f:Nat):Int)=c:=⟨_,rfl⟩
      rw [hcn]
      have hc12:0≤c∧c≤12:=by
       have h1:xl.count f≤xl.length:=List.count_le_length;have h2:=HLX.out.ints.len;have h3:=HLX.out.le;dsimp only at h2 h3;omega
      have HCN:Hid (((Dr s).count f:Int)=c):=lh (by rw [← HXL.out];exact hcn);clear hcn cX;obtain ⟨ba,oa,x,e1,hba,hx,c0,c1,c2,c3⟩:=(HMS.out.at_.below Ly.out.1).act hsn;have HGN:=lh (r7 (f:=f) (Dr:=Dr) hx HCN.out);have HAA:=lh e1;clear hx;obtain ⟨x0_0,x0_1,x0_2,x0_3⟩:=lyc4 Ly 0 rfl;have l0_:=Ly.out.lt 0 rfl;rw [e1] at x0_2;clear e1 hba;gi_upto_if 194 with fail
      clear x0_0 x0_1 x0_2 x0_3 l0_;clear c0 c1 c2 c3
      obtain ⟨g2,hg2⟩:∃ y:Int,(gv+if 2<x.kind then c else 0)=y:=⟨_,rfl⟩
      have hgb:0≤g2∧g2≤12 * ((s+1:Nat):Int)+12:=by rw [← hg2];split<;>omega
      have HG2:=lh hg2;clear hg2
      gi_cut [11] from 187 (fun v11 wx=>v11 = .int .i64 g2∧wx=W15)
      case first =>
       by_cases hk3:2<x.kind
       ·
        have HE:Hid (gv+c=g2):=lh (by have h:=HG2.out;rwa [if_pos hk3] at h);gi_wp2;gi_meet;exact ⟨by rw [HE.out],rfl⟩
       ·
        have HE:Hid (gv=g2):=lh (by have h:=HG2.out;rwa [if_neg hk3,Int.add_zero] at h);gi_wp2;gi_meet;exact ⟨by rw [HE.out],rfl⟩
      case rest =>
       obtain ⟨rfl,hcw⟩:=hcut;have hcw2:=hcw.symm;clear hcw;subst hcw2;obtain ⟨x0_0,x0_1,x0_2,x0_3⟩:=lyc4 Ly 0 rfl;have l0_:=Ly.out.lt 0 rfl;gi_wp2;clear x0_0 x0_1 x0_2 x0_3 l0_;refine ⟨trivial,(c_W (pv Av nv cv Aa na ca At nt ct m ((s:Int)+1) f W15 (HMS.out.up Ly.out.1))).mono ?_⟩;rintro e W16 ⟨s1,s2,e1,rfl,hma,hb⟩;replace Ly:=lyb Ly hb;replace HWO:=lh (HWO.out.below hb);clear hb;have hlaw:=r6 HOK.out HLL.out HRUN.out (show s<m.acts.length by have:=HL2.out;omega) HFB.out hma;rw [HCN.out] at hlaw;obtain ⟨h1,h2,h3⟩:=hlaw;obtain rfl:e1=0:=h1;have HW1:Hid (decide (s1≤c∧c≤s2)=true):=lh (decide_eq_true ⟨h2,h3⟩);clear hma h2 h3;gi_upto_region 28 with fail
       obtain ⟨V17,hV⟩:∃ V,(W16.alloc (.cells #[.int .i64 s1,.int .i64 s2] 54))=V:=⟨_,rfl⟩
       rw [hV];have hb:=dB hV;have hnew:=dE hV;have hge:=Ly.out.bel.size;replace Ly:=lyb Ly hb;replace HWO:=lh (HWO.out.below hb);replace Ly:=lh (Ly.out.add hge hnew);clear hnew hge hb hV
       obtain ⟨G18,hG⟩:∃ g,W16.heap.size=g:=⟨_,rfl⟩
       rw [hG] at Ly ⊢;clear hG;replace Ly:=lh (show Lay w V17 [(w.heap.size,26,#[.int .i64 m.fountains,.slice Av nv cv,.slice Aa na ca,.slice At nt ct]),(G18,54,#[.int .i64 s1,.int .i64 s2])] from Ly.out);obtain ⟨x1_0,x1_1⟩:=lyc2 Ly 1 rfl;have l1_:=Ly.out.lt 1 rfl;gi_wp2;clear x1_0 x1_1 l1_;refine ⟨trivial,(c_W (lO s1 s2 c V17)).mono ?_⟩;rintro e W19 ⟨rfl,hb⟩;replace Ly:=lyb Ly hb;replace HWO:=lh (HWO.out.below hb);clear hb;rw [HW1.out];gi_wp2;refine ⟨⟨s+1+1,g2,lh ⟨⟨by omega,by omega,by omega⟩,by rw [show s+1+1 - 1=s+1 by omega,HGN.out,← HGS.out];exact HG2.out.symm,by have h:=Ly.out.sub (bs':=[(w.heap.size,26,#[.int .i64 m.fountains,.slice Av nv cv,.slice Aa na ca,.slice At nt ct])]) (by intro b hb;simp only [List.mem_cons,List.not_mem_nil,or_false] at hb ⊢;exact .inl hb);exact h,HWO.out⟩,by rw [show ((s+1+1:Nat):Int)=((s+1:Nat):Int)+1 from by omega];first | constructor | (rw [HAA.out];constructor)⟩,?_⟩;simp [intOf]<;>omega
   ·
    obtain rfl:t=na+1:=by omega
    have hgv:=HGV.out;rw [show na+1 - 1=na by omega] at hgv;have HGS:=lh hgv;clear hgv;obtain ⟨x0_0,x0_1,x0_2,x0_3⟩:=lyc4 Ly 0 rfl;have l0_:=Ly.out.lt 0 rfl;gi_wp2;clear x0_0 x0_1 x0_2 x0_3 l0_;refine ⟨trivial,(c_W (qq Av nv cv Aa na ca At nt ct m f W (HMS.out.up Ly.out.1))).mono ?_⟩;rintro e W20 ⟨s1,s2,e1,rfl,hma,hb⟩;replace Ly:=lyb Ly hb;replace HWO:=lh (HWO.out.below hb);clear hb;have hlaw:=tZ HOK.out HLL.out HRUN.out HFB.out hma;rw [HL2.out,← HGS.out] at hlaw;obtain ⟨h1,h2,h3⟩:=hlaw;obtain rfl:e1=0:=h1;have HW1:Hid (decide (s1≤gv∧gv≤s2)=true):=lh (decide_eq_true ⟨h2,h3⟩);clear hma h2 h3;gi_upto_region 32 with fail
    obtain ⟨V21,hV⟩:∃ V,(W20.alloc (.cells #[.int .i64 s1,.int .i64 s2] 54))=V:=⟨_,rfl⟩
    rw [hV];have hb:=dB hV;have hnew:=dE hV;have hge:=Ly.out.bel.size;replace Ly:=lyb Ly hb;replace HWO:=lh (HWO.out.below hb);replace Ly:=lh (Ly.out.add hge hnew);clear hnew hge hb hV
    obtain ⟨G22,hG⟩:∃ g,W20.heap.size=g:=⟨_,rfl⟩
    rw [hG] at Ly ⊢;clear hG;replace Ly:=lh (show Lay w V21 [(w.heap.size,26,#[.int .i64 m.fountains,.slice Av nv cv,.slice Aa na ca,.slice At nt ct]),(G22,54,#[.int .i64 s1,.int .i64 s2])] from Ly.out);obtain ⟨x1_0,x1_1⟩:=lyc2 Ly 1 rfl;have l1_:=Ly.out.lt 1 rfl;gi_wp2;clear x1_0 x1_1 l1_;refine ⟨trivial,(c_W (lO s1 s2 gv V21)).mono ?_⟩;rintro e W23 ⟨rfl,hb⟩;replace Ly:=lyb Ly hb;replace HWO:=lh (HWO.out.below hb);clear hb;rw [HW1.out];gi_wp2;refine bodyPost_ret (v:=.bool true) (by simp [results,Tryz.results4,go_sem]) rfl ?_;exact ⟨rfl,Ly.out.1⟩
end
end Go.Proofs.YthofngceiecniaaGreat
