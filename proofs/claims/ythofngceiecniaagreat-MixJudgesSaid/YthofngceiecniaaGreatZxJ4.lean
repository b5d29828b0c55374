/- Part 4 of the texts of this claim, joined. -/
import Derived.Sort.CutIn
import Derived.Lib.Meet
import Derived.Test.YthofngceiecniaaGreatZxJ3
set_option linter.unusedVariables false
/- The law of a drawn region by a plan: quiet operations float; of those that do something, whichever of some comes next; stores last. -/
namespace Go.Proofs.YthofngceiecniaaGreat.Tr
set_option maxHeartbeats 16000000
set_option maxRecDepth 100000
open Go.RowKit Gr
set_option linter.unusedSectionVars false
def Up (A B:World):Prop:=Below A.heap.size A B
instance up_grows:Grows Up where
 refl:=fun W=>Below.refl _ W
 trans:=fun {A B C} (h:Below A.heap.size A B) (k:Below B.heap.size B C)=>(show Below A.heap.size A C from h.trans (k.mono h.size))
 below:=fun h=>h
 size:=fun {A B} (h:Below A.heap.size A B)=>h.size
abbrev Plan:=List (List Nat × List Bool × List Nat)
def ins (x:Nat):List Nat→List Nat
 | []=>[x]
 | y::r=>if x<y then x::y::r else y::ins x r
def iK (tab:Plan)(p:List Nat):Option (List Bool × List Nat):=(tab.find? fun r=>r.1==p).map (·.2)
def lX (l:List Oper)(es:List Nat)(tab:Plan):Nat→List Nat→List Nat→Bool
 | 0,_,_=>false
 | k+1,p,ys=>match iK tab p with
  | none=>false
  | some (m,kids) =>
   decide (m.length≤l.length) && ph l ys (idxs 0 m) && ((idxs 0 m).all fun i=>decide (i<l.length) && !es.contains i && !ys.contains i) && decide (idxs 0 m).Nodup &&
   (kids.all fun x=>decide (x<l.length) && !es.contains x && !(ys++idxs 0 m).contains x && gK l x (ys++idxs 0 m) && !((l[x]?).map gx).getD true && lX l es tab k (ins x p) (ys++idxs 0 m++[x])) &&
   (!kids.isEmpty || (List.range l.length).all fun i=>(ys++idxs 0 m).contains i || es.contains i) &&
   ((List.range l.length).all fun i=>(ys++idxs 0 m).contains i || es.contains i || kids.contains i || (List.range l.length).any fun k'=>!(ys++idxs 0 m).contains k' && cJ l i k')
def q6 (l:List Oper)(es:List Nat):Bool :=
 upS es && ki l.toArray && Region.noSelect l.toArray && gV l && (es.all fun i=>decide (i<l.length)) &&
 ((List.range l.length).all fun i=>es.contains i || ((cw l i).isSome && ((List.range l.length).all fun i'=>i==i' || cw l i != cw l i'))) &&
 (es.all fun e=>gK l e (List.range l.length)) && (es.all fun e=>es.all fun e'=>decide (e≤e') || cJ l e e') &&
 ((List.range l.length).all fun i=>es.contains i || ((l[i]?).map gx).getD false || es.all fun e=>cJ l e i) && (es.all fun e=>(cw l e).isNone)
structure oE (l:List Oper)(es:List Nat):Prop where
 upE:es.Pairwise (·<·)
 back:ki l.toArray=true
 nosel:Region.noSelect l.toArray=true
 nodef:gV l=true
 e:∀ i∈es,i<l.length
 own:∀ i,i<l.length→i∉es→∃ d,cw l i=some d∧∀ i',i'<l.length→cw l i'=some d→i'=i
 depsE:∀ i∈es,∀ o,l[i]? =some o→∀ t∈o.looksAt l.toArray,∀ i',i'<l.length→cw l i'=some t→cJ l i i'=true
 chain:∀ e∈es,∀ e'∈es,e'<e→cJ l e e'=true
 late:∀ i,i<l.length→i∉es→∀ o,l[i]? =some o→gx o=true∨∀ e∈es,cJ l e i=true
 edst:∀ e∈es,cw l e=none
theorem tD {l:List Oper}{es:List Nat}(h:q6 l es=true):oE l es:=by
 unfold q6 at h;simp only [Bool.and_eq_true] at h;obtain ⟨⟨⟨⟨⟨⟨⟨⟨⟨h1,h2⟩,h3⟩,h4⟩,h5⟩,h6⟩,h7⟩,h8⟩,h9⟩,h10⟩:=h;refine ⟨kG h1,h2,h3,h4,fun i hi=>of_decide_eq_true (List.all_eq_true.1 h5 i hi),fun i hi hne=>?_,fun i hi o ho t ht i' hi' hd=>(fG (List.all_eq_true.1 h7 i hi) o ho t ht i' hi' hd).1,fun e he e' he' hlt=>?_,fun i hi hne o ho=>?_,fun e he=>by simpa using List.all_eq_true.1 h10 e he⟩
 ·have h:=List.all_eq_true.1 h6 i (List.mem_range.2 hi)
  simp only [Bool.or_eq_true,List.contains_eq_mem,decide_eq_true_eq] at h;rcases h with h | h
  ·exact absurd h hne
  ·simp only [Bool.and_eq_true] at h
   obtain ⟨d,hd⟩:=Option.isSome_iff_exists.1 h.1;refine ⟨d,hd,fun i' hi' hd'=>?_⟩;have h':=List.all_eq_true.1 h.2 i' (List.mem_range.2 hi');simp only [Bool.or_eq_true,beq_iff_eq,bne_iff_ne] at h';rcases h' with h' | h'
   ·exact h'.symm
   ·exact absurd (hd.trans hd'.symm) h'
 ·have:=List.all_eq_true.1 (List.all_eq_true.1 h8 e he) e' he'
  simp only [Bool.or_eq_true,decide_eq_true_eq] at this;exact this.resolve_left (by omega)
 ·have:=List.all_eq_true.1 h9 i (List.mem_range.2 hi)
  rw [ho] at this;simp only [Option.map_some,Option.getD_some,Bool.or_eq_true,List.contains_eq_mem,decide_eq_true_eq] at this;rcases this with (h | h) | h
  ·exact absurd h hne
  ·exact .inl h
  ·exact .inr fun e he=>List.all_eq_true.1 h e he
structure d7 (l:List Oper)(es ys:List Nat):Prop where
 nodup:ys.Nodup
 x:∀ i∈ys,i<l.length∧i∉es
 deps:∀ pre i post,ys=pre++i::post→∀ o,l[i]? =some o→∀ t∈o.looksAt l.toArray,∀ i',i'<l.length→cw l i'=some t→cJ l i i'=true∧i'∈pre
theorem d7.nil {l:List Oper}{es:List Nat}:d7 l es []:=⟨List.nodup_nil,(fun i h=>by cases h),fun pre i post e=>by simp at e⟩
theorem d7.snoc {l:List Oper}{es ys:List Nat}(h:d7 l es ys){x:Nat}(h1:x<l.length)(h2:x∉es)(h3:x∉ys)(h4:gK l x ys=true):d7 l es (ys++[x]):=by
 refine ⟨?_,fun i hi=>?_,fun pre i post e=>?_⟩
 ·rw [List.nodup_append]
  exact ⟨h.nodup,by simp,fun a ha b hb e=>h3 (by rw [List.mem_singleton.1 hb] at e;rw [← e];exact ha)⟩
 ·rcases List.mem_append.1 hi with hi | hi
  ·exact h.x i hi
  ·rw [List.mem_singleton.1 hi];exact ⟨h1,h2⟩
 ·rcases List.append_eq_append_iff.1 e.symm with ⟨a',e1,e2⟩ | ⟨c',e1,e2⟩
  ·cases a' with
   | nil =>
    simp at e2;obtain ⟨rfl,rfl⟩:=e2;simp at e1;subst e1;exact fG h4
   | cons q a' =>
    simp at e2;obtain ⟨rfl,rfl⟩:=e2;exact h.deps pre i a' e1
  ·cases c' with
   | nil =>
    simp at e1 e2;obtain ⟨rfl,rfl⟩:=e2;subst e1;exact fG h4
   | cons q c'=>simp at e2
theorem d7.more {l:List Oper}{es:List Nat}:∀ {qs ys:List Nat},d7 l es ys→ph l ys qs=true→(∀ i∈qs,i<l.length∧i∉es∧i∉ys)→qs.Nodup→d7 l es (ys++qs)
 | [],ys,h,_,_,_=>by simpa using h
 | x::qs,ys,h,hd,hx,hn=>by
  simp only [ph,Bool.and_eq_true] at hd;rw [List.nodup_cons] at hn;have h1:=h.snoc (hx x (by simp)).1 (hx x (by simp)).2.1 (hx x (by simp)).2.2 hd.1
  have h2:=d7.more (qs:=qs) h1 hd.2 (fun i hi=>⟨(hx i (by simp [hi])).1,(hx i (by simp [hi])).2.1,fun hm=>by
   rcases List.mem_append.1 hm with hm | hm
   ·exact (hx i (by simp [hi])).2.2 hm
   ·rw [List.mem_singleton.1 hm] at hi;exact hn.1 hi⟩) hn.2
  simpa using h2
structure oX (l:List Oper)(es:List Nat)(tab:Plan)(k:Nat)(p ys kids:List Nat):Prop where
 kid:∀ x∈kids,x<l.length∧x∉es∧x∉ys∧gK l x ys=true∧(∀ o,l[x]? =some o→gx o=false)∧lX l es tab k (ins x p) (ys++[x])=true
 all:kids=[]→∀ i,i<l.length→i∈ys∨i∈es
 wait:∀ i,i<l.length→i∉ys→i∉es→i∉kids→∃ k',k'∉ys∧cJ l i k'=true
theorem tK {l:List Oper}{es:List Nat}{tab:Plan}{k:Nat}{p ys:List Nat}(h:lX l es tab (k+1) p ys=true)(ho:d7 l es ys):∃ m kids,iK tab p=some (m,kids)∧m.length≤l.length∧d7 l es (ys++idxs 0 m)∧oX l es tab k p (ys++idxs 0 m) kids:=by
 unfold lX at h
 cases hr:iK tab p with
 | none=>rw [hr] at h;simp at h
 | some q =>
  obtain ⟨m,kids⟩:=q;rw [hr] at h;simp only [Bool.and_eq_true,decide_eq_true_eq] at h;obtain ⟨⟨⟨⟨⟨⟨h1,h2⟩,h3⟩,h4⟩,h5⟩,h6⟩,h7⟩:=h;refine ⟨m,kids,rfl,h1,ho.more h2 (fun i hi=>?_) h4,⟨fun x hx=>?_,fun e i hi=>?_,fun i hi hy he hk=>?_⟩⟩
  ·have:=List.all_eq_true.1 h3 i hi
   simp only [Bool.and_eq_true,decide_eq_true_eq,Bool.not_eq_true',List.contains_eq_mem,decide_eq_false_iff_not] at this;exact ⟨this.1.1,this.1.2,this.2⟩
  ·have:=List.all_eq_true.1 h5 x hx
   simp only [Bool.and_eq_true,decide_eq_true_eq,Bool.not_eq_true',List.contains_eq_mem,decide_eq_false_iff_not] at this;obtain ⟨⟨⟨⟨⟨a1,a2⟩,a3⟩,a4⟩,a5⟩,a6⟩:=this;exact ⟨a1,a2,a3,a4,fun o ho=>by rw [ho] at a5;simpa using a5,a6⟩
  ·subst e
   simp only [List.isEmpty_nil,Bool.not_true,Bool.false_or] at h6;have:=List.all_eq_true.1 h6 i (List.mem_range.2 hi);simpa using this
  ·have:=List.all_eq_true.1 h7 i (List.mem_range.2 hi)
   simp only [Bool.or_eq_true,List.contains_eq_mem,decide_eq_true_eq] at this;rcases this with ((h | h) | h) | h
   ·exact absurd h hy
   ·exact absurd h he
   ·exact absurd h hk
   ·obtain ⟨k',_,hk'⟩:=List.any_eq_true.1 h
    simp only [Bool.and_eq_true,Bool.not_eq_true'] at hk';exact ⟨k',by simpa using hk'.1,hk'.2⟩
section
variable {G:World→World→Prop} [Grows G] {F:Fence} {n:Nat} {P:Program} {l:List Oper}
def fK (G:World→World→Prop)(F:Fence)(n:Nat)(P:Program)(l:List Oper)(tail:World→Act→Prop)(tab:Plan):Nat→List Nat→World→Act→Prop
 | 0,_,_,_=>False
 | k+1,p,V,a=>∃ m kids,iK tab p=some (m,kids)∧∃ A,Gr.Quietly G F n P l V (bu l m) a A∧(kids=[]→tail V A)∧∀ x∈kids,∃ o,l[x]? =some o∧∀ W,Below V.heap.size V W →
    wpListIn F n P l.toArray (Exit.then (fun a' W'=>a'.defers=A.defers∧G W W'∧fK G F n P l tail tab k (ins x p) W' a') (fun _ _ _=>False)) [o] A W
theorem wpTree_end {tail:World→Act→Prop}{tab:Plan}{k:Nat}{p:List Nat}{V:World}{a A:Act}{m:List Bool}(hr:iK tab p=some (m,[]))(hq:Gr.Quietly G F n P l V (bu l m) a A)(h:tail V A):fK G F n P l tail tab (k+1) p V a:=⟨m,[],hr,A,hq,fun _=>h,fun x hx=>by cases hx⟩
theorem wpTree_one {tail:World→Act→Prop}{tab:Plan}{k x:Nat}{p:List Nat}{V:World}{a A:Act}{m:List Bool}{o:Oper}(hr:iK tab p=some (m,[x]))(ho:l[x]? =some o)(hq:Gr.Quietly G F n P l V (bu l m) a A)
  (h:∀ W,Below V.heap.size V W→wpListIn F n P l.toArray (Exit.then (fun a' W'=>a'.defers=A.defers∧G W W'∧fK G F n P l tail tab k (ins x p) W' a') (fun _ _ _=>False)) [o] A W):fK G F n P l tail tab (k+1) p V a :=
 ⟨m,[x],hr,A,hq,(fun e=>by cases e),fun y hy=>by obtain rfl:=List.mem_singleton.1 hy;exact ⟨o,ho,h⟩⟩
theorem wpTree_two {tail:World→Act→Prop}{tab:Plan}{k x y:Nat}{p:List Nat}{V:World}{a A:Act}{m:List Bool}{o o':Oper}(hr:iK tab p=some (m,[x,y]))(ho:l[x]? =some o)(ho':l[y]? =some o')(hq:Gr.Quietly G F n P l V (bu l m) a A)
  (h:∀ W,Below V.heap.size V W→wpListIn F n P l.toArray (Exit.then (fun a' W'=>a'.defers=A.defers∧G W W'∧fK G F n P l tail tab k (ins x p) W' a') (fun _ _ _=>False)) [o] A W)
  (h':∀ W,Below V.heap.size V W→wpListIn F n P l.toArray (Exit.then (fun a' W'=>a'.defers=A.defers∧G W W'∧fK G F n P l tail tab k (ins y p) W' a') (fun _ _ _=>False)) [o'] A W):fK G F n P l tail tab (k+1) p V a :=
 ⟨m,[x,y],hr,A,hq,(fun e=>by cases e),fun z hz=>by
  rcases List.mem_cons.1 hz with rfl | hz
  ·exact ⟨o,ho,h⟩
  ·obtain rfl:=List.mem_singleton.1 hz;exact ⟨o',ho',h'⟩⟩
def tf (G:World→World→Prop)(F:Fence)(n:Nat)(P:Program)(l:List Oper)(tail:World→Act→Prop)(tab:Plan)(k:Nat)(p kids:List Nat)(V:World)(A:Act):Prop :=
 (kids=[]→tail V A)∧∀ x∈kids,∃ o,l[x]? =some o∧∀ W,Below V.heap.size V W →
   wpListIn F n P l.toArray (Exit.then (fun a' W'=>a'.defers=A.defers∧G W W'∧fK G F n P l tail tab k (ins x p) W' a') (fun _ _ _=>False)) [o] A W
def AvT (G:World→World→Prop)(F:Fence)(n:Nat)(P:Program)(l:List Oper)(a0:Act)(ys:List Nat)(V:World)(A:Act)(i:Nat):Prop :=
 ∀ o,l[i]? =some o→∃ pre post,ys=pre++i::post∧∀ C,Gr.Good G V C→∃ LF,cM l (·∈pre) A a0 LF∧YieldsQuiet F n P l.toArray C o (cX l A i) LF
section
variable {es:List Nat} {a0:Act} {tail:World→Act→Prop} {tab:Plan}
theorem eC (ok:oE l es)(hs:eY l a0.tmps.size=true){ys qs:List Nat}{V:World}{A1 A:Act}(hp:d7 l es (ys++qs))(hA1:cM l (·∈ys) A1 a0 A1)(hq:Gr.Quietly G F n P l V (pick l qs) A1 A) :
  cM l (·∈ys++qs) A a0 A∧(∀ i∈ys,∀ t,cw l i=some t→A1.tmps.getD t undef=A.tmps.getD t undef)∧∀ i∈qs,AvT G F n P l a0 (ys++qs) V A i:=by
 have hslot:∀ i,i<l.length→∀ d,cw l i=some d→d<a0.tmps.size:=fun i hi d hd=>by
  have:=List.all_eq_true.1 hs i (List.mem_range.2 hi);rw [hd] at this;simpa using this
 have hnd:=hp.nodup;rw [List.nodup_append] at hnd;obtain ⟨_,hnq,hdis⟩:=hnd
 have hcond:∀ i∈qs,i<l.length∧∃ d,cw l i=some d∧d<A1.tmps.size∧∀ i'∈qs,cw l i'=some d→i'=i:=fun i hi=>by
  obtain ⟨h1,h3⟩:=hp.x i (by simp [hi]);obtain ⟨d,h4,h5⟩:=ok.own i h1 h3;exact ⟨h1,d,h4,by rw [hA1.size];exact hslot i h1 d h4,fun i' hi' hd'=>h5 i' (hp.x i' (by simp [hi'])).1 hd'⟩
 have S:=fun (C:World→Prop) (hC:Gr.Good G V C)=>g7 (F:=F) (n:=n) (P:=P) (l:=l) (C:=C) (A:=A) qs A1 hcond hnq (hq.cls hC);obtain ⟨M,_⟩:=S _ (Gr.Good.above V)
 have same:∀ i∈ys,∀ t,cw l i=some t→A1.tmps.getD t undef=A.tmps.getD t undef:=fun i hi t ht=>by
  refine (M.out t fun i' hi' hd'=>?_).symm;obtain ⟨h1,h3⟩:=hp.x i (by simp [hi]);obtain ⟨d,h4,h5⟩:=ok.own i h1 h3;rw [ht] at h4;cases h4;have:=h5 i' (hp.x i' (by simp [hi'])).1 hd';subst this;exact hdis i' hi i' hi' rfl
 have B:=hA1.change same;refine ⟨(M.trans B).congr (fun i=>by simp [or_comm]),same,fun i hi o ho=>?_⟩;obtain ⟨pre,post,e⟩:=List.append_of_mem hi;refine ⟨ys++pre,post,by rw [e];simp,fun C hC=>?_⟩;obtain ⟨LF,h1,h2⟩:=(S C hC).2 pre i post e o ho;exact ⟨LF,(h1.trans B).congr (fun k=>by simp [or_comm]),h2⟩
theorem kK (ok:oE l es)(hs:eY l a0.tmps.size=true){k:Nat}{p ys:List Nat}{V:World}{A1:Act}(h:fK G F n P l tail tab k p V A1)(hB:lX l es tab k p ys=true)(hp:d7 l es ys)(hA1:cM l (·∈ys) A1 a0 A1) :
  ∃ k' qs kids A,d7 l es (ys++qs)∧oX l es tab k' p (ys++qs) kids∧cM l (·∈ys++qs) A a0 A∧(∀ i∈ys,∀ t,cw l i=some t→A1.tmps.getD t undef=A.tmps.getD t undef)∧(∀ i∈qs,AvT G F n P l a0 (ys++qs) V A i)∧tf G F n P l tail tab k' p kids V A:=by
 cases k with
 | zero=>exact h.elim
 | succ k =>
  obtain ⟨m,kids,hr,A,hq,h1,h2⟩:=h;obtain ⟨m',kids',hr',hm,hp',hk⟩:=tK hB hp;rw [hr] at hr';cases hr';rw [eD l m hm] at hq;obtain ⟨a1,a2,a3⟩:=eC ok hs hp' hA1 hq;exact ⟨k,idxs 0 m,kids,A,hp',hk,a1,a2,a3,h1,h2⟩
end
theorem wpIn_region_tree {Q:Exit→Act→World→Prop}{id:Nat}{a0:Act}{w V0:World}(tab:Plan)(fuel:Nat)(em:List Bool)
  (hm:P.follows .mixedOrders=true) (hB:(q6 l (idxs 0 em) && lX l (idxs 0 em) tab fuel [] [] && decide (em.length≤l.length))=true)
  (hs:eY l a0.tmps.size=true) (hV:Below V0.heap.size V0 w.drew)
  (h:fK G F n P l (fun V A=>∀ W,Below V.heap.size V W→wpT F n P l.toArray (Q .normal) (bu l em) A W) tab fuel [] V0 a0):(Code.region id l.toArray true).wpIn F n P Q a0 w:=by
 simp only [Bool.and_eq_true,decide_eq_true_eq] at hB;obtain ⟨⟨hB,hpb⟩,hem⟩:=hB;have ok:=tD hB
 obtain ⟨es,hes⟩:∃ es,idxs 0 em=es:=⟨_,rfl⟩
 rw [hes] at ok hpb;have hpe:bu l em=pick l es:=by rw [← hes];exact eD l em hem
 have hnd:jL l.toArray:=iC ok.nodef
 have hslot:∀ i,i<l.length→∀ d,cw l i=some d→d<a0.tmps.size:=fun i hi d hd=>by
  have:=List.all_eq_true.1 hs i (List.mem_range.2 hi);rw [hd] at this;simpa using this
 let tail:World→Act→Prop:=fun V A=>∀ W,Below V.heap.size V W→wpT F n P l.toArray (Q .normal) (bu l em) A W
 let StA:Array Bool→Act→World→Prop:=fun listed a W=>listed.size=l.length∧(∀ e∈es,listed.getD e false=false)∧∃ (k:Nat) (p ys kids:List Nat) (A:Act) (V:World),d7 l es ys∧oX l es tab k p ys kids∧(∀ i,i<l.length→i∉ys→listed.getD i false=false)∧cM l (·∈ys) A a0 A ∧
  cM l (fun i=>i∈ys∧listed.getD i false=true) A a0 a∧(∀ i∈ys,listed.getD i false=false→AvT G F n P l a0 ys V A i)∧Below V.heap.size V W∧tf G F n P l tail tab k p kids V A
 let Miss:Array Bool→Tmp→Prop:=fun listed t=>∃ i,i<l.length∧i∉es∧listed.getD i false=false∧cw l i=some t
 let StB:Array Bool→Act→World→Prop:=fun listed a W=>listed.size=l.length∧∃ (A Ac:Act) (m:Nat) (ys:List Nat),d7 l es ys∧(∀ i,i<l.length→i∈ys∨i∈es)∧m≤es.length∧(∀ e∈es.take m,listed.getD e false=true)∧(∀ e∈es.drop m,listed.getD e false=false)∧Rel (Miss listed) a Ac∧Ac.tmps.size=a0.tmps.size ∧
  (∀ i∈ys,∀ t,cw l i=some t→Ac.tmps.getD t undef=A.tmps.getD t undef)∧(∀ t,(∀ i,i<l.length→cw l i≠some t)→Ac.tmps.getD t undef=a0.tmps.getD t undef) ∧
  (∀ i∈ys,listed.getD i false=false→∀ o,l[i]? =some o→∃ pre post LF,ys=pre++i::post∧cM l (·∈pre) A a0 LF∧eE F P l.toArray o (cX l A i) LF)∧wpT F n P l.toArray (Q .normal) (pick l (es.drop m)) Ac W
 have setD:∀ (listed:Array Bool) (i i':Nat),listed.size=l.length→i<l.length→(listed.setIfInBounds i true).getD i' false=done (fun i=>listed.getD i false) i i':=fun listed i i' hsz hi=>by
  unfold done;by_cases e:i'=i
  ·subst e
   rw [if_pos rfl,Array.getD_eq_getD_getElem?,Array.getElem?_setIfInBounds];have:i'<listed.size:=by omega
   simp [this]
  ·rw [if_neg e,getD_set_ne false (Ne.symm e)]
 have mixS:∀ (listed:Array Bool) (i:Nat) (ys:List Nat),listed.size=l.length→i<l.length→i∈ys→∀ k,((k∈ys∧listed.getD k false=true)∨k=i)↔(k∈ys∧(listed.setIfInBounds i true).getD k false=true):=fun listed i ys hsz hi hix k=>by
  rw [setD listed i k hsz hi];unfold done;by_cases e:k=i
  ·subst e;simp [hix]
  ·simp [e]
 -- what an operation reads
 have agreeA:∀ {listed:Array Bool} {A LF a1:Act} {ys pre post:List Nat} {i:Nat} {o:Oper},d7 l es ys→l[i]? =some o→ys=pre++i::post→(∀ i',cJ l i i'=true→listed.getD i' false=true) →
   cM l (·∈pre) A a0 LF→cM l (fun i=>i∈ys∧listed.getD i false=true) A a0 a1→∀ t∈o.looksAt l.toArray,LF.tmps.getD t undef=a1.tmps.getD t undef:=by
  intro listed A LF a1 ys pre post i o hp hol hx hwait hLF hM t ht;by_cases hex:∃ i',i'<l.length∧cw l i'=some t
  ·obtain ⟨i',hi',hd⟩:=hex
   obtain ⟨h1,h2⟩:=hp.deps pre i post hx o hol t ht i' hi' hd;have hix:i'∈ys:=by rw [hx];simp [h2]
   rw [hLF.in_ i' h2 t hd,hM.in_ i' ⟨hix,hwait i' h1⟩ t hd]
  ·have hno:∀ i',i'<l.length→cw l i'≠some t:=fun i' hi' hd=>hex ⟨i',hi',hd⟩
   rw [hLF.out t (fun i' hi'=>hno i' (hp.x i' (by rw [hx];simp [hi'])).1),hM.out t (fun i' hi'=>hno i' (hp.x i' hi'.1).1)]
 have toB:∀ listed a W,StA listed a W→(∀ i,i<l.length→i∉es→listed.getD i false=false→∀ o,l[i]? =some o→gx o=true)→StB listed a W:=by
  rintro listed a W ⟨hsz,hesl,k,p,ys,kids,A,V,hp,hk,hlater,hA,hM,hav,hc,hnext⟩ hfl
  have hnil:kids=[]:=by
   cases hkk:kids with
   | nil=>rfl
   | cons x r =>
    obtain ⟨h1,h2,h3,_,h4,_⟩:=hk.kid x (by rw [hkk];simp);have ho:l[x]? =some l[x]:=List.getElem?_eq_getElem h1;have:=hfl x h1 h2 (hlater x h1 h3) _ ho;rw [h4 _ ho] at this;cases this
  have hall:=hk.all hnil;have hw:=hnext.1 hnil W hc;rw [hpe] at hw;refine ⟨hsz,A,A,0,ys,hp,hall,Nat.zero_le _,(fun e he=>by simp at he),(fun e he=>hesl e (by simpa using he)),⟨?_,?_,fun t ht'=>?_⟩,hA.size,fun i hi t hd=>rfl,fun t hno=>hA.out t fun i hi=>hno i (hp.x i hi).1,fun i hi hf o ho=>?_,by simpa using hw⟩
  ·rw [hM.defers,hA.defers]
  ·rw [hM.size,hA.size]
  ·by_cases hex:∃ i∈ys,cw l i=some t
   ·obtain ⟨i,hi,hd⟩:=hex
    have hl:listed.getD i false=true:=by
     cases hc':listed.getD i false with
     | true=>rfl
     | false=>exact absurd ⟨i,(hp.x i hi).1,(hp.x i hi).2,hc',hd⟩ ht'
    exact hM.in_ i ⟨hi,hl⟩ t hd
   ·rw [hM.out t (fun i hi hd=>hex ⟨i,hi.1,hd⟩),hA.out t (fun i hi hd=>hex ⟨i,hi,hd⟩)]
  ·obtain ⟨pre,post,e1,e3⟩:=hav i hi hf o ho
   obtain ⟨LF,h3,h4⟩:=e3 _ (Gr.Good.above V);exact ⟨pre,post,LF,e1,h3,gZ (hfl i (hp.x i hi).1 (hp.x i hi).2 hf o ho) ⟨V,Grows.refl _⟩ h4⟩
 let St:Array Bool→Act→World→Prop:=fun listed a W=>StA listed a W∨StB listed a W
 have stepB:∀ listed a W i o,l[i]? =some o→listed.getD i true=false→(∀ i',cJ l i i'=true→listed.getD i' false=true)→StB listed a W→wpListIn F n P l.toArray (Exit.then (St (listed.setIfInBounds i true)) Q) [o] a W:=by
  rintro listed a W i o hol hu hwait ⟨hsz,A,Ac,m,ys,hp,hall,hm',ht,hdp,hR,hAcs,hAcx,hAco,hfl,hwp⟩;have hi:i<l.length:=(g_E hol).1;have hfalse:listed.getD i false=false:=getD_both hu;have hsel:∀ cs b,o.op≠.select cs b:=fun cs b=>Region.noSelect_spec ok.nosel i o cs b (by simpa using hol);by_cases hie:i∈es
  ·have hmem:i∈es.drop m:=by
    rcases (List.mem_append.1 (by rw [List.take_append_drop];exact hie:i∈es.take m++es.drop m)) with h | h
    ·rw [ht i h] at hfalse;cases hfalse
    ·exact h
   have hml:m<es.length:=by
    rcases Nat.lt_or_ge m es.length with h | h
    ·exact h
    ·rw [List.drop_of_length_le h] at hmem;cases hmem
   have hdrop:es.drop m=es[m]::es.drop (m+1):=List.drop_eq_getElem_cons hml
   have hie':i=es[m]:=by
    rw [hdrop] at hmem;rcases List.mem_cons.1 hmem with h | h
    ·exact h
    ·exfalso
     have hlt:es[m]<i:=by
      have hp:=ok.upE.sublist (List.drop_sublist m es);rw [hdrop,List.pairwise_cons] at hp;exact hp.1 i h
     have h1:=hwait _ (ok.chain i hie es[m] (List.getElem_mem _) hlt);rw [hdp es[m] (by rw [hdrop];exact List.mem_cons_self)] at h1;cases h1
   rw [hdrop,← hie',fQ hol] at hwp
   have hdn:o.dst=none:=by
    have:=ok.edst i hie;unfold cw at this;rw [hol] at this;exact this
   refine gd hsel (hnd i o (by simpa using hol)) hdn hR (fun t ht'=>?_) hwp ?_
   ·rintro ⟨i2,h5,_,h6,h7⟩
    rw [hwait _ (ok.depsE i hie o hol t ht' i2 h5 h7)] at h6;cases h6
   ·rintro A' a' W' eA ea ed hwp'
    refine .inr ⟨by simpa using hsz,A,A',m+1,ys,hp,hall,hml,fun e he=>?_,fun e he=>?_,?_,by rw [eA];exact hAcs,by rw [eA];exact hAcx,by rw [eA];exact hAco,fun i' hi' hf=>?_,hwp'⟩
    ·rw [setD _ _ _ hsz hi];unfold done;split
     ·rfl
     ·rename_i hne
      rw [List.take_succ_eq_append_getElem hml] at he;rcases List.mem_append.1 he with h | h
      ·exact ht e h
      ·exact absurd ((List.mem_singleton.1 h).trans hie'.symm) hne
    ·rw [setD _ _ _ hsz hi];unfold done
     have hne:e≠i:=fun e'=>by
      have hp:=ok.upE.sublist (List.drop_sublist m es);rw [hdrop,List.pairwise_cons] at hp;have:=hp.1 e he;omega
     rw [if_neg hne];exact hdp e (by rw [hdrop];exact List.mem_cons_of_mem _ he)
    ·refine ⟨ed,by rw [ea,eA];exact hR.size,fun t ht'=>?_⟩
     rw [ea,eA];refine hR.same t fun ⟨i2,h5,h5',h6,h7⟩=>ht' ⟨i2,h5,h5',?_,h7⟩;rw [setD _ _ _ hsz hi];unfold done;rw [if_neg (fun e'=>by subst e';exact h5' hie)];exact h6
    ·rw [setD _ _ _ hsz hi] at hf
     unfold done at hf
     split at hf
     ·cases hf
     ·exact hfl i' hi' hf
  ·have hix:i∈ys:=(hall i hi).resolve_right hie
   obtain ⟨pre,post,LF,hx,hLF,hy⟩:=hfl i hix hfalse o hol
   have hag:∀ t∈o.looksAt l.toArray,LF.tmps.getD t undef=a.tmps.getD t undef:=fun t ht'=>by
    by_cases hex:∃ i',i'<l.length∧cw l i'=some t
    ·obtain ⟨i',hi',hd⟩:=hex
     obtain ⟨h1,h2⟩:=hp.deps pre i post hx o hol t ht' i' hi' hd;have hix':i'∈ys:=by rw [hx];simp [h2]
     rw [hLF.in_ i' h2 t hd,hR.same t (fun ⟨i2,h5,h5',h6,h7⟩=>by
      obtain ⟨d,h8,h9⟩:=ok.own i' hi' (hp.x i' hix').2;rw [hd] at h8;cases h8;have:=h9 i2 h5 h7;subst this;rw [hwait _ h1] at h6
      cases h6),hAcx i' hix' t hd]
    ·have hno:∀ i',i'<l.length→cw l i'≠some t:=fun i' hi' hd=>hex ⟨i',hi',hd⟩
     rw [hLF.out t (fun i' hi'=>hno i' (hp.x i' (by rw [hx];simp [hi'])).1),hR.same t (fun ⟨i2,h5,_,_,h7⟩=>hno i2 h5 h7),hAco t hno]
   have hya:=hy.agree hsel (hLF.size.trans (hAcs.symm.trans hR.size.symm)) hag;obtain ⟨d,hdi,huniq⟩:=ok.own i hi hie;have hdo:o.dst=some d:=by unfold cw at hdi;rw [hol] at hdi;exact hdi
   have hnext:St (listed.setIfInBounds i true) (a.put o.dst (cX l A i)) W:=by
    refine .inr ⟨by simpa using hsz,A,Ac,m,ys,hp,hall,hm',fun e he=>?_,fun e he=>?_,?_,hAcs,hAcx,hAco,fun i' hi' hf=>?_,hwp⟩
    ·rw [setD _ _ _ hsz hi];unfold done;split
     ·rfl
     ·exact ht e he
    ·rw [setD _ _ _ hsz hi];unfold done;rw [if_neg (fun e'=>by subst e';exact hie (List.mem_of_mem_drop he))];exact hdp e he
    ·rw [hdo]
     refine ⟨hR.defers,by rw [← hR.size];simp [Act.put],fun t ht'=>?_⟩;by_cases e:t=d
     ·subst e
      rw [show (a.put (some t) (cX l A i)).tmps=a.tmps.setIfInBounds t (cX l A i) from rfl,cT _ _ _ (by rw [hR.size,hAcs];exact hslot i hi t hdi),hAcx i hix t hdi];unfold cX;rw [hdi];rfl
     ·rw [show (a.put (some d) (cX l A i)).tmps=a.tmps.setIfInBounds d (cX l A i) from rfl,cH _ _ (Ne.symm e)]
      refine hR.same t fun ⟨i2,h5,h5',h6,h7⟩=>ht' ⟨i2,h5,h5',?_,h7⟩;rw [setD _ _ _ hsz hi];unfold done;rw [if_neg (fun e'=>by subst e';rw [hdi] at h7;exact e (Option.some.inj h7).symm)];exact h6
    ·rw [setD _ _ _ hsz hi] at hf
     unfold done at hf
     split at hf
     ·cases hf
     ·exact hfl i' hi' hf
   simp only [wpListIn]
   rcases hya.2 with ⟨hw,hv⟩ | ⟨hw,hv⟩
   ·rw [if_pos hw]
    unfold Oper.wpIn;refine ⟨hya.1 W,?_⟩;rw [Oper.semAt_eq _ _ _ (hnd i o (by simpa using hol)),hv W];exact hnext
   ·rw [if_neg (by rw [hw];simp)]
    refine ⟨hya.1 W,?_⟩;rw [hv] at hnext;exact hnext
 refine gE hm St ?_ ?_ ?_ ?_
 ·rintro listed a W (⟨h,_⟩ | ⟨h,_⟩)<;>simpa using h
 ·obtain ⟨k',qs,kids,A,hp,hk,hA,_,hav,hnext⟩:=kK (G:=G) (F:=F) (n:=n) (P:=P) (tail:=tail) (a0:=a0) ok hs h hpb d7.nil (cM.nil (by simp))
  have hrep:∀ i,(Array.replicate l.toArray.size false).getD i false=false:=fun i=>getD_replicate_false _ _;exact .inl ⟨by simp,fun e _=>hrep e,k',[],qs,kids,A,V0,by simpa using hp,by simpa using hk,fun i _ _=>hrep i,by simpa using hA,cM.nil (fun i hi=>by rw [hrep i] at hi;cases hi.2),fun i hi _=>by simpa using hav i hi,hV,hnext⟩
 ·rintro listed a W i o ho hu hd hst
  have hol:l[i]? =some o:=by simpa using ho
  have hi:i<l.length:=(g_E hol).1
  have hwait:∀ i',cJ l i i'=true→listed.getD i' false=true:=fun i' h=>by
   unfold cJ at h;rw [hol] at h;obtain ⟨e,he,h2⟩:=List.any_eq_true.1 h;simp only [Bool.and_eq_true,beq_iff_eq] at h2;rw [← h2.1];exact hd e (by simpa using he) h2.2
  rcases hst with hA0 | hBB
  ·obtain ⟨hsz,hesl,k,p,ys,kids,A,V,hp,hk,hlater,hA,hM,hav,hc,hnext⟩:=hA0
   have hfalse:listed.getD i false=false:=getD_both hu;have hsel:∀ cs b,o.op≠.select cs b:=fun cs b=>Region.noSelect_spec ok.nosel i o cs b ho;by_cases hie:i∈es
   ·refine stepB listed _ W i o hol hu hwait (toB listed _ W ⟨hsz,hesl,k,p,ys,kids,A,V,hp,hk,hlater,hA,hM,hav,hc,hnext⟩ fun i' hi' hne' hf o' ho'=>?_)
    rcases ok.late i' hi' hne' o' ho' with h | h
    ·exact h
    ·rw [hwait i' (h i hie)] at hf
     cases hf
   ·obtain ⟨d,hdi,hun⟩:=ok.own i hi hie
    have hdo:o.dst=some d:=by unfold cw at hdi;rw [hol] at hdi;exact hdi
    have e1:∀ e∈es,(listed.setIfInBounds i true).getD e false=false:=fun e he=>by
     rw [setD _ _ _ hsz hi];unfold done;rw [if_neg (fun e'=>by subst e';exact hie he)];exact hesl e he
    by_cases hy:i∈ys
    ·-- quiet
     obtain ⟨pre,post,hp1,hp3⟩:=hav i hy hfalse o hol;obtain ⟨LF,hLF,hyq⟩:=hp3 (fun W=>Below V.heap.size V W) ⟨⟨W,hc⟩,fun _ h=>Grows.below h,fun W W' h k=>h.trans (k.mono h.size)⟩;have hag:=agreeA hp hol hp1 hwait hLF hM;have hya:=fX hsel (hLF.size.trans hM.size.symm) hag hyq;have hval:cX l A i=A.tmps.getD d undef:=by unfold cX;rw [hdi];rfl
     have hnx:∀ W',Below V.heap.size V W'→St (listed.setIfInBounds i true) (a.put o.dst (cX l A i)) W':=fun W' hW'=>by
      refine .inl ⟨by simpa using hsz,e1,k,p,ys,kids,A,V,hp,hk,fun q hq hqy=>?_,hA,by rw [hdo,hval];exact (hM.step hdi (fun i' hi' hd'=>hun i' (hp.x i' hi'.1).1 hd') (hslot i hi d hdi)).congr (mixS listed i ys hsz hi hy),fun q hq hf=>?_,hW',hnext⟩
      ·rw [setD _ _ _ hsz hi];unfold done
       rw [if_neg (fun e'=>by subst e';exact hqy hy)];exact hlater q hq hqy
      ·rw [setD _ _ _ hsz hi] at hf
       unfold done at hf
       split at hf
       ·cases hf
       ·exact hav q hq hf
     simp only [wpListIn]
     rcases hya.2 with ⟨hw,hv⟩ | ⟨hw,hv⟩
     ·rw [if_pos hw]
      exact wpIn_of_quiet' (K:=fun a'=>a'=a.put o.dst (cX l A i)) (hnd i o ho) hc (fun a' W' hW' ha'=>by subst ha';exact hnx W' hW') hya.1 ⟨_,hv,rfl⟩
     ·rw [if_neg (by rw [hw];simp)]
      refine ⟨hya.1 W hc,?_⟩;have:=hnx W hc;rw [hv] at this;exact this
    ·-- the next one
     have hik:i∈kids:=by
      refine Classical.byContradiction fun hno=>?_;obtain ⟨k',h1,h2⟩:=hk.wait i hi hy hie hno;have h3:=hwait k' h2;rcases Nat.lt_or_ge k' l.length with h4 | h4
      ·rw [hlater k' h4 h1] at h3;cases h3
      ·rw [Array.getD_eq_getD_getElem?,Array.getElem?_eq_none (by omega)] at h3;cases h3
     obtain ⟨_,_,_,hrd,hlt,hpb'⟩:=hk.kid i hik;obtain ⟨ox,hox,hwx⟩:=hnext.2 i hik;obtain rfl:ox=o:=Option.some.inj (hox.symm.trans hol);have hp':d7 l es (ys++[i]):=hp.snoc hi hie hy hrd
     have hM':cM l (fun q=>q∈ys++[i]∧listed.getD q false=true) A a0 a:=hM.congr (fun q=>by
      constructor
      ·rintro ⟨h1,h2⟩;exact ⟨by simp [h1],h2⟩
      ·rintro ⟨h1,h2⟩
       rcases List.mem_append.1 h1 with h1 | h1
       ·exact ⟨h1,h2⟩
       ·rw [List.mem_singleton.1 h1,hfalse] at h2;cases h2)
     have hag:=agreeA hp' hol (show ys++[i]=ys++i::[] from rfl) hwait hA hM';refine fJ hsel (hnd i ox ho) (by rw [hM.size,hA.size]) hag (hwx W hc) ?_;rintro A' a' W' v eA ea ed ⟨hdf,hbW,hfl⟩
     have eA':A'=A.put (some d) v:=by
      obtain ⟨t1,d1⟩:=A';rw [hdo] at eA;simp only at eA hdf;subst eA hdf;rfl
     have ea':a'=a.put (some d) v:=by
      obtain ⟨t1,d1⟩:=a';rw [hdo] at ea;have h5:=ed hdf;simp only at ea h5;subst ea h5;rfl
     rw [eA'] at hfl
     have hA1:cM l (·∈ys++[i]) (A.put (some d) v) a0 (A.put (some d) v):=by
      have hpt:(A.put (some d) v).tmps=A.tmps.setIfInBounds d v:=rfl;refine ⟨hA.defers,by rw [hpt];simpa using hA.size,fun _ _ _ _=>rfl,fun t ht=>?_⟩;rw [hpt,cH _ _ (fun e=>ht i (by simp) (by rw [hdi,e]))];exact hA.out t fun k hk=>ht k (by simp [hk])
     obtain ⟨k2,qs,kids2,A2,hp2,hk2,hA2,hsame,hav2,hnext2⟩:=kK (G:=G) (F:=F) (n:=n) (P:=P) (tail:=tail) (a0:=a0) ok hs hfl hpb' hp' hA1;have hbV:G V W':=Grows.trans (Grows.below hc) hbW;have hdv:(A.put (some d) v).tmps.getD d undef=v:=cT _ _ _ (by rw [hA.size];exact hslot i hi d hdi)
     have hold:∀ k∈ys,∀ t,cw l k=some t→A.tmps.getD t undef=A2.tmps.getD t undef:=fun k hk t hd=>by
      rw [← hsame k (by simp [hk]) t hd];refine (cH _ _ (fun e=>?_)).symm;subst e;have:=hun k (hp.x k hk).1 hd;subst this;exact hy hk
     have hM2:cM l (fun q=>q∈ys++[i]++qs∧(listed.setIfInBounds i true).getD q false=true) A2 a0 (a.put (some d) v):=by
      have h6:=(hM.change (A':=A2) (fun k hk t hd=>hold k hk.1 t hd)).step hdi (fun i' hi' hd'=>hun i' (hp.x i' hi'.1).1 hd') (hslot i hi d hdi);have h7:A2.tmps.getD d undef=v:=by rw [← hsame i (by simp) d hdi];exact hdv
      rw [h7] at h6;refine h6.congr (fun q=>?_);rw [setD listed i q hsz hi];unfold done;by_cases e:q=i
      ·subst e;simp
      ·simp only [e,if_false,or_false]
       constructor
       ·rintro ⟨h8,h9⟩;exact ⟨by simp [h8],h9⟩
       ·rintro ⟨h8,h9⟩
        refine ⟨?_,h9⟩;refine Classical.byContradiction fun hno=>?_;have hql:=(hp2.x q h8).1;rw [hlater q hql hno] at h9;cases h9
     refine .inl ⟨by simpa using hsz,e1,k2,ins i p,ys++[i]++qs,kids2,A2,W',hp2,hk2,fun q hq hqy=>?_,hA2,by rw [ea'];exact hM2,fun q hq hf=>?_,b_R,hnext2⟩
     ·rw [setD _ _ _ hsz hi];unfold done
      rw [if_neg (fun e'=>by subst e';exact hqy (by simp))];exact hlater q hq (fun h=>hqy (by simp [h]))
     ·rw [setD _ _ _ hsz hi] at hf
      unfold done at hf
      split at hf
      ·cases hf
      ·rename_i hki
       rcases List.mem_append.1 hq with hq | hq
       ·have hq':q∈ys:=by
         rcases List.mem_append.1 hq with h | h
         ·exact h
         ·exact absurd (List.mem_singleton.1 h) hki
        intro o' ho';obtain ⟨pre,post,q1,q3⟩:=hav q hq' hf o' ho';refine ⟨pre,post++[i]++qs,by rw [q1];simp,fun C hC=>?_⟩;obtain ⟨LF,q4,q5⟩:=q3 C (hC.up hbV)
        have hkv:cX l A q=cX l A2 q:=by
         obtain ⟨dk,g1,_⟩:=ok.own q (hp.x q hq').1 (hp.x q hq').2;unfold cX;rw [g1];exact hold q hq' dk g1
        exact ⟨LF,q4.change (fun k2 hk2 t hd=>hold k2 (by rw [q1];simp [hk2]) t hd),by rw [← hkv];exact q5⟩
       ·exact hav2 q hq
  ·exact stepB listed a W i o hol hu hwait hBB
 ·rintro listed a W hr hst
  have hal:∀ i,i<l.length→listed.getD i false=true:=by
   rcases hst with ⟨h,_⟩ | ⟨h,_⟩<;>exact fun i hi=>fI ok.back (by simpa using h) hr i (by simpa using hi)
  have hBB:StB listed a W:=by
   rcases hst with h | h
   ·exact toB listed a W h (fun i hi _ hf=>by rw [hal i hi] at hf;cases hf)
   ·exact h
  obtain ⟨hsz,A,Ac,m,ys,hp,hall,hm',ht,hdp,hR,hAcs,hAcx,hAco,hfl,hwp⟩:=hBB
  have hnil:es.drop m=[]:=by
   cases h:es.drop m with
   | nil=>rfl
   | cons e r =>
    have h1:=hdp e (by rw [h];simp);rw [hal e (ok.e e (List.mem_of_mem_drop (by rw [h];simp)))] at h1;cases h1
  rw [hnil] at hwp
  have hEq:a=Ac:=by
   obtain ⟨t,d⟩:=a;obtain ⟨t',d'⟩:=Ac;have e1:d=d':=hR.defers;have s1:t.size=t'.size:=hR.size
   have e2:t=t':=by
    apply Array.ext s1
    intro i h1 h2;have:=hR.same i (fun ⟨i2,h5,_,h6,_⟩=>by rw [hal i2 h5] at h6;cases h6);simpa [h1,h2] using this
   rw [e1,e2]
  subst hEq;exact hwp
end
end Go.Proofs.YthofngceiecniaaGreat.Tr
namespace Go.Proofs.YthofngceiecniaaGreat
open Go.RowKit
def gP (row:Option Nat)(A C:World):Prop:=A.grownBy C row
instance uprow_grows (row:Option Nat):Gr.Grows (gP row) where
 refl:=fun W=>cR W row
 trans:=fun h k=>nF h k
 below:=fun h=>cO h row
 size:=fun h=>h.size
end Go.Proofs.YthofngceiecniaaGreat
namespace Go.Proofs.YthofngceiecniaaGreat
open Go.RowKit
theorem ov:(Tryz.prog.info? 115).map (fun i=>(i.zero,i.size,i.bytes))=some (some (.agg #[.int .i64 0,.int .i64 0,.int .i64 0,.int .i64 0]),4,32):=by kernel_rfl
theorem oM:eX Tryz.prog 119 115 (.agg #[.int .i64 0,.int .i64 0,.int .i64 0,.int .i64 0]) 4 32:=by
 obtain ⟨i0,hi,hz0,hz1,hz2⟩:=info_parts ov;exact ⟨i0,Tryz.underlying119,hi,hz0,hz1,hz2,rfl,by decide⟩
theorem nE (s:Held):∀ u∈dH s,u.oneCell'=true:=by
 intro u hu;simp only [dH,List.mem_cons,List.not_mem_nil,or_false] at hu;rcases hu with rfl | rfl | rfl | rfl<;>rfl
theorem fg (w:World)(t:TypeId){k n:Nat}(xs:List Value)(hn:xs.length=n * k):cB (w.alloc (.cells xs.toArray t)) (w.alloc (.cells xs.toArray t)).heap.size k (some ⟨w.heap.size,0,none⟩) n xs:=by
 have h:=Blk.new w t xs.toArray;refine ⟨hn,fun _=>⟨_,rfl,h.lt,fun j u hu=>?_⟩⟩
 have ha:((⟨w.heap.size,0,none⟩:Addr).add j)=⟨w.heap.size,j,none⟩:=by
  unfold Addr.add;by_cases hj:j=0
  ·subst hj;simp
  ·simp [hj]
 rw [ha,h.cell];simpa using hu
structure eu (w:World)(B:Nat)(T:Tb):Prop where
 blk:Blk w T.g 121 T.cells
 mix:dx w B T.Av T.nv T.Aa T.na T.At T.nt T.m
 own:Own w B 115 4 T.AA T.nl T.cl (T.L.flatMap dH)
 ne:∀ a,T.AA=some a→T.g≠a.block
 le:B≤w.heap.size∧B≤T.g
 small:T.nv≤4∧T.na≤12∧T.nt≤8∧T.nl≤13
theorem eu.at_ {w:World}{B:Nat}{T:Tb}(h:eu w B T):TbAt w T:=⟨h.blk,h.mix.more h.le.1,h.own.reads n_R,h.small⟩
theorem eu.below {w w':World}{B:Nat}{T:Tb}(h:eu w B T)(hb:Below w.heap.size w w'):eu w' B T :=
 ⟨h.blk.below hb h.blk.lt,h.mix.below (hb.mono h.le.1),h.own.below hb n_R,h.ne,⟨Nat.le_trans h.le.1 hb.size,h.le.2⟩,h.small⟩
theorem rM {g:Nat}{A:Option Addr}(h:∀ a,A=some a→g≠a.block):some g≠A.map (·.block):=by
 cases A with
 | none=>simp
 | some a =>
  have:=h a rfl;simpa using this
def Tb.plus (T:Tb)(A:Option Addr)(c:Nat)(s:Held):Tb:={ T with AA:=A,nl:=T.nl+1,cl:=c,L:=T.L++[s] }
theorem ll {w W V W3:World}{B:Nat}{T:Tb}{v:Value}(h:eu w B T)(hb:Below w.heap.size w W)(hg:W.grownBy V (T.AA.map (·.block)))(hb3:Below V.heap.size V W3):Below B w (W3.setCell ⟨T.g,4,none⟩ v):=by
 have hrow:∀ k,T.AA.map (·.block)=some k→B≤k:=by
  intro k hk
  cases hA:T.AA with
  | none=>rw [hA] at hk;cases hk
  | some a=>rw [hA] at hk;cases hk;exact (h.own.lt hA).1
 have h1:Below B w W:=hb.mono h.le.1;have h2:Below B w V:=h1.grown hg (Nat.le_trans h.le.1 hb.size) hrow;exact (h2.trans (hb3.mono (Nat.le_trans h.le.1 (Nat.le_trans hb.size hg.size)))).setCell (p:=⟨T.g,4,none⟩) h.le.2 _
theorem sK {w W V W3:World}{B c9:Nat}{T:Tb}{A9:Option Addr}{s2:Held}(h:eu w B T)(hb:Below w.heap.size w W)(hg:W.grownBy V (T.AA.map (·.block)))(hb3:Below V.heap.size V W3)
  (hown:Own V B 115 4 A9 (T.nl+1) c9 (T.L.flatMap dH++dH s2)) (hA:A9=T.AA∨A9=some ⟨W.heap.size,0,none⟩) (hbk:Blk W3 T.g 121 T.cells) (hn:T.nl≤12):eu (W3.setCell ⟨T.g,4,none⟩ (.slice A9 (T.nl+1) c9)) B (T.plus A9 c9 s2):=by
 have hbel:=ll (v:=.slice A9 (T.nl+1) c9) h hb hg hb3
 have hne:∀ a,A9=some a→T.g≠a.block:=by
  intro a ha;rcases hA with e | e
  ·exact h.ne a (by rw [← e];exact ha)
  ·rw [e] at ha
   cases ha;have:=(h.blk.below hb h.blk.lt).lt;have:=h.blk.lt;have:=hb.size;dsimp only;omega
 refine ⟨?_,h.mix.below hbel,?_,hne,⟨?_,h.le.2⟩,⟨h.small.1,h.small.2.1,h.small.2.2.1,by show T.nl+1≤13;omega⟩⟩
 ·exact hbk.set_ 4 _
 ·have:=(hown.below hb3 n_R)
  have e:(T.L++[s2]).flatMap dH=T.L.flatMap dH++dH s2:=by simp
  show Own _ B _ 4 A9 (T.nl+1) c9 ((T.L++[s2]).flatMap dH)
  rw [e];exact this.grown (row:=some T.g) (cC (cR _ _) (p:=⟨T.g,4,none⟩) (.inl rfl) _) (fun a ha e=>hne a ha (Option.some.inj e).symm)
 ·have:W3.heap.size≤(W3.setCell ⟨T.g,4,none⟩ (.slice A9 (T.nl+1) c9)).heap.size:=by simp [World.setCell]
  exact Nat.le_trans h.le.1 (Nat.le_trans hb.size (Nat.le_trans hg.size (Nat.le_trans hb3.size this)))
def pu (w w':World)(g:Nat)(row:Option Nat):Prop:=w.heap.size≤w'.heap.size∧∀ i,i<w.heap.size→i≠g→some i≠row→w'.heap[i]? =w.heap[i]?
theorem qL {w W V W3:World}{B:Nat}{T:Tb}{v:Value}(h:eu w B T)(hb:Below w.heap.size w W)(hg:W.grownBy V (T.AA.map (·.block)))(hb3:Below V.heap.size V W3):pu w (W3.setCell ⟨T.g,4,none⟩ v) T.g (T.AA.map (·.block)):=by
 refine ⟨Nat.le_trans hb.size (Nat.le_trans hg.size (Nat.le_trans hb3.size (by simp [World.setCell]))),fun i hi hne hr=>?_⟩;have h1:=hb.block i hi;have h2:=hg.block i (Nat.lt_of_lt_of_le hi hb.size) hr;have h3:=hb3.block i (Nat.lt_of_lt_of_le hi (Nat.le_trans hb.size hg.size));exact (Below.heap_setCell W3 ⟨T.g,4,none⟩ v i hne).trans (h3.trans (h2.trans h1))
theorem pZ {w W:World}{T:Tb}{A9:Option Addr}(hb:Below w.heap.size w W)(hA:A9=T.AA∨A9=some ⟨W.heap.size,0,none⟩):∀ a,A9=some a→A9=T.AA∨w.heap.size≤a.block:=by
 intro a ha;rcases hA with e | e
 ·exact .inl e
 ·rw [e] at ha
  cases ha;exact .inr hb.size
def sk (w:World)(B:Nat)(T:Tb)(r:Bool)(s2:Held)(e:Ending)(w':World):Prop :=
 (r=false∧e = .returned (.bool false)∧Below w.heap.size w w')∨∃ A c,r=true∧e = .returned (.bool true)∧eu w' B (T.plus A c s2)∧Below B w w'∧pu w w' T.g (T.AA.map (·.block))∧(∀ a,A=some a→A=T.AA∨w.heap.size≤a.block)
structure ActI (w:World)(T:Tb)(k:Nat)(x:MAct)(s0:Held)(ba oa bl ol:Nat)(L:Nat→Bool)(gh:(Nat × Nat))(s:Nat→Value)(W:World):Prop where
 g1:Below w.heap.size w W
 gA:L 15=true→w.heap.size≤gh.1∧gh.1<W.heap.size∧(L 17=false→Blk W gh.1 62 #[.int .i64 0,.int .i64 0,.int .i64 0,.int .i64 0])∧(L 17=true→Blk W gh.1 62 #[.int .i64 x.kind,.int .i64 x.fr,.int .i64 x.to,.int .i64 x.drops])
 gB:L 16=true→w.heap.size≤gh.2∧gh.2<W.heap.size∧(L 18=false→Blk W gh.2 115 #[.int .i64 0,.int .i64 0,.int .i64 0,.int .i64 0])∧(L 18=true→Blk W gh.2 115 #[.int .i64 (au s0 0),.int .i64 (au s0 1),.int .i64 (au s0 2),.int .i64 (au s0 3)])
 gN:L 15=true→L 16=true→gh.1≠gh.2
 f0:L 0=true→s 9 = .pointer (some ⟨T.g,0,none⟩)
 f1:L 1=true→s 10 = .pointer (some ⟨T.g,0,none⟩)
 f2:L 2=true→s 11 = .pointer (some ⟨T.g,0,none⟩)
 f3:L 3=true→s 12 = .pointer (some ⟨T.g,2,none⟩)
 f4:L 4=true→s 13 = .slice (some ⟨ba,oa,none⟩) T.na T.ca
 f5:L 5=true→s 14 = .int .i64 k
 f6:L 6=true→s 15 = .pointer (some ⟨ba,oa+k * 4,none⟩)
 f7:L 7=true→s 16 = .agg #[.int .i64 x.kind,.int .i64 x.fr,.int .i64 x.to,.int .i64 x.drops]
 f8:L 8=true→s 17 = .pointer (some ⟨T.g,0,none⟩)
 f9:L 9=true→s 18 = .pointer (some ⟨T.g,0,none⟩)
 f10:L 10=true→s 19 = .pointer (some ⟨T.g,4,none⟩)
 f11:L 11=true→s 20 = .slice (some ⟨bl,ol,none⟩) T.nl T.cl
 f12:L 12=true→s 21 = .int .i64 k
 f13:L 13=true→s 22 = .pointer (some ⟨bl,ol+k * 4,none⟩)
 f14:L 14=true→s 23 = .agg #[.int .i64 (au s0 0),.int .i64 (au s0 1),.int .i64 (au s0 2),.int .i64 (au s0 3)]
 f15:L 15=true→s 5 = .pointer (some ⟨gh.1,0,none⟩)
 f16:L 16=true→s 6 = .pointer (some ⟨gh.2,0,none⟩)
theorem iU (B:Nat)(T:Tb)(k:Nat)(x:MAct)(s:Held)(f:FuncId)(f2 f3:Value)(r:Bool)(w:World)(h:eu w B T)(hx:T.m.acts[k]? =some x)(ha:T.L[k]? =some s)(hn:T.nl≤12)(hk:gj x)
  (hix:∀ z:World,(Instr.index 179 iJ (.int .i64 x.kind)).run Tryz.prog z = .ok (.agg #[.func (.func f) #[] #[],f2,f3]) z) (hen:∀ args W,(callFunc f args).run Tryz.prog W = .ok (.enter f args) W)
  (hfd:∀ z:World,(Instr.field 178 (.agg #[.func (.func f) #[] #[],f2,f3]) 0).run Tryz.prog z = .ok (.func (.func f) #[] #[]) z)
  (hK:∀ W,Below w.heap.size w W→CallsIn Fence.wide 9 Tryz.prog f #[.pointer (some ⟨T.g,0,none⟩),.agg #[.int .i64 (au s 0),.int .i64 (au s 1),.int .i64 (au s 2),.int .i64 (au s 3)],.agg #[.int .i64 x.kind,.int .i64 x.fr,.int .i64 x.to,.int .i64 x.drops]] W fun e w'=>e = .returned (.bool r)∧Below W.heap.size W w')
  (hs:s.length=4∧qM s 2000) (hf:r=true→0≤cZ T.m s x∧cZ T.m s x≤2000∧(x.kind=4→0≤cp T.m x)∧(cp T.m x≠toI T.m x∨cp T.m x<0)) :
  CallsIn Fence.wide 9 Tryz.prog 89 #[.pointer (some ⟨T.g,0,none⟩),.int .i64 k] w (sk w B T r (cE s (cp T.m x) (toI T.m x) (cZ T.m s x))):=by
 have HNL:=lh hn;clear hn;have HT:=lh h;have HA:=lh h.at_;have hka:k<T.na:=by have:=h.mix.lenA;have:=(g_E hx).1;omega
 obtain ⟨ba,oa,x',hAa,hba0,hx',c0,c1,c2,c3⟩:=h.mix.act hka;have hba:ba<w.heap.size:=Nat.lt_of_lt_of_le hba0 h.le.1;rw [hx] at hx';obtain rfl:x=x':=Option.some.inj hx';have hkl:k<T.nl:=by have:=dY dF (by omega) h.at_.all;have:=(g_E ha).1;omega
 obtain ⟨bl,ol,s',hAL,hbl,ha',cl⟩:=dp dF (by omega) h.at_.all hkl;rw [ha] at ha';obtain rfl:s=s':=Option.some.inj ha';have HX:=lh hx;have HAT:=lh ha;have HC0:=lh c0;have HC1:=lh c1;have HC2:=lh c2;have HC3:=lh c3;have HCL:=lh cl;have HAA:=lh hAa;have HAL:=lh hAL;have HBA:=lh hba;have HBL:=lh hbl;have HKA:=lh hka;have HKL:=lh hkl;have HKO:=lh hk;have HF:=lh hf;have HS:=lh hs;have HIX:=lh hix;have HFD:=lh hfd;have HKK:=lh hK;have HKI:Hid (inB 1 4 [x.kind]=true):=lh (by rw [dT];rcases hk with h | h | h | h<;>rw [h]<;>decide);clear hx hx' ha ha' c0 c1 c2 c3 cl hAa hAL hba hba0 hbl h hka hkl hk hf hs hix hfd hK;refine callsIn_of_wp Tryz.func89 rfl trivial ?_ rfl;simp only [Tryz.ntmps89,es,Nat.reduceAdd,Nat.reduceSub];gi_wp2;have Ly:=lh (Lay.nil w)
 gi_cut [5,6] from 9 (fun v5 v6 wx=>∃ g5 g6,v5 = .pointer (some ⟨g5,0,none⟩)∧v6 = .pointer (some ⟨g6,0,none⟩)∧Hid (g5≠g6∧Below w.heap.size w wx∧w.heap.size≤g5∧w.heap.size≤g6∧Blk wx g5 62 #[.int .i64 x.kind,.int .i64 x.fr,.int .i64 x.to,.int .i64 x.drops]∧Blk wx g6 115 #[.int .i64 (au s 0),.int .i64 (au s 1),.int .i64 (au s 2),.int .i64 (au s 3)]))
 case first =>
  obtain ⟨s0,rfl⟩:∃ s0,s0=s:=⟨_,rfl⟩
  clear HS HF HKK Ly
  refine dJ (by kernel_rfl) (by kernel_rfl) (fun σ:(Nat × Nat) × (Nat→Value)=>{ tmps:=#[.pointer (some ⟨T.g,0,none⟩),.int .i64 k,undef,undef,.bool false,σ.2 5,σ.2 6,undef,undef,σ.2 9,σ.2 10,σ.2 11,σ.2 12,σ.2 13,σ.2 14,σ.2 15,σ.2 16,σ.2 17,σ.2 18,σ.2 19,σ.2 20,σ.2 21,σ.2 22,σ.2 23,undef,undef,undef,undef,undef,undef,undef,undef,undef,undef,undef,undef,undef,undef,undef,undef,undef,undef,undef,undef,undef,undef,undef,undef,undef,undef,undef,undef,undef,undef,undef,undef,undef,undef,undef,undef,undef,undef,undef],defers:=[] })
   (fun L σ W=>ActI w T k x s0 ba oa bl ol L σ.1 σ.2 W) ((0,0),fun k=>undef) rfl ?_ ?_ ?_
  ·exact ⟨av b_R 1,(fun h=>by cases h),(fun h=>by cases h),(fun h=>by cases h),(fun h=>by cases h),(fun h=>by cases h),(fun h=>by cases h),(fun h=>by cases h),(fun h=>by cases h),(fun h=>by cases h),(fun h=>by cases h),(fun h=>by cases h),(fun h=>by cases h),(fun h=>by cases h),(fun h=>by cases h),(fun h=>by cases h),(fun h=>by cases h),(fun h=>by cases h),(fun h=>by cases h),(fun h=>by cases h),(fun h=>by cases h)⟩
  ·refine ⟨?_,?_,?_,?_,?_,?_,?_,?_,?_,?_,?_,?_,?_,?_,?_,?_,?_,?_,?_,trivial⟩
   ·rintro L ⟨gh,s⟩ W hu hd hdn H K Q hK
    have HF:=lh H;clear H hd
    try simp only
    gi_wp2;exact hK (gh,(upd s 9 (.pointer (some ⟨T.g,0,none⟩)))) _ { HF.out with f0:=fun _=>rfl }
   ·rintro L ⟨gh,s⟩ W hu hd hdn H K Q hK
    have e0:=H.f0 (hd.at_ 0 rfl);have tl:=(HA.out.below H.g1).blk.lt;have HF:=lh H;clear H hd
    try simp only at e0 ⊢
    gi_wp2;exact hK (gh,(upd (upd s 9 (.pointer (some ⟨T.g,0,none⟩))) 10 (.pointer (some ⟨T.g,0,none⟩)))) _ { HF.out with f0:=fun _=>rfl,f1:=fun _=>rfl }
   ·rintro L ⟨gh,s⟩ W hu hd hdn H K Q hK
    have e1:=H.f1 (hd.at_ 1 rfl);have HF:=lh H;clear H hd
    try simp only at e1 ⊢
    gi_wp2;exact hK (gh,(upd (upd s 10 (.pointer (some ⟨T.g,0,none⟩))) 11 (.pointer (some ⟨T.g,0,none⟩)))) _ { HF.out with f1:=fun _=>rfl,f2:=fun _=>rfl }
   ·rintro L ⟨gh,s⟩ W hu hd hdn H K Q hK
    have e2:=H.f2 (hd.at_ 2 rfl);have HF:=lh H;clear H hd
    try simp only at e2 ⊢
    gi_wp2;exact hK (gh,(upd (upd s 11 (.pointer (some ⟨T.g,0,none⟩))) 12 (.pointer (some ⟨T.g,2,none⟩)))) _ { HF.out with f2:=fun _=>rfl,f3:=fun _=>rfl }
   ·rintro L ⟨gh,s⟩ W hu hd hdn H K Q hK
    have e3:=H.f3 (hd.at_ 3 rfl);have t2:W.cell? ⟨T.g,2,none⟩=some (.slice (some ⟨ba,oa,none⟩) T.na T.ca):=by rw [← HAA.out];exact (HA.out.below H.g1).blk.cell 2
    have HF:=lh H;clear H hd
    try simp only at e3 ⊢
    gi_wp2;exact hK (gh,(upd (upd s 12 (.pointer (some ⟨T.g,2,none⟩))) 13 (.slice (some ⟨ba,oa,none⟩) T.na T.ca))) _ { HF.out with f3:=fun _=>rfl,f4:=fun _=>rfl }
   ·rintro L ⟨gh,s⟩ W hu hd hdn H K Q hK
    have HF:=lh H;clear H hd
    try simp only
    gi_wp2;exact hK (gh,(upd s 14 (.int .i64 k))) _ { HF.out with f5:=fun _=>rfl }
   ·rintro L ⟨gh,s⟩ W hu hd hdn H K Q hK
    have e4:=H.f4 (hd.at_ 4 rfl);have e5:=H.f5 (hd.at_ 5 rfl);have hka:=HKA.out;have HF:=lh H;clear H hd
    try simp only at e4 e5 ⊢
    gi_wp2;exact hK (gh,(upd (upd (upd s 13 (.slice (some ⟨ba,oa,none⟩) T.na T.ca)) 14 (.int .i64 k)) 15 (.pointer (some ⟨ba,oa+k * 4,none⟩)))) _ { HF.out with f4:=fun _=>rfl,f5:=fun _=>rfl,f6:=fun _=>rfl }
   ·rintro L ⟨gh,s⟩ W hu hd hdn H K Q hK
    have e6:=H.f6 (hd.at_ 6 rfl);have a0:W.cell? ⟨ba,oa+k * 4,none⟩=some (.int .i64 x.kind):=(H.g1.cell (p:=⟨ba,oa+k * 4,none⟩) HBA.out).trans HC0.out;have a1:W.cell? ⟨ba,oa+k * 4+1,none⟩=some (.int .i64 x.fr):=(H.g1.cell (p:=⟨ba,oa+k * 4+1,none⟩) HBA.out).trans HC1.out;have a2:W.cell? ⟨ba,oa+k * 4+2,none⟩=some (.int .i64 x.to):=(H.g1.cell (p:=⟨ba,oa+k * 4+2,none⟩) HBA.out).trans HC2.out;have a3:W.cell? ⟨ba,oa+k * 4+3,none⟩=some (.int .i64 x.drops):=(H.g1.cell (p:=⟨ba,oa+k * 4+3,none⟩) HBA.out).trans HC3.out;have HF:=lh H;clear H hd
    try simp only at e6 ⊢
    gi_wp2;exact hK (gh,(upd (upd s 15 (.pointer (some ⟨ba,oa+k * 4,none⟩))) 16 (.agg #[.int .i64 x.kind,.int .i64 x.fr,.int .i64 x.to,.int .i64 x.drops]))) _ { HF.out with f6:=fun _=>rfl,f7:=fun _=>rfl }
   ·rintro L ⟨gh,s⟩ W hu hd hdn H K Q hK
    have HF:=lh H;clear H hd
    try simp only
    gi_wp2;exact hK (gh,(upd s 17 (.pointer (some ⟨T.g,0,none⟩)))) _ { HF.out with f8:=fun _=>rfl }
   ·rintro L ⟨gh,s⟩ W hu hd hdn H K Q hK
    have e8:=H.f8 (hd.at_ 8 rfl);have tl:=(HA.out.below H.g1).blk.lt;have HF:=lh H;clear H hd
    try simp only at e8 ⊢
    gi_wp2;exact hK (gh,(upd (upd s 17 (.pointer (some ⟨T.g,0,none⟩))) 18 (.pointer (some ⟨T.g,0,none⟩)))) _ { HF.out with f8:=fun _=>rfl,f9:=fun _=>rfl }
   ·rintro L ⟨gh,s⟩ W hu hd hdn H K Q hK
    have e9:=H.f9 (hd.at_ 9 rfl);have HF:=lh H;clear H hd
    try simp only at e9 ⊢
    gi_wp2;exact hK (gh,(upd (upd s 18 (.pointer (some ⟨T.g,0,none⟩))) 19 (.pointer (some ⟨T.g,4,none⟩)))) _ { HF.out with f9:=fun _=>rfl,f10:=fun _=>rfl }
   ·rintro L ⟨gh,s⟩ W hu hd hdn H K Q hK
    have e10:=H.f10 (hd.at_ 10 rfl);have t4:W.cell? ⟨T.g,4,none⟩=some (.slice (some ⟨bl,ol,none⟩) T.nl T.cl):=by rw [← HAL.out];exact (HA.out.below H.g1).blk.cell 4
    have HF:=lh H;clear H hd
    try simp only at e10 ⊢
    gi_wp2;exact hK (gh,(upd (upd s 19 (.pointer (some ⟨T.g,4,none⟩))) 20 (.slice (some ⟨bl,ol,none⟩) T.nl T.cl))) _ { HF.out with f10:=fun _=>rfl,f11:=fun _=>rfl }
   ·rintro L ⟨gh,s⟩ W hu hd hdn H K Q hK
    have HF:=lh H;clear H hd
    try simp only
    gi_wp2;exact hK (gh,(upd s 21 (.int .i64 k))) _ { HF.out with f12:=fun _=>rfl }
   ·rintro L ⟨gh,s⟩ W hu hd hdn H K Q hK
    have e11:=H.f11 (hd.at_ 11 rfl);have e12:=H.f12 (hd.at_ 12 rfl);have hkl:=HKL.out;have HF:=lh H;clear H hd
    try simp only at e11 e12 ⊢
    gi_wp2;exact hK (gh,(upd (upd (upd s 20 (.slice (some ⟨bl,ol,none⟩) T.nl T.cl)) 21 (.int .i64 k)) 22 (.pointer (some ⟨bl,ol+k * 4,none⟩)))) _ { HF.out with f11:=fun _=>rfl,f12:=fun _=>rfl,f13:=fun _=>rfl }
   ·rintro L ⟨gh,s⟩ W hu hd hdn H K Q hK
    have e13:=H.f13 (hd.at_ 13 rfl);have l0:W.cell? ⟨bl,ol+k * 4,none⟩=some (.int .i64 (au s0 0)):=(H.g1.cell (p:=⟨bl,ol+k * 4,none⟩) HBL.out).trans (HCL.out 0 _ rfl);have l1:W.cell? ⟨bl,ol+k * 4+1,none⟩=some (.int .i64 (au s0 1)):=(H.g1.cell (p:=⟨bl,ol+k * 4+1,none⟩) HBL.out).trans (HCL.out 1 _ rfl);have l2:W.cell? ⟨bl,ol+k * 4+2,none⟩=some (.int .i64 (au s0 2)):=(H.g1.cell (p:=⟨bl,ol+k * 4+2,none⟩) HBL.out).trans (HCL.out 2 _ rfl);have l3:W.cell? ⟨bl,ol+k * 4+3,none⟩=some (.int .i64 (au s0 3)):=(H.g1.cell (p:=⟨bl,ol+k * 4+3,none⟩) HBL.out).trans (HCL.out 3 _ rfl);have HF:=lh H;clear H hd
    try simp only at e13 ⊢
    gi_wp2;exact hK (gh,(upd (upd s 22 (.pointer (some ⟨bl,ol+k * 4,none⟩))) 23 (.agg #[.int .i64 (au s0 0),.int .i64 (au s0 1),.int .i64 (au s0 2),.int .i64 (au s0 3)]))) _ { HF.out with f13:=fun _=>rfl,f14:=fun _=>rfl }
   ·rintro L ⟨gh,s⟩ W hu hd hdn H K Q hK
    have h17:L 17=false:=by
     cases hc:L 17 with
     | false=>rfl
     | true=>exact hdn.no 17 15 hc rfl hu
    have HF:=lh H;clear H hd
    try simp only
    gi_wp2;have hb:Below W.heap.size W (W.alloc (.cells #[.int .i64 0,.int .i64 0,.int .i64 0,.int .i64 0] 62)):=b_R.alloc n_R _;exact hK ((W.heap.size,gh.2),(upd s 5 (.pointer (some ⟨W.heap.size,0,none⟩)))) _ { HF.out with g1:=HF.out.g1.trans (hb.mono HF.out.g1.size),gA:=fun _=>⟨HF.out.g1.size,by simp,fun _=>Blk.new W _ _,fun h=>absurd (h17.symm.trans h) (by decide)⟩,gB:=fun h=>⟨(HF.out.gB h).1,Nat.lt_of_lt_of_le (HF.out.gB h).2.1 hb.size,fun q=>((HF.out.gB h).2.2.1 q).below hb (HF.out.gB h).2.1,fun q=>((HF.out.gB h).2.2.2 q).below hb (HF.out.gB h).2.1⟩,gN:=fun _ h=>Nat.ne_of_gt (HF.out.gB h).2.1,f15:=fun _=>rfl }
   ·rintro L ⟨gh,s⟩ W hu hd hdn H K Q hK
    have h18:L 18=false:=by
     cases hc:L 18 with
     | false=>rfl
     | true=>exact hdn.no 18 16 hc rfl hu
    have HF:=lh H;clear H hd
    try simp only
    gi_wp2;have hb:Below W.heap.size W (W.alloc (.cells #[.int .i64 0,.int .i64 0,.int .i64 0,.int .i64 0] 115)):=b_R.alloc n_R _;exact hK ((gh.1,W.heap.size),(upd s 6 (.pointer (some ⟨W.heap.size,0,none⟩)))) _ { HF.out with g1:=HF.out.g1.trans (hb.mono HF.out.g1.size),gB:=fun _=>⟨HF.out.g1.size,by simp,fun _=>Blk.new W _ _,fun h=>absurd (h18.symm.trans h) (by decide)⟩,gA:=fun h=>⟨(HF.out.gA h).1,Nat.lt_of_lt_of_le (HF.out.gA h).2.1 hb.size,fun q=>((HF.out.gA h).2.2.1 q).below hb (HF.out.gA h).2.1,fun q=>((HF.out.gA h).2.2.2 q).below hb (HF.out.gA h).2.1⟩,gN:=fun h _=>Nat.ne_of_lt (HF.out.gA h).2.1,f16:=fun _=>rfl }
   ·rintro L ⟨gh,s⟩ W hu hd hdn H K Q hK
    have e15:=H.f15 (hd.at_ 15 rfl);have e7:=H.f7 (hd.at_ 7 rfl);have d15:=hd.at_ 15 rfl;have RA:=(H.gA d15).2.2.1 hu;have y0:=RA.cell 0;have z0:=RA.frozen 0;have y1:=RA.cell 1;have z1:=RA.frozen 1;have y2:=RA.cell 2;have z2:=RA.frozen 2;have y3:=RA.cell 3;have z3:=RA.frozen 3;have rl:=RA.lt;have HRA:=lh RA;have HGE:=lh (H.gA d15).1;have HD15:=lh d15;clear RA d15;have HF:=lh H;clear H hd
    try simp only at e15 e7 ⊢
    gi_wp2;have R:=ret4' HRA.out (Below.refl gh.1 W) n_R (.int .i64 x.kind) (.int .i64 x.fr) (.int .i64 x.to) (.int .i64 x.drops);exact hK (gh,(upd (upd s 5 (.pointer (some ⟨gh.1,0,none⟩))) 16 (.agg #[.int .i64 x.kind,.int .i64 x.fr,.int .i64 x.to,.int .i64 x.drops]))) _ { HF.out with g1:=HF.out.g1.trans (R.2.1.mono HGE.out),gA:=fun _=>⟨HGE.out,R.1.lt,(fun h=>by cases h),fun _=>R.1⟩,gB:=fun h=>⟨(HF.out.gB h).1,Nat.lt_of_lt_of_le (HF.out.gB h).2.1 R.2.2.size,fun q=>((HF.out.gB h).2.2.1 q).grown R.2.2 (fun e=>HF.out.gN HD15.out h (Option.some.inj e).symm),fun q=>((HF.out.gB h).2.2.2 q).grown R.2.2 (fun e=>HF.out.gN HD15.out h (Option.some.inj e).symm)⟩,f7:=fun _=>rfl,f15:=fun _=>rfl }
   ·rintro L ⟨gh,s⟩ W hu hd hdn H K Q hK
    have e16:=H.f16 (hd.at_ 16 rfl);have e14:=H.f14 (hd.at_ 14 rfl);have d16:=hd.at_ 16 rfl;have RB:=(H.gB d16).2.2.1 hu;have y0:=RB.cell 0;have z0:=RB.frozen 0;have y1:=RB.cell 1;have z1:=RB.frozen 1;have y2:=RB.cell 2;have z2:=RB.frozen 2;have y3:=RB.cell 3;have z3:=RB.frozen 3;have rl:=RB.lt;have HRB:=lh RB;have HGE:=lh (H.gB d16).1;have HD16:=lh d16;clear RB d16;have HF:=lh H;clear H hd
    try simp only at e16 e14 ⊢
    gi_wp2;have R:=ret4' HRB.out (Below.refl gh.2 W) n_R (.int .i64 (au s0 0)) (.int .i64 (au s0 1)) (.int .i64 (au s0 2)) (.int .i64 (au s0 3));exact hK (gh,(upd (upd s 6 (.pointer (some ⟨gh.2,0,none⟩))) 23 (.agg #[.int .i64 (au s0 0),.int .i64 (au s0 1),.int .i64 (au s0 2),.int .i64 (au s0 3)]))) _ { HF.out with g1:=HF.out.g1.trans (R.2.1.mono HGE.out),gB:=fun _=>⟨HGE.out,R.1.lt,(fun h=>by cases h),fun _=>R.1⟩,gA:=fun h=>⟨(HF.out.gA h).1,Nat.lt_of_lt_of_le (HF.out.gA h).2.1 R.2.2.size,fun q=>((HF.out.gA h).2.2.1 q).grown R.2.2 (fun e=>HF.out.gN h HD16.out (Option.some.inj e)),fun q=>((HF.out.gA h).2.2.2 q).grown R.2.2 (fun e=>HF.out.gN h HD16.out (Option.some.inj e))⟩,f14:=fun _=>rfl,f16:=fun _=>rfl }
  ·rintro L ⟨gh,s⟩ W hall H
   obtain ⟨g1,gA,gB,gN,f0,f1,f2,f3,f4,f5,f6,f7,f8,f9,f10,f11,f12,f13,f14,f15,f16⟩:=H;have a15:=hall 15 (by decide);have a16:=hall 16 (by decide);have GA:=gA a15;have GB:=gB a16;have GN:=gN a15 a16;have GA2:=GA.2.2.2 (hall 17 (by decide));have GB2:=GB.2.2.2 (hall 18 (by decide));have e5:=f15 a15;have e6:=f16 a16;have HGG:=lh (ai GN (ai g1 (ai GA.1 (ai GB.1 (ai GA2 GB2)))));clear f16 f15 f14 f13 f12 f11 f10 f9 f8 f7 f6 f5 f4 f3 f2 f1 f0 gN gB gA g1 GA GB GN GA2 GB2 a15 a16 hall
   try simp only at e5 e6 ⊢
   gi_wp2;gi_meet;exact ⟨_,_,rfl,rfl,HGG⟩
 case rest =>
  obtain ⟨g5,g6,rfl,rfl,HC⟩:=hcut;rename World=>C1;replace Ly:=lh (((show Lay w C1 [] from ⟨HC.out.2.1,fun b hb=>by simp at hb⟩).add HC.out.2.2.1 HC.out.2.2.2.2.1).add HC.out.2.2.2.1 HC.out.2.2.2.2.2);have HN56:=lh HC.out.1;clear HC;gi_wp2;refine wpIn_flow_old [([true,true],2),([],3),([false,false,false,false,true,true,false,true,true,false,false,true,true,true],6),([false,false,false,false,false,false,false,false,false,true,true],14)] [false,false,false,false,false,false,false,false,false,false,false,false,false,false,false,true,true] [] (by kernel_rfl) (by kernel_rfl) (by kernel_rfl) (av b_R 1) ?_;refine wpFlow_cons (A:=?AF1) rfl ?hq1 ?_
  case hq1 =>
   rintro σ hσ of hof hcl;have HOF:=lh hof;have HCL:=lh hcl;clear hof hcl;obtain ⟨c0_,c1_,c2_,c3_⟩:=lyz4 Ly HOF 0 rfl;obtain ⟨c4_,c5_,c6_,c7_⟩:=lyz4 Ly HOF 1 rfl;have hfw:=hfT;have hix:∀ z:World,(Instr.index 179 iJ (.int .i64 x.kind)).run Tryz.prog z = .ok (.agg #[.func (.func f) #[] #[],f2,f3]) z:=HIX.out;unfold iJ at hix;have hfd:=HFD.out;simp only [bu]
   repeat (gi_big_quiet_step (fail))
   refine wpQuietIn_nil ?_;exact rfl
  intro W1 hW;replace Ly:=lyb Ly hW;clear hW;gi_wp2;refine ⟨trivial,b_R.alloc n_R _,?_⟩;have hb:Below W1.heap.size W1 (W1.alloc (.cells #[.int .i64 x.kind] 3)):=b_R.alloc n_R _;replace Ly:=lyb Ly hb;have HPl:=lh (show cr (W1.alloc (.cells #[.int .i64 x.kind] 3)) (W1.alloc (.cells #[.int .i64 x.kind] 3)).heap.size (some ⟨W1.heap.size,0,none⟩) 1 [x.kind] from cr.new W1 3 [x.kind] _ (by simp))
  obtain ⟨P3,hP⟩:∃ P,W1.heap.size=P:=⟨_,rfl⟩
  rw [hP] at HPl ⊢;generalize (W1.alloc (.cells #[.int .i64 x.kind] 3))=V2 at *;clear hb hP;refine wpFlow_cons rfl Quietly.none ?_;intro W4 hW;replace Ly:=lyb Ly hW;replace HPl:=lh ((HPl.out.below hW).more hW.size);clear hW;gi_wp2;refine ⟨trivial,(callsIn_wide.2 (ez 1 4 (some ⟨P3,0,none⟩) 1 1 [x.kind] W4 HPl.out (by decide))).mono ?_⟩;rintro e W5 ⟨rfl,hb⟩;replace Ly:=lyb Ly hb;replace HPl:=lh ((HPl.out.below hb).more hb.size);rw [HKI.out];gi_wp2;refine ⟨trivial,hb,?_⟩;clear hb;clear HPl;refine wpFlow_cons (A:=?AF2) rfl ?hq2 ?_
  case hq2 =>
   rintro σ hσ of hof hcl;have HOF:=lh hof;have HCL:=lh hcl;clear hof hcl;obtain ⟨c0_,c1_,c2_,c3_⟩:=lyz4 Ly HOF 0 rfl;obtain ⟨c4_,c5_,c6_,c7_⟩:=lyz4 Ly HOF 1 rfl;have hfw:=hfT;have hix:∀ z:World,(Instr.index 179 iJ (.int .i64 x.kind)).run Tryz.prog z = .ok (.agg #[.func (.func f) #[] #[],f2,f3]) z:=HIX.out;unfold iJ at hix;have hfd:=HFD.out;simp only [bu]
   repeat (gi_big_quiet_step (fail))
   refine wpQuietIn_nil ?_;exact rfl
  intro W6 hW;replace Ly:=lyb Ly hW;clear hW;gi_wp2;refine ⟨trivial,(callsIn_wide.2 (fP W6)).mono ?_⟩;rintro e W7 ⟨rfl,hb⟩;replace Ly:=lyb Ly hb;gi_wp2;refine ⟨trivial,hb,?_⟩;clear hb;refine wpFlow_cons (A:=?AF3) rfl ?hq3 ?_
  case hq3 =>
   rintro σ hσ of hof hcl;have HOF:=lh hof;have HCL:=lh hcl;clear hof hcl;obtain ⟨c0_,c1_,c2_,c3_⟩:=lyz4 Ly HOF 0 rfl;obtain ⟨c4_,c5_,c6_,c7_⟩:=lyz4 Ly HOF 1 rfl;have hfw:=hfT;have hix:∀ z:World,(Instr.index 179 iJ (.int .i64 x.kind)).run Tryz.prog z = .ok (.agg #[.func (.func f) #[] #[],f2,f3]) z:=HIX.out;unfold iJ at hix;have hfd:=HFD.out;simp only [bu]
   repeat (gi_big_quiet_step (fail))
   refine wpQuietIn_nil ?_;exact rfl
  intro W8 hW;replace Ly:=lyb Ly hW;clear hW;gi_wp2;refine ⟨trivial,(c_W (HKK.out W8 Ly.out.1)).mono ?_⟩;rintro e W9 ⟨rfl,hb⟩;replace Ly:=lyb Ly hb;gi_wp2;refine ⟨trivial,hb,?_⟩;clear hb;refine wpFlow_nil (A:=?AF4) ?hq4 ?_
  case hq4 =>
   rintro σ hσ of hof hcl;have HOF:=lh hof;have HCL:=lh hcl;clear hof hcl;obtain ⟨c0_,c1_,c2_,c3_⟩:=lyz4 Ly HOF 0 rfl;obtain ⟨c4_,c5_,c6_,c7_⟩:=lyz4 Ly HOF 1 rfl;have hfw:=hfT;simp only [bu]
   repeat (gi_big_quiet_step (fail))
   refine wpQuietIn_nil ?_;exact rfl
  intro W10 hW;replace Ly:=lyb Ly hW;clear hW;simp only [bu];refine cA ?_
  cases r with
  | false =>
   gi_wp2;refine bodyPost_ret (v:=.bool false) (by simp [results,Tryz.results89,go_sem]) rfl ?_;exact .inl ⟨rfl,rfl,Ly.out.1⟩
  | true =>
   obtain ⟨x0_0,x0_1,x0_2,x0_3⟩:=lyc4 Ly 0 rfl;have l0_:=Ly.out.lt 0 rfl;gi_wp2;clear x0_0 x0_1 x0_2 x0_3 l0_;refine ⟨trivial,(c_W (mg T x W10 (HA.out.below Ly.out.1) HKO.out)).mono ?_⟩;rintro e W11 ⟨rfl,hb⟩;replace Ly:=lyb Ly hb;clear hb;have hv4:T.m.vessels.length≤4:=by have:=HT.out.mix.lenV;have:=HT.out.small;omega
   have HFR:=lh (fC hv4 x);have HTO:=lh (jq hv4 x);have HFG:Hid (-1≤cp T.m x):=lh (by unfold cp;split;omega;exact ii _ _);have HTG:Hid (-1≤toI T.m x):=lh (by unfold toI;split;exact ii _ _;omega);have HSZ:=lh (HF.out (by first | rfl | trivial));have HRES:Hid (cE s (cp T.m x) (toI T.m x) (cZ T.m s x)=cE s (cp T.m x) (toI T.m x) (cZ T.m s x)):=lh rfl;gi_wp2;refine Gr.wpIn_flow_old (G:=gP (T.AA.map (·.block))) [([true,true,true,true,true,true,true,true,true,true],10),([],11),([],12),([],13)] [false,false,false,false,false,false,false,false,false,false,false,false,false,false,true,true] [false,false,false,false,false,false,false,false,false,false,false,false,false,false,false,false,true] (by kernel_rfl) (by kernel_rfl) (by kernel_rfl) (av b_R 1) ?_;have HUP:Hid (gP (T.AA.map (·.block)) W11 W11):=lh (cR _ _);have HNG:Hid (some T.g≠(T.AA.map (·.block))):=lh (rM HT.out.ne);have HN6:Hid (∀ b:Nat,w.heap.size≤b→some b≠(T.AA.map (·.block))):=lh (fun b hb=>rM (fun a ha=>by have:=(HT.out.own.lt ha).2;omega));refine Gr.wpFlow_cons (A:=?AFu) rfl ?hqu ?_
   case hqu =>
    rintro σ hσ of hof hcl;have HOF:Hid (∀ z,W11.grownBy (of z) (T.AA.map (·.block))):=lh hof;clear hof hcl;have t4:∀ z,(of z).cell? ⟨T.g,4,none⟩=some (.slice T.AA T.nl T.cl):=fun z=>(((HA.out.below Ly.out.1).blk).grown (HOF.out z) HNG.out).cell 4;have l0:∀ z,(of z).cell? ⟨g6,0,none⟩=some (.int .i64 (au s 0)):=fun z=>((Ly.out.blk 1 rfl).grown (HOF.out z) (HN6.out _ (Ly.out.ge 1 rfl))).cell 0;have l1:∀ z,(of z).cell? ⟨g6,1,none⟩=some (.int .i64 (au s 1)):=fun z=>((Ly.out.blk 1 rfl).grown (HOF.out z) (HN6.out _ (Ly.out.ge 1 rfl))).cell 1;have l2:∀ z,(of z).cell? ⟨g6,2,none⟩=some (.int .i64 (au s 2)):=fun z=>((Ly.out.blk 1 rfl).grown (HOF.out z) (HN6.out _ (Ly.out.ge 1 rfl))).cell 2;have l3:∀ z,(of z).cell? ⟨g6,3,none⟩=some (.int .i64 (au s 3)):=fun z=>((Ly.out.blk 1 rfl).grown (HOF.out z) (HN6.out _ (Ly.out.ge 1 rfl))).cell 3;simp only [bu]
    repeat (gi_big_quiet_step (fail))
    refine wpQuietIn_nil ?_;exact rfl
   intro W12 hW;replace Ly:=lyb Ly hW;replace HUP:Hid (gP (T.AA.map (·.block)) W11 _):=lh (dL HUP.out hW);clear hW;gi_wp2;refine ⟨trivial,(c_W (pr T k x s W12 (HA.out.below Ly.out.1) HX.out HAT.out HKO.out (fun e=>HSZ.out.2.2.1 e))).mono ?_⟩;rintro e W13 ⟨rfl,hb⟩;replace Ly:=lyb Ly hb;replace HUP:Hid (gP (T.AA.map (·.block)) W11 _):=lh (dL HUP.out hb);gi_wp2;refine ⟨trivial,cO hb _,?_⟩;clear hb;refine Gr.wpFlow_cons rfl Gr.Quietly.none ?_;intro W14 hW;replace Ly:=lyb Ly hW;replace HUP:Hid (gP (T.AA.map (·.block)) W11 _):=lh (dL HUP.out hW);clear hW;gi_wp2;refine ⟨trivial,(callsIn_wide.2 (ic s (cp T.m x) (toI T.m x) (cZ T.m s x) W14 HS.out.1 HS.out.2 ⟨by have:=HSZ.out.1;omega,by have:=HSZ.out.2.1;omega⟩ ⟨HFG.out,HFR.out⟩ ⟨HTG.out,HTO.out⟩ HSZ.out.2.2.2)).mono ?_⟩;rintro e W15 ⟨rfl,hb⟩;replace Ly:=lyb Ly hb;replace HUP:Hid (gP (T.AA.map (·.block)) W11 _):=lh (dL HUP.out hb);gi_wp2;refine ⟨trivial,cO hb _,?_⟩;clear hb;refine Gr.wpFlow_cons rfl Gr.Quietly.none ?_
   obtain ⟨s2,hs2⟩:∃ s2,cE s (cp T.m x) (toI T.m x) (cZ T.m s x)=s2:=⟨_,rfl⟩
   rw [hs2];have HS2:=lh hs2;clear hs2 HRES;intro W16 hW;replace Ly:=lyb Ly hW;replace HUP:Hid (gP (T.AA.map (·.block)) W11 _):=lh (dL HUP.out hW);clear hW;gi_wp2;have hb:Below W16.heap.size W16 (W16.alloc (.cells #[.int .i64 (au s2 0),.int .i64 (au s2 1),.int .i64 (au s2 2),.int .i64 (au s2 3)] 115)):=b_R.alloc n_R _;refine ⟨trivial,cO hb _,?_⟩;replace Ly:=lyb Ly hb;replace HUP:Hid (gP (T.AA.map (·.block)) W11 _):=lh (dL HUP.out hb);have HPl:=lh (show cB (W16.alloc (.cells #[.int .i64 (au s2 0),.int .i64 (au s2 1),.int .i64 (au s2 2),.int .i64 (au s2 3)] 115)) ((W16.alloc (.cells #[.int .i64 (au s2 0),.int .i64 (au s2 1),.int .i64 (au s2 2),.int .i64 (au s2 3)] 115))).heap.size 4 (some ⟨W16.heap.size,0,none⟩) 1 (dH s2) from fg W16 115 (dH s2) rfl);generalize (W16.alloc (.cells #[.int .i64 (au s2 0),.int .i64 (au s2 1),.int .i64 (au s2 2),.int .i64 (au s2 3)] 115))=V17 at *;clear hb;refine Gr.wpFlow_cons rfl Gr.Quietly.none ?_;intro W18 hW;replace Ly:=lyb Ly hW;replace HUP:Hid (gP (T.AA.map (·.block)) W11 _):=lh (dL HUP.out hW);replace HPl:=lh ((HPl.out.below hW).more hW.size);clear hW;have HO9:Hid (Own W18 B 115 4 T.AA T.nl T.cl (T.L.flatMap dH)):=lh (HT.out.own.below Ly.out.1 n_R);have hbz:B≤W18.heap.size:=Nat.le_trans HT.out.le.1 Ly.out.1.size
   gi_wp2_with (first | (gi_at_builtin;refine cG rfl (.tmp 51) (.tmp 59) (by rfl) oM rfl HO9.out rfl HPl.out (nE s2) (by have:=HT.out.small;unfold maxLen;omega) (by have:=HT.out.small;omega) hbz ?_) | fail)
   rintro A9 c9 V19 hown hg hA;have HOW:=lh hown;have HGR:=lh hg;have HA9:=lh hA;clear hown hg hA;gi_wp2;refine ⟨trivial,HGR.out,?_⟩;refine Gr.wpFlow_nil (A:=?AFv) ?hqv ?_
   case hqv =>
    rintro σ hσ of hof hcl;clear hof hcl;simp only [bu]
    repeat (gi_big_quiet_step (fail))
    refine wpQuietIn_nil ?_;exact rfl
   intro W20 hW;have hbk:Blk W20 T.g 121 T.cells:=(((HA.out.below Ly.out.1).blk).grown HGR.out HNG.out).below hW (((HA.out.below Ly.out.1).blk).grown HGR.out HNG.out).lt;have HBK:=lh hbk;have HWB:=lh hW;have z4:=hbk.frozen 4;have y4:W20.cell? ⟨T.g,4,none⟩=some (.slice T.AA T.nl T.cl):=hbk.cell 4;have tl:=hbk.lt;clear hbk hW;simp only [bu];refine dg ?_;gi_wp2;refine cA ?_;gi_wp2;refine bodyPost_ret (v:=.bool true) (by simp [results,Tryz.results89,go_sem]) rfl ?_;refine .inr ⟨A9,c9,rfl,rfl,?_,?_,qL HT.out Ly.out.1 HGR.out HWB.out,pZ Ly.out.1 HA9.out⟩
   ·rw [HS2.out]
    exact sK HT.out Ly.out.1 HGR.out HWB.out HOW.out HA9.out HBK.out HNL.out
   ·exact ll HT.out Ly.out.1 HGR.out HWB.out
theorem sP (B:Nat)(T:Tb)(k:Nat)(x:MAct)(s:Held)(w:World)(h:eu w B T)(hx:T.m.acts[k]? =some x)(ha:T.L[k]? =some s)(hk:¬ gj x) :
  CallsIn Fence.wide 9 Tryz.prog 89 #[.pointer (some ⟨T.g,0,none⟩),.int .i64 k] w fun e w'=>e = .returned (.bool false)∧Below w.heap.size w w':=by
 have HT:=lh h;have HA:=lh h.at_;have hka:k<T.na:=by have:=h.mix.lenA;have:=(g_E hx).1;omega
 obtain ⟨ba,oa,x',hAa,hba0,hx',c0,c1,c2,c3⟩:=h.mix.act hka;have hba:ba<w.heap.size:=Nat.lt_of_lt_of_le hba0 h.le.1;rw [hx] at hx';obtain rfl:x=x':=Option.some.inj hx';have hkl:k<T.nl:=by have:=dY dF (by omega) h.at_.all;have:=(g_E ha).1;omega
 obtain ⟨bl,ol,s',hAL,hbl,ha',cl⟩:=dp dF (by omega) h.at_.all hkl;rw [ha] at ha';obtain rfl:s=s':=Option.some.inj ha';have HX:=lh hx;have HAT:=lh ha;have HC0:=lh c0;have HC1:=lh c1;have HC2:=lh c2;have HC3:=lh c3;have HCL:=lh cl;have HAA:=lh hAa;have HAL:=lh hAL;have HBA:=lh hba;have HBL:=lh hbl;have HKA:=lh hka;have HKL:=lh hkl;have HKI:Hid (inB 1 4 [x.kind]=false):=lh (by rw [dT];exact decide_eq_false (fun h=>hk (by unfold gj;omega)));clear hx hx' ha ha' c0 c1 c2 c3 cl hAa hAL hba hba0 hbl h hka hkl hk;refine callsIn_of_wp Tryz.func89 rfl trivial ?_ rfl;simp only [Tryz.ntmps89,es,Nat.reduceAdd,Nat.reduceSub];gi_wp2;have Ly:=lh (Lay.nil w)
 gi_cut [5,6] from 9 (fun v5 v6 wx=>∃ g5 g6,v5 = .pointer (some ⟨g5,0,none⟩)∧v6 = .pointer (some ⟨g6,0,none⟩)∧Hid (g5≠g6∧Below w.heap.size w wx∧w.heap.size≤g5∧w.heap.size≤g6∧Blk wx g5 62 #[.int .i64 x.kind,.int .i64 x.fr,.int .i64 x.to,.int .i64 x.drops]∧Blk wx g6 115 #[.int .i64 (au s 0),.int .i64 (au s 1),.int .i64 (au s 2),.int .i64 (au s 3)]))
 case first =>
  obtain ⟨s0,rfl⟩:∃ s0,s0=s:=⟨_,rfl⟩
  clear Ly
  refine dJ (by kernel_rfl) (by kernel_rfl) (fun σ:(Nat × Nat) × (Nat→Value)=>{ tmps:=#[.pointer (some ⟨T.g,0,none⟩),.int .i64 k,undef,undef,.bool false,σ.2 5,σ.2 6,undef,undef,σ.2 9,σ.2 10,σ.2 11,σ.2 12,σ.2 13,σ.2 14,σ.2 15,σ.2 16,σ.2 17,σ.2 18,σ.2 19,σ.2 20,σ.2 21,σ.2 22,σ.2 23,undef,undef,undef,undef,undef,undef,undef,undef,undef,undef,undef,undef,undef,undef,undef,undef,undef,undef,undef,undef,undef,undef,undef,undef,undef,undef,undef,undef,undef,undef,undef,undef,undef,undef,undef,undef,undef,undef,undef],defers:=[] })
   (fun L σ W=>ActI w T k x s0 ba oa bl ol L σ.1 σ.2 W) ((0,0),fun k=>undef) rfl ?_ ?_ ?_
  ·exact ⟨av b_R 1,(fun h=>by cases h),(fun h=>by cases h),(fun h=>by cases h),(fun h=>by cases h),(fun h=>by cases h),(fun h=>by cases h),(fun h=>by cases h),(fun h=>by cases h),(fun h=>by cases h),(fun h=>by cases h),(fun h=>by cases h),(fun h=>by cases h),(fun h=>by cases h),(fun h=>by cases h),(fun h=>by cases h),(fun h=>by cases h),(fun h=>by cases h),(fun h=>by cases h),(fun h=>by cases h),(fun h=>by cases h)⟩
  ·refine ⟨?_,?_,?_,?_,?_,?_,?_,?_,?_,?_,?_,?_,?_,?_,?_,?_,?_,?_,?_,trivial⟩
   ·rintro L ⟨gh,s⟩ W hu hd hdn H K Q hK
    have HF:=lh H;clear H hd
    try simp only
    gi_wp2;exact hK (gh,(upd s 9 (.pointer (some ⟨T.g,0,none⟩)))) _ { HF.out with f0:=fun _=>rfl }
   ·rintro L ⟨gh,s⟩ W hu hd hdn H K Q hK
    have e0:=H.f0 (hd.at_ 0 rfl);have tl:=(HA.out.below H.g1).blk.lt;have HF:=lh H;clear H hd
    try simp only at e0 ⊢
    gi_wp2;exact hK (gh,(upd (upd s 9 (.pointer (some ⟨T.g,0,none⟩))) 10 (.pointer (some ⟨T.g,0,none⟩)))) _ { HF.out with f0:=fun _=>rfl,f1:=fun _=>rfl }
   ·rintro L ⟨gh,s⟩ W hu hd hdn H K Q hK
    have e1:=H.f1 (hd.at_ 1 rfl);have HF:=lh H;clear H hd
    try simp only at e1 ⊢
    gi_wp2;exact hK (gh,(upd (upd s 10 (.pointer (some ⟨T.g,0,none⟩))) 11 (.pointer (some ⟨T.g,0,none⟩)))) _ { HF.out with f1:=fun _=>rfl,f2:=fun _=>rfl }
   ·rintro L ⟨gh,s⟩ W hu hd hdn H K Q hK
    have e2:=H.f2 (hd.at_ 2 rfl);have HF:=lh H;clear H hd
    try simp only at e2 ⊢
    gi_wp2;exact hK (gh,(upd (upd s 11 (.pointer (some ⟨T.g,0,none⟩))) 12 (.pointer (some ⟨T.g,2,none⟩)))) _ { HF.out with f2:=fun _=>rfl,f3:=fun _=>rfl }
   ·rintro L ⟨gh,s⟩ W hu hd hdn H K Q hK
    have e3:=H.f3 (hd.at_ 3 rfl);have t2:W.cell? ⟨T.g,2,none⟩=some (.slice (some ⟨ba,oa,none⟩) T.na T.ca):=by rw [← HAA.out];exact (HA.out.below H.g1).blk.cell 2
    have HF:=lh H;clear H hd
    try simp only at e3 ⊢
    gi_wp2;exact hK (gh,(upd (upd s 12 (.pointer (some ⟨T.g,2,none⟩))) 13 (.slice (some ⟨ba,oa,none⟩) T.na T.ca))) _ { HF.out with f3:=fun _=>rfl,f4:=fun _=>rfl }
   ·rintro L ⟨gh,s⟩ W hu hd hdn H K Q hK
    have HF:=lh H;clear H hd
    try simp only
    gi_wp2;exact hK (gh,(upd s 14 (.int .i64 k))) _ { HF.out with f5:=fun _=>rfl }
   ·rintro L ⟨gh,s⟩ W hu hd hdn H K Q hK
    have e4:=H.f4 (hd.at_ 4 rfl);have e5:=H.f5 (hd.at_ 5 rfl);have hka:=HKA.out;have HF:=lh H;clear H hd
    try simp only at e4 e5 ⊢
    gi_wp2;exact hK (gh,(upd (upd (upd s 13 (.slice (some ⟨ba,oa,none⟩) T.na T.ca)) 14 (.int .i64 k)) 15 (.pointer (some ⟨ba,oa+k * 4,none⟩)))) _ { HF.out with f4:=fun _=>rfl,f5:=fun _=>rfl,f6:=fun _=>rfl }
   ·rintro L ⟨gh,s⟩ W hu hd hdn H K Q hK
    have e6:=H.f6 (hd.at_ 6 rfl);have a0:W.cell? ⟨ba,oa+k * 4,none⟩=some (.int .i64 x.kind):=(H.g1.cell (p:=⟨ba,oa+k * 4,none⟩) HBA.out).trans HC0.out;have a1:W.cell? ⟨ba,oa+k * 4+1,none⟩=some (.int .i64 x.fr):=(H.g1.cell (p:=⟨ba,oa+k * 4+1,none⟩) HBA.out).trans HC1.out;have a2:W.cell? ⟨ba,oa+k * 4+2,none⟩=some (.int .i64 x.to):=(H.g1.cell (p:=⟨ba,oa+k * 4+2,none⟩) HBA.out).trans HC2.out;have a3:W.cell? ⟨ba,oa+k * 4+3,none⟩=some (.int .i64 x.drops):=(H.g1.cell (p:=⟨ba,oa+k * 4+3,none⟩) HBA.out).trans HC3.out;have HF:=lh H;clear H hd
    try simp only at e6 ⊢
    gi_wp2;exact hK (gh,(upd (upd s 15 (.pointer (some ⟨ba,oa+k * 4,none⟩))) 16 (.agg #[.int .i64 x.kind,.int .i64 x.fr,.int .i64 x.to,.int .i64 x.drops]))) _ { HF.out with f6:=fun _=>rfl,f7:=fun _=>rfl }
   ·rintro L ⟨gh,s⟩ W hu hd hdn H K Q hK
    have HF:=lh H;clear H hd
    try simp only
    gi_wp2;exact hK (gh,(upd s 17 (.pointer (some ⟨T.g,0,none⟩)))) _ { HF.out with f8:=fun _=>rfl }
   ·rintro L ⟨gh,s⟩ W hu hd hdn H K Q hK
    have e8:=H.f8 (hd.at_ 8 rfl);have tl:=(HA.out.below H.g1).blk.lt;have HF:=lh H;clear H hd
    try simp only at e8 ⊢
    gi_wp2;exact hK (gh,(upd (upd s 17 (.pointer (some ⟨T.g,0,none⟩))) 18 (.pointer (some ⟨T.g,0,none⟩)))) _ { HF.out with f8:=fun _=>rfl,f9:=fun _=>rfl }
   ·rintro L ⟨gh,s⟩ W hu hd hdn H K Q hK
    have e9:=H.f9 (hd.at_ 9 rfl);have HF:=lh H;clear H hd
    try simp only at e9 ⊢
    gi_wp2;exact hK (gh,(upd (upd s 18 (.pointer (some ⟨T.g,0,none⟩))) 19 (.pointer (some ⟨T.g,4,none⟩)))) _ { HF.out with f9:=fun _=>rfl,f10:=fun _=>rfl }
   ·rintro L ⟨gh,s⟩ W hu hd hdn H K Q hK
    have e10:=H.f10 (hd.at_ 10 rfl);have t4:W.cell? ⟨T.g,4,none⟩=some (.slice (some ⟨bl,ol,none⟩) T.nl T.cl):=by rw [← HAL.out];exact (HA.out.below H.g1).blk.cell 4
    have HF:=lh H;clear H hd
    try simp only at e10 ⊢
    gi_wp2;exact hK (gh,(upd (upd s 19 (.pointer (some ⟨T.g,4,none⟩))) 20 (.slice (some ⟨bl,ol,none⟩) T.nl T.cl))) _ { HF.out with f10:=fun _=>rfl,f11:=fun _=>rfl }
   ·rintro L ⟨gh,s⟩ W hu hd hdn H K Q hK
    have HF:=lh H;clear H hd
    try simp only
    gi_wp2;exact hK (gh,(upd s 21 (.int .i64 k))) _ { HF.out with f12:=fun _=>rfl }
   ·rintro L ⟨gh,s⟩ W hu hd hdn H K Q hK
    have e11:=H.f11 (hd.at_ 11 rfl);have e12:=H.f12 (hd.at_ 12 rfl);have hkl:=HKL.out;have HF:=lh H;clear H hd
    try simp only at e11 e12 ⊢
    gi_wp2;exact hK (gh,(upd (upd (upd s 20 (.slice (some ⟨bl,ol,none⟩) T.nl T.cl)) 21 (.int .i64 k)) 22 (.pointer (some ⟨bl,ol+k * 4,none⟩)))) _ { HF.out with f11:=fun _=>rfl,f12:=fun _=>rfl,f13:=fun _=>rfl }
   ·rintro L ⟨gh,s⟩ W hu hd hdn H K Q hK
    have e13:=H.f13 (hd.at_ 13 rfl);have l0:W.cell? ⟨bl,ol+k * 4,none⟩=some (.int .i64 (au s0 0)):=(H.g1.cell (p:=⟨bl,ol+k * 4,none⟩) HBL.out).trans (HCL.out 0 _ rfl);have l1:W.cell? ⟨bl,ol+k * 4+1,none⟩=some (.int .i64 (au s0 1)):=(H.g1.cell (p:=⟨bl,ol+k * 4+1,none⟩) HBL.out).trans (HCL.out 1 _ rfl);have l2:W.cell? ⟨bl,ol+k * 4+2,none⟩=some (.int .i64 (au s0 2)):=(H.g1.cell (p:=⟨bl,ol+k * 4+2,none⟩) HBL.out).trans (HCL.out 2 _ rfl);have l3:W.cell? ⟨bl,ol+k * 4+3,none⟩=some (.int .i64 (au s0 3)):=(H.g1.cell (p:=⟨bl,ol+k * 4+3,none⟩) HBL.out).trans (HCL.out 3 _ rfl);have HF:=lh H;clear H hd
    try simp only at e13 ⊢
    gi_wp2;exact hK (gh,(upd (upd s 22 (.pointer (some ⟨bl,ol+k * 4,none⟩))) 23 (.agg #[.int .i64 (au s0 0),.int .i64 (au s0 1),.int .i64 (au s0 2),.int .i64 (au s0 3)]))) _ { HF.out with f13:=fun _=>rfl,f14:=fun _=>rfl }
   ·rintro L ⟨gh,s⟩ W hu hd hdn H K Q hK
    have h17:L 17=false:=by
     cases hc:L 17 with
     | false=>rfl
     | true=>exact hdn.no 17 15 hc rfl hu
    have HF:=lh H;clear H hd
    try simp only
    gi_wp2;have hb:Below W.heap.size W (W.alloc (.cells #[.int .i64 0,.int .i64 0,.int .i64 0,.int .i64 0] 62)):=b_R.alloc n_R _;exact hK ((W.heap.size,gh.2),(upd s 5 (.pointer (some ⟨W.heap.size,0,none⟩)))) _ { HF.out with g1:=HF.out.g1.trans (hb.mono HF.out.g1.size),gA:=fun _=>⟨HF.out.g1.size,by simp,fun _=>Blk.new W _ _,fun h=>absurd (h17.symm.trans h) (by decide)⟩,gB:=fun h=>⟨(HF.out.gB h).1,Nat.lt_of_lt_of_le (HF.out.gB h).2.1 hb.size,fun q=>((HF.out.gB h).2.2.1 q).below hb (HF.out.gB h).2.1,fun q=>((HF.out.gB h).2.2.2 q).below hb (HF.out.gB h).2.1⟩,gN:=fun _ h=>Nat.ne_of_gt (HF.out.gB h).2.1,f15:=fun _=>rfl }
   ·rintro L ⟨gh,s⟩ W hu hd hdn H K Q hK
    have h18:L 18=false:=by
     cases hc:L 18 with
     | false=>rfl
     | true=>exact hdn.no 18 16 hc rfl hu
    have HF:=lh H;clear H hd
    try simp only
    gi_wp2;have hb:Below W.heap.size W (W.alloc (.cells #[.int .i64 0,.int .i64 0,.int .i64 0,.int .i64 0] 115)):=b_R.alloc n_R _;exact hK ((gh.1,W.heap.size),(upd s 6 (.pointer (some ⟨W.heap.size,0,none⟩)))) _ { HF.out with g1:=HF.out.g1.trans (hb.mono HF.out.g1.size),gB:=fun _=>⟨HF.out.g1.size,by simp,fun _=>Blk.new W _ _,fun h=>absurd (h18.symm.trans h) (by decide)⟩,gA:=fun h=>⟨(HF.out.gA h).1,Nat.lt_of_lt_of_le (HF.out.gA h).2.1 hb.size,fun q=>((HF.out.gA h).2.2.1 q).below hb (HF.out.gA h).2.1,fun q=>((HF.out.gA h).2.2.2 q).below hb (HF.out.gA h).2.1⟩,gN:=fun h _=>Nat.ne_of_lt (HF.out.gA h).2.1,f16:=fun _=>rfl }
   ·rintro L ⟨gh,s⟩ W hu hd hdn H K Q hK
    have e15:=H.f15 (hd.at_ 15 rfl);have e7:=H.f7 (hd.at_ 7 rfl);have d15:=hd.at_ 15 rfl;have RA:=(H.gA d15).2.2.1 hu;have y0:=RA.cell 0;have z0:=RA.frozen 0;have y1:=RA.cell 1;have z1:=RA.frozen 1;have y2:=RA.cell 2;have z2:=RA.frozen 2;have y3:=RA.cell 3;have z3:=RA.frozen 3;have rl:=RA.lt;have HRA:=lh RA;have HGE:=lh (H.gA d15).1;have HD15:=lh d15;clear RA d15;have HF:=lh H;clear H hd
    try simp only at e15 e7 ⊢
    gi_wp2;have R:=ret4' HRA.out (Below.refl gh.1 W) n_R (.int .i64 x.kind) (.int .i64 x.fr) (.int .i64 x.to) (.int .i64 x.drops);exact hK (gh,(upd (upd s 5 (.pointer (some ⟨gh.1,0,none⟩))) 16 (.agg #[.int .i64 x.kind,.int .i64 x.fr,.int .i64 x.to,.int .i64 x.drops]))) _ { HF.out with g1:=HF.out.g1.trans (R.2.1.mono HGE.out),gA:=fun _=>⟨HGE.out,R.1.lt,(fun h=>by cases h),fun _=>R.1⟩,gB:=fun h=>⟨(HF.out.gB h).1,Nat.lt_of_lt_of_le (HF.out.gB h).2.1 R.2.2.size,fun q=>((HF.out.gB h).2.2.1 q).grown R.2.2 (fun e=>HF.out.gN HD15.out h (Option.some.inj e).symm),fun q=>((HF.out.gB h).2.2.2 q).grown R.2.2 (fun e=>HF.out.gN HD15.out h (Option.some.inj e).symm)⟩,f7:=fun _=>rfl,f15:=fun _=>rfl }
   ·rintro L ⟨gh,s⟩ W hu hd hdn H K Q hK
    have e16:=H.f16 (hd.at_ 16 rfl);have e14:=H.f14 (hd.at_ 14 rfl);have d16:=hd.at_ 16 rfl;have RB:=(H.gB d16).2.2.1 hu;have y0:=RB.cell 0;have z0:=RB.frozen 0;have y1:=RB.cell 1;have z1:=RB.frozen 1;have y2:=RB.cell 2;have z2:=RB.frozen 2;have y3:=RB.cell 3;have z3:=RB.frozen 3;have rl:=RB.lt;have HRB:=lh RB;have HGE:=lh (H.gB d16).1;have HD16:=lh d16;clear RB d16;have HF:=lh H;clear H hd
    try simp only at e16 e14 ⊢
    gi_wp2;have R:=ret4' HRB.out (Below.refl gh.2 W) n_R (.int .i64 (au s0 0)) (.int .i64 (au s0 1)) (.int .i64 (au s0 2)) (.int .i64 (au s0 3));exact hK (gh,(upd (upd s 6 (.pointer (some ⟨gh.2,0,none⟩))) 23 (.agg #[.int .i64 (au s0 0),.int .i64 (au s0 1),.int .i64 (au s0 2),.int .i64 (au s0 3)]))) _ { HF.out with g1:=HF.out.g1.trans (R.2.1.mono HGE.out),gB:=fun _=>⟨HGE.out,R.1.lt,(fun h=>by cases h),fun _=>R.1⟩,gA:=fun h=>⟨(HF.out.gA h).1,Nat.lt_of_lt_of_le (HF.out.gA h).2.1 R.2.2.size,fun q=>((HF.out.gA h).2.2.1 q).grown R.2.2 (fun e=>HF.out.gN h HD16.out (Option.some.inj e)),fun q=>((HF.out.gA h).2.2.2 q).grown R.2.2 (fun e=>HF.out.gN h HD16.out (Option.some.inj e))⟩,f14:=fun _=>rfl,f16:=fun _=>rfl }
  ·rintro L ⟨gh,s⟩ W hall H
   obtain ⟨g1,gA,gB,gN,f0,f1,f2,f3,f4,f5,f6,f7,f8,f9,f10,f11,f12,f13,f14,f15,f16⟩:=H;have a15:=hall 15 (by decide);have a16:=hall 16 (by decide);have GA:=gA a15;have GB:=gB a16;have GN:=gN a15 a16;have GA2:=GA.2.2.2 (hall 17 (by decide));have GB2:=GB.2.2.2 (hall 18 (by decide));have e5:=f15 a15;have e6:=f16 a16;have HGG:=lh (ai GN (ai g1 (ai GA.1 (ai GB.1 (ai GA2 GB2)))));clear f16 f15 f14 f13 f12 f11 f10 f9 f8 f7 f6 f5 f4 f3 f2 f1 f0 gN gB gA g1 GA GB GN GA2 GB2 a15 a16 hall
   try simp only at e5 e6 ⊢
   gi_wp2;gi_meet;exact ⟨_,_,rfl,rfl,HGG⟩
 case rest =>
  obtain ⟨g5,g6,rfl,rfl,HC⟩:=hcut;rename World=>C1;replace Ly:=lh (((show Lay w C1 [] from ⟨HC.out.2.1,fun b hb=>by simp at hb⟩).add HC.out.2.2.1 HC.out.2.2.2.2.1).add HC.out.2.2.2.1 HC.out.2.2.2.2.2);have HN56:=lh HC.out.1;clear HC;gi_wp2;refine wpIn_flow_old [([true,true],2),([],3),([false,false,false,false,true,true,false,true,true,false,false,true,true,true],6),([false,false,false,false,false,false,false,false,false,true,true],14)] [false,false,false,false,false,false,false,false,false,false,false,false,false,false,false,true,true] [] (by kernel_rfl) (by kernel_rfl) (by kernel_rfl) (av b_R 1) ?_;refine wpFlow_cons (A:=?AF1) rfl ?hq1 ?_
  case hq1 =>
   rintro σ hσ of hof hcl;have HOF:=lh hof;have HCL:=lh hcl;clear hof hcl;obtain ⟨c0_,c1_,c2_,c3_⟩:=lyz4 Ly HOF 0 rfl;obtain ⟨c4_,c5_,c6_,c7_⟩:=lyz4 Ly HOF 1 rfl;have hfw:=hfT;simp only [bu]
   repeat (gi_big_quiet_step (fail))
   refine wpQuietIn_nil ?_;exact rfl
  intro W1 hW;replace Ly:=lyb Ly hW;clear hW;gi_wp2;refine ⟨trivial,b_R.alloc n_R _,?_⟩;have hb:Below W1.heap.size W1 (W1.alloc (.cells #[.int .i64 x.kind] 3)):=b_R.alloc n_R _;replace Ly:=lyb Ly hb;have HPl:=lh (show cr (W1.alloc (.cells #[.int .i64 x.kind] 3)) (W1.alloc (.cells #[.int .i64 x.kind] 3)).heap.size (some ⟨W1.heap.size,0,none⟩) 1 [x.kind] from cr.new W1 3 [x.kind] _ (by simp))
  obtain ⟨P3,hP⟩:∃ P,W1.heap.size=P:=⟨_,rfl⟩
  rw [hP] at HPl ⊢;generalize (W1.alloc (.cells #[.int .i64 x.kind] 3))=V2 at *;clear hb hP;refine wpFlow_cons rfl Quietly.none ?_;intro W4 hW;replace Ly:=lyb Ly hW;replace HPl:=lh ((HPl.out.below hW).more hW.size);clear hW;gi_wp2;refine ⟨trivial,(callsIn_wide.2 (ez 1 4 (some ⟨P3,0,none⟩) 1 1 [x.kind] W4 HPl.out (by decide))).mono ?_⟩;rintro e W5 ⟨rfl,hb⟩;replace Ly:=lyb Ly hb;replace HPl:=lh ((HPl.out.below hb).more hb.size);rw [HKI.out];gi_wp2;refine ⟨trivial,hb,?_⟩;clear hb;clear HPl;refine wpFlow_cons (A:=?AF2) rfl ?hq2 ?_
  case hq2 =>
   rintro σ hσ of hof hcl;have HOF:=lh hof;have HCL:=lh hcl;clear hof hcl;obtain ⟨c0_,c1_,c2_,c3_⟩:=lyz4 Ly HOF 0 rfl;obtain ⟨c4_,c5_,c6_,c7_⟩:=lyz4 Ly HOF 1 rfl;have hfw:=hfT;simp only [bu]
   repeat (gi_big_quiet_step (fail))
   refine wpQuietIn_nil ?_;exact rfl
  intro W6 hW;replace Ly:=lyb Ly hW;clear hW;gi_wp2;refine ⟨trivial,?_⟩;gi_wp2;refine ⟨trivial,b_R,?_⟩;refine wpFlow_cons (A:=?AF3) rfl ?hq3 ?_
  case hq3 =>
   rintro σ hσ of hof hcl;have HOF:=lh hof;have HCL:=lh hcl;clear hof hcl;obtain ⟨c0_,c1_,c2_,c3_⟩:=lyz4 Ly HOF 0 rfl;obtain ⟨c4_,c5_,c6_,c7_⟩:=lyz4 Ly HOF 1 rfl;have hfw:=hfT;simp only [bu]
   repeat (gi_big_quiet_step (fail))
   refine wpQuietIn_nil ?_;exact rfl
  intro W7 hW;replace Ly:=lyb Ly hW;clear hW;gi_wp2;refine ⟨fun _ _=>trivial,?_⟩;gi_wp2;refine ⟨trivial,b_R,?_⟩;refine wpFlow_nil (A:=?AF4) ?hq4 ?_
  case hq4 =>
   rintro σ hσ of hof hcl;have HOF:=lh hof;have HCL:=lh hcl;clear hof hcl;obtain ⟨c0_,c1_,c2_,c3_⟩:=lyz4 Ly HOF 0 rfl;obtain ⟨c4_,c5_,c6_,c7_⟩:=lyz4 Ly HOF 1 rfl;have hfw:=hfT;simp only [bu]
   repeat (gi_big_quiet_step (fail))
   refine wpQuietIn_nil ?_;exact rfl
  intro W8 hW;replace Ly:=lyb Ly hW;clear hW;simp only [bu];refine cA ?_;gi_wp2;refine bodyPost_ret (v:=.bool false) (by simp [results,Tryz.results89,go_sem]) rfl ?_;exact ⟨rfl,Ly.out.1⟩
end Go.Proofs.YthofngceiecniaaGreat
namespace Go.Proofs.YthofngceiecniaaGreat
open Go.RowKit
theorem i4 {α:Type}{P:Prop}[Decidable P]{a:α}:(if P then some a else none).isSome=decide P:=by
 by_cases h:P
 ·rw [if_pos h,decide_eq_true h];rfl
 ·rw [if_neg h,decide_eq_false h];rfl
theorem done1 (m:Mix)(s:Held)(fr to dr:Int):gc m s ⟨1,fr,to,dr⟩=(cS m s ⟨1,fr,to,dr⟩).isSome:=by
 unfold gc gu lD cS;dsimp only;rw [if_pos rfl,i4,← Bool.decide_and,decide_eq_decide]
theorem done2 (m:Mix)(s:Held)(fr to dr:Int):fe m s ⟨2,fr,to,dr⟩=(cS m s ⟨2,fr,to,dr⟩).isSome:=by
 unfold fe gT lS gu lD cS;dsimp only;rw [if_neg (by decide),if_pos rfl];by_cases h:idxV m.vessels fr<0
 ·rw [if_pos h]
  simp;intro _ h0;omega
 ·rw [if_neg h,i4,← decide_not,← Bool.decide_and,← Bool.decide_and,decide_eq_decide]
  constructor
  ·rintro ⟨h1,⟨h2,h3⟩,h4,h5,h6⟩;exact ⟨h1,h3,h4,h6⟩
  ·rintro ⟨h1,h2,h3,h4⟩;exact ⟨h1,⟨by omega,h2⟩,h3,by omega,h4⟩
theorem done3 (m:Mix)(s:Held)(fr to dr:Int):fY m s ⟨3,fr,to,dr⟩=(cS m s ⟨3,fr,to,dr⟩).isSome:=by
 unfold fY gT lS cS;dsimp only;rw [if_neg (show ¬ (3:Int)=1 by decide),if_neg (show ¬ (3:Int)=2 by decide),if_pos (show (3:Int)=3 from rfl)];by_cases h:idxV m.vessels fr<0
 ·rw [if_pos h]
  simp;intro _ h0;omega
 ·rw [if_neg h,i4,← Bool.decide_and,decide_eq_decide]
  constructor
  ·rintro ⟨h1,h2,h3⟩;exact ⟨h1,h3⟩
  ·rintro ⟨h1,h2⟩;exact ⟨h1,by omega,h2⟩
theorem done4 (m:Mix)(s:Held)(fr to dr:Int):gr m s ⟨4,fr,to,dr⟩=(cS m s ⟨4,fr,to,dr⟩).isSome:=by
 unfold gr cS;dsimp only;rw [if_neg (show ¬ (4:Int)=1 by decide),if_neg (show ¬ (4:Int)=2 by decide),if_neg (show ¬ (4:Int)=3 by decide),if_pos (show (4:Int)=4 from rfl)];by_cases h:idxV m.vessels fr<0
 ·rw [if_pos h]
  simp;intro _ _;omega
 ·rw [if_neg h,i4,← Bool.decide_and,decide_eq_decide]
  constructor
  ·rintro ⟨h1,h2⟩;exact h1
  ·intro h1;exact ⟨h1,by omega⟩
theorem rP {m:Mix}{s:Held}{x:MAct}(h:¬ gj x):(cS m s x).isSome=false:=by
 unfold gj at h;unfold cS;rw [if_neg (by omega),if_neg (show ¬ x.kind=2 by omega),if_neg (show ¬ x.kind=3 by omega),if_neg (show ¬ x.kind=4 by omega)]
 split<;>rfl
theorem eB {m:Mix}{s:Held}{x:MAct}(hv:m.vessels.length≤4)(hz:ec m)(hs:s.length=4∧∀ q:Nat,0≤au s q∧au s q≤1000)(h:(cS m s x).isSome=true) :
  0≤cZ m s x∧cZ m s x≤2000∧(x.kind=4→0≤cp m x)∧(cp m x≠toI m x∨cp m x<0):=by
 obtain ⟨s',hd⟩:=Option.isSome_iff_exists.1 h;obtain ⟨hok,_⟩:=i9 hd hs.1 hv
 have hap:cp m x≠toI m x∨cp m x<0:=by
  unfold cp toI;by_cases e1:x.kind=1
  ·right;rw [if_pos e1];decide
  ·by_cases e2:x.kind=2
   ·left
    have:=hok.apart e2;simp only [e2];simpa using this
   ·left
    have:=hok.from_ e1;rw [if_neg e1,if_neg (by omega)];omega
 have hh:∀ j:Int,0≤au s j∧au s j≤1000:=fun j=>by rw [og];exact hs.2 _
 refine ⟨?_,?_,fun e4=>by unfold cp;rw [if_neg (by omega)];exact hok.from_ (by omega),hap⟩
 ·unfold cZ
  split
  ·exact (hh _).1
  ·rename_i e4
   have:=hok.size;have:=hok.kind;omega
 ·unfold cZ
  split
  ·have:=(hh (cp m x)).2;omega
  ·rename_i e4
   by_cases e1:x.kind=1
   ·unfold cS at hd
    rw [if_pos e1] at hd
    split at hd
    ·rename_i hc
     obtain ⟨_,h0,_,h2⟩:=hc;have h3:=(hh (idxV m.vessels x.to)).1
     have h4:eG m.vessels (idxV m.vessels x.to)≤12:=by
      unfold eG;have hlt:=df h0;rw [List.getElem?_eq_getElem (by omega)];exact (hz _ (List.getElem_mem _)).2
     omega
    ·cases hd
   ·have:=hok.size.2 (by have:=hok.kind;omega)
    have:=(hh (idxV m.vessels x.fr)).2;omega
theorem jP {s:Held}(hs:s.length=4∧∀ q:Nat,0≤au s q∧au s q≤1000):s.length=4∧qM s 2000:=⟨hs.1,fun q=>by have:=hs.2 q;omega⟩
theorem tC (B:Nat)(T:Tb)(k:Nat)(x:MAct)(s:Held)(w:World)(h:eu w B T)(hx:T.m.acts[k]? =some x)(ha:T.L[k]? =some s)(hn:T.nl≤12)(hz:ec T.m)(hs:s.length=4∧∀ q:Nat,0≤au s q∧au s q≤1000) :
  CallsIn Fence.wide 9 Tryz.prog 89 #[.pointer (some ⟨T.g,0,none⟩),.int .i64 k] w (sk w B T (cS T.m s x).isSome (cE s (cp T.m x) (toI T.m x) (cZ T.m s x))):=by
 have hv:T.m.vessels.length≤4:=by have:=h.mix.lenV;have:=h.small;omega
 by_cases hk:gj x
 ·obtain ⟨kk,fr,to,dr⟩:=x
  have hk':=hk;rcases hk' with e | e | e | e<;>dsimp only at e<;>subst e
  ·refine iU B T k ⟨1,fr,to,dr⟩ s 144 (.func (.func 146) #[] #[]) (.func (.func 147) #[] #[]) _ w h hx ha hn hk (fun _=>by kernel_rfl) lf (fun _=>by kernel_rfl) (fun W hW=>?_) (jP hs) (fun hr=>eB hv hz hs hr)
   rw [← done1];exact rt T s _ W (h.at_.below hW) hs.2 hz
  ·refine iU B T k ⟨2,fr,to,dr⟩ s 148 (.func (.func 150) #[] #[]) (.func (.func 147) #[] #[]) _ w h hx ha hn hk (fun _=>by kernel_rfl) kT (fun _=>by kernel_rfl) (fun W hW=>?_) (jP hs) (fun hr=>eB hv hz hs hr)
   rw [← done2];exact rp T s _ W (h.at_.below hW) hs.2 hz
  ·refine iU B T k ⟨3,fr,to,dr⟩ s 151 (.func (.func 150) #[] #[]) (.func (.func 146) #[] #[]) _ w h hx ha hn hk (fun _=>by kernel_rfl) k6 (fun _=>by kernel_rfl) (fun W hW=>?_) (jP hs) (fun hr=>eB hv hz hs hr)
   rw [← done3];exact rT T s _ W (h.at_.below hW) hs.2 hz
  ·refine iU B T k ⟨4,fr,to,dr⟩ s 152 (.func (.func 150) #[] #[]) (.func (.func 146) #[] #[]) _ w h hx ha hn hk (fun _=>by kernel_rfl) kX (fun _=>by kernel_rfl) (fun W hW=>?_) (jP hs) (fun hr=>eB hv hz hs hr)
   rw [← done4];exact qY T s _ W (h.at_.below hW) hs.2 hz
 ·rw [rP hk]
  exact (sP B T k x s w h hx ha hk).mono fun e w' ⟨h1,h2⟩=>.inl ⟨rfl,h1,h2⟩
theorem sj {l:List Int}{k:Nat}{x:Int}(hx:l[k]? =some x)(h:risB 0 (l.take k)=true):risB 0 (l.take (k+1))=inB ((l.take k).getLast?.getD 0+1) 9999 [x]:=by
 obtain ⟨hk,rfl⟩:=g_E hx;rw [List.take_succ_eq_append_getElem hk,jl,h,Bool.true_and,dT]
theorem mq:∀ {a:Int} {l:List Int} {k:Nat},risB a l=true→risB a (l.take k)=true
 | _,[],_,_=>by simp [risB]
 | _,_::_,0,_=>rfl
 | a,x::l,k+1,h=>by
  unfold risB at h;rw [Bool.and_eq_true] at h
  show risB a (x::l.take k)=true
  unfold risB;rw [Bool.and_eq_true];exact ⟨h.1,mq h.2⟩
theorem j1 {l:List Int}(h:risB 0 l=true):0≤l.getLast?.getD 0∧l.getLast?.getD 0≤9999:=by
 cases hl:l.getLast? with
 | none=>simp
 | some x =>
  have:=(fh h).2 x (List.mem_of_getLast? hl);simp;omega
theorem kF (A:Option Addr)(n c:Nat)(l:List Int)(w:World)(hr:cr w w.heap.size A n l)(hn:n≤1000) :
  Calls Tryz.prog 88 #[.slice A n c] w fun e w'=>e = .returned (.bool (risB 0 l))∧Below w.heap.size w w':=by
 have HR:=lh hr
 go_enter Tryz.func88,Tryz.ntmps88
 go_wp2_with fail
 go_loopw [3,5,8] (fun p q i wr=>∃ k:Nat,k≤n∧i = .int .i64 k∧p = .int .i64 ((l.take k).getLast?.getD 0)∧Hid (risB 0 (l.take k)=true∧Below w.heap.size w wr))
  (fun _ _ i _=>n - (intOf i).toNat)
 case atStart=>exact ⟨0,by omega,rfl,rfl,lh ⟨rfl,b_R⟩⟩
 case round =>
  obtain ⟨k,hk,rfl,rfl,HS⟩:=hrel;obtain ⟨hl0,hl1⟩:=j1 HS.out.1
  obtain ⟨p,hp⟩:∃ p,(l.take k).getLast?.getD 0=p:=⟨_,rfl⟩
  rw [hp] at hl0 hl1 ⊢;by_cases hlt:k<n
  ·obtain ⟨b,off,x,rfl,hbB,hx,hc⟩:=(HR.out.below HS.out.2).cell hlt
   have HX:=lh hx;have HP:=lh hp;clear hx hp hr
   go_wp2_with fail
   have hb1:Below wr.heap.size wr (wr.alloc (.cells #[.int .i64 x] 3)):=b_R.alloc n_R _;refine (ez (p+1) 9999 (some ⟨wr.heap.size,0,none⟩) 1 1 [x] _ (cr.new wr 3 [x] _ (by simp)) (by decide)).mono ?_;rintro e W ⟨rfl,hb2⟩;have HB:=lh (HS.out.2.trans ((hb1.trans (hb2.mono hb1.size)).mono HS.out.2.size));have HRS:=lh (sj HX.out HS.out.1);rw [HP.out] at HRS;clear hb1 hb2
   cases hi:inB (p+1) 9999 [x] with
   | false =>
    rw [hi] at HRS;clear hi
    go_wp2_with fail
    go_ret
    refine ⟨cU ?_,HB.out⟩
    cases h0:risB 0 l with
    | false=>rfl
    | true=>exact absurd ((mq (k:=k+1) h0).symm.trans HRS.out) (by decide)
   | true =>
    rw [hi] at HRS;clear hi
    go_wp2_with fail
    go_roundw
    case rel =>
     refine ⟨k+1,by omega,by go_num,?_,lh ⟨HRS.out,HB.out⟩⟩;obtain ⟨hk2,rfl⟩:=g_E HX.out;rw [List.take_succ_eq_append_getElem hk2,List.getLast?_concat];rfl
    case measure=>simp [intOf];omega
  ·go_wp2_with fail
   go_ret
   have hl:=HR.out.len;have h1:=HS.out.1;rw [List.take_of_length_le (by omega)] at h1;exact ⟨cU h1.symm,HS.out.2⟩
end Go.Proofs.YthofngceiecniaaGreat
namespace Go.Proofs.YthofngceiecniaaGreat
open Go.RowKit
theorem Lay.row {w W W':World}{bs:List (Nat × TypeId × Array Value)}(h:Lay w W bs){row:Option Nat}(hg:W.grownBy W' row)(hr:∀ r,row=some r→w.heap.size≤r∧∀ b∈bs,b.1≠r):Lay w W' bs :=
 ⟨h.1.grown hg h.1.size (fun k hk=>(hr k hk).1),fun b hb=>⟨(h.2 b hb).1,(h.2 b hb).2.grown hg (fun e=>(hr _ e.symm).2 b hb rfl)⟩⟩
theorem dB {w:World}{base n cap size:Nat}{e:TypeId}{A:Option Addr}{xs:List Value}(h:Own w base e size A n cap xs):∀ r,A.map (·.block)=some r→base≤r∧r<w.heap.size:=by
 intro r hr
 cases hA:A with
 | none=>rw [hA] at hr;cases hr
 | some a=>rw [hA] at hr;cases hr;exact h.lt hA
theorem jY {w W W':World}{t0 t1 t2:TypeId}{c0 c1 c2:Array Value}(h:Lay w W [(w.heap.size,t0,c0),(w.heap.size+1,t1,c1),(w.heap.size+1+1,t2,c2)]){row:Option Nat}(hg:W.grownBy W' row)(hr:∀ r,row=some r→w.heap.size+3≤r):Lay w W' [(w.heap.size,t0,c0),(w.heap.size+1,t1,c1),(w.heap.size+1+1,t2,c2)] :=
 h.row hg fun r e=>⟨by have:=hr r e;omega,fun b hb=>by
  have:=hr r e;simp only [List.mem_cons,List.not_mem_nil,or_false] at hb
  rcases hb with rfl | rfl | rfl<;>dsimp only<;>omega⟩
theorem mR {W:World}{g:Nat}{x:Int}{B:Nat}(hB:g<B)(h:W.cell? ⟨g,0,none⟩=some (.int .i64 x)):cB W B 1 (some ⟨g,0,none⟩) 1 ([x].map (Value.int .i64)) :=
 ⟨rfl,fun _=>⟨_,rfl,hB,fun j u hu=>by
  match j,hu with
  | 0,hu=>simp at hu;rw [← hu];simpa [Addr.add] using h⟩⟩
theorem dM {w:World}{base n cap B:Nat}{e:TypeId}{A:Option Addr}{l:List Int}(h:Own w base e 1 A n cap (l.map (Value.int .i64)))(hB:w.heap.size≤B):cr w B A n l:=h.reads hB
theorem sa (v:Vess):inB 1 12 [v.size]=gw v:=by rw [dT];rfl
theorem iO {α:Type}{p:α→Bool}{l:List α}{k:Nat}{x:α}(hx:l[k]? =some x)(h:(l.take k).all p=true):(l.take (k+1)).all p=p x:=by
 obtain ⟨hk,rfl⟩:=g_E hx;rw [List.take_succ_eq_append_getElem hk,List.all_append,h];simp
theorem po {α:Type}{p:α→Bool}{l:List α}{k:Nat}(h:l.all p=true):(l.take k).all p=true:=by
 rw [List.all_eq_true] at h ⊢;exact fun x hx=>h x (List.mem_of_mem_take hx)
theorem ib {m:Mix}{l:List MAct}{k:Nat}{x:MAct}{L:List Held}{s:Held}(hx:l[k]? =some x)(h:allM m (l.take k)=some L)(hs:L[k]? =some s):allM m (l.take (k+1))=(cS m s x).map fun s'=>L++[s']:=by
 obtain ⟨hk,rfl⟩:=g_E hx;rw [List.take_succ_eq_append_getElem hk,jh,h];unfold gL;simp only [Option.bind_some];have hl:=dC m _ L h;rw [List.length_take,Nat.min_eq_left (Nat.le_of_lt hk)] at hl
 have:L.getLast?.getD []=s:=by
  rw [List.getLast?_eq_getElem?,hl,Nat.add_sub_cancel,hs];rfl
 rw [this]
theorem lr {m:Mix}:∀ {l:List MAct} {k:Nat},allM m (l.take k)=none→allM m l=none:=by
 intro l k h;have e:l=l.take k++l.drop k:=(List.take_append_drop k l).symm;unfold allM at h ⊢;rw [e,List.foldl_append,h,iF]
theorem iH {m:Mix}{s s':Held}{x:MAct}(hv:m.vessels.length≤4)(hz:ec m)(hs:s.length=4)(hb:∀ q:Nat,0≤au s q∧au s q≤12)(h:cS m s x=some s'):s'.length=4∧∀ q:Nat,0≤au s' q∧au s' q≤12:=by
 obtain ⟨hok,e⟩:=i9 h hs hv;have hl:s'.length=4:=by rw [e,pP];exact hs
 refine ⟨hl,fun q=>?_⟩;by_cases hq:q<4
 ·rw [e,ly hv x hs _ hq]
  have hbq:=hb q;have hap:=(eB hv hz ⟨hs,fun q=>by have:=hb q;omega⟩ (by rw [h];rfl)).2.2.2;have h0:=(eB hv hz ⟨hs,fun q=>by have:=hb q;omega⟩ (by rw [h];rfl)).1
  have hto:toI m x=(q:Int)→au s q+cZ m s x≤12:=by
   intro ht
   have hsz:∀ id:Int,0≤idxV m.vessels id→eG m.vessels (idxV m.vessels id)≤12:=by
    intro id h0;unfold eG;have hlt:=df h0;rw [List.getElem?_eq_getElem (by omega)];exact (hz _ (List.getElem_mem _)).2
   unfold toI at ht;by_cases e1:x.kind=1
   ·rw [if_pos (.inl e1)] at ht
    unfold cS at h;rw [if_pos e1] at h
    split at h
    ·rename_i hc
     obtain ⟨_,c0,_,c2⟩:=hc;have:=hsz _ c0;rw [ht] at c2 this;unfold cZ;rw [if_neg (by omega)];omega
    ·cases h
   ·by_cases e2:x.kind=2
    ·rw [if_pos (.inr e2)] at ht
     unfold cS at h;rw [if_neg e1] at h;rw [if_neg (show ¬ idxV m.vessels x.fr<0 from fun hlt=>by have:=hok.from_ e1;omega),if_pos e2] at h
     ·split at h
      ·rename_i hc
       obtain ⟨_,_,c0,c2⟩:=hc;have:=hsz _ c0;rw [ht] at c2 this;unfold cZ;rw [if_neg (by omega)];omega
      ·cases h
    ·rw [if_neg (by omega)] at ht
     omega
  have hfr:cp m x=(q:Int)→cZ m s x≤au s q:=by
   intro hf;unfold cZ
   split
   ·rw [hf];exact Int.le_refl _
   ·rename_i e4
    have e1:x.kind≠1:=fun e1=>by unfold cp at hf;rw [if_pos e1] at hf;omega
    unfold cp at hf;rw [if_neg e1] at hf;rw [← hf];exact (hok.size.2 (by have:=hok.kind;omega)).2
  by_cases p1:toI m x=(q:Int)<;>by_cases p2:cp m x=(q:Int)
  ·rw [if_pos p1,if_pos p2];omega
  ·have:=hto p1;rw [if_pos p1,if_neg p2];omega
  ·have:=hfr p2;rw [if_neg p1,if_pos p2];omega
  ·rw [if_neg p1,if_neg p2];omega
 ·unfold au
  rw [List.getElem?_eq_none (by omega)]
  decide
theorem ke {m:Mix}(h:m.vessels.all gw=true):ec m:=by
 intro v hv;exact of_decide_eq_true (List.all_eq_true.1 h v hv)
def dW (w:World)(Av:Option Addr)(nv cv:Nat)(Aa:Option Addr)(na ca:Nat)(At:Option Addr)(nt ct:Nat)(m:Mix)(e:Ending)(w':World):Prop :=
 ∃ p,e = .returned (.tuple #[.pointer p,.bool (cu m)])∧Below w.heap.size w w'∧(cu m=true→∃ g AA nl cl L,p=some ⟨g,0,none⟩∧w.heap.size≤g∧allM m m.acts=some L∧eu w' w.heap.size ⟨g,Av,nv,cv,Aa,na,ca,At,nt,ct,AA,nl,cl,m,L⟩)
theorem dW.bad {w w':World}{Av Aa At:Option Addr}{nv cv na ca nt ct:Nat}{m:Mix}(h:cu m=false)(hb:Below w.heap.size w w'):dW w Av nv cv Aa na ca At nt ct m (.returned (.tuple #[.pointer none,.bool false])) w' :=
 ⟨none,by rw [h],hb,fun h'=>by rw [h] at h';cases h'⟩
theorem jU {m:Mix}(h:¬ ((1≤m.fountains∧m.fountains≤4)∧m.vessels.length≤4∧m.acts.length≤12∧m.tastes.length≤8)):cu m=false:=by
 unfold cu;by_cases h1:1≤m.fountains∧m.fountains≤4
 ·have:¬ (m.vessels.length≤4∧m.acts.length≤12∧m.tastes.length≤8):=fun h2=>h ⟨h1,h2⟩
  rw [decide_eq_false this];simp
 ·rw [decide_eq_false h1]
  simp
theorem nd {m:Mix}(h:m.vessels.all gw=false):cu m=false:=by unfold cu;rw [h];simp
theorem eL {m:Mix}(h:m.tastes.all (dz m)=false):cu m=false:=by unfold cu;rw [h];simp
theorem nr {m:Mix}(h:allM m m.acts=none):cu m=false:=by unfold cu;rw [h];simp
theorem my {m:Mix}{L:List Held}(h1:(1≤m.fountains∧m.fountains≤4)∧m.vessels.length≤4∧m.acts.length≤12∧m.tastes.length≤8)(h2:m.vessels.all gw=true)(h3:m.tastes.all (dz m)=true)(h4:allM m m.acts=some L) :
  cu m=(risB 0 (m.vessels.map (·.id)) && risB 0 (m.tastes.map (·.num))):=by
 unfold cu;rw [decide_eq_true h1.1,decide_eq_true h1.2,h2,h3,h4];rfl
end Go.Proofs.YthofngceiecniaaGreat
