/- Part 1 of the texts of this claim, joined. -/
import Derived.Test.YthofngceiecniaaGreatRows
import Derived.WalkKit
import Derived.ProofKit
import Derived.Below
import Derived.Laws.OwnMore
import Derived.Deep.AppendLies
import Derived.Deep.Draws
import Derived.Laws.Rows
import Derived.Deep.QuietTactic
import Derived.BigQuiet
import Derived.Lib.Hide
import Derived.Outline
import Derived.WalkLawsBesides
import Derived.WalkSpells
import Derived.RangeFuncNested
import Derived.RangeFuncBound
import Derived.RangeFuncCalls
import Derived.RangeFuncLeaves
import Derived.Shelf.Abstract
import Derived.Shelf.RegionOpen
import Derived.OwnWalkIn
import Derived.TacticsInMore
import Derived.LoopNIn
import Derived.LoopIn
import Derived.Sort.BigQuietIn
import Derived.StillTail
set_option linter.unusedVariables false
/- Words for memory: a slice that reads as a list, nil let in; frames behind draws. -/
namespace Go.Proofs.YthofngceiecniaaGreat
set_option maxHeartbeats 1000000
section
open Go.RowKit
theorem dE {k:IntKind}{a b:Int}(h:a=b):Ending.returned (.int k a) = .returned (.int k b):=by rw [h]
theorem cU {a b:Bool}(h:a=b):Ending.returned (.bool a) = .returned (.bool b):=by rw [h]
theorem dN (a:Addr)(n:Nat):(a.add n).block=a.block:=by unfold Addr.add;split<;>rfl
theorem av {B:Nat}{a w:World}(h:Below B a w)(n:Nat):Below B a (w.drewN n):=⟨h.os,h.tape,h.output,h.size,h.block⟩
def cB (w:World)(B size:Nat)(A:Option Addr)(n:Nat)(xs:List Value):Prop :=
 xs.length=n * size∧(0<n→∃ ad,A=some ad∧ad.block<B∧∀ j u,xs[j]? =some u→w.cell? (ad.add j)=some u)
section
variable {w w':World} {B B' size n:Nat} {A:Option Addr} {xs:List Value}
theorem cB.none_:cB w B size A 0 []:=⟨by simp,fun h=>absurd h (by omega)⟩
theorem cB.plain (h:cB w B size A n xs)(hx:0<xs.length):∃ b off,A=some ⟨b,off,none⟩∧b<B∧∀ j u,xs[j]? =some u→w.cell? ⟨b,off+j,none⟩=some u:=by
 have hn:0<n:=by
  rcases Nat.eq_zero_or_pos n with h0 | h0
  ·have:=h.1;rw [h0] at this;omega
  ·exact h0
 obtain ⟨ad,e,hb,hc⟩:=h.2 hn;obtain ⟨b,off,spot⟩:=ad;have h0:=hc 0 _ (List.getElem?_eq_getElem hx)
 have hs:spot=none:=by
  cases spot with
  | none=>rfl
  | some s=>simp [Addr.add,World.cell?] at h0;split at h0<;>simp at h0
 subst hs;refine ⟨b,off,e,hb,fun j u hu=>?_⟩;have:=hc j u hu;unfold Addr.add at this;by_cases hj:j=0
 ·subst hj;simpa using this
 ·simpa [hj] using this
theorem cB.keep (h:cB w B size A n xs)(hk:∀ p:Addr,p.block<B→w'.cell? p=w.cell? p):cB w' B size A n xs :=
 ⟨h.1,fun hn=>by
  obtain ⟨ad,e,hb,hc⟩:=h.2 hn
  exact ⟨ad,e,hb,fun j u hu=>(hk _ (by rw [dN];exact hb)).trans (hc j u hu)⟩⟩
theorem cB.more (h:cB w B size A n xs)(hB:B≤B'):cB w B' size A n xs :=
 ⟨h.1,fun hn=>by
  obtain ⟨ad,e,hb,hc⟩:=h.2 hn
  exact ⟨ad,e,by omega,hc⟩⟩
theorem cB.below (h:cB w B size A n xs)(hb:Below B w w'):cB w' B size A n xs:=h.keep fun _ hp=>hb.cell hp
theorem cB.drewN (h:cB w B size A n xs)(k:Nat):cB (w.drewN k) B size A n xs:=h
theorem cB.alloc (h:cB w B size A n xs)(hB:B≤w.heap.size)(o:Obj):cB (w.alloc o) B size A n xs:=h.keep fun p hp=>World.cell?_alloc_lt w o p (by omega)
theorem cB.setCell (h:cB w B size A n xs){p:Addr}(hB:B≤p.block)(u:Value):cB (w.setCell p u) B size A n xs :=
 h.keep fun q hq=>World.cell?_setCell_other w p q u (fun e=>by subst e;omega)
end
def Blk (w:World)(g:Nat)(t:TypeId)(cs:Array Value):Prop:=w.heap[g]? =some (.cells cs t (0,0))
section
variable {w w':World} {g:Nat} {t:TypeId} {cs:Array Value}
theorem Blk.lt (h:Blk w g t cs):g<w.heap.size:=by
 rcases Nat.lt_or_ge g w.heap.size with hlt | hge
 ·exact hlt
 ·unfold Blk at h;rw [Array.getElem?_eq_none hge] at h;cases h
theorem Blk.cell (h:Blk w g t cs)(i:Nat):w.cell? ⟨g,i,none⟩=cs[i]? :=cell_of_row w g i cs t (0,0) h
theorem Blk.frozen (h:Blk w g t cs)(i:Nat):w.frozen? ⟨g,i,none⟩=false:=by
 unfold Blk at h;simp [World.frozen?,h]
theorem Blk.new (w:World)(t:TypeId)(cs:Array Value):Blk (w.alloc (.cells cs t)) w.heap.size t cs:=heap_alloc_new w _
theorem Blk.drewN (h:Blk w g t cs)(n:Nat):Blk (w.drewN n) g t cs:=h
theorem Blk.alloc (h:Blk w g t cs)(o:Obj):Blk (w.alloc o) g t cs:=(Below.heap_alloc w o g h.lt).trans h
theorem Blk.set_ (h:Blk w g t cs)(i:Nat)(u:Value):Blk (w.setCell ⟨g,i,none⟩ u) g t (cs.setIfInBounds i u):=by
 unfold Blk at h ⊢;simp [World.setCell,Array.getElem?_modify,h]
theorem Blk.far (h:Blk w g t cs){p:Addr}(hp:g≠p.block)(u:Value):Blk (w.setCell p u) g t cs:=(Below.heap_setCell w p u g hp).trans h
theorem Blk.below {B:Nat}(h:Blk w g t cs)(hb:Below B w w')(hg:g<B):Blk w' g t cs:=(hb.block g hg).trans h
theorem Blk.grown {row:Option Nat}(h:Blk w g t cs)(hb:w.grownBy w' row)(hg:some g≠row):Blk w' g t cs:=(hb.block g h.lt hg).trans h
end
def cr (w:World)(B:Nat)(A:Option Addr)(n:Nat)(l:List Int):Prop:=cB w B 1 A n (l.map (Value.int .i64))
section
variable {w w':World} {B B' n:Nat} {A:Option Addr} {l:List Int}
theorem cr.len (h:cr w B A n l):l.length=n:=by have:=h.1;simpa using this
theorem cr.cell (h:cr w B A n l){k:Nat}(hk:k<n):∃ b off x,A=some ⟨b,off,none⟩∧b<B∧l[k]? =some x∧w.cell? ⟨b,off+k,none⟩=some (.int .i64 x):=by
 have hl:=h.len;obtain ⟨b,off,e,hb,hc⟩:=cB.plain h (by simp;omega);have hx:l[k]? =some l[k]:=List.getElem?_eq_getElem (by omega);exact ⟨b,off,_,e,hb,hx,hc k _ (by rw [List.getElem?_map,hx];rfl)⟩
theorem cr.below (h:cr w B A n l)(hb:Below B w w'):cr w' B A n l:=cB.below h hb
theorem cr.more (h:cr w B A n l)(hB:B≤B'):cr w B' A n l:=cB.more h hB
end
theorem cr.new (w:World)(t:TypeId)(l:List Int)(B:Nat)(hB:w.heap.size<B):cr (w.alloc (.cells (l.map (Value.int .i64)).toArray t)) B (some ⟨w.heap.size,0,none⟩) l.length l:=by
 refine ⟨by simp,fun _=>⟨_,rfl,hB,fun j u hu=>?_⟩⟩
 have ha:((⟨w.heap.size,0,none⟩:Addr).add j)=⟨w.heap.size,j,none⟩:=by
  unfold Addr.add;by_cases hj:j=0
  ·simp [hj]
  ·simp [hj]
 rw [ha,cell_of_row _ _ _ _ _ _ (heap_alloc_new w _)];simpa using hu
def idx (p:Int→Bool)(l:List Int):Int:=if l.any p then (l.findIdx p:Int) else -1
theorem nV {p:Int→Bool}{l:List Int}(h:∀ y∈l,p y=false):idx p l = -1:=by
 unfold idx;rw [if_neg];simp only [List.any_eq_true,not_exists,not_and,Bool.not_eq_true];exact h
theorem n7 {p:Int→Bool}{l:List Int}{k:Nat}{x:Int}(hx:l[k]? =some x)(hp:p x=true)(h:∀ y∈l.take k,p y=false):idx p l=k:=by
 obtain ⟨hk,rfl⟩:=List.getElem?_eq_some_iff.1 hx
 have hf:l.findIdx p=k:=by
  rw [List.findIdx_eq hk];refine ⟨hp,fun j hj=>?_⟩
  have:=h (l[j]'(by omega)) (by
   rw [List.mem_take_iff_getElem]
   exact ⟨j,by omega,rfl⟩)
  simp [this]
 unfold idx;rw [if_pos (List.any_eq_true.2 ⟨_,List.getElem_mem hk,hp⟩),hf]
theorem rv {p:Int→Bool}{l:List Int}:decide (0≤idx p l)=l.any p:=by
 unfold idx;cases h:l.any p<;>simp
theorem tv (p:Int→Bool)(l:List Int) : -1≤idx p l∧idx p l≤l.length:=by
 unfold idx;have:=List.findIdx_le_length (p:=p) (xs:=l)
 split<;>omega
theorem ew {α:Type}{p:α→Bool}{l:List α}{k:Nat}{x:α}(hx:l[k]? =some x)(hp:p x=false)(h:∀ y∈l.take k,p y=false):∀ y∈l.take (k+1),p y=false:=by
 intro y hy;obtain ⟨hk,rfl⟩:=List.getElem?_eq_some_iff.1 hx;rw [List.take_succ_eq_append_getElem hk,List.mem_append] at hy;rcases hy with hy | hy
 ·exact h y hy
 ·simp at hy;rw [hy];exact hp
theorem fN {α:Type}{l:List α}{k:Nat}{x:α}(hx:l[k]? =some x):x∈l:=by
 obtain ⟨hk,rfl⟩:=List.getElem?_eq_some_iff.1 hx;exact List.getElem_mem hk
end
section
open Go.RowKit
theorem j0 {α:Type}{vals:α→List Value}{k:Nat}(hk:∀ x,(vals x).length=k)(l:List α):(l.flatMap vals).length=l.length * k:=by
 induction l with
 | nil=>simp
 | cons x l ih=>rw [List.flatMap_cons,List.length_append,ih,hk,List.length_cons,Nat.succ_mul,Nat.add_comm]
theorem nJ {α:Type}{vals:α→List Value}{k:Nat}(hk:∀ x,(vals x).length=k):∀ (l:List α) {i j:Nat} {x:α},l[i]? =some x→j<k→(l.flatMap vals)[i * k+j]? =(vals x)[j]?
 | [],i,j,x,h,_=>by simp at h
 | y::l,0,j,x,h,hj=>by
  simp at h;subst h;rw [List.flatMap_cons,Nat.zero_mul,Nat.zero_add,List.getElem?_append_left (by rw [hk];exact hj)]
 | y::l,i+1,j,x,h,hj=>by
  have h':l[i]? =some x:=by simpa using h
  rw [List.flatMap_cons,List.getElem?_append_right (by rw [hk,Nat.succ_mul];omega),hk,← nJ hk l h' hj]
  congr 1
  rw [Nat.succ_mul];omega
theorem dp {α:Type}{vals:α→List Value}{k:Nat}(hk:∀ x,(vals x).length=k)(h0:0<k){w:World}{B n:Nat}{A:Option Addr}{l:List α}(h:cB w B k A n (l.flatMap vals)){i:Nat}(hi:i<n) :
  ∃ b off x,A=some ⟨b,off,none⟩∧b<B∧l[i]? =some x∧∀ j u,(vals x)[j]? =some u→w.cell? ⟨b,off+i * k+j,none⟩=some u:=by
 have hl:l.length=n:=by
  have h1:=h.1;rw [j0 hk] at h1;exact Nat.eq_of_mul_eq_mul_right h0 h1
 obtain ⟨b,off,e,hb,hc⟩:=h.plain (by rw [j0 hk];exact Nat.mul_pos (by omega) h0);have hx:l[i]? =some l[i]:=List.getElem?_eq_getElem (by omega)
 refine ⟨b,off,l[i],e,hb,hx,fun j u hu=>by
  rw [Nat.add_assoc];refine hc (i * k+j) u ?_;rw [nJ hk l hx (by rw [← hk l[i]];exact (List.getElem?_eq_some_iff.1 hu).1)]
  exact hu⟩
theorem dY {α:Type}{vals:α→List Value}{k:Nat}(hk:∀ x,(vals x).length=k)(h0:0<k){w:World}{B n:Nat}{A:Option Addr}{l:List α}(h:cB w B k A n (l.flatMap vals)):l.length=n:=by
 have h1:=h.1;rw [j0 hk] at h1;exact Nat.eq_of_mul_eq_mul_right h0 h1
end
section
structure Vess where
 id:Int
 size:Int
 deriving DecidableEq
structure MAct where
 kind:Int
 fr:Int
 to:Int
 drops:Int
 deriving DecidableEq
structure Tast where
 num:Int
 vessel:Int
 after:Int
 fountain:Int
 lo:Int
 hi:Int
 deriving DecidableEq
structure Mix where
 fountains:Int
 vessels:List Vess
 acts:List MAct
 tastes:List Tast
 deriving DecidableEq
def dS:Mix:=⟨0,[],[],[]⟩
def idxV (l:List Vess)(id:Int):Int:=if l.any (fun v=>v.id==id) then (l.findIdx (fun v=>v.id==id):Int) else -1
def eG (l:List Vess)(i:Int):Int:=((l[i.toNat]?).map (·.size)).getD 0
abbrev Held:=List Int
def au (s:Held)(i:Int):Int:=(s[i.toNat]?).getD 0
def cS (m:Mix)(s:Held)(x:MAct):Option Held :=
 if x.kind=1 then (if (1≤x.fr∧x.fr≤m.fountains)∧0≤idxV m.vessels x.to∧1≤x.drops∧x.drops≤eG m.vessels (idxV m.vessels x.to) - au s (idxV m.vessels x.to) then
   some (s.set (idxV m.vessels x.to).toNat (au s (idxV m.vessels x.to)+x.drops)) else none)
 else if idxV m.vessels x.fr<0 then none
 else if x.kind=2 then (if x.fr≠x.to∧(1≤x.drops∧x.drops≤au s (idxV m.vessels x.fr))∧0≤idxV m.vessels x.to∧x.drops≤eG m.vessels (idxV m.vessels x.to) - au s (idxV m.vessels x.to) then
   some ((s.set (idxV m.vessels x.fr).toNat (au s (idxV m.vessels x.fr) - x.drops)).set (idxV m.vessels x.to).toNat (au s (idxV m.vessels x.to)+x.drops)) else none)
 else if x.kind=3 then (if x.to=0∧1≤x.drops∧x.drops≤au s (idxV m.vessels x.fr) then some (s.set (idxV m.vessels x.fr).toNat (au s (idxV m.vessels x.fr) - x.drops)) else none)
 else if x.kind=4 then (if x.to=0∧x.drops=0 then some (s.set (idxV m.vessels x.fr).toNat 0) else none)
 else none
def gL (m:Mix)(o:Option (List Held))(x:MAct):Option (List Held):=o.bind fun out=>(cS m (out.getLast?.getD []) x).map fun s=>out++[s]
def allM (m:Mix)(l:List MAct):Option (List Held):=l.foldl (gL m) (some [[0,0,0,0]])
theorem iF (m:Mix):∀ l:List MAct,l.foldl (gL m) none=none
 | []=>rfl
 | x::l=>iF m l
theorem jh (m:Mix)(l:List MAct)(x:MAct):allM m (l++[x])=gL m (allM m l) x:=by unfold allM;rw [List.foldl_append];rfl
theorem dC (m:Mix):∀ (l:List MAct) (out:List Held),allM m l=some out→out.length=l.length+1:=by
 intro l;unfold allM
 have key:∀ (l:List MAct) (b out:List Held),l.foldl (gL m) (some b)=some out→out.length=b.length+l.length:=by
  intro l
  induction l with
  | nil=>intro b out h;cases h;rfl
  | cons x l ih =>
   intro b out h;rw [List.foldl_cons] at h
   cases hd:cS m (b.getLast?.getD []) x with
   | none =>
    have:gL m (some b) x=none:=by unfold gL;simp [hd]
    rw [this,iF] at h;cases h
   | some s =>
    have:gL m (some b) x=some (b++[s]):=by unfold gL;simp [hd]
    rw [this] at h;have:=ih _ _ h;simp at this ⊢;omega
 intro out h;have:=key l [[0,0,0,0]] out h;simp at this;omega
def risB:Int→List Int→Bool
 | _,[]=>true
 | k,x::r=>decide (k+1≤x∧x≤9999) && risB x r
def gw (v:Vess):Bool:=decide (1≤v.size∧v.size≤12)
def dz (m:Mix)(x:Tast):Bool:=decide (0≤idxV m.vessels x.vessel∧(0≤x.after∧x.after≤m.acts.length)∧(1≤x.fountain∧x.fountain≤m.fountains)∧0≤x.lo∧x.lo≤x.hi)
def cu (m:Mix):Bool :=
 decide (1≤m.fountains∧m.fountains≤4) && decide (m.vessels.length≤4∧m.acts.length≤12∧m.tastes.length≤8) && m.vessels.all gw && m.tastes.all (dz m) && (allM m m.acts).isSome && risB 0 (m.vessels.map (·.id)) && risB 0 (m.tastes.map (·.num))
theorem jl:∀ (k:Int) (l:List Int) (x:Int),risB k (l++[x])=(risB k l && decide (l.getLast?.getD k+1≤x∧x≤9999))
 | k,[],x=>by simp only [List.nil_append,risB,Bool.and_true,Bool.true_and,List.getLast?_nil,Option.getD_none];exact decide_eq_decide.2 Iff.rfl
 | k,y::l,x=>by
  rw [List.cons_append,risB,jl y l x,risB,Bool.and_assoc]
  congr 2
  cases l with
  | nil=>rfl
  | cons z l=>simp [List.getLast?_cons]
theorem fh:∀ {k:Int} {l:List Int},risB k l=true→l.Pairwise (·<·)∧∀ x∈l,k<x∧x≤9999
 | k,[],_=>⟨List.Pairwise.nil,fun x h=>by cases h⟩
 | k,y::l,h=>by
  unfold risB at h;rw [Bool.and_eq_true] at h;have h1:=of_decide_eq_true h.1;obtain ⟨h2,h3⟩:=fh h.2;refine ⟨List.Pairwise.cons (fun x hx=>(h3 x hx).1) h2,fun x hx=>?_⟩;rcases List.mem_cons.1 hx with rfl | hx
  ·omega
  ·have:=h3 x hx
   omega
theorem pG:∀ {k:Int} {l:List Int},l.Pairwise (·<·)→(∀ x∈l,k<x∧x≤9999)→risB k l=true
 | k,[],_,_=>rfl
 | k,y::l,h,hk=>by
  unfold risB;have h':=List.pairwise_cons.1 h;have hy:=hk y (by simp);rw [Bool.and_eq_true];exact ⟨decide_eq_true (by omega),pG h'.2 (fun x hx=>⟨h'.1 x hx,(hk x (by simp [hx])).2⟩)⟩
def fo (m:Mix)(l:List Tast):Mix:={ m with tastes:=l }
theorem j9:∀ {l l':List Int},l.Pairwise (·<·)→l'.Pairwise (·<·)→(∀ x,x∈l↔x∈l')→l=l'
 | [],[],_,_,_=>rfl
 | [],y::l',_,_,h=>by have:=(h y).2 (by simp);cases this
 | x::l,[],_,_,h=>by have:=(h x).1 (by simp);cases this
 | x::l,y::l',h1,h2,h=>by
  have p1:=List.pairwise_cons.1 h1;have p2:=List.pairwise_cons.1 h2
  have exy:x=y:=by
   rcases List.mem_cons.1 ((h x).1 (by simp)) with e | e
   ·exact e
   ·rcases List.mem_cons.1 ((h y).2 (by simp)) with e' | e'
    ·exact e'.symm
    ·have:=p2.1 x e
     have:=p1.1 y e';omega
  subst exy
  rw [j9 p1.2 p2.2 (fun z=>⟨fun hz=>by
   rcases List.mem_cons.1 ((h z).1 (by simp [hz])) with e | e
   ·have:=p1.1 z hz;omega
   ·exact e,fun hz=>by
   rcases List.mem_cons.1 ((h z).2 (by simp [hz])) with e | e
   ·have:=p2.1 z hz;omega
   ·exact e⟩)]
def eK (l:List Tast)(ns:List Int):List Tast:=l.filter fun x=>!ns.contains x.num
theorem jS {m:Mix}(h:cu m=true):risB 0 (m.tastes.map (·.num))=true:=by
 unfold cu at h;rw [Bool.and_eq_true] at h;exact h.2
def ey (m:Mix)(l:List MAct):Mix:={ m with acts:=l }
def doM (m:Mix)(x:MAct):Mix × Int :=
 if cu m=true then (if m.acts.length=12 then (dS,9) else if cu (ey m (m.acts++[x]))=true then (ey m (m.acts++[x]),0) else (dS,41)) else (dS,40)
end
section
open Go.RowKit
def Vess.vals (v:Vess):List Value:=[.int .i64 v.id,.int .i64 v.size]
def MAct.vals (x:MAct):List Value:=[.int .i64 x.kind,.int .i64 x.fr,.int .i64 x.to,.int .i64 x.drops]
def Tast.vals (x:Tast):List Value:=[.int .i64 x.num,.int .i64 x.vessel,.int .i64 x.after,.int .i64 x.fountain,.int .i64 x.lo,.int .i64 x.hi]
theorem gn (x:Vess):x.vals.length=2:=rfl
theorem jw (x:MAct):x.vals.length=4:=rfl
theorem gp (x:Tast):x.vals.length=6:=rfl
structure dx (w:World)(B:Nat)(Av:Option Addr)(nv:Nat)(Aa:Option Addr)(na:Nat)(At:Option Addr)(nt:Nat)(m:Mix):Prop where
 vessels:cB w B 2 Av nv (m.vessels.flatMap Vess.vals)
 acts:cB w B 4 Aa na (m.acts.flatMap MAct.vals)
 tastes:cB w B 6 At nt (m.tastes.flatMap Tast.vals)
section
variable {w w':World} {B B' nv na nt:Nat} {Av Aa At:Option Addr} {m:Mix}
theorem dx.below (h:dx w B Av nv Aa na At nt m)(hb:Below B w w'):dx w' B Av nv Aa na At nt m:=⟨h.vessels.below hb,h.acts.below hb,h.tastes.below hb⟩
theorem dx.more (h:dx w B Av nv Aa na At nt m)(hB:B≤B'):dx w B' Av nv Aa na At nt m:=⟨h.vessels.more hB,h.acts.more hB,h.tastes.more hB⟩
theorem dx.up (h:dx w w.heap.size Av nv Aa na At nt m)(hb:Below w.heap.size w w'):dx w' w'.heap.size Av nv Aa na At nt m:=(h.below hb).more hb.size
theorem dx.lenV (h:dx w B Av nv Aa na At nt m):m.vessels.length=nv:=dY gn (by omega) h.vessels
theorem dx.lenA (h:dx w B Av nv Aa na At nt m):m.acts.length=na:=dY jw (by omega) h.acts
theorem dx.lenT (h:dx w B Av nv Aa na At nt m):m.tastes.length=nt:=dY gp (by omega) h.tastes
theorem dx.vess (h:dx w B Av nv Aa na At nt m){i:Nat}(hi:i<nv):∃ b off x,Av=some ⟨b,off,none⟩∧b<B∧m.vessels[i]? =some x∧w.cell? ⟨b,off+i * 2,none⟩=some (.int .i64 x.id)∧w.cell? ⟨b,off+i * 2+1,none⟩=some (.int .i64 x.size):=by
 obtain ⟨b,off,x,e,hb,hx,hc⟩:=dp gn (by omega) h.vessels hi;exact ⟨b,off,x,e,hb,hx,hc 0 _ rfl,hc 1 _ rfl⟩
theorem dx.act (h:dx w B Av nv Aa na At nt m){i:Nat}(hi:i<na):∃ b off x,Aa=some ⟨b,off,none⟩∧b<B∧m.acts[i]? =some x∧w.cell? ⟨b,off+i * 4,none⟩=some (.int .i64 x.kind)∧w.cell? ⟨b,off+i * 4+1,none⟩=some (.int .i64 x.fr)∧w.cell? ⟨b,off+i * 4+2,none⟩=some (.int .i64 x.to)∧w.cell? ⟨b,off+i * 4+3,none⟩=some (.int .i64 x.drops):=by
 obtain ⟨b,off,x,e,hb,hx,hc⟩:=dp jw (by omega) h.acts hi;exact ⟨b,off,x,e,hb,hx,hc 0 _ rfl,hc 1 _ rfl,hc 2 _ rfl,hc 3 _ rfl⟩
theorem dx.tast (h:dx w B Av nv Aa na At nt m){i:Nat}(hi:i<nt):∃ b off x,At=some ⟨b,off,none⟩∧b<B∧m.tastes[i]? =some x∧w.cell? ⟨b,off+i * 6,none⟩=some (.int .i64 x.num)∧w.cell? ⟨b,off+i * 6+1,none⟩=some (.int .i64 x.vessel)∧w.cell? ⟨b,off+i * 6+2,none⟩=some (.int .i64 x.after)∧w.cell? ⟨b,off+i * 6+3,none⟩=some (.int .i64 x.fountain)∧w.cell? ⟨b,off+i * 6+4,none⟩=some (.int .i64 x.lo)∧w.cell? ⟨b,off+i * 6+5,none⟩=some (.int .i64 x.hi):=by
 obtain ⟨b,off,x,e,hb,hx,hc⟩:=dp gp (by omega) h.tastes hi;exact ⟨b,off,x,e,hb,hx,hc 0 _ rfl,hc 1 _ rfl,hc 2 _ rfl,hc 3 _ rfl,hc 4 _ rfl,hc 5 _ rfl⟩
end
end
section
def cp (m:Mix)(x:MAct):Int:=if x.kind=1 then -1 else idxV m.vessels x.fr
def toI (m:Mix)(x:MAct):Int:=if x.kind=1∨x.kind=2 then idxV m.vessels x.to else -1
def cZ (m:Mix)(all:Held)(x:MAct):Int:=if x.kind=4 then au all (cp m x) else x.drops
def io (s:Held)(f n:Int):Held:=if 0≤f then s.set f.toNat (au s f - n) else s
def iw (s:Held)(t n:Int):Held:=if 0≤t then s.set t.toNat (au s t+n) else s
def cE (s:Held)(f t n:Int):Held:=iw (io s f n) t n
def dG (m:Mix)(x:MAct)(f:Int)(all has:Held):Int × Int :=
 if 0≤cp m x then (max 0 (cZ m all x - (au all (cp m x) - au has (cp m x))),min (cZ m all x) (au has (cp m x)))
 else if x.fr=f then (cZ m all x,cZ m all x) else (0,0)
def dq (m:Mix)(x:MAct)(f:Int)(all has:Held):Int × Int :=
 if x.kind=1 then (if x.fr=f then (x.drops,x.drops) else (0,0))
 else if x.kind=4 then (au has (idxV m.vessels x.fr),au has (idxV m.vessels x.fr))
 else (max 0 (x.drops - (au all (idxV m.vessels x.fr) - au has (idxV m.vessels x.fr))),min (au has (idxV m.vessels x.fr)) x.drops)
def dw (m:Mix)(x:MAct)(has:Held)(n:Int):Held :=
 let s:=if x.kind=1 then has else has.set (idxV m.vessels x.fr).toNat (au has (idxV m.vessels x.fr) - n)
 if x.kind<3 then s.set (idxV m.vessels x.to).toNat (au s (idxV m.vessels x.to)+n) else s
structure Fits (all has:Held):Prop where
 la:all.length=4
 lh:has.length=4
 le:∀ i:Nat,i<4→0≤au has i∧au has i≤au all i
theorem df {l:List Vess}{id:Int}(h:0≤idxV l id):idxV l id<l.length:=by
 unfold idxV at h ⊢
 split at h
 ·rename_i h1
  rw [if_pos h1];have:=List.findIdx_lt_length_of_exists (xs:=l) (p:=fun v=>v.id==id) (by simpa using h1);omega
 ·omega
theorem eP {s:Held}{i j:Int}{v:Int}(hi:0≤i)(hj:0≤j)(hl:i<s.length):au (s.set i.toNat v) j=if j=i then v else au s j:=by
 unfold au;rw [List.getElem?_set];by_cases e:j=i
 ·subst e
  rw [if_pos rfl,if_pos rfl,if_pos (by omega)];rfl
 ·rw [if_neg (by omega),if_neg e]
section
variable {m:Mix} {x:MAct} {f k:Int} {all all' has:Held}
structure gv (m:Mix)(all:Held)(x:MAct):Prop where
 kind:x.kind=1∨x.kind=2∨x.kind=3∨x.kind=4
 from_:x.kind≠1→0≤idxV m.vessels x.fr
 to_:x.kind=1∨x.kind=2→0≤idxV m.vessels x.to
 apart:x.kind=2→idxV m.vessels x.fr≠idxV m.vessels x.to
 size:(x.kind=1→1≤x.drops)∧(x.kind=2∨x.kind=3→1≤x.drops∧x.drops≤au all (idxV m.vessels x.fr))
theorem eN (h:gv m all x)(hf:Fits all has)(hv:m.vessels.length≤4):dG m x f all has=dq m x f all has:=by
 unfold dG dq cZ cp;by_cases h1:x.kind=1
 ·have h4:¬ x.kind=4:=by omega
  simp only [if_pos h1,if_neg h4];rw [if_neg (by decide)]
 ·have h2:=h.from_ h1
  simp only [if_neg h1,if_pos h2];by_cases h4:x.kind=4
  ·simp only [if_pos h4]
   have hlt:=df h2;have h5:=hf.le (idxV m.vessels x.fr).toNat (by omega);rw [Int.toNat_of_nonneg h2] at h5;exact Prod.ext (by dsimp only;omega) (by dsimp only;omega)
  ·simp only [if_neg h4]
   exact Prod.ext rfl (by dsimp only;omega)
theorem fk (h:gv m all x)(n:Int):cE has (cp m x) (toI m x) n=dw m x has n:=by
 unfold cE io iw dw cp toI;rcases h.kind with e | e | e | e
 ·have h2:=h.to_ (.inl e)
  simp [e,h2]
 ·have h1:=h.from_ (by omega)
  have h2:=h.to_ (.inr e);simp [e,h1,h2]
 ·have h1:=h.from_ (by omega)
  simp [e,h1]
 ·have h1:=h.from_ (by omega)
  simp [e,h1]
theorem kx {s:Held}{i n:Int}(hs:s.length=4)(hi:i<4){j:Nat}(hj:j<4):au (io s i n) j=if (j:Int)=i then au s j - n else au s j:=by
 unfold io;by_cases h0:0≤i
 ·rw [if_pos h0,eP h0 (by omega) (by omega)]
  by_cases e:(j:Int)=i
  ·rw [if_pos e,if_pos e,e]
  ·rw [if_neg e,if_neg e]
 ·rw [if_neg h0,if_neg (by omega)]
theorem kM {s:Held}{i n:Int}(hs:s.length=4)(hi:i<4){j:Nat}(hj:j<4):au (iw s i n) j=if (j:Int)=i then au s j+n else au s j:=by
 unfold iw;by_cases h0:0≤i
 ·rw [if_pos h0,eP h0 (by omega) (by omega)]
  by_cases e:(j:Int)=i
  ·rw [if_pos e,if_pos e,e]
  ·rw [if_neg e,if_neg e]
 ·rw [if_neg h0,if_neg (by omega)]
theorem eH (s:Held)(i n:Int):(io s i n).length=s.length:=by unfold io;split<;>simp
theorem fR (s:Held)(i n:Int):(iw s i n).length=s.length:=by unfold iw;split<;>simp
theorem fy (h:gv m all x)(hf:Fits all has)(hv:m.vessels.length≤4)(hk:(dG m x f all has).1≤k∧k≤(dG m x f all has).2) :
  0≤k∧k≤cZ m all x∧Fits (cE all (cp m x) (toI m x) (cZ m all x)) (cE has (cp m x) (toI m x) k):=by
 have hf4:cp m x<4:=by
  unfold cp
  split
  ·decide
  ·by_cases h0:0≤idxV m.vessels x.fr
   ·have:=df h0;omega
   ·omega
 have ht4:toI m x<4:=by
  unfold toI
  split
  ·by_cases h0:0≤idxV m.vessels x.to
   ·have:=df h0;omega
   ·omega
  ·decide
 have hne:0≤cp m x→cp m x≠toI m x:=by
  intro h0 e;unfold cp toI at e;unfold cp at h0;by_cases h1:x.kind=1
  ·rw [if_pos h1] at h0;omega
  ·rw [if_neg h1] at e h0
   split at e
   ·rename_i h2
    rcases h2 with h2 | h2
    ·exact h1 h2
    ·exact h.apart h2 e
   ·omega
 have hfr:∀ j:Nat,(j:Int)=cp m x→0≤cp m x∧au has j=au has (cp m x)∧au all j=au all (cp m x):=fun j e=>by rw [e];exact ⟨by omega,rfl,rfl⟩
 have hbase:0≤cp m x→0≤au has (cp m x)∧au has (cp m x)≤au all (cp m x):=fun h0=>by
  have:=hf.le (cp m x).toNat (by omega)
  rwa [Int.toNat_of_nonneg h0] at this
 have hsz:0≤cZ m all x:=by
  unfold cZ
  split
  ·rename_i h4
   have h0:0≤cp m x:=by unfold cp;rw [if_neg (by omega)];exact h.from_ (by omega)
   have:=hbase h0;omega
  ·rename_i h4
   rcases h.kind with e | e | e | e
   ·have:=h.size.1 e;omega
   ·have:=(h.size.2 (.inl e)).1;omega
   ·have:=(h.size.2 (.inr e)).1;omega
   ·exact absurd e h4
 have hk2:0≤k∧k≤cZ m all x∧(0≤cp m x→k≤au has (cp m x)∧cZ m all x - k≤au all (cp m x) - au has (cp m x)):=by
  unfold dG at hk;by_cases h0:0≤cp m x
  ·rw [if_pos h0] at hk
   dsimp only at hk;have:=hbase h0;exact ⟨by omega,by omega,fun _=>by omega⟩
  ·rw [if_neg h0] at hk
   split at hk
   ·dsimp only at hk;exact ⟨by omega,by omega,fun e=>absurd e h0⟩
   ·dsimp only at hk;exact ⟨by omega,by omega,fun e=>absurd e h0⟩
 refine ⟨hk2.1,hk2.2.1,⟨by unfold cE;rw [fR,eH,hf.la],by unfold cE;rw [fR,eH,hf.lh],fun j hj=>?_⟩⟩;have b:=hf.le j hj;unfold cE;rw [kM (by rw [eH,hf.lh]) ht4 hj,kM (by rw [eH,hf.la]) ht4 hj,kx hf.lh hf4 hj,kx hf.la hf4 hj];by_cases e1:(j:Int)=toI m x
 ·rw [if_pos e1,if_pos e1]
  have e2:¬ (j:Int)=cp m x:=fun e2=>hne (by omega) (by omega);rw [if_neg e2,if_neg e2];omega
 ·rw [if_neg e1,if_neg e1]
  by_cases e2:(j:Int)=cp m x
  ·rw [if_pos e2,if_pos e2]
   obtain ⟨h0,h3,h4⟩:=hfr j e2;have:=hk2.2.2 h0;omega
  ·rw [if_neg e2,if_neg e2]
   exact b
end
section
variable {m:Mix} {x:MAct} {s s':Held}
theorem nm {l:List Vess}{id:Int}(h:0≤idxV l id):∃ v,l[(idxV l id).toNat]? =some v∧v.id=id:=by
 have hlt:=df h;unfold idxV at h hlt ⊢
 split at h
 ·rename_i h1
  rw [if_pos h1] at hlt ⊢;have h2:l.findIdx (fun v=>v.id==id)<l.length:=by omega
  refine ⟨l[l.findIdx (fun v=>v.id==id)],by simp,?_⟩;have:=List.findIdx_getElem (xs:=l) (p:=fun v=>v.id==id) (w:=h2);simpa using this
 ·omega
theorem nY {l:List Vess}{a b:Int}(h:0≤idxV l a)(e:idxV l a=idxV l b):a=b:=by
 obtain ⟨v,h1,h2⟩:=nm h;rw [e] at h h1;obtain ⟨w,h3,h4⟩:=nm h;rw [h1] at h3;cases h3;rw [← h2,h4]
theorem i9 (h:cS m s x=some s')(hs:s.length=4)(hv:m.vessels.length≤4):gv m s x∧s'=cE s (cp m x) (toI m x) (cZ m s x):=by
 unfold cS at h;by_cases h1:x.kind=1
 ·rw [if_pos h1] at h
  split at h
  ·rename_i hc
   obtain ⟨_,ht,hd,_⟩:=hc;have e:=Option.some.inj h;refine ⟨⟨.inl h1,fun h=>absurd h1 h,fun _=>ht,fun h=>by omega,fun _=>hd,fun h=>by omega⟩,?_⟩;rw [← e];simp [cE,io,iw,cp,toI,cZ,h1,ht]
  ·cases h
 ·rw [if_neg h1] at h
  split at h
  ·cases h
  ·rename_i hf
   have hf0:0≤idxV m.vessels x.fr:=by omega
   have hfl:=df hf0;by_cases h2:x.kind=2
   ·rw [if_pos h2] at h
    split at h
    ·rename_i hc
     obtain ⟨hne,⟨hd1,hd2⟩,ht,hd3⟩:=hc;have e:=Option.some.inj h;have hap:idxV m.vessels x.fr≠idxV m.vessels x.to:=fun e=>hne (nY hf0 e);refine ⟨⟨.inr (.inl h2),fun _=>hf0,fun _=>ht,fun _=>hap,fun h=>absurd h h1,fun _=>⟨hd1,hd2⟩⟩,?_⟩;rw [← e];simp only [cE,io,iw,cp,toI,cZ,h2];simp only [show ¬ ((2:Int)=1) from by decide,show ¬ ((2:Int)=4) from by decide,if_false,if_pos hf0,or_true,if_true,if_pos ht];rw [eP hf0 ht (by omega),if_neg (fun e=>hap e.symm)]
    ·cases h
   ·rw [if_neg h2] at h
    by_cases h3:x.kind=3
    ·rw [if_pos h3] at h
     split at h
     ·rename_i hc
      obtain ⟨_,hd1,hd2⟩:=hc;have e:=Option.some.inj h;refine ⟨⟨.inr (.inr (.inl h3)),fun _=>hf0,fun h=>by omega,fun h=>absurd h h2,fun h=>absurd h h1,fun _=>⟨hd1,hd2⟩⟩,?_⟩;rw [← e];simp [cE,io,iw,cp,toI,cZ,h3,hf0]
     ·cases h
    ·rw [if_neg h3] at h
     by_cases h4:x.kind=4
     ·rw [if_pos h4] at h
      split at h
      ·have e:=Option.some.inj h
       refine ⟨⟨.inr (.inr (.inr h4)),fun _=>hf0,fun h=>by omega,fun h=>absurd h h2,fun h=>absurd h h1,fun h=>by omega⟩,?_⟩;rw [← e];simp [cE,io,iw,cp,toI,cZ,h4,hf0]
      ·cases h
     ·rw [if_neg h4] at h
      cases h
theorem qR (h:cS m s x=some s')(hs:s.length=4)(hv:m.vessels.length≤4):s'.length=4:=by
 rw [(i9 h hs hv).2];unfold cE;rw [fR,eH,hs]
end
def cW (m:Mix)(f:Int)(t:Nat)(has:Held):Bool:=m.tastes.all fun x=>!(decide (x.fountain=f) && decide (x.after=t) && !(decide (x.lo≤au has (idxV m.vessels x.vessel)) && decide (au has (idxV m.vessels x.vessel)≤x.hi)))
def cQ:Held:=[0,0,0,0]
def Goes (m:Mix)(f:Int)(A:List Held)(t:Nat)(s s':Held):Prop :=
 ∃ x all k,m.acts[t]? =some x∧A[t]? =some all∧(dG m x f all s).1≤k∧k≤(dG m x f all s).2∧s'=cE s (cp m x) (toI m x) k
def Fwd (m:Mix)(f:Int)(A:List Held):Nat→Held→Prop
 | 0,s=>s=cQ∧cW m f 0 s=true
 | t+1,s'=>(∃ s,Fwd m f A t s∧Goes m f A t s s')∧cW m f (t+1) s'=true
def Fin (m:Mix)(f:Int)(A:List Held):Nat→Nat→Held→Prop
 | 0,t,s=>Fwd m f A t s
 | k+1,t,s=>Fwd m f A t s∧∃ s',Goes m f A t s s'∧Fin m f A k (t+1) s'
def cD (m:Mix)(f:Int)(A:List Held)(t:Nat)(s:Held):Prop:=Fin m f A (m.acts.length - t) t s
theorem Fin.fwd {m:Mix}{f:Int}{A:List Held}:∀ {k t:Nat} {s:Held},Fin m f A k t s→Fwd m f A t s
 | 0,_,_,h=>h
 | _+1,_,_,h=>h.1
end
section
def dU:List Int→List Int→Int
 | z::zs,a::az=>dU zs az * (z+1)+a
 | _,_=>0
def decR:List Int→Int→List Int
 | [],_=>[]
 | z::zs,n=>n % (z+1)::decR zs (n / (z+1))
def dD:List Int→Int
 | []=>1
 | z::zs=>dD zs * (z+1)
inductive InR:List Int→List Int→Prop
 | nil:InR [] []
 | cons {z a:Int} {zs bs:List Int} (hz:0≤a∧a≤z) (h:InR zs bs):InR (z::zs) (a::bs)
theorem nK {zs az:List Int}(h:InR zs az):0≤dU zs az∧dU zs az<dD zs:=by
 induction h with
 | nil=>simp [dU,dD]
 | @cons z a zs az hz h ih =>
  unfold dU dD;have h1:0≤dU zs az * (z+1):=Int.mul_nonneg ih.1 (by omega);have h2:(dU zs az+1) * (z+1)≤dD zs * (z+1):=Int.mul_le_mul_of_nonneg_right (by omega) (by omega);rw [Int.add_mul] at h2;omega
theorem qO {zs az:List Int}(h:InR zs az):decR zs (dU zs az)=az:=by
 induction h with
 | nil=>rfl
 | @cons z a zs az hz h ih =>
  unfold dU decR
  have e1:(dU zs az * (z+1)+a) % (z+1)=a:=by
   rw [Int.add_comm,Int.add_mul_emod_self_right];exact Int.emod_eq_of_lt hz.1 (by omega)
  have e2:(dU zs az * (z+1)+a) / (z+1)=dU zs az:=by
   rw [Int.add_comm,Int.add_mul_ediv_right _ _ (by omega),Int.ediv_eq_zero_of_lt hz.1 (by omega)];omega
  rw [e1,e2,ih]
theorem sm:∀ {zs:List Int} {n:Int},(∀ z∈zs,0≤z)→0≤n→InR zs (decR zs n)
 | [],n,_,_=>.nil
 | z::zs,n,h,hn=>by
  have h2:=h z (by simp);unfold decR;have h3:=Int.emod_nonneg n (show z+1≠0 by omega);have h4:=Int.emod_lt_of_pos n (show 0<z+1 by omega);exact .cons ⟨h3,by omega⟩ (sm (fun y hy=>h y (by simp [hy])) (Int.ediv_nonneg hn (by omega)))
theorem mV:∀ {zs:List Int} {n:Int},(∀ z∈zs,0≤z)→0≤n→n<dD zs→dU zs (decR zs n)=n
 | [],n,_,h0,h1=>by simp [dD] at h1;simp [dU];omega
 | z::zs,n,h,h0,h1=>by
  have h2:=h z (by simp);unfold decR dU;unfold dD at h1;rw [mV (fun y hy=>h y (by simp [hy])) (Int.ediv_nonneg h0 (by omega)) (Int.ediv_lt_of_lt_mul (by omega) h1)];have:=Int.mul_ediv_add_emod n (z+1);rw [Int.mul_comm] at this;exact this
theorem gQ:∀ (zs:List Int) (n:Int),(decR zs n).length=zs.length
 | [],_=>rfl
 | z::zs,n=>by simp [decR,gQ zs]
theorem InR.len {zs bs:List Int}(h:InR zs bs):bs.length=zs.length:=by
 induction h with
 | nil=>rfl
 | cons _ _ ih=>simp [ih]
end
section
theorem pF {α:Type}{P:List α→Prop}(h0:P [])(hs:∀ l x,P l→P (l++[x]))(l:List α):P l:=by
 have key:∀ r:List α,P r.reverse:=by
  intro r
  induction r with
  | nil=>exact h0
  | cons x r ih=>rw [List.reverse_cons];exact hs _ _ ih
 have:=key l.reverse
 rwa [List.reverse_reverse] at this
section
variable {m:Mix} {A:List Held} {f:Int}
theorem ij:∀ {l:List MAct} {A:List Held},allM m l=some A→A[0]? =some cQ:=by
 intro l;refine pF (P:=fun l=>∀ {A:List Held},allM m l=some A→A[0]? =some cQ) ?_ ?_ l
 ·intro A h;unfold allM at h;simp at h;subst h;rfl
 ·intro l x ih A h
  rw [jh] at h
  cases h1:allM m l with
  | none=>rw [h1] at h;cases h
  | some B =>
   rw [h1] at h;unfold gL at h;simp only [Option.bind_some] at h
   cases h2:cS m (B.getLast?.getD []) x with
   | none=>rw [h2] at h;cases h
   | some s =>
    rw [h2] at h;simp at h;subst h;have h3:=dC m l B h1;rw [List.getElem?_append_left (by omega)];exact ih h1
theorem fO:∀ {l:List MAct} {A:List Held},allM m l=some A→∀ {t:Nat} {x:MAct},l[t]? =some x→∃ a a',A[t]? =some a∧A[t+1]? =some a'∧cS m a x=some a':=by
 intro l;refine pF (P:=fun l=>∀ {A:List Held},allM m l=some A→∀ {t:Nat} {x:MAct},l[t]? =some x→∃ a a',A[t]? =some a∧A[t+1]? =some a'∧cS m a x=some a') ?_ ?_ l
 ·intro A h t x hx;simp at hx
 ·intro l y ih A h t x hx
  rw [jh] at h
  cases h1:allM m l with
  | none=>rw [h1] at h;cases h
  | some B =>
   rw [h1] at h;unfold gL at h;simp only [Option.bind_some] at h
   cases h2:cS m (B.getLast?.getD []) y with
   | none=>rw [h2] at h;cases h
   | some s =>
    rw [h2] at h;simp at h;subst h;have h3:=dC m l B h1;by_cases ht:t<l.length
    ·rw [List.getElem?_append_left ht] at hx
     obtain ⟨a,a',h4,h5,h6⟩:=ih h1 hx;exact ⟨a,a',by rw [List.getElem?_append_left (by omega)];exact h4,by rw [List.getElem?_append_left (by omega)];exact h5,h6⟩
    ·have hl:t=l.length:=by
      have:=(List.getElem?_eq_some_iff.1 hx).1;simp at this;omega
     subst hl;have hxy:y=x:=by simpa using hx
     subst hxy;have h4:B.getLast? =B[l.length]? :=by rw [List.getLast?_eq_getElem?];congr 1;omega
     rw [h4] at h2;have h5:l.length<B.length:=by omega
     rw [List.getElem?_eq_getElem h5] at h2;refine ⟨B[l.length],s,by rw [List.getElem?_append_left h5];exact List.getElem?_eq_getElem h5,?_,h2⟩;rw [show l.length+1=B.length from by omega];simp
theorem p5 {l:List MAct}(h:allM m l=some A)(hv:m.vessels.length≤4):∀ {t:Nat} {a:Held},A[t]? =some a→a.length=4:=by
 intro t
 induction t with
 | zero=>intro a ha;rw [ij h] at ha;cases ha;rfl
 | succ t ih =>
  intro a ha;have hl:=dC m l A h
  have ht:t<l.length:=by
   have:=(List.getElem?_eq_some_iff.1 ha).1;omega
  obtain ⟨b,b',h1,h2,h3⟩:=fO h (List.getElem?_eq_getElem ht);rw [ha] at h2;cases h2;exact qR h3 (ih h1) hv
theorem mQ (h:allM m m.acts=some A)(hv:m.vessels.length≤4){t:Nat}{x:MAct}{all:Held}(hx:m.acts[t]? =some x)(ha:A[t]? =some all) :
  gv m all x∧A[t+1]? =some (cE all (cp m x) (toI m x) (cZ m all x)):=by
 obtain ⟨a,a',h1,h2,h3⟩:=fO h hx;rw [ha] at h1;cases h1;obtain ⟨h4,h5⟩:=i9 h3 (p5 h hv ha) hv;exact ⟨h4,by rw [h2,h5]⟩
theorem dK (h:allM m m.acts=some A)(hv:m.vessels.length≤4):∀ {t:Nat} {s all:Held},Fwd m f A t s→A[t]? =some all→Fits all s
 | 0,s,all,hf,ha=>by
  rw [ij h] at ha;cases ha;rw [hf.1];refine ⟨rfl,rfl,fun i hi=>?_⟩
  have:au cQ (i:Int)=0:=by
   unfold au cQ
   match i,hi with
   | 0,_=>rfl
   | 1,_=>rfl
   | 2,_=>rfl
   | 3,_=>rfl
  omega
 | t+1,s',all',hf,ha=>by
  obtain ⟨⟨s,h1,x,all,k,h2,h3,h4,h5,h6⟩,_⟩:=hf;have h7:=dK h hv h1 h3;obtain ⟨h8,h9⟩:=mQ h hv h2 h3;rw [ha] at h9;have e:=Option.some.inj h9;rw [e,h6];exact (fy h8 h7 hv ⟨h4,h5⟩).2.2
theorem cD.fits (h:allM m m.acts=some A)(hv:m.vessels.length≤4){t:Nat}{s all:Held}(ht:cD m f A t s)(ha:A[t]? =some all):Fits all s:=dK h hv (Fin.fwd ht) ha
theorem cD.next {t:Nat}{s:Held}(h:cD m f A t s)(ht:t<m.acts.length):∃ s',Goes m f A t s s'∧cD m f A (t+1) s':=by
 unfold cD at h ⊢
 obtain ⟨k,hk⟩:∃ k,m.acts.length - t=k+1:=⟨m.acts.length - t - 1,by omega⟩
 rw [hk] at h;obtain ⟨_,s',h1,h2⟩:=h;refine ⟨s',h1,?_⟩;rw [show m.acts.length - (t+1)=k from by omega];exact h2
theorem cD.iff_next {t:Nat}{s:Held}(ht:t<m.acts.length):cD m f A t s↔Fwd m f A t s∧∃ s',Goes m f A t s s'∧cD m f A (t+1) s':=by
 constructor
 ·exact fun h=>⟨Fin.fwd h,h.next ht⟩
 ·rintro ⟨h1,s',h2,h3⟩
  unfold cD at h3 ⊢
  obtain ⟨k,hk⟩:∃ k,m.acts.length - t=k+1:=⟨m.acts.length - t - 1,by omega⟩
  rw [hk];rw [show m.acts.length - (t+1)=k from by omega] at h3;exact ⟨h1,s',h2,h3⟩
theorem cD.last {s:Held}:cD m f A m.acts.length s↔Fwd m f A m.acts.length s:=by unfold cD;rw [Nat.sub_self];exact Iff.rfl
theorem jm (h:cD m f A 0 cQ):∀ {t:Nat},t≤m.acts.length→∃ s,cD m f A t s
 | 0,_=>⟨_,h⟩
 | t+1,ht=>by
  obtain ⟨s,h1⟩:=jm h (t:=t) (by omega);obtain ⟨s',_,h2⟩:=h1.next (by omega);exact ⟨s',h2⟩
theorem oe {s:Held}(h:cD m f A 0 s):s=cQ:=(Fin.fwd h).1
end
def fw (P:Int→Prop)(s:Int × Int):Prop:=P s.1∧P s.2∧∀ n,P n→s.1≤n∧n≤s.2
theorem fw.same {P:Int→Prop}{s s':Int × Int}(h:fw P s)(h':fw P s'):s=s':=by
 have a:=h.2.2 _ h'.1;have b:=h.2.2 _ h'.2.1;have c:=h'.2.2 _ h.1;have d:=h'.2.2 _ h.2.1;exact Prod.ext (by omega) (by omega)
theorem fw.congr {P Q:Int→Prop}{s:Int × Int}(h:fw P s)(e:∀ n,P n↔Q n):fw Q s:=⟨(e _).1 h.1,(e _).1 h.2.1,fun n hn=>h.2.2 n ((e n).2 hn)⟩
def iQ (s:Int × Int)(n:Int):Int × Int:=if s.2<0 then (n,n) else (min s.1 n,max s.2 n)
end
section
open Go.RowKit
theorem kZ (F:FuncId)(C:Array Value)(p:Int→Bool)(A:Option Addr)(n c:Nat)(l:List Int)(w:World)(hr:cr w w.heap.size A n l)(hn:n≤maxLen)
  (hE:∀ args W,(callFunc F args).run Tryz.prog W = .ok (.enter F args) W)
  (hF:∀ x∈l,∀ W,Below w.heap.size w W→Calls Tryz.prog F (#[.int .i64 x]++C) W fun e w'=>e = .returned (.bool (p x))∧Below W.heap.size W w') :
  Calls Tryz.prog 119 #[.slice A n c,.func (.func F) #[] C] w fun e w'=>e = .returned (.int .i64 (idx p l))∧Below w.heap.size w w':=by
 unfold maxLen at hn;have HF:=Lib.hid hF;clear hF
 go_enter Tryz.func119,Tryz.ntmps119
 go_wp2_with fail
 go_loopw [8,5] (fun i j wr=>∃ k:Nat,k≤n∧i = .int .i64 k∧(∀ y∈l.take k,p y=false)∧Below w.heap.size w wr)
  (fun i _ _=>n - (intOf i).toNat)
 case atStart=>exact ⟨0,by omega,rfl,by simp,Below.refl _ _⟩
 case round =>
  obtain ⟨k,hk,rfl,hno,hb⟩:=hrel;have HN:=Lib.hid hno;clear hno;by_cases hlt:k<n
  ·obtain ⟨b,off,x,rfl,hbB,hx,hc⟩:=(hr.below hb).cell hlt
   have HX:=Lib.hid hx;clear hx
   go_wp2_with fail
   refine (HF.out x (fN HX.out) _ hb).mono ?_;rintro e w' ⟨rfl,hb'⟩
   cases hp:p x with
   | true =>
    have HP:=Lib.hid hp;clear hp
    go_wp2_with fail
    go_ret
    exact ⟨dE (n7 HX.out HP.out HN.out).symm,hb.trans (hb'.mono hb.size)⟩
   | false =>
    have HP:=Lib.hid hp;clear hp
    go_wp2_with fail
    go_roundw
    case rel=>exact ⟨k+1,by omega,by go_num,ew HX.out HP.out HN.out,hb.trans (hb'.mono hb.size)⟩
    case measure=>simp [intOf];omega
  ·go_wp2_with fail
   go_ret
   exact ⟨dE (nV (by
    have:=HN.out
    rwa [List.take_of_length_le (by have:=hr.len;omega)] at this)).symm,hb⟩
theorem jr (F:FuncId)(C:Array Value)(p:Int→Bool)(A:Option Addr)(n c:Nat)(l:List Int)(w:World)(hr:cr w w.heap.size A n l)(hn:n≤maxLen)
  (hE:∀ args W,(callFunc F args).run Tryz.prog W = .ok (.enter F args) W)
  (hF:∀ x∈l,∀ W,Below w.heap.size w W→Calls Tryz.prog F (#[.int .i64 x]++C) W fun e w'=>e = .returned (.bool (p x))∧Below W.heap.size W w') :
  Calls Tryz.prog 83 #[.slice A n c,.func (.func F) #[] C] w fun e w'=>e = .returned (.bool (l.any p))∧Below w.heap.size w w':=by
 have H:=Lib.hid (kZ F C p A n c l w hr hn hE hF);clear hE hF
 go_enter Tryz.func83,Tryz.ntmps83
 go_wp2_with fail
 refine H.out.mono ?_;rintro e w' ⟨rfl,hb⟩
 go_wp2_with fail
 go_ret
 exact ⟨cU rv,hb⟩
end
section
open Go.RowKit
theorem rO (x lo hi:Int)(b1 b2:Nat)(w:World)(h1:w.cell? ⟨b1,0,none⟩=some (.int .i64 lo))(h2:w.cell? ⟨b2,0,none⟩=some (.int .i64 hi)) :
  Calls Tryz.prog 92 (#[.int .i64 x]++#[.pointer (some ⟨b1,0,none⟩),.pointer (some ⟨b2,0,none⟩)]) w fun e w'=>e = .returned (.bool (decide (x<lo) || decide (hi<x)))∧Below w.heap.size w w':=by
 by_cases h:x<lo
 all_goals
  go_enter Tryz.func92,Tryz.ntmps92
  go_wp2
  go_ret
  refine ⟨cU ?_,Below.refl _ _⟩;by_cases q:x<lo<;>simp [q]<;>omega
theorem oz (args:Array Value)(W:World):(callFunc 92 args).run Tryz.prog W = .ok (.enter 92 args) W:=by
 simp [go_sem]
def inB (lo hi:Int)(l:List Int):Bool:=!l.any fun n=>decide (n<lo) || decide (hi<n)
theorem ez (lo hi:Int)(A:Option Addr)(n c:Nat)(l:List Int)(w:World)(hr:cr w w.heap.size A n l)(hn:n≤maxLen) :
  Calls Tryz.prog 54 #[.int .i64 lo,.int .i64 hi,.slice A n c] w fun e w'=>e = .returned (.bool (inB lo hi l))∧Below w.heap.size w w':=by
 have hmf:∀ (fn:Fn) (first cap:Array Value) (w:World),(Instr.makeFunc fn first cap).run Tryz.prog w = .ok (.func fn first cap) w:=fun _ _ _ _=>rfl
 go_enter Tryz.func54,Tryz.ntmps54
 go_wp2_with fail
 have hb:Below w.heap.size w ((w.alloc (.cells #[.int .i64 lo] 3)).alloc (.cells #[.int .i64 hi] 3)):=((Below.refl _ _).alloc (Nat.le_refl _) _).alloc (by simp) _;refine (jr 92 _ (fun n=>decide (n<lo) || decide (hi<n)) A n c l _ ((hr.below hb).more (by simp;omega)) hn oz ?_).mono ?_
 ·intro x _ W hW
  exact rO x lo hi _ _ W ((hW.cell (p:=⟨w.heap.size,0,none⟩) (by simp;omega)).trans (by simp [go_sem])) ((hW.cell (p:=⟨w.heap.size+1,0,none⟩) (by simp)).trans (by simp [go_sem]))
 ·rintro e w' ⟨rfl,hb'⟩
  go_wp2_with fail
  go_ret
  exact ⟨rfl,hb.trans (hb'.mono (by simp;omega))⟩
end
section
open Go.RowKit
section
variable {F:Fence} {n:Nat} {P:Program} {ops:Array Oper} {Q:Exit→Act→World→Prop}
theorem eR {listed:Array Bool}{i:Nat}(hi:listed.getD i true=false):((listed.setIfInBounds i true).toList.count false)+1≤listed.toList.count false:=by
 have hlt:i<listed.size:=by
  rcases Nat.lt_or_ge i listed.size with h | h
  ·exact h
  ·rw [Array.getD_eq_getD_getElem?,Array.getElem?_eq_none h] at hi;cases hi
 have hv:listed.toList[i]'(by simpa using hlt)=false:=by
  rw [Array.getD_eq_getD_getElem?,Array.getElem?_eq_getElem hlt] at hi;simpa using hi
 have h1:0<listed.toList.count false:=List.count_pos_iff.2 (by rw [← hv];exact List.getElem_mem _);have h2:=List.count_set (a:=true) (b:=false) (l:=listed.toList) (i:=i) (by simpa using hlt);rw [hv] at h2;rw [Array.toList_setIfInBounds,h2];simp only [BEq.rfl,if_true];have h3:(true==false)=false:=rfl;simp only [h3,Bool.false_eq_true,if_false];omega
theorem ng (St:Array Bool→Act→World→Prop)
  (hsize:∀ listed a w,St listed a w→listed.size=ops.size)
  (hstep:∀ listed a w i o,ops[i]? =some o→listed.getD i true=false→(∀ e∈o.after,Region.binds .any e=true→listed.getD e.on false=true)→St listed a w→wpListIn F n P ops (Exit.then (St (listed.setIfInBounds i true)) Q) [o] a w)
  (hend:∀ listed a w,Region.ready .any ops listed=[]→St listed a w→Q .normal a w) :
  ∀ fuel listed a w,listed.toList.count false≤fuel→St listed a w→wpAnyIn F n P .any ops Q fuel listed a w:=by
 have hop:∀ listed a w i,i∈Region.ready .any ops listed→St listed a w→wpOpIn F n P ops Q i (St (listed.setIfInBounds i true)) a w:=by
  intro listed a w i hi hs;obtain ⟨h1,o,ho,h2⟩:=mem_ready.1 hi;have h3:=hstep listed a w i o ho h1 h2 hs;unfold wpOpIn;simp only [ho];simp only [wpListIn] at h3
  split
  ·rename_i hw
   rw [if_pos hw] at h3;unfold Oper.wpIn at h3 ⊢;refine ⟨h3.1,?_⟩;have h4:=h3.2;generalize (o.semAt F.round a.eval).run P w=r at h4 ⊢
   cases r with
   | ok x w' =>
    cases x<;>simp only [Oper.uponIn,Exit.then] at h4 ⊢ <;>
     first
      | exact h4
      | exact ⟨h4.1,CallsIn.mono h4.2 (fun e w'' he=>by cases e<;>exact he)⟩
      | exact ⟨h4.1,RoundIn.mono h4.2 (fun e w'' he=>by cases e<;>exact he)⟩
   | halt x w'=>cases x<;>simp only [Oper.uponIn,Exit.then] at h4 ⊢<;>exact h4
  ·rename_i hw
   rw [if_neg hw] at h3;exact h3
 intro fuel
 induction fuel with
 | zero =>
  intro listed a w hf hs
  have hnil:Region.ready .any ops listed=[]:=by
   cases hr:Region.ready .any ops listed with
   | nil=>rfl
   | cons i rs =>
    have hi:i∈Region.ready .any ops listed:=by rw [hr];simp
    have:=eR (mem_ready.1 hi).1;omega
  exact ⟨hnil,hend listed a w hnil hs⟩
 | succ fuel ih =>
  intro listed a w hf hs;refine ⟨fun h0=>hend listed a w h0 hs,fun i hi=>?_⟩;have hc:=eR (mem_ready.1 hi).1;exact wpOpIn_mono (fun a' w' h'=>ih _ a' w' (by omega) h') (hop listed a w i hi hs)
def gC (ops:Array Oper)(listed:Array Bool):Prop:=∀ k o,ops[k]? =some o→listed.getD k false=true→∀ e∈o.after,Region.binds .any e=true→listed.getD e.on false=true
theorem im {listed:Array Bool}{i k:Nat}(h:listed.getD k false=true):(listed.setIfInBounds i true).getD k false=true:=by
 rw [Array.getD_eq_getD_getElem?] at h ⊢;rw [Array.getElem?_setIfInBounds]
 split
 ·rename_i e
  subst e
  split
  ·rfl
  ·rename_i hn
   rw [Array.getElem?_eq_none (by omega)] at h;cases h
 ·exact h
theorem mL {listed:Array Bool}{i k:Nat}(hne:k≠i)(h:(listed.setIfInBounds i true).getD k false=true):listed.getD k false=true:=by
 rw [Array.getD_eq_getD_getElem?] at h ⊢;rw [Array.getElem?_setIfInBounds,if_neg (fun e=>hne e.symm)] at h;exact h
theorem gC.step {ops:Array Oper}{listed:Array Bool}{i:Nat}{o:Oper}(h:gC ops listed)(ho:ops[i]? =some o)(hw:∀ e∈o.after,Region.binds .any e=true→listed.getD e.on false=true):gC ops (listed.setIfInBounds i true):=by
 intro k o' ho' hk e he hb;by_cases hki:k=i
 ·subst hki
  rw [ho] at ho';cases ho';exact im (hw e he hb)
 ·exact im (h k o' ho' (mL hki hk) e he hb)
theorem gC.none (ops:Array Oper)(n:Nat):gC ops (Array.replicate n false):=by
 intro k o ho hk;rw [Array.getD_eq_getD_getElem?,Array.getElem?_replicate] at hk
 split at hk<;>cases hk
theorem ml (St:Array Bool→Act→World→Prop)
  (hsize:∀ listed a w,St listed a w→listed.size=ops.size)
  (hstep:∀ listed a w i o,ops[i]? =some o→listed.getD i true=false→(∀ e∈o.after,Region.binds .any e=true→listed.getD e.on false=true)→gC ops listed→St listed a w→wpListIn F n P ops (Exit.then (St (listed.setIfInBounds i true)) Q) [o] a w)
  (hend:∀ listed a w,Region.ready .any ops listed=[]→St listed a w→Q .normal a w) :
  ∀ fuel listed a w,listed.toList.count false≤fuel→gC ops listed→St listed a w→wpAnyIn F n P .any ops Q fuel listed a w:=by
 have hop:∀ listed a w i,i∈Region.ready .any ops listed→gC ops listed→St listed a w→wpOpIn F n P ops Q i (St (listed.setIfInBounds i true)) a w:=by
  intro listed a w i hi hcl hs;obtain ⟨h1,o,ho,h2⟩:=mem_ready.1 hi;have h3:=hstep listed a w i o ho h1 h2 hcl hs;unfold wpOpIn;simp only [ho];simp only [wpListIn] at h3
  split
  ·rename_i hw
   rw [if_pos hw] at h3;unfold Oper.wpIn at h3 ⊢;refine ⟨h3.1,?_⟩;have h4:=h3.2;generalize (o.semAt F.round a.eval).run P w=r at h4 ⊢
   cases r with
   | ok x w' =>
    cases x<;>simp only [Oper.uponIn,Exit.then] at h4 ⊢ <;>
     first
      | exact h4
      | exact ⟨h4.1,CallsIn.mono h4.2 (fun e w'' he=>by cases e<;>exact he)⟩
      | exact ⟨h4.1,RoundIn.mono h4.2 (fun e w'' he=>by cases e<;>exact he)⟩
   | halt x w'=>cases x<;>simp only [Oper.uponIn,Exit.then] at h4 ⊢<;>exact h4
  ·rename_i hw
   rw [if_neg hw] at h3;exact h3
 intro fuel
 induction fuel with
 | zero =>
  intro listed a w hf hcl hs
  have hnil:Region.ready .any ops listed=[]:=by
   cases hr:Region.ready .any ops listed with
   | nil=>rfl
   | cons i rs =>
    have hi:i∈Region.ready .any ops listed:=by rw [hr];simp
    have:=eR (mem_ready.1 hi).1;omega
  exact ⟨hnil,hend listed a w hnil hs⟩
 | succ fuel ih =>
  intro listed a w hf hcl hs;refine ⟨fun h0=>hend listed a w h0 hs,fun i hi=>?_⟩;have hc:=eR (mem_ready.1 hi).1;obtain ⟨_,o,ho,h2⟩:=mem_ready.1 hi;exact wpOpIn_mono (fun a' w' h'=>ih _ a' w' (by omega) (hcl.step ho h2) h') (hop listed a w i hi hcl hs)
theorem gE {id:Nat}{a:Act}{w:World}(hm:P.follows .mixedOrders=true)(St:Array Bool→Act→World→Prop)
  (hsize:∀ listed a w,St listed a w→listed.size=ops.size)
  (h0:St (Array.replicate ops.size false) a w.drew)
  (hstep:∀ listed a w i o,ops[i]? =some o→listed.getD i true=false→(∀ e∈o.after,Region.binds .any e=true→listed.getD e.on false=true)→St listed a w→wpListIn F n P ops (Exit.then (St (listed.setIfInBounds i true)) Q) [o] a w)
  (hend:∀ listed a w,Region.ready .any ops listed=[]→St listed a w→Q .normal a w):(Code.region id ops true).wpIn F n P Q a w :=
 wpIn_region_any hm (ng St hsize hstep hend _ _ _ _ (by rw [Array.toList_replicate,List.count_replicate];simp) h0)
theorem fS {id:Nat}{a:Act}{w:World}(hm:P.follows .mixedOrders=true)(St:Array Bool→Act→World→Prop)
  (hsize:∀ listed a w,St listed a w→listed.size=ops.size)
  (h0:St (Array.replicate ops.size false) a w.drew)
  (hstep:∀ listed a w i o,ops[i]? =some o→listed.getD i true=false→(∀ e∈o.after,Region.binds .any e=true→listed.getD e.on false=true)→gC ops listed→St listed a w→wpListIn F n P ops (Exit.then (St (listed.setIfInBounds i true)) Q) [o] a w)
  (hend:∀ listed a w,Region.ready .any ops listed=[]→St listed a w→Q .normal a w):(Code.region id ops true).wpIn F n P Q a w :=
 wpIn_region_any hm (ml St hsize hstep hend _ _ _ _ (by rw [Array.toList_replicate,List.count_replicate];simp) (gC.none _ _) h0)
def done (L:Nat→Bool)(i:Nat):Nat→Bool:=fun k=>if k=i then true else L k
theorem kW {σ:Type}{id:Nat}{a:Act}{w:World}(hm:P.follows .mixedOrders=true)(act:σ→Act)(inv:(Nat→Bool)→σ→World→Prop)
  (h0:∃ s,a=act s∧inv (fun _=>false) s w.drew)
  (hstep:∀ L i o s W,ops[i]? =some o→L i=false→(∀ e∈o.after,Region.binds .any e=true→L e.on=true)→inv L s W→wpListIn F n P ops (Exit.then (fun a' W'=>∃ s',a'=act s'∧inv (done L i) s' W') Q) [o] (act s) W)
  (hend:∀ L s W,(∀ k,k<ops.size→L k=true)→inv L s W→Q .normal (act s) W) (hdag:∀ L:Nat→Bool,(∀ i o,ops[i]? =some o→L i=false→∃ e∈o.after,Region.binds .any e=true∧L e.on=false)→∀ k,k<ops.size→L k=true):(Code.region id ops true).wpIn F n P Q a w:=by
 refine gE hm (fun listed a W=>listed.size=ops.size∧∃ s,a=act s∧inv (fun k=>listed.getD k false) s W) (fun _ _ _ h=>h.1) ?_ ?_ ?_
 ·obtain ⟨s,h1,h2⟩:=h0
  refine ⟨by simp,s,h1,?_⟩
  have:(fun k=>(Array.replicate ops.size false).getD k false)=fun _=>false:=by
   funext k
   rw [Array.getD_eq_getD_getElem?,Array.getElem?_replicate]
   split<;>rfl
  rw [this];exact h2
 ·rintro listed a W i o ho hu hd ⟨hsz,s,rfl,hi⟩
  have hlt:i<listed.size:=by rw [hsz];exact (Array.getElem?_eq_some_iff.1 ho).1
  have hu':listed.getD i false=false:=by
   rw [Array.getD_eq_getD_getElem?,Array.getElem?_eq_getElem hlt] at hu ⊢;simpa using hu
  have h:=hstep (fun k=>listed.getD k false) i o s W ho hu' hd hi
  have e:(fun k=>(listed.setIfInBounds i true).getD k false)=done (fun k=>listed.getD k false) i:=by
   funext k
   unfold done;by_cases hk:k=i
   ·subst hk
    rw [if_pos rfl,Array.getD_eq_getD_getElem?,Array.getElem?_setIfInBounds];simp [hlt]
   ·rw [if_neg hk,Array.getD_eq_getD_getElem?,Array.getElem?_setIfInBounds_ne (Ne.symm hk),← Array.getD_eq_getD_getElem?]
  have hsz':(listed.setIfInBounds i true).size=ops.size:=by simpa using hsz
  simp only [e,hsz',true_and];exact h
 ·rintro listed a W hr ⟨hsz,s,rfl,hi⟩
  refine hend _ s W (hdag _ ?_) hi;intro i o ho hu;have hlt:i<listed.size:=by rw [hsz];exact (Array.getElem?_eq_some_iff.1 ho).1
  have hu':listed.getD i true=false:=by
   rw [Array.getD_eq_getD_getElem?,Array.getElem?_eq_getElem hlt] at hu ⊢;simpa using hu
  have hno:¬ i∈Region.ready .any ops listed:=by rw [hr];simp
  rw [mem_ready] at hno;have h2:¬ ∀ e∈o.after,Region.binds .any e=true→listed.getD e.on false=true:=fun h=>hno ⟨hu',o,ho,h⟩
  have h3:∃ e,¬ (e∈o.after→Region.binds .any e=true→listed.getD e.on false=true):=by
   refine Classical.byContradiction fun hc=>h2 fun e=>?_;exact Classical.byContradiction fun hc'=>hc ⟨e,hc'⟩
  obtain ⟨e,he⟩:=h3;have he1:e∈o.after:=Classical.byContradiction fun h=>he fun h'=>absurd h' h;have he2:Region.binds .any e=true:=Classical.byContradiction fun h=>he fun _ h'=>absurd h' h
  have he3:listed.getD e.on false=false:=by
   cases hc:listed.getD e.on false with
   | false=>rfl
   | true=>exact absurd (fun _ _=>hc) he
  exact ⟨e,he1,he2,he3⟩
def ki (ops:Array Oper):Bool:=(List.range ops.size).all fun i=>((ops[i]?).map fun o=>o.after.all fun e=>!Region.binds .any e || decide (e.on<i)).getD true
theorem jz (h:ki ops=true)(L:Nat→Bool)(hL:∀ i o,ops[i]? =some o→L i=false→∃ e∈o.after,Region.binds .any e=true∧L e.on=false):∀ k,k<ops.size→L k=true:=by
 intro k
 induction k using Nat.strongRecOn with
 | _ k ih =>
  intro hk
  cases hc:L k with
  | true=>rfl
  | false =>
   exfalso;obtain ⟨e,he,hbnd,hf⟩:=hL k _ (Array.getElem?_eq_getElem hk) hc;have hb:=List.all_eq_true.1 h k (by simpa using hk);rw [Array.getElem?_eq_getElem hk] at hb;simp only [Option.map_some,Option.getD_some] at hb;rw [Array.all_eq_true_iff_forall_mem] at hb;have hlt:e.on<k:=by simpa [hbnd] using hb e he
   have:=ih e.on hlt (by omega);rw [this] at hf;cases hf
def upd (s:Nat→Value)(k:Nat)(v:Value):Nat→Value:=fun j=>if j=k then v else s j
def dR (L:Nat→Bool):List Edge→Prop
 | []=>True
 | e::es=>(Region.binds .any e=true→L e.on=true)∧dR L es
theorem dR.of {L:Nat→Bool}:∀ {l:List Edge},(∀ e∈l,Region.binds .any e=true→L e.on=true)→dR L l
 | [],_=>trivial
 | e::es,h=>⟨h e (by simp),dR.of fun e' he=>h e' (by simp [he])⟩
theorem dR.at_ {L:Nat→Bool}:∀ {l:List Edge},dR L l→∀ (j:Nat),(l.any fun e=>e.on==j && Region.binds .any e)=true→L j=true
 | [],_,j,h=>by simp at h
 | e::es,hw,j,h=>by
  rw [List.any_cons,Bool.or_eq_true] at h;rcases h with h | h
  ·simp only [Bool.and_eq_true,beq_iff_eq] at h
   rw [← h.1];exact hw.1 h.2
  ·exact dR.at_ hw.2 j h
def pB {σ:Type}(F:Fence)(n:Nat)(P:Program)(ops:Array Oper)(act:σ→Act)(inv:(Nat→Bool)→σ→World→Prop):Nat→List Oper→Prop
 | _,[]=>True
 | i,o::rest=>(∀ L s W,L i=false→dR L o.after.toList→inv L s W→∀ (K:Act→World→Prop) (Q:Exit→Act→World→Prop),(∀ s' W',inv (done L i) s' W'→K (act s') W')→wpListIn F n P ops (Exit.then K Q) [o] (act s) W)∧pB F n P ops act inv (i+1) rest
theorem pB.at_ {σ:Type}{act:σ→Act}{inv:(Nat→Bool)→σ→World→Prop}:∀ {l:List Oper} {k i:Nat} {o:Oper},pB F n P ops act inv k l→l[i]? =some o →
  ∀ L s W,L (k+i)=false→dR L o.after.toList→inv L s W→∀ (K:Act→World→Prop) (Q:Exit→Act→World→Prop),(∀ s' W',inv (done L (k+i)) s' W'→K (act s') W')→wpListIn F n P ops (Exit.then K Q) [o] (act s) W
 | [],_,_,_,_,h=>by simp at h
 | o'::l,k,0,o,hs,h=>by simp at h;subst h;exact hs.1
 | o'::l,k,i+1,o,hs,h=>by
  have:=pB.at_ (i:=i) hs.2 (by simpa using h)
  rwa [show k+1+i=k+(i+1) by omega] at this
end
end
section
open Go.RowKit
section
variable {P:Program} {ops:Array Oper} {Q:Exit→Act→World→Prop}
def Down (l:List Oper)(L:Nat→Bool):Prop:=∀ (j:Nat) o,l[j]? =some o→L j=true→dR L o.after.toList
def cJ (l:List Oper)(j k:Nat):Bool:=match l[j]? with
 | some o=>o.after.toList.any fun e=>e.on==k && Region.binds .any e
 | none=>false
theorem Down.at_ {l:List Oper}{L:Nat→Bool}(h:Down l L)(j k:Nat)(hj:L j=true)(hk:cJ l j k=true):L k=true:=by
 unfold cJ at hk
 split at hk
 ·rename_i o ho;exact (h j o ho hj).at_ k hk
 ·cases hk
theorem Down.no {l:List Oper}{L:Nat→Bool}(h:Down l L)(j k:Nat)(hj:L j=true)(hk:cJ l j k=true)(hf:L k=false){p:Prop}:p:=absurd ((h.at_ j k hj hk).symm.trans hf) (by decide)
theorem dR.mono {L L':Nat→Bool}(hL:∀ k,L k=true→L' k=true):∀ {l:List Edge},dR L l→dR L' l
 | [],_=>trivial
 | e::es,h=>⟨fun hb=>hL _ (h.1 hb),dR.mono hL h.2⟩
theorem lW (L:Nat→Bool)(i k:Nat)(h:L k=true):done L i k=true:=by unfold done;split<;>simp_all
theorem Down.step {l:List Oper}{L:Nat→Bool}(h:Down l L){i:Nat}{o:Oper}(ho:l[i]? =some o)(hw:dR L o.after.toList):Down l (done L i):=by
 intro j o' hj ht;by_cases e:j=i
 ·subst e
  rw [ho] at hj;cases hj;exact hw.mono (lW L j)
 ·unfold done at ht
  rw [if_neg e] at ht;exact (h j o' hj ht).mono (lW L i)
def mw {σ:Type}(P:Program)(ops:Array Oper)(D:(Nat→Bool)→Prop)(act:σ→Act)(inv:(Nat→Bool)→σ→World→Prop):Nat→List Oper→Prop
 | _,[]=>True
 | i,o::rest=>(∀ L s W,L i=false→dR L o.after.toList→D L→inv L s W→∀ (K:Act→World→Prop) (Q:Exit→Act→World→Prop),(∀ s' W',inv (done L i) s' W'→K (act s') W')→wpList P ops (Exit.then K Q) [o] (act s) W)∧mw P ops D act inv (i+1) rest
theorem mw.at_ {σ:Type}{D:(Nat→Bool)→Prop}{act:σ→Act}{inv:(Nat→Bool)→σ→World→Prop}:∀ {l:List Oper} {k i:Nat} {o:Oper},mw P ops D act inv k l→l[i]? =some o →
  ∀ L s W,L (k+i)=false→dR L o.after.toList→D L→inv L s W→∀ (K:Act→World→Prop) (Q:Exit→Act→World→Prop),(∀ s' W',inv (done L (k+i)) s' W'→K (act s') W')→wpList P ops (Exit.then K Q) [o] (act s) W
 | [],_,_,_,_,h=>by simp at h
 | o'::l,k,0,o,hs,h=>by simp at h;subst h;exact hs.1
 | o'::l,k,i+1,o,hs,h=>by
  have:=mw.at_ (i:=i) hs.2 (by simpa using h)
  rwa [show k+1+i=k+(i+1) by omega] at this
end
end
section
open Go.RowKit
section
variable {F:Fence} {n:Nat} {P:Program} {Q:Exit→Act→World→Prop}
def kr {σ:Type}(F:Fence)(n:Nat)(P:Program)(ops:Array Oper)(D:(Nat→Bool)→Prop)(act:σ→Act)(inv:(Nat→Bool)→σ→World→Prop):Nat→List Oper→Prop
 | _,[]=>True
 | i,o::rest=>(∀ L s W,L i=false→dR L o.after.toList→D L→inv L s W→∀ (K:Act→World→Prop) (Q:Exit→Act→World→Prop),(∀ s' W',inv (done L i) s' W'→K (act s') W')→wpListIn F n P ops (Exit.then K Q) [o] (act s) W)∧kr F n P ops D act inv (i+1) rest
theorem kr.at_ {σ:Type}{ops:Array Oper}{D:(Nat→Bool)→Prop}{act:σ→Act}{inv:(Nat→Bool)→σ→World→Prop}:∀ {l:List Oper} {k i:Nat} {o:Oper},kr F n P ops D act inv k l→l[i]? =some o →
  ∀ L s W,L (k+i)=false→dR L o.after.toList→D L→inv L s W→∀ (K:Act→World→Prop) (Q:Exit→Act→World→Prop),(∀ s' W',inv (done L (k+i)) s' W'→K (act s') W')→wpListIn F n P ops (Exit.then K Q) [o] (act s) W
 | [],_,_,_,_,h=>by simp at h
 | o'::l,k,0,o,hs,h=>by simp at h;subst h;exact hs.1
 | o'::l,k,i+1,o,hs,h=>by
  have:=kr.at_ (i:=i) hs.2 (by simpa using h)
  rwa [show k+1+i=k+(i+1) by omega] at this
theorem dJ {σ:Type}{id:Nat}{a:Act}{w:World}{l:List Oper}(hm:P.follows .mixedOrders=true)(hb:ki l.toArray=true)(act:σ→Act)(inv:(Nat→Bool)→σ→World→Prop)(s0:σ)
  (ha:a=act s0) (h0:inv (fun _=>false) s0 w.drew)
  (hstep:kr F n P l.toArray (Down l) act inv 0 l)
  (hend:∀ L s W,(∀ k,k<l.length→L k=true)→inv L s W→Q .normal (act s) W):(Code.region id l.toArray true).wpIn F n P Q a w:=by
 refine kW hm act (fun L s W=>Down l L∧inv L s W) ⟨s0,ha,(fun j o _ h=>by cases h),h0⟩ ?_ ?_ (jz hb)
 ·rintro L i o s W ho hu hd ⟨hdn,hi⟩
  have hw:dR L o.after.toList:=dR.of fun e he=>hd e (by simpa using he);have:=hstep.at_ (i:=i) (o:=o) (by simpa using ho) L s W (by simpa using hu) hw hdn hi;simp only [Nat.zero_add] at this
  exact this _ Q fun s' W' h=>⟨s',rfl,hdn.step (by simpa using ho) hw,h⟩
 ·rintro L s W hall ⟨_,hi⟩
  exact hend L s W (fun k hk=>hall k (by simpa using hk)) hi
end
end
section
open Go.RowKit
section
variable {F:Fence} {n:Nat} {P:Program} {ops:Array Oper} {md:Region.Mode} {C:World→Prop}
def jL (ops:Array Oper):Prop:=∀ (i:Nat) o,ops[i]? =some o→∀ c,o.op≠.defer c
def gV (l:List Oper):Bool:=l.all fun o=>match o.op with
 | .defer _=>false
 | _=>true
theorem iC {l:List Oper}(h:gV l=true):jL l.toArray:=by
 intro i o ho c hc;have:=List.all_eq_true.1 h o (by simpa using List.mem_of_getElem? (by simpa using ho));rw [hc] at this;cases this
theorem wpIn_of_quiet' {o:Oper}{a:Act}{K:Act→Prop}{K':Act→World→Prop}{Q':Exit→Act→World→Prop}{w:World}(hnd:∀ c,o.op≠.defer c)(hw:C w)(h:∀ a w',C w'→K a→K' a w')
  (ha:o.askedIn F P a C) (hh:o.quietIn F n P a C K):o.wpIn F n P a w K' Q':=by
 obtain ⟨v,h1,h2⟩:=hh;have h3:=h1 w hw;unfold Oper.quietAtIn at h3;unfold Oper.wpIn;refine ⟨ha w hw,?_⟩;rw [Oper.semAt_eq _ _ _ hnd];generalize (execOp a.eval o).run P w=r at *
 cases r with
 | ok x w' =>
  cases x<;>simp only [Oper.quietUponIn] at h3<;>simp only [Oper.uponIn]
  case value u =>
   obtain ⟨e1,e2⟩:=h3;rw [e1,e2];exact h _ _ hw h2
  case skip =>
   obtain ⟨e1,e2⟩:=h3;rw [e1,← e2];exact h _ _ hw h2
  case enter f args =>
   obtain ⟨e1,hd,hc⟩:=h3;rw [e1];exact ⟨hd,hc.mono fun e w'' ⟨he,hw''⟩=>by subst he;exact h _ _ hw'' h2⟩
 | halt x w'=>simp only [Oper.quietUponIn] at h3
end
abbrev Cls {σ:Type}(of:σ→World):World→Prop:=fun W=>∃ z:σ,W=of z
end
section
open Go.RowKit
def cw (l:List Oper)(i:Nat):Option Tmp:=(l[i]?).bind (·.dst)
structure Desc (l:List Oper)(k:Nat)(val:Nat→Value)(a0:Act)(S:Nat→Bool)(a:Act):Prop where
 defers:a.defers=a0.defers
 size:a.tmps.size=a0.tmps.size
 set_:∀ i,i<k→S i=true→∀ d,cw l i=some d→a.tmps.getD d undef=val i
 other:∀ t,(∀ i,i<k→S i=true→cw l i≠some t)→a.tmps.getD t undef=a0.tmps.getD t undef
def Own1 (l:List Oper)(k:Nat):Prop:=∀ i,i<k→∃ d,cw l i=some d∧∀ i',i'<k→cw l i'=some d→i'=i
section
variable {l:List Oper} {k:Nat} {val:Nat→Value} {a0 a a':Act} {S S':Nat→Bool}
theorem cT (t:Array Value)(d:Nat)(v:Value)(h:d<t.size):(t.setIfInBounds d v).getD d undef=v:=by
 rw [Array.getD_eq_getD_getElem?,Array.getElem?_setIfInBounds_self_of_lt h];rfl
theorem cH (t:Array Value){d e:Nat}(v:Value)(h:d≠e):(t.setIfInBounds d v).getD e undef=t.getD e undef:=by
 rw [Array.getD_eq_getD_getElem?,Array.getElem?_setIfInBounds_ne h,← Array.getD_eq_getD_getElem?]
theorem Desc.step (h:Desc l k val a0 S a)(ho:Own1 l k){i:Nat}(hi:i<k){d:Tmp}(hd:cw l i=some d)(hsz:d<a0.tmps.size):Desc l k val a0 (done S i) (a.put (some d) (val i)):=by
 refine ⟨h.defers,by simp [Act.put,h.size],fun i' hi' hS d' hd'=>?_,fun t ht=>?_⟩
 ·by_cases e:i'=i
  ·subst e
   rw [hd] at hd';cases hd';exact cT _ _ _ (by rw [h.size];exact hsz)
  ·have hne:d≠d':=by
    intro e';subst e';obtain ⟨d2,h1,h2⟩:=ho i hi;rw [hd] at h1;cases h1;exact e (h2 i' hi' hd')
   rw [show (a.put (some d) (val i)).tmps=a.tmps.setIfInBounds d (val i) from rfl,cH _ _ hne];exact h.set_ i' hi' (by simpa [done,e] using hS) d' hd'
 ·have hne:d≠t:=fun e=>ht i hi (by simp [done]) (by rw [hd,e])
  rw [show (a.put (some d) (val i)).tmps=a.tmps.setIfInBounds d (val i) from rfl,cH _ _ hne];refine h.other t fun i' hi' hS=>ht i' hi' ?_;unfold done
  split
  ·rfl
  ·exact hS
theorem Desc.agree (h:Desc l k val a0 S a)(h':Desc l k val a0 S' a')(ho:Own1 l k)(t:Tmp)(hS:∀ i,i<k→cw l i=some t→S i=S' i):a.tmps.getD t undef=a'.tmps.getD t undef:=by
 by_cases hex:∃ i,i<k∧cw l i=some t∧S i=true
 ·obtain ⟨i,hi,hd,hs⟩:=hex
  rw [h.set_ i hi hs t hd,h'.set_ i hi (by rw [← hS i hi hd];exact hs) t hd]
 ·have hno:∀ i,i<k→S i=true→cw l i≠some t:=fun i hi hs hd=>hex ⟨i,hi,hd,hs⟩
  rw [h.other t hno,h'.other t (fun i hi hs hd=>hno i hi (by rw [hS i hi hd];exact hs) hd)]
theorem Desc.vals {val':Nat→Value}(h:Desc l k val a0 S a)(hv:∀ i,i<k→S i=true→val i=val' i):Desc l k val' a0 S a:=⟨h.defers,h.size,fun i hi hs d hd=>(h.set_ i hi hs d hd).trans (hv i hi hs),h.other⟩
end
section
variable {F:Fence} {n:Nat} {P:Program} {ops:Array Oper} {o:Oper} {a a':Act}
theorem jT {x:Operand}(h:∀ t,x = .tmp t→a.tmps.getD t undef=a'.tmps.getD t undef):a.eval x=a'.eval x:=by
 cases x with
 | tmp t=>exact h t rfl
 | _=>rfl
theorem fa (hs:∀ cs b,o.op≠.select cs b)(h:∀ t∈o.looksAt ops,a.tmps.getD t undef=a'.tmps.getD t undef):execOp a.eval o=execOp a'.eval o :=
 execOp_congr o hs fun x hx=>jT fun t e=>h t (by
  subst e
  exact List.mem_append_left _ (List.mem_filterMap.2 ⟨.tmp t,by simpa using hx,rfl⟩))
theorem eF (w:World)(h:∀ t∈o.looksAt ops,a.tmps.getD t undef=a'.tmps.getD t undef):o.about P w a.eval=o.about P w a'.eval :=
 about_congr o w fun x hx=>jT fun t e=>h t (by
  subst e
  exact List.mem_append_left _ (List.mem_filterMap.2 ⟨.tmp t,by simpa using hx,rfl⟩))
theorem fc (hz:a.tmps.size=a'.tmps.size)(h:∀ t∈o.looksAt ops,a.tmps.getD t undef=a'.tmps.getD t undef):Region.wanted o (yielded ops a.tmps)=Region.wanted o (yielded ops a'.tmps):=by
 unfold Region.wanted
 cases hg:o.guard with
 | none=>rfl
 | some g =>
  obtain ⟨g,b⟩:=g
  have e:yielded ops a.tmps g=yielded ops a'.tmps g:=by
   unfold yielded
   cases hd:(ops[g]?).bind (·.dst) with
   | none=>rfl
   | some d =>
    have hm:d∈o.looksAt ops:=by
     unfold Oper.looksAt;rw [hg];exact List.mem_append_right _ (by simp [hd])
    have h1:=h d hm
    have h2:a.tmps[d]? =a'.tmps[d]? :=by
     rcases Nat.lt_or_ge d a.tmps.size with hlt | hge
     ·have hlt':d<a'.tmps.size:=by rw [← hz];exact hlt
      simpa [hlt,hlt'] using h1
     ·have hge':a'.tmps.size≤d:=by rw [← hz];exact hge
      rw [Array.getElem?_eq_none hge,Array.getElem?_eq_none hge']
    simp [h2]
  simp only [e]
theorem fX {C:World→Prop}{v:Value}(hs:∀ cs b,o.op≠.select cs b)(hz:a.tmps.size=a'.tmps.size)(h:∀ t∈o.looksAt ops,a.tmps.getD t undef=a'.tmps.getD t undef)(hy:YieldsQuiet F n P ops C o v a):YieldsQuiet F n P ops C o v a':=by
 refine hy.of_same (fa hs h).symm (fc hz h).symm (fun w=>(eF w h).symm)
end
section
variable {F:Fence} {n:Nat} {P:Program} {Q:Exit→Act→World→Prop} {l:List Oper} {k j:Nat}
def cX (l:List Oper)(AF:Act)(i:Nat):Value:=AF.tmps.getD ((cw l i).getD 0) undef
theorem fI {ops:Array Oper}{listed:Array Bool}(hb:ki ops=true)(hsz:listed.size=ops.size)(hr:Region.ready .any ops listed=[]):∀ i,i<ops.size→listed.getD i false=true:=by
 refine jz hb (fun i=>listed.getD i false) ?_;intro i o ho hu;have hlt:i<listed.size:=by rw [hsz];exact (Array.getElem?_eq_some_iff.1 ho).1
 have hu':listed.getD i true=false:=getD_in hlt hu;have hno:¬ i∈Region.ready .any ops listed:=by rw [hr];simp
 rw [mem_ready] at hno;have h2:¬ ∀ e∈o.after,Region.binds .any e=true→listed.getD e.on false=true:=fun h=>hno ⟨hu',o,ho,h⟩;refine Classical.byContradiction fun hc=>h2 fun e he hbnd=>?_
 cases hc':listed.getD e.on false with
 | true=>rfl
 | false=>exact absurd ⟨e,he,hbnd,hc'⟩ hc
def FCls (V:World)(ty:TypeId)(cs:Array Value)(ob:Option Nat)(W:World):Prop:=Below V.heap.size V W∧∀ b,ob=some b→V.heap.size≤b∧Blk W b ty cs
theorem FCls.grow {V:World}{ty:TypeId}{cs:Array Value}{ob:Option Nat}{W W':World}(h:FCls V ty cs ob W)(hb:Below W.heap.size W W'):FCls V ty cs ob W' :=
 ⟨h.1.trans (hb.mono h.1.size),fun b e=>⟨(h.2 b e).1,(h.2 b e).2.below hb (h.2 b e).2.lt⟩⟩
end
end
section
open Go.RowKit
def pick (l:List Oper)(qs:List Nat):List Oper:=qs.filterMap fun i=>l[i]?
def upS (l:List Nat):Bool:=match l with
 | []=>true
 | x::r=>r.all (fun y=>decide (x<y)) && upS r
theorem kG:∀ {l:List Nat},upS l=true→l.Pairwise (·<·)
 | [],_=>.nil
 | x::r,h=>by
  simp only [upS,Bool.and_eq_true] at h;exact .cons (fun y hy=>by simpa using List.all_eq_true.1 h.1 y hy) (kG h.2)
def eY (l:List Oper)(sz:Nat):Bool:=(List.range l.length).all fun i=>((cw l i).map fun d=>decide (d<sz)).getD true
section
variable {F:Fence} {n:Nat} {P:Program} {l:List Oper} {qs es:List Nat} {j:Nat}
structure lj (l:List Oper)(qs:List Nat)(val:Nat→Value)(a0:Act)(S:Nat→Bool)(a:Act):Prop where
 defers:a.defers=a0.defers
 size:a.tmps.size=a0.tmps.size
 set_:∀ i∈qs,S i=true→∀ d,cw l i=some d→a.tmps.getD d undef=val i
 other:∀ t,(∀ i∈qs,S i=true→cw l i≠some t)→a.tmps.getD t undef=a0.tmps.getD t undef
def OwnQ (l:List Oper)(qs:List Nat):Prop:=∀ i∈qs,∃ d,cw l i=some d∧∀ i'∈qs,cw l i'=some d→i'=i
section
variable {val:Nat→Value} {a0 a a':Act} {S S':Nat→Bool}
theorem lj.step (h:lj l qs val a0 S a)(ho:OwnQ l qs){i:Nat}(hi:i∈qs){d:Tmp}(hd:cw l i=some d)(hsz:d<a0.tmps.size):lj l qs val a0 (done S i) (a.put (some d) (val i)):=by
 refine ⟨h.defers,by simp [Act.put,h.size],fun i' hi' hS d' hd'=>?_,fun t ht=>?_⟩
 ·by_cases e:i'=i
  ·subst e
   rw [hd] at hd';cases hd';exact cT _ _ _ (by rw [h.size];exact hsz)
  ·have hne:d≠d':=by
    intro e';subst e';obtain ⟨d2,h1,h2⟩:=ho i hi;rw [hd] at h1;cases h1;exact e (h2 i' hi' hd')
   rw [show (a.put (some d) (val i)).tmps=a.tmps.setIfInBounds d (val i) from rfl,cH _ _ hne];exact h.set_ i' hi' (by simpa [done,e] using hS) d' hd'
 ·have hne:d≠t:=fun e=>ht i hi (by simp [done]) (by rw [hd,e])
  rw [show (a.put (some d) (val i)).tmps=a.tmps.setIfInBounds d (val i) from rfl,cH _ _ hne];refine h.other t fun i' hi' hS=>ht i' hi' ?_;unfold done
  split
  ·rfl
  ·exact hS
theorem lj.vals {val':Nat→Value}(h:lj l qs val a0 S a)(hv:∀ i∈qs,S i=true→val i=val' i):lj l qs val' a0 S a:=⟨h.defers,h.size,fun i hi hs d hd=>(h.set_ i hi hs d hd).trans (hv i hi hs),h.other⟩
end
structure Rel (M:Tmp→Prop)(a A:Act):Prop where
 defers:a.defers=A.defers
 size:a.tmps.size=A.tmps.size
 same:∀ t,¬ M t→a.tmps.getD t undef=A.tmps.getD t undef
theorem gd {ops:Array Oper}{o:Oper}{a A:Act}{W:World}{M:Tmp→Prop}{K K':Act→World→Prop}{Q:Exit→Act→World→Prop}(hsel:∀ cs b,o.op≠.select cs b)(hnd:∀ c,o.op≠.defer c)(hdst:o.dst=none)(hR:Rel M a A)(hag:∀ t∈o.looksAt ops,¬ M t)
  (h:wpListIn F n P ops (Exit.then K (fun _ _ _=>False)) [o] A W) (hK:∀ A' a' W',A'.tmps=A.tmps→a'.tmps=a.tmps→a'.defers=A'.defers→K A' W'→K' a' W'):wpListIn F n P ops (Exit.then K' Q) [o] a W:=by
 have hag':∀ t∈o.looksAt ops,A.tmps.getD t undef=a.tmps.getD t undef:=fun t ht=>(hR.same t (hag t ht)).symm;simp only [wpListIn] at h ⊢;rw [fc hR.size.symm hag'] at h
 split
 ·rename_i hw
  rw [if_pos hw] at h;unfold Oper.wpIn at h ⊢;rw [Oper.semAt_eq _ _ _ hnd] at h ⊢;rw [fa hsel hag'] at h;refine ⟨fun f hf=>h.1 f (by rw [eF W hag'];exact hf),?_⟩;have h4:=h.2;generalize (execOp a.eval o).run P W=r at h4 ⊢
  cases r with
  | ok x w' =>
   cases x<;>simp only [Oper.uponIn,Exit.then,hdst,Act.put] at h4 ⊢ <;>
    first
     | exact hK _ _ _ rfl rfl hR.defers h4
     | (refine hK _ _ _ ?_ ?_ ?_ h4<;>simp [hR.defers];done)
     | exact ⟨h4.1,CallsIn.mono h4.2 (fun e w'' he=>by cases e<;>first | exact hK _ _ _ rfl rfl hR.defers he | exact False.elim he | (obtain ⟨_,_,he⟩:=he;exact False.elim he))⟩
     | exact ⟨h4.1,RoundIn.mono h4.2 (fun e w'' he=>by cases e<;>first | exact hK _ _ _ rfl rfl hR.defers he | exact False.elim he | (obtain ⟨_,_,he⟩:=he;exact False.elim he))⟩
     | exact ⟨h4.1,RowsIn.mono h4.2 (fun v w'' he=>hK _ _ _ rfl rfl hR.defers he)⟩
     | exact h4
     | exact False.elim h4
  | halt x w'=>cases x<;>simp only [Oper.uponIn,Exit.then] at h4 ⊢<;>first | exact h4 | exact False.elim h4
 ·rename_i hw
  rw [if_neg hw] at h;refine ⟨fun f hf=>h.1 f (by rw [eF W hag'];exact hf),?_⟩;have h2:=h.2;rw [hdst] at h2 ⊢;exact hK _ _ _ rfl rfl hR.defers h2
theorem fQ {l:List Oper}{i:Nat}{o:Oper}{r:List Nat}(h:l[i]? =some o):pick l (i::r)=o::pick l r:=by
 unfold pick;rw [List.filterMap_cons,h]
def bu:List Oper→List Bool→List Oper
 | o::l,true::bs=>o::bu l bs
 | _::l,false::bs=>bu l bs
 | _,_=>[]
end
end
section
open Go.RowKit
def idxs:Nat→List Bool→List Nat
 | _,[]=>[]
 | k,true::m=>k::idxs (k+1) m
 | k,false::m=>idxs (k+1) m
theorem iG:∀ (l:List Oper) (m:List Bool) (pre:List Oper),m.length≤l.length→bu l m=pick (pre++l) (idxs pre.length m)
 | [],[],pre,_=>by simp [bu,idxs,pick]
 | o::l,[],pre,_=>by simp [bu,idxs,pick]
 | [],b::m,pre,h=>by simp at h
 | o::l,true::m,pre,h=>by
  have ih:=iG l m (pre++[o]) (by simpa using h);have e:(pre++o::l)[pre.length]? =some o:=by simp
  rw [idxs,fQ e,bu,ih];simp
 | o::l,false::m,pre,h=>by
  have ih:=iG l m (pre++[o]) (by simpa using h);rw [idxs,bu,ih];simp
theorem eD (l:List Oper)(m:List Bool)(h:m.length≤l.length):bu l m=pick l (idxs 0 m):=by
 simpa using iG l m [] h
def xsOf:List (List Bool × Nat)→List Bool→List Nat
 | [],fin=>idxs 0 fin
 | (m,x)::r,fin=>idxs 0 m++x::xsOf r fin
def gx (o:Oper):Bool:=match o.op with
 | .move _ | .assign _ | .extract _ _=>true
 | _=>false
def gK (l:List Oper)(i:Nat)(pre:List Nat):Bool:=((l[i]?).map fun o=>(o.looksAt l.toArray).all fun t=>(List.range l.length).all fun i'=>cw l i' != some t || (cJ l i i' && pre.contains i')).getD false
def ph (l:List Oper):List Nat→List Nat→Bool
 | _,[]=>true
 | pre,i::post=>gK l i pre && ph l (pre++[i]) post
def jO (l:List Oper)(i:Nat)(pre post:List Nat):Bool:=((l[i]?).map fun o=>(o.looksAt l.toArray).all fun t=>(List.range l.length).all fun i'=>cw l i' != some t || (cJ l i i' && pre.contains i') || (cJ l i' i && post.contains i')).getD false
def mN (l:List Oper):List Nat→List Nat→Bool
 | _,[]=>true
 | pre,i::post=>jO l i pre post && mN l (pre++[i]) post
def jN (l:List Oper)(j k:Nat):Bool:=cJ l j k || (List.range l.length).any fun m=>cJ l j m && cJ l m k
theorem ir {l:List Oper}{listed:Array Bool}{i k:Nat}(h:jN l i k=true)(hw:∀ i',cJ l i i'=true→listed.getD i' false=true)(hs:gC l.toArray listed):listed.getD k false=true:=by
 unfold jN at h;rw [Bool.or_eq_true] at h;rcases h with h | h
 ·exact hw k h
 ·obtain ⟨m,hm,h2⟩:=List.any_eq_true.1 h
  rw [Bool.and_eq_true] at h2;have h3:=hw m h2.1;have h4:=h2.2;unfold cJ at h4
  split at h4
  ·rename_i o ho
   obtain ⟨e,he,h5⟩:=List.any_eq_true.1 h4;simp only [Bool.and_eq_true,beq_iff_eq] at h5;rw [← h5.1];exact hs m o (by simpa using ho) h3 e (by simpa using he) h5.2
  ·cases h4
def ordB (l:List Oper)(ws:List Nat):List Nat→Bool
 | []=>true
 | x::post=>(!ws.contains x || post.all fun i=>(x::post).any fun m=>cJ l i m) && ordB l ws post
def kJ (l:List Oper)(xs ws es:List Nat)(j:Nat):Bool :=
 upS es && ki l.toArray && Region.noSelect l.toArray && gV l &&
 (xs.all fun i=>decide (i<l.length) && i != j && !es.contains i) && (es.all fun i=>decide (i<l.length) && i != j) &&
 ((List.range l.length).all fun i=>xs.contains i || es.contains i || i==j) &&
 ((List.range l.length).all fun i=>es.contains i || ((cw l i).isSome && ((List.range l.length).all fun i'=>i==i' || cw l i != cw l i'))) &&
 mN l [] xs && (es.all fun e=>gK l e (if j<l.length then j::xs else xs)) &&
 (es.all fun e=>es.all fun e'=>decide (e≤e') || cJ l e e') && (es.all fun e=>decide (l.length≤j) || cJ l e j) &&
 (xs.all fun i=>(((l[i]?).map gx).getD false && !ws.contains i) || es.all fun e=>jN l e i) && (es.all fun e=>(cw l e).isNone) && ordB l ws xs && decide xs.Nodup
structure kb (l:List Oper)(xs ws es:List Nat)(j:Nat):Prop where
 upE:es.Pairwise (·<·)
 back:ki l.toArray=true
 nosel:Region.noSelect l.toArray=true
 nodef:gV l=true
 x:∀ i∈xs,i<l.length∧i≠j∧i∉es
 e:∀ i∈es,i<l.length∧i≠j
 part:∀ i,i<l.length→i∈xs∨i∈es∨i=j
 own:∀ i,i<l.length→i∉es→∃ d,cw l i=some d∧∀ i',i'<l.length→cw l i'=some d→i'=i
 deps:∀ pre i post,xs=pre++i::post→∀ o,l[i]? =some o→∀ t∈o.looksAt l.toArray,∀ i',i'<l.length→cw l i'=some t→(cJ l i i'=true∧i'∈pre)∨(cJ l i' i=true∧i'∈post)
 depsE:∀ i∈es,∀ o,l[i]? =some o→∀ t∈o.looksAt l.toArray,∀ i',i'<l.length→cw l i'=some t→cJ l i i'=true
 chain:∀ e∈es,∀ e'∈es,e'<e→cJ l e e'=true
 fresh:∀ e∈es,j<l.length→cJ l e j=true
 late:∀ i∈xs,∀ o,l[i]? =some o→(gx o=true∧i∉ws)∨∀ e∈es,jN l e i=true
 edst:∀ e∈es,cw l e=none
 ord:∀ pre x post,xs=pre++x::post→x∈ws→∀ i∈post,∃ m∈x::post,cJ l i m=true
 nodup:xs.Nodup
theorem fG {l:List Oper}{i:Nat}{pre:List Nat}(h:gK l i pre=true):∀ o,l[i]? =some o→∀ t∈o.looksAt l.toArray,∀ i',i'<l.length→cw l i'=some t→cJ l i i'=true∧i'∈pre:=by
 intro o ho t ht i' hi' hd;unfold gK at h;rw [ho] at h;simp only [Option.map_some,Option.getD_some] at h;have h':=List.all_eq_true.1 (List.all_eq_true.1 h t ht) i' (List.mem_range.2 hi');simp only [Bool.or_eq_true,bne_iff_ne,Bool.and_eq_true,List.contains_eq_mem,decide_eq_true_eq] at h';rcases h' with h' | h'
 ·exact absurd hd h'
 ·exact h'
theorem mB {l:List Oper}{i:Nat}{pre post:List Nat}(h:jO l i pre post=true):∀ o,l[i]? =some o→∀ t∈o.looksAt l.toArray,∀ i',i'<l.length→cw l i'=some t→(cJ l i i'=true∧i'∈pre)∨(cJ l i' i=true∧i'∈post):=by
 intro o ho t ht i' hi' hd;unfold jO at h;rw [ho] at h;simp only [Option.map_some,Option.getD_some] at h;have h':=List.all_eq_true.1 (List.all_eq_true.1 h t ht) i' (List.mem_range.2 hi');simp only [Bool.or_eq_true,bne_iff_ne,Bool.and_eq_true,List.contains_eq_mem,decide_eq_true_eq] at h';rcases h' with (h' | h') | h'
 ·exact absurd hd h'
 ·exact .inl h'
 ·exact .inr h'
theorem jC {l:List Oper}:∀ (xs acc:List Nat),mN l acc xs=true→∀ pre i post,xs=pre++i::post→jO l i (acc++pre) post=true
 | [],acc,_,pre,i,post,e=>by simp at e
 | x::xs,acc,h,pre,i,post,e=>by
  simp only [mN,Bool.and_eq_true] at h
  cases pre with
  | nil=>simp at e;obtain ⟨rfl,rfl⟩:=e;simpa using h.1
  | cons p pre =>
   simp at e;obtain ⟨rfl,rfl⟩:=e;have:=jC _ _ h.2 pre i post rfl;simpa using this
theorem jG {l:List Oper}{listed:Array Bool}{i:Nat}(hs:gC l.toArray listed)(hf:listed.getD i false=false):∀ i',cJ l i' i=true→listed.getD i' false=false:=by
 intro i' h
 cases hc:listed.getD i' false with
 | false=>rfl
 | true =>
  unfold cJ at h
  split at h
  ·rename_i o ho
   obtain ⟨e,he,h5⟩:=List.any_eq_true.1 h;simp only [Bool.and_eq_true,beq_iff_eq] at h5;have:=hs i' o (by simpa using ho) hc e (by simpa using he) h5.2;rw [h5.1,hf] at this;cases this
  ·cases h
theorem lB {l:List Oper}{ws:List Nat}:∀ (xs:List Nat),ordB l ws xs=true→∀ pre x post,xs=pre++x::post→x∈ws→∀ i∈post,∃ m∈x::post,cJ l i m=true
 | [],_,pre,x,post,e=>by simp at e
 | y::xs,h,pre,x,post,e=>by
  simp only [ordB,Bool.and_eq_true] at h
  cases pre with
  | nil =>
   simp at e;obtain ⟨rfl,rfl⟩:=e;intro hx i hi;have h1:=h.1;simp only [Bool.or_eq_true,Bool.not_eq_true',List.contains_eq_mem,decide_eq_false_iff_not] at h1;have h2:=h1.resolve_left (fun hn=>hn hx);obtain ⟨m,hm,h3⟩:=List.any_eq_true.1 (List.all_eq_true.1 h2 i hi);exact ⟨m,hm,h3⟩
  | cons p pre =>
   simp at e;obtain ⟨rfl,rfl⟩:=e;exact lB _ h.2 pre x post rfl
theorem re {l:List Oper}{xs ws es:List Nat}{j:Nat}(h:kJ l xs ws es j=true):kb l xs ws es j:=by
 unfold kJ at h;simp only [Bool.and_eq_true] at h;obtain ⟨⟨⟨⟨⟨⟨⟨⟨⟨⟨⟨⟨⟨⟨⟨h1,h2⟩,h3⟩,h4⟩,h5⟩,h6⟩,h7⟩,h8⟩,h9⟩,h10⟩,h11⟩,h12⟩,h13⟩,h14⟩,h15⟩,h16⟩:=h;refine ⟨kG h1,h2,h3,h4,fun i hi=>?_,fun i hi=>?_,fun i hi=>?_,fun i hi hne=>?_,fun pre i post e o ho t ht i' hi' hd=>?_,fun i hi o ho t ht i' hi' hd=>?_,fun e he e' he' hlt=>?_,fun e he hj=>?_,fun i hi o ho=>?_,fun e he=>?_,lB _ h15,of_decide_eq_true h16⟩
 ·have:=List.all_eq_true.1 h5 i hi
  simp only [Bool.and_eq_true,decide_eq_true_eq,bne_iff_ne,Bool.not_eq_true',List.contains_eq_mem,decide_eq_false_iff_not] at this;exact ⟨this.1.1,this.1.2,this.2⟩
 ·have:=List.all_eq_true.1 h6 i hi
  simp only [Bool.and_eq_true,decide_eq_true_eq,bne_iff_ne] at this;exact this
 ·have:=List.all_eq_true.1 h7 i (List.mem_range.2 hi)
  simp only [Bool.or_eq_true,List.contains_eq_mem,decide_eq_true_eq,beq_iff_eq] at this;rcases this with (h | h) | h
  ·exact .inl h
  ·exact .inr (.inl h)
  ·exact .inr (.inr h)
 ·have h:=List.all_eq_true.1 h8 i (List.mem_range.2 hi)
  simp only [Bool.or_eq_true,List.contains_eq_mem,decide_eq_true_eq] at h;rcases h with h | h
  ·exact absurd h hne
  ·simp only [Bool.and_eq_true] at h
   obtain ⟨d,hd⟩:=Option.isSome_iff_exists.1 h.1;refine ⟨d,hd,fun i' hi' hd'=>?_⟩;have h':=List.all_eq_true.1 h.2 i' (List.mem_range.2 hi');simp only [Bool.or_eq_true,beq_iff_eq,bne_iff_ne] at h';rcases h' with h' | h'
   ·exact h'.symm
   ·exact absurd (hd.trans hd'.symm) h'
 ·exact mB (by simpa using jC _ _ h9 pre i post e) o ho t ht i' hi' hd
 ·exact (fG (List.all_eq_true.1 h10 i hi) o ho t ht i' hi' hd).1
 ·have:=List.all_eq_true.1 (List.all_eq_true.1 h11 e he) e' he'
  simp only [Bool.or_eq_true,decide_eq_true_eq] at this;exact this.resolve_left (by omega)
 ·have:=List.all_eq_true.1 h12 e he
  simp only [Bool.or_eq_true,decide_eq_true_eq] at this;exact this.resolve_left (by omega)
 ·have:=List.all_eq_true.1 h13 i hi
  rw [ho] at this;simp only [Option.map_some,Option.getD_some,Bool.or_eq_true,Bool.and_eq_true,Bool.not_eq_true',List.contains_eq_mem,decide_eq_false_iff_not] at this;rcases this with h | h
  ·exact .inl h
  ·exact .inr fun e he=>List.all_eq_true.1 h e he
 ·have:=List.all_eq_true.1 h14 e he
  simpa using this
structure cM (l:List Oper)(S:Nat→Prop)(A base a:Act):Prop where
 defers:a.defers=base.defers
 size:a.tmps.size=base.tmps.size
 in_:∀ i,S i→∀ t,cw l i=some t→a.tmps.getD t undef=A.tmps.getD t undef
 out:∀ t,(∀ i,S i→cw l i≠some t)→a.tmps.getD t undef=base.tmps.getD t undef
section
variable {F:Fence} {n:Nat} {P:Program} {l:List Oper}
section
variable {S S':Nat→Prop} {A A' base a:Act}
theorem cM.nil (h:∀ i,¬ S i):cM l S A base base:=⟨rfl,rfl,fun i hi=>absurd hi (h i),fun _ _=>rfl⟩
theorem cM.congr (h:cM l S A base a)(hS:∀ i,S i↔S' i):cM l S' A base a:=⟨h.defers,h.size,fun i hi=>h.in_ i ((hS i).2 hi),fun t ht=>h.out t fun i hi=>ht i ((hS i).1 hi)⟩
theorem cM.change (h:cM l S A base a)(hA:∀ i,S i→∀ t,cw l i=some t→A.tmps.getD t undef=A'.tmps.getD t undef):cM l S A' base a:=⟨h.defers,h.size,fun i hi t ht=>(h.in_ i hi t ht).trans (hA i hi t ht),h.out⟩
theorem cM.step (h:cM l S A base a){i:Nat}{d:Tmp}(hd:cw l i=some d)(hu:∀ i',S i'→cw l i'=some d→i'=i)(hsz:d<base.tmps.size):cM l (fun k=>S k∨k=i) A base (a.put (some d) (A.tmps.getD d undef)):=by
 have hp:(a.put (some d) (A.tmps.getD d undef)).tmps=a.tmps.setIfInBounds d (A.tmps.getD d undef):=rfl;refine ⟨h.defers,by rw [hp];simpa using h.size,fun k hk t ht=>?_,fun t ht=>?_⟩
 ·by_cases e:t=d
  ·subst e
   rw [hp,cT _ _ _ (by rw [h.size];exact hsz)]
  ·rw [hp,cH _ _ (Ne.symm e)]
   rcases hk with hk | rfl
   ·exact h.in_ k hk t ht
   ·rw [hd] at ht;exact absurd (Option.some.inj ht).symm e
 ·have e:d≠t:=fun e=>ht i (.inr rfl) (by rw [hd,e])
  rw [hp,cH _ _ e];exact h.out t fun k hk=>ht k (.inl hk)
theorem cM.trans (h:cM l S A' A a)(k:cM l S' A' base A):cM l (fun i=>S i∨S' i) A' base a:=by
 refine ⟨h.defers.trans k.defers,h.size.trans k.size,fun i hi t ht=>?_,fun t ht=>?_⟩
 ·by_cases hex:∃ i',S i'∧cw l i'=some t
  ·obtain ⟨i',h1,h2⟩:=hex
   exact h.in_ i' h1 t h2
  ·rw [h.out t (fun i' h1 h2=>hex ⟨i',h1,h2⟩)]
   rcases hi with hi | hi
   ·exact absurd ⟨i,hi,ht⟩ hex
   ·exact k.in_ i hi t ht
 ·rw [h.out t (fun i hi=>ht i (.inl hi))]
  exact k.out t fun i hi=>ht i (.inr hi)
end
theorem g7 {C:World→Prop}{A:Act}:∀ (qs:List Nat) (base:Act),(∀ i∈qs,i<l.length∧∃ d,cw l i=some d∧d<base.tmps.size∧∀ i'∈qs,cw l i'=some d→i'=i)→qs.Nodup →
  wpQuietIn F n P l.toArray C (fun a2=>a2=A) (pick l qs) base →
  cM l (·∈qs) A base A∧∀ pre i post,qs=pre++i::post→∀ o,l[i]? =some o→∃ LF,cM l (·∈pre) A base LF∧YieldsQuiet F n P l.toArray C o (cX l A i) LF
 | [],base,_,_,h=>by
  have e:base=A:=h;subst e;exact ⟨cM.nil (by simp),fun pre i post e=>by simp at e⟩
 | i0::qs,base,hq,hnd,h=>by
  obtain ⟨hlt,d,hd,hsz,hun⟩:=hq i0 (by simp);have ho:l[i0]? =some l[i0]:=List.getElem?_eq_getElem hlt;rw [fQ ho] at h;have hdo:(l[i0]).dst=some d:=by unfold cw at hd;rw [ho] at hd;exact hd
  have main:∃ v,YieldsQuiet F n P l.toArray C l[i0] v base∧wpQuietIn F n P l.toArray C (fun a2=>a2=A) (pick l qs) (base.put (some d) v):=by
   obtain ⟨ha,h2⟩:=h;by_cases hw:Region.wanted l[i0] (yielded l.toArray base.tmps)=true
   ·rw [if_pos hw] at h2
    obtain ⟨v,h3,h4⟩:=h2;exact ⟨v,⟨ha,.inl ⟨hw,h3⟩⟩,by rw [← hdo];exact h4⟩
   ·rw [if_neg hw] at h2
    exact ⟨undef,⟨ha,.inr ⟨by simpa using hw,rfl⟩⟩,by rw [← hdo];exact h2⟩
  obtain ⟨v,hy,hr⟩:=main;rw [List.nodup_cons] at hnd;have hbs:(base.put (some d) v).tmps.size=base.tmps.size:=by simp [Act.put]
  have hpt:(base.put (some d) v).tmps=base.tmps.setIfInBounds d v:=rfl
  obtain ⟨i1,i2⟩:=g7 qs (base.put (some d) v) (fun i hi=>by
   obtain ⟨g1,d',g2,g3,g4⟩:=hq i (by simp [hi])
   exact ⟨g1,d',g2,by rw [hbs];exact g3,fun i' hi'=>g4 i' (by simp [hi'])⟩) hnd.2 hr
  have hnod:∀ i∈qs,cw l i≠some d:=fun i hi e=>by
   have:=hun i (by simp [hi]) e;subst this;exact hnd.1 hi
  have hAd:A.tmps.getD d undef=v:=by
   rw [i1.out d hnod,hpt,cT _ _ _ hsz]
  have hv:cX l A i0=v:=by unfold cX;rw [hd];exact hAd
  have up:∀ {S:Nat→Prop} {LF:Act},(∀ i,S i→i∈qs)→cM l S A (base.put (some d) v) LF→cM l (fun k=>k=i0∨S k) A base LF:=by
   intro S LF hS hm;refine ⟨hm.defers,hm.size.trans hbs,fun i hi t ht=>?_,fun t ht=>?_⟩
   ·rcases hi with rfl | hi
    ·rw [hd] at ht;cases ht
     rw [hm.out d (fun i' hi'=>hnod i' (hS i' hi')),hpt,cT _ _ _ hsz,hAd]
    ·exact hm.in_ i hi t ht
   ·have e:d≠t:=fun e=>ht i0 (.inl rfl) (by rw [hd,e])
    rw [hm.out t (fun i hi=>ht i (.inr hi)),hpt,cH _ _ e]
  refine ⟨(up (fun i hi=>hi) i1).congr (by simp),fun pre i post e o hol=>?_⟩
  cases pre with
  | nil =>
   simp at e;obtain ⟨rfl,rfl⟩:=e;rw [ho] at hol;cases hol;exact ⟨base,cM.nil (by simp),by rw [hv];exact hy⟩
  | cons p pre =>
   simp at e;obtain ⟨rfl,rfl⟩:=e;obtain ⟨LF,h5,h6⟩:=i2 pre i post rfl o hol;exact ⟨LF,(up (fun k hk=>by simp [hk]) h5).congr (by simp),h6⟩
theorem fJ {ops:Array Oper}{o:Oper}{a A:Act}{W:World}{K K':Act→World→Prop}{Q:Exit→Act→World→Prop}(hsel:∀ cs b,o.op≠.select cs b)(hnd:∀ c,o.op≠.defer c)(hz:a.tmps.size=A.tmps.size)(hag:∀ t∈o.looksAt ops,A.tmps.getD t undef=a.tmps.getD t undef)
  (h:wpListIn F n P ops (Exit.then K (fun _ _ _=>False)) [o] A W) (hK:∀ A' a' W' v,A'.tmps=(A.put o.dst v).tmps→a'.tmps=(a.put o.dst v).tmps→(A'.defers=A.defers→a'.defers=a.defers)→K A' W'→K' a' W'):wpListIn F n P ops (Exit.then K' Q) [o] a W:=by
 have pd:∀ (x:Act) (v:Value),(x.put o.dst v).defers=x.defers:=fun x v=>by cases o.dst<;>rfl
 simp only [wpListIn] at h ⊢;rw [fc hz.symm hag] at h
 split
 ·rename_i hw
  rw [if_pos hw] at h;unfold Oper.wpIn at h ⊢;rw [Oper.semAt_eq _ _ _ hnd] at h ⊢;rw [fa hsel hag] at h;refine ⟨fun f hf=>h.1 f (by rw [eF W hag];exact hf),?_⟩;have h4:=h.2;generalize (execOp a.eval o).run P W=r at h4 ⊢
  cases r with
  | ok x w' =>
   cases x<;>simp only [Oper.uponIn,Exit.then] at h4 ⊢ <;>
    first
     | exact hK _ _ _ _ rfl rfl (fun _=>pd a _) h4
     | exact hK _ _ _ undef (by cases o.dst<;>rfl) (by cases o.dst<;>rfl) (fun e=>by
       have e2:∀ (x:Act) (v:Value),(x.put o.dst v).defers=x.defers:=pd;rw [e2] at e
       exact absurd e (by simp)) h4
     | exact ⟨h4.1,CallsIn.mono h4.2 (fun e w'' he=>by cases e<;>first | exact hK _ _ _ _ rfl rfl (fun _=>pd a _) he | exact False.elim he | (obtain ⟨_,_,he⟩:=he;exact False.elim he))⟩
     | exact ⟨h4.1,RoundIn.mono h4.2 (fun e w'' he=>by cases e<;>first | exact hK _ _ _ _ rfl rfl (fun _=>pd a _) he | exact False.elim he | (obtain ⟨_,_,he⟩:=he;exact False.elim he))⟩
     | exact ⟨h4.1,RowsIn.mono h4.2 (fun v w'' he=>hK _ _ _ _ rfl rfl (fun _=>pd a _) he)⟩
     | exact h4
     | exact False.elim h4
  | halt x w'=>cases x<;>simp only [Oper.uponIn,Exit.then] at h4 ⊢<;>first | exact h4 | exact False.elim h4
 ·rename_i hw
  rw [if_neg hw] at h;refine ⟨fun f hf=>h.1 f (by rw [eF W hag];exact hf),?_⟩;exact hK _ _ _ undef rfl rfl (fun _=>pd a _) h.2
def eE (F:Fence)(P:Program)(ops:Array Oper)(o:Oper)(v:Value)(a:Act):Prop :=
 (∀ W f,o.about P W a.eval=some f→F.fn f)∧((Region.wanted o (yielded ops a.tmps)=true∧∀ W,(execOp a.eval o).run P W = .ok (.value v) W)∨(Region.wanted o (yielded ops a.tmps)=false∧v=undef))
theorem gZ {ops:Array Oper}{C:World→Prop}{o:Oper}{v:Value}{a:Act}(hl:gx o=true)(hC:∃ W,C W)(hy:YieldsQuiet F n P ops C o v a):eE F P ops o v a:=by
 obtain ⟨W0,hW0⟩:=hC;obtain ⟨dst,op,type,pos,after,guard⟩:=o;refine ⟨fun W f hf=>?_,?_⟩
 ·unfold gx at hl
  cases op<;>simp only at hl<;>first | (cases hl;done) | (have h0:(none:Option FuncId)=some f:=hf;cases h0)
 ·rcases hy.2 with ⟨hw,hv⟩ | h
  ·refine .inl ⟨hw,fun W=>?_⟩
   have h3:=hv W0 hW0;unfold Oper.quietAtIn at h3;unfold gx at hl;cases op<;>simp only at hl<;>first | (cases hl;done) | skip
   ·simp only [execOp,Sem.run_pure,Oper.quietUponIn] at h3 ⊢
    rw [h3.2]
   ·simp only [execOp,Sem.run_pure,Oper.quietUponIn] at h3 ⊢
    rw [h3.2]
   ·rename_i t ix
    simp only [execOp] at h3 ⊢;unfold Instr.extract at h3 ⊢;cases hv:a.eval t<;>rw [hv] at h3<;>simp only [Sem.run_bind] at h3 ⊢
    case tuple xs =>
     cases hx:xs[ix]?<;>simp [hx,Sem.run_pure,Result.andThen,Oper.quietUponIn] at h3 ⊢;exact h3
    all_goals simp [Result.andThen,Oper.quietUponIn] at h3
  ·exact .inr h
theorem eE.agree {ops:Array Oper}{o:Oper}{v:Value}{a a':Act}(hy:eE F P ops o v a)(hs:∀ cs b,o.op≠.select cs b)(hz:a.tmps.size=a'.tmps.size)(h:∀ t∈o.looksAt ops,a.tmps.getD t undef=a'.tmps.getD t undef):eE F P ops o v a':=by
 unfold eE at hy ⊢;rw [← fa hs h,← fc hz h];exact ⟨fun W f hf=>hy.1 W f (by rw [eF W h];exact hf),hy.2⟩
end
end
end Go.Proofs.YthofngceiecniaaGreat
