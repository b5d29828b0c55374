/- Part 9 of the texts of this claim, joined. -/
import Derived.Sort.CutIn
import Derived.Sort.WalkA
import Derived.Sort.OwnSortedInts
import Derived.Test.YthofngceiecniaaGreatZxJ8
set_option linter.unusedVariables false
/- mix.table.wrong. -/
namespace Go.Proofs.YthofngceiecniaaGreat
set_option maxHeartbeats 16000000
set_option maxRecDepth 100000
section
open Go.RowKit Go.Shelf
attribute [local go_sem] Oper.semAt_some
def ownK (m:Mix)(f:Int)(k:Nat):List Int:=((m.tastes.take k).filter fun x=>decide (x.fountain=f)).map (·.num)
theorem pY {m:Mix}{f:Int}{k:Nat}{x:Tast}(hx:m.tastes[k]? =some x)(h:x.fountain=f):ownK m f (k+1)=ownK m f k++[x.num]:=by
 unfold ownK;rw [List.take_add_one,hx,List.filter_append,List.map_append]
 congr 1
 simp [h]
theorem qJ {m:Mix}{f:Int}{k:Nat}{x:Tast}(hx:m.tastes[k]? =some x)(h:¬ x.fountain=f):ownK m f (k+1)=ownK m f k:=by
 unfold ownK;rw [List.take_add_one,hx,List.filter_append,List.map_append];simp [h]
theorem nX {m:Mix}{f:Int}{k:Nat}(h:m.tastes.length=k):ownK m f k=ownL m f:=by
 unfold ownK ownL;rw [List.take_of_length_le (by omega)]
theorem pH {T:Tb}(h:TbOk T){f:Int}:(ownL T.m f).Pairwise (·<·) :=
 (fh (jS h.ok)).1.sublist (List.filter_sublist.map _)
theorem rZ {w W:World}{t0 t1 t2:TypeId}{c0 c1:Array Value}{x:Value}(h:Lay w W [(w.heap.size,t0,c0),(w.heap.size+1,t1,c1),(w.heap.size+1+1,t2,#[x])])(v:Value) :
  Lay w (W.setCell ⟨w.heap.size+1+1,0,none⟩ v) [(w.heap.size,t0,c0),(w.heap.size+1,t1,c1),(w.heap.size+1+1,t2,#[v])]:=by
 refine ⟨h.1.setCell (p:=⟨w.heap.size+1+1,0,none⟩) (h.ge 2 rfl) _,fun b hb=>?_⟩;simp only [List.mem_cons,List.not_mem_nil,or_false] at hb;rcases hb with rfl | rfl | rfl
 ·exact ⟨h.ge 0 rfl,(h.blk 0 rfl).far (p:=⟨w.heap.size+1+1,0,none⟩) (by dsimp only;omega) _⟩
 ·exact ⟨h.ge 1 rfl,(h.blk 1 rfl).far (p:=⟨w.heap.size+1+1,0,none⟩) (by dsimp only;omega) _⟩
 ·exact ⟨h.ge 2 rfl,(h.blk 2 rfl).set_ 0 v⟩
def qv (w:World)(T:Tb)(f:Int)(e:Ending)(w':World):Prop :=
 ∃ A n c b r,e = .returned (.tuple #[.slice A n c,.bool b])∧Below w.heap.size w w'∧(b=true→cr w' w'.heap.size A n r)∧oS T.m T.L f b r
inductive td (v2 v3 v6 v17 v18 v19:Value):Act→Prop
 | mk (a b c d e f g h i j k l m n o p q r s t w x y z A B C D E F G H I J K L M N O P:Value):td v2 v3 v6 v17 v18 v19 ⟨#[a,b,v2,v3,c,d,v6,e,f,g,h,i,j,k,l,m,n,v17,v18,v19,o,p,q,r,s,t,w,x,y,z,A,B,C,D,E,F,G,H,I,J,K,L,M,N,O,P],[]⟩
inductive s8 (v9 v34:Value):Act→Prop
 | mk (a b c d e f g h i j k l m n o p q r s t w x y z A B C D E F G H I J K L M N O P Q R S T:Value):s8 v9 v34 ⟨#[a,b,c,d,e,f,g,h,i,v9,j,k,l,m,n,o,p,q,r,s,t,w,x,y,z,A,B,C,D,E,F,G,H,I,v34,J,K,L,M,N,O,P,Q,R,S,T],[]⟩
theorem sp (T:Tb)(f:Int)(w:World)(h:TbAt w T)(hok:TbOk T) :
  CallsIn Fence.wide 9 Tryz.prog 59 #[.pointer (some ⟨T.g,0,none⟩),.int .i64 f] w (qv w T f):=by
 have HT:=lh h;have hmf:∀ (fn:Fn) (first cap:Array Value) (w:World),(Instr.makeFunc fn first cap).run Tryz.prog w = .ok (.func fn first cap) w:=fun _ _ _ _=>rfl;clear h;refine callsIn_of_wp Tryz.func59 rfl trivial ?_ rfl;simp only [Tryz.ntmps59,es,Nat.reduceAdd,Nat.reduceSub];gi_upto_region 2 with fail
 have Ly:=lh (Lay.three w 92 #[.pointer (some ⟨T.g,0,none⟩)] 3 #[.int .i64 f] 34 #[.slice none 0 0]);generalize (((w.alloc (.cells #[.pointer (some ⟨T.g,0,none⟩)] 92)).alloc (.cells #[.int .i64 f] 3)).alloc (.cells #[.slice none 0 0] 34))=w0 at *;have HT0:=lh (HT.out.below Ly.out.1);have t3:=HT0.out.blk.cell 3;have tl:=HT0.out.blk.lt;change _=some (Value.slice T.At T.nt T.ct) at t3;have ht8:T.nt≤8:=HT.out.small.2.2.1;have x0_0:=lyc Ly 0 rfl 0;have l0_:=Ly.out.lt 0 rfl;gi_wp2;clear t3 tl;clear x0_0 l0_;refine wpIn_loop (fun ac W=>∃ (k:Nat) (oA:Option Addr) (on oc:Nat),Hid (k≤T.nt∧on≤k∧Own W (w.heap.size+3) 3 1 oA on oc ((ownK T.m f k).map (Value.int .i64))∧Lay w W [(w.heap.size,92,#[.pointer (some ⟨T.g,0,none⟩)]),(w.heap.size+1,3,#[.int .i64 f]),(w.heap.size+1+1,34,#[.slice oA on oc])])∧td (.pointer (some ⟨w.heap.size,0,none⟩)) (.pointer (some ⟨w.heap.size+1,0,none⟩)) (.pointer (some ⟨w.heap.size+1+1,0,none⟩)) (.slice T.At T.nt T.ct) (.int .i64 (T.nt:Int)) (.int .i64 (k:Int)) ac) (fun ac _=>T.nt - (intOf (ac.tmps.getD 19 undef)).toNat) ?_ ?_
 ·exact ⟨0,none,0,0,lh ⟨Nat.zero_le _,n_R,Own.none_ _ _ _ _,Ly.out⟩,by constructor⟩
 clear Ly HT0;rintro ac W ⟨k,oA,on,oc,HS,ha⟩;cases ha;have Ly:=lh HS.out.2.2.2;by_cases hkn:k<T.nt
 ·
  obtain ⟨bt,ot,x,hAt,hbt,hx,c0,c1,c2,c3,c4,c5⟩:=(HT.out.mix.below Ly.out.1).tast hkn;have hlt:bt<W.heap.size:=Nat.lt_of_lt_of_le hbt Ly.out.1.size;have HX:=lh hx;have HAT:=lh hAt;have hok1:=HS.out.2.1;have HOW:=lh HS.out.2.2.1;have HGL:=lh (Ly.out.lt 2 rfl);rw [hAt];gi_upto_region 5 with fail
  rw [← HAT.out];clear hx hAt hbt c0 c1 c2 c3 c4 c5 hlt
  obtain ⟨V1,hV⟩:∃ V,(W.alloc (.cells #[.int .i64 x.num,.int .i64 x.vessel,.int .i64 x.after,.int .i64 x.fountain,.int .i64 x.lo,.int .i64 x.hi] 69))=V:=⟨_,rfl⟩
  rw [hV];have hb:=de hV;have hnew:=dc hV;have hge:=Ly.out.bel.size;replace Ly:=lyb Ly hb;replace HOW:=lh (HOW.out.below hb n_R);replace Ly:=lh (Ly.out.add hge hnew);clear hnew hge hb hV
  obtain ⟨G2,hG⟩:∃ g,W.heap.size=g:=⟨_,rfl⟩
  rw [hG] at Ly ⊢;clear hG;by_cases hf:x.fountain=f
  ·
   have hfb:(x.fountain==f)=true:=by simpa using hf
   have HF:=lh hf;have HK:=lh (pY HX.out hf);clear hf;have HL3:Hid (Lay w V1 [(w.heap.size,92,#[.pointer (some ⟨T.g,0,none⟩)]),(w.heap.size+1,3,#[.int .i64 f]),(w.heap.size+1+1,34,#[.slice oA on oc])]):=lh ⟨Ly.out.1,fun b hb=>Ly.out.2 b (by simp only [List.mem_cons,List.not_mem_nil,or_false] at hb ⊢;rcases hb with rfl | rfl | rfl<;>simp)⟩;have hg3:w.heap.size+3≤V1.heap.size:=by have:=Ly.out.lt 2 rfl;omega
   have x1_0:=lyc Ly 1 rfl 0;have l1_:=Ly.out.lt 1 rfl;have x2_0:=lyc Ly 2 rfl 0;have l2_:=Ly.out.lt 2 rfl;obtain ⟨x3_0,x3_1,x3_2,x3_3,x3_4,x3_5⟩:=lyc6 Ly 3 rfl;have l3_:=Ly.out.lt 3 rfl
   gi_wp2_with (first | (gi_at_builtin;refine cG rfl (.tmp 27) (.tmp 30) (by rfl) dP rfl (HOW.out.alloc _) rfl (cr.new V1 3 [x.num] (V1.heap.size+1) (by omega)) (dO [x.num]) (by unfold maxLen;omega) (by omega) (by simp;omega) ?_) | fail)
   rintro A9 c9 V9 hown hg hA;have hb9:Below V1.heap.size V1 (V1.alloc (.cells #[.int .i64 x.num] 3)):=b_R.alloc n_R _;have HL9:=lh (jY (HL3.out.below hb9) hg (fun r hr=>(dB HOW.out r hr).1));have HO9:=lh hown;clear hown hg hA hb9;clear x1_0 l1_ x2_0 l2_ x3_0 x3_1 x3_2 x3_3 x3_4 x3_5 l3_;have z0:=(HL9.out.blk 2 rfl).cell 0;have z1:=(HL9.out.blk 2 rfl).frozen 0;have zl:=HL9.out.lt 2 rfl;gi_wp2;clear z0 z1 zl;refine ⟨⟨k+1,A9,on+1,c9,lh ⟨hkn,by omega,?_,rZ HL9.out _⟩,by rw [show ((k+1:Nat):Int)=(k:Int)+1 from by omega];first | constructor | (rw [HAT.out];constructor)⟩,?_⟩
   ·rw [HK.out,List.map_append]
    exact mp HO9.out (p:=⟨w.heap.size+1+1,0,none⟩) (by dsimp only;omega) _
   ·simp [intOf]<;>omega
  ·
   have hfb:(x.fountain==f)=false:=by simpa using hf
   have HK:=lh (qJ HX.out hf);clear hf;have HL3:Hid (Lay w V1 [(w.heap.size,92,#[.pointer (some ⟨T.g,0,none⟩)]),(w.heap.size+1,3,#[.int .i64 f]),(w.heap.size+1+1,34,#[.slice oA on oc])]):=lh ⟨Ly.out.1,fun b hb=>Ly.out.2 b (by simp only [List.mem_cons,List.not_mem_nil,or_false] at hb ⊢;rcases hb with rfl | rfl | rfl<;>simp)⟩;have x1_0:=lyc Ly 1 rfl 0;have l1_:=Ly.out.lt 1 rfl;obtain ⟨x3_0,x3_1,x3_2,x3_3,x3_4,x3_5⟩:=lyc6 Ly 3 rfl;have l3_:=Ly.out.lt 3 rfl;gi_wp2;clear x1_0 l1_ x3_0 x3_1 x3_2 x3_3 x3_4 x3_5 l3_;refine ⟨⟨k+1,oA,on,oc,lh ⟨hkn,by omega,?_,HL3.out⟩,by rw [show ((k+1:Nat):Int)=(k:Int)+1 from by omega];first | constructor | (rw [HAT.out];constructor)⟩,?_⟩
   ·rw [HK.out]
    exact HOW.out
   ·simp [intOf]<;>omega
 ·
  obtain rfl:T.nt=k:=by have:=HS.out.1;omega
  have hon:=HS.out.2.1
  have hol:(ownL T.m f).length=on:=by
   have h1:=HS.out.2.2.1.len;rw [nX HT.out.mix.lenT] at h1;simpa using h1
  have HOW:=lh (show Own W (w.heap.size+3) 3 1 oA on oc ((ownL T.m f).map (Value.int .i64)) from by rw [← nX HT.out.mix.lenT];exact HS.out.2.2.1);clear hkn;have hgl:=Ly.out.lt 2 rfl;have HOR:=lh (fun (a:Addr) (ha:oA=some a)=>(HOW.out.lt ha).2);gi_upto_region 9 with fail
  obtain ⟨V3,hV⟩:∃ V,(W.alloc (.cells #[.nilFunc] 162))=V:=⟨_,rfl⟩
  rw [hV];have hb:=de hV;have hnew:=dc hV;have hge:=Ly.out.bel.size;replace Ly:=lyb Ly hb;replace HOW:=lh (HOW.out.below hb n_R);replace Ly:=lh (Ly.out.add hge hnew);clear hnew hge hb hV
  obtain ⟨G4,hG⟩:∃ g,W.heap.size=g:=⟨_,rfl⟩
  rw [hG] at Ly ⊢;have HG_:=lh hG;clear hG;have HGW:Hid (w.heap.size+1+1<G4):=lh (by rw [← HG_.out];exact hgl);have HOA:Hid (∀ a,oA=some a→a.block<G4):=lh (fun a ha=>by rw [← HG_.out];exact HOR.out a ha);clear hgl HOR;have z0:=lyc Ly 3 rfl 0;have z1:=lyf Ly 3 rfl 0;have zl:=Ly.out.lt 3 rfl;gi_wp2;clear z0 z1 zl
  have HBX:Hid (mU (V3.setCell ⟨G4,0,none⟩ (.func (.func 95) #[] #[.pointer (some ⟨w.heap.size,0,none⟩),.pointer (some ⟨w.heap.size+1,0,none⟩),.pointer (some ⟨w.heap.size+1+1,0,none⟩),.pointer (some ⟨G4,0,none⟩)])) T f w.heap.size (w.heap.size+1) (w.heap.size+1+1) G4 oA on oc (ownL T.m f)):=lh (by
   have hg:=HGW.out;have hbel:=Ly.out.1.setCell (p:=⟨G4,0,none⟩) (Ly.out.ge 3 rfl) (.func (.func 95) #[] #[.pointer (some ⟨w.heap.size,0,none⟩),.pointer (some ⟨w.heap.size+1,0,none⟩),.pointer (some ⟨w.heap.size+1+1,0,none⟩),.pointer (some ⟨G4,0,none⟩)])
   exact ⟨HT.out.below hbel,(Ly.out.blk 0 rfl).far (p:=⟨G4,0,none⟩) (by dsimp only;omega) _,(Ly.out.blk 1 rfl).far (p:=⟨G4,0,none⟩) (by dsimp only;omega) _,(Ly.out.blk 2 rfl).far (p:=⟨G4,0,none⟩) (by dsimp only;omega) _,(Ly.out.blk 3 rfl).set_ 0 _,
    (dM HOW.out n_R).hold (fun b o ho hc a ha hab=>(Below.heap_setCell _ _ _ _ (by dsimp only;have:=(HOA.out a ha);omega)).trans ho) |>.more (by simp),by omega⟩)
  have HB0:=lh (show Below w.heap.size w (V3.setCell ⟨G4,0,none⟩ (.func (.func 95) #[] #[.pointer (some ⟨w.heap.size,0,none⟩),.pointer (some ⟨w.heap.size+1,0,none⟩),.pointer (some ⟨w.heap.size+1+1,0,none⟩),.pointer (some ⟨G4,0,none⟩)])) from Ly.out.1.setCell (p:=⟨G4,0,none⟩) (Ly.out.ge 3 rfl) _);generalize (V3.setCell ⟨G4,0,none⟩ (.func (.func 95) #[] #[.pointer (some ⟨w.heap.size,0,none⟩),.pointer (some ⟨w.heap.size+1,0,none⟩),.pointer (some ⟨w.heap.size+1+1,0,none⟩),.pointer (some ⟨G4,0,none⟩)]))=S0 at *;clear Ly HOW;refine wpIn_loop (fun ac W9=>∃ (n:Nat),Hid (n≤4∧(∀ k<n,∀ y∈dV (ownL T.m f) k,¬ WrP T.m T.L f y)∧Below S0.heap.size S0 W9)∧s8 (.pointer (some ⟨G4,0,none⟩)) (.int .i64 (n:Int)) ac) (fun ac _=>4 - (intOf (ac.tmps.getD 34 undef)).toNat) ?_ ?_
  ·exact ⟨0,lh ⟨by omega,(fun k hk=>absurd hk (Nat.not_lt_zero _)),b_R⟩,by constructor⟩
  rintro ac W9 ⟨n,HN,ha⟩;cases ha;have HX9:=lh (HBX.out.below HN.out.2.2);have HB9:=lh (HB0.out.trans (HN.out.2.2.mono HB0.out.size));by_cases hn4:n<4
  ·
   have z0:=HX9.out.b3.cell 0;have zl:=HX9.out.b3.lt;have hsk:=qk T f hok w.heap.size (w.heap.size+1) (w.heap.size+1+1) G4 oA on oc (ownL T.m f) n 0 [] none 0 0 W9 HX9.out (cB.none_ (w:=W9) (B:=W9.heap.size)) (by omega) (Nat.zero_le _);rw [jp] at hsk;replace hsk:=lh hsk;gi_wp2;clear z0 zl;refine ⟨trivial,(c_W hsk.out).mono ?_⟩;clear hsk;rintro e W10 ⟨A,an,c,b,r,rfl,hb,hin,hfi⟩;have HIN:=lh hin;have HFI:=lh hfi;have HB10:=lh (HN.out.2.2.trans (hb.mono HN.out.2.2.size));clear hb hin hfi
   cases b with
   | true =>
    gi_wp2;refine bodyPost_ret (v:=.tuple #[.slice A an c,.bool true]) (by simp [results,Tryz.results59,go_sem]) rfl ?_;exact ⟨A,an,c,true,r,rfl,HB0.out.trans (HB10.out.mono HB0.out.size),fun _=>(HIN.out (by first | rfl | trivial)).1,o7 (pH hok) (by omega) HFI.out HN.out.2.1⟩
   | false =>
    gi_wp2;refine ⟨⟨n+1,lh ⟨by omega,fun k hk y hy=>?_,HB10.out⟩,by rw [show ((n+1:Nat):Int)=(n:Int)+1 from by omega];constructor⟩,?_⟩
    ·by_cases e:k=n
     ·subst e
      rcases HFI.out with ⟨h,_⟩ | ⟨_,h⟩
      ·cases h
      ·exact h y hy
     ·exact HN.out.2.1 k (by omega) y hy
    ·simp [intOf]<;>omega
  ·
   obtain rfl:n=4:=by have:=HN.out.1;omega
   gi_wp2;refine bodyPost_ret (v:=.tuple #[.slice none 0 0,.bool false]) (by simp [results,Tryz.results59,go_sem]) rfl ?_;exact ⟨none,0,0,false,[],rfl,HB9.out,(fun h=>by cases h),mW HN.out.2.1⟩
end
section
def iB (m:Mix)(A:List Held)(l:List Int):Prop:=l.Pairwise (·<·)∧(∀ n∈l,n∈m.tastes.map (·.num))∧∀ f:Int,1≤f→f≤m.fountains→WrP m A f l
def eS (m:Mix)(l:List Int)(e:Int):Prop :=
 (cu m=false∧l=[]∧e=40)∨(cu m=true∧∃ A,allM m m.acts=some A∧((e=0∧l.length≤3∧ei (iB m A) l)∨(e=4∧l=[]∧∀ k,iB m A k→3<k.length)))
theorem eS.same {m:Mix}{l l':List Int}{e e':Int}(h:eS m l e)(h':eS m l' e'):l=l'∧e=e':=by
 rcases h with ⟨h0,rfl,rfl⟩ | ⟨h0,A,hA,h⟩<;>rcases h' with ⟨k0,rfl,rfl⟩ | ⟨k0,B,hB,k⟩
 ·exact ⟨rfl,rfl⟩
 ·rw [h0] at k0;cases k0
 ·rw [h0] at k0;cases k0
 ·rw [hA] at hB
  cases hB
  rcases h with ⟨rfl,h1,h2⟩ | ⟨rfl,rfl,h2⟩<;>rcases k with ⟨rfl,k1,k2⟩ | ⟨rfl,rfl,k2⟩
  ·exact ⟨h2.same k2,rfl⟩
  ·have:=k2 l h2.1;omega
  ·have:=h2 l' k2.1;omega
  ·exact ⟨rfl,rfl⟩
def fnum (m:Mix)(n:Int):Int:=((m.tastes.find? fun x=>decide (x.num=n)).map (·.fountain)).getD 0
section
variable {m:Mix} {A:List Held}
theorem fV (h:cu m=true):(m.tastes.map (·.num)).Pairwise (·<·):=(fh (jS h)).1
theorem mP (h:cu m=true){x:Tast}(hx:x∈m.tastes):fnum m x.num=x.fountain:=by
 have hp:=fV h;rw [List.pairwise_map] at hp;unfold fnum
 cases hf:m.tastes.find? fun y=>decide (y.num=x.num) with
 | none =>
  have:=List.find?_eq_none.1 hf x hx;simp at this
 | some y =>
  have hy:=List.mem_of_find?_eq_some hf;have he:y.num=x.num:=by have:=List.find?_some hf;simpa using this
  have:y=x:=by
   obtain ⟨i,hi,rfl⟩:=List.mem_iff_getElem.1 hy;obtain ⟨j,hj,rfl⟩:=List.mem_iff_getElem.1 hx;rw [List.pairwise_iff_getElem] at hp;rcases Nat.lt_trichotomy i j with hij | rfl | hij
   ·have:=hp i j hi hj hij;omega
   ·rfl
   ·have:=hp j i hj hi hij;omega
  rw [this];rfl
theorem pb (h:cu m=true){x:Tast}(hx:x∈m.tastes):1≤x.fountain∧x.fountain≤m.fountains:=by
 unfold cu at h;simp only [Bool.and_eq_true] at h;have h6:=List.all_eq_true.1 h.1.1.1.2 x hx;unfold dz at h6;have:=of_decide_eq_true h6;exact this.2.2.1
theorem lK (h:cu m=true)(f:Int):ownL m f=cP (fnum m) f (m.tastes.map (·.num)):=by
 unfold ownL cP;rw [List.filter_map]
 congr 1
 refine List.filter_congr fun x hx=>?_;simp only [Function.comp];rw [mP h hx]
theorem kq (h:cu m=true){f n:Int}:n∈ownL m f↔n∈m.tastes.map (·.num)∧fnum m n=f:=by
 rw [lK h,fU]
theorem jk (h:cu m=true)(f:Int):(ownL m f).Pairwise (·<·):=by
 rw [lK h];exact pk (fV h)
theorem lL {l:List Int}{x:Tast}:x∈eK m.tastes l↔x∈m.tastes∧x.num∉l:=by
 unfold eK;simp
theorem nw (h:cu m=true)(f:Int)(l:List Int):WrP m A f l↔WrP m A f (cP (fnum m) f l):=by
 unfold WrP;refine oF (m:=fo m (eK m.tastes (cP (fnum m) f l))) (m':=fo m (eK m.tastes l)) rfl rfl fun x hxf=>?_
 show x∈eK m.tastes (cP (fnum m) f l)↔x∈eK m.tastes l
 rw [lL,lL];refine and_congr_right fun hx=>not_congr ?_;rw [fU,mP h hx];exact ⟨fun k=>k.1,fun k=>⟨k,hxf⟩⟩
theorem iM:∀ {k l:List Int},k.Pairwise (·<·)→l.Pairwise (·<·)→(∀ x∈k,x∈l)→k.Sublist l
 | [],l,_,_,_=>List.nil_sublist _
 | x::k,[],_,_,h=>by have:=h x (by simp);cases this
 | x::k,y::l,hk,hl,h=>by
  obtain ⟨hx,hk2⟩:=List.pairwise_cons.1 hk;obtain ⟨hy,hl2⟩:=List.pairwise_cons.1 hl;by_cases e:x=y
  ·subst e
   refine (iM hk2 hl2 fun z hz=>?_).cons_cons x;have h1:=h z (by simp [hz]);have h2:=hx z hz;rcases List.mem_cons.1 h1 with h1 | h1
   ·omega
   ·exact h1
  ·have hxl:x∈l:=by
    rcases List.mem_cons.1 (h x (by simp)) with h1 | h1
    ·exact absurd h1 e
    ·exact h1
   refine (iM hk hl2 fun z hz=>?_).cons y;rcases List.mem_cons.1 hz with rfl | hz
   ·exact hxl
   ·rcases List.mem_cons.1 (h z (by simp [hz])) with h1 | h1
    ·have:=hx z hz;have:=hy x hxl;omega
    ·exact h1
theorem iz (h:cu m=true)(l:List Int):iB m A l↔l.Pairwise (·<·)∧(∀ n∈l,1≤fnum m n∧fnum m n≤(m.fountains.toNat:Int))∧∀ f:Int,1≤f→f≤(m.fountains.toNat:Int)→(fun f k=>List.Sublist k (ownL m f)∧WrP m A f k) f (cP (fnum m) f l):=by
 have hf:=(cI h).2.2.2;have hq:(m.fountains.toNat:Int)=m.fountains:=by omega
 rw [hq];constructor
 ·rintro ⟨h1,h2,h3⟩
  refine ⟨h1,fun n hn=>?_,fun f f1 f2=>⟨?_,(nw h f l).1 (h3 f f1 f2)⟩⟩
  ·obtain ⟨x,hx,rfl⟩:=List.mem_map.1 (h2 n hn)
   rw [mP h hx];exact pb h hx
  ·exact iM (pk h1) (jk h f) fun n hn=>(kq h).2 ⟨h2 n (fU.1 hn).1,(fU.1 hn).2⟩
 ·rintro ⟨h1,h2,h3⟩
  refine ⟨h1,fun n hn=>?_,fun f f1 f2=>(nw h f l).2 (h3 f f1 f2).2⟩;have h4:=h2 n hn;have h5:=(h3 (fnum m n) h4.1 h4.2).1.subset (fU.2 ⟨hn,rfl⟩);exact ((kq h).1 h5).1
def catR (R:Int→List Int):Nat→List Int
 | 0=>[]
 | q+1=>catR R q++R ((q:Int)+1)
theorem ky (h:cu m=true){R:Int→List Int}:∀ {q:Nat},(∀ f:Int,1≤f→f≤q→(R f).Sublist (ownL m f))→(∀ f:Int,1≤f→f≤q→cP (fnum m) f (catR R q)=R f)∧∀ n∈catR R q,1≤fnum m n∧fnum m n≤q
 | 0,_=>⟨fun f h1 h2=>by omega,fun n hn=>by cases hn⟩
 | q+1,hR=>by
  obtain ⟨i1,i2⟩:=ky h (q:=q) fun f a b=>hR f a (by omega);have hlast:∀ n∈R ((q:Int)+1),fnum m n=(q:Int)+1:=fun n hn=>((kq h).1 ((hR _ (by omega) (by omega)).subset hn)).2;refine ⟨fun f h1 h2=>?_,fun n hn=>?_⟩
  ·unfold catR
   have e:cP (fnum m) f (catR R q++R ((q:Int)+1))=cP (fnum m) f (catR R q)++cP (fnum m) f (R ((q:Int)+1)):=by unfold cP;exact List.filter_append ..
   rw [e];by_cases hf:f≤q
   ·rw [i1 f h1 hf]
    have:cP (fnum m) f (R ((q:Int)+1))=[]:=List.filter_eq_nil_iff.2 fun n hn=>by have:=hlast n hn;simp;omega
    rw [this,List.append_nil]
   ·obtain rfl:f=(q:Int)+1:=by omega
    have h3:cP (fnum m) ((q:Int)+1) (catR R q)=[]:=List.filter_eq_nil_iff.2 fun n hn=>by have:=i2 n hn;simp;omega
    have h4:cP (fnum m) ((q:Int)+1) (R ((q:Int)+1))=R ((q:Int)+1):=List.filter_eq_self.2 fun n hn=>by simpa using hlast n hn
    rw [h3,h4,List.nil_append]
  ·unfold catR at hn
   rcases List.mem_append.1 hn with hn | hn
   ·have:=i2 n hn;omega
   ·have:=hlast n hn;omega
theorem px {R:Int→List Int}:∀ {q:Nat},(∀ f:Int,1≤f→f≤q→(R f).length≤3)→(catR R q).length≤3 * q
 | 0,_=>n_R
 | q+1,h=>by
  unfold catR;have h1:=px (q:=q) fun f a b=>h f a (by omega);have h2:=h ((q:Int)+1) (by omega) (by omega);rw [List.length_append];omega
theorem qr (h:cu m=true){R:Int→List Int}{u:List Int}(hR:∀ f:Int,1≤f→f≤(m.fountains.toNat:Int)→ei (fun k=>List.Sublist k (ownL m f)∧WrP m A f k) (R f))
  (hp:u.Perm (catR R m.fountains.toNat)) (hs:u.Pairwise (·≤·)):ei (iB m A) u:=by
 obtain ⟨c1,c2⟩:=ky h (R:=R) (q:=m.fountains.toNat) fun f a b=>(hR f a b).1.1
 have hof:∀ f:Int,1≤f→f≤(m.fountains.toNat:Int)→cP (fnum m) f u=R f:=fun f a b =>
  ni hp hs (c1 f a b) ((jk h f).sublist (hR f a b).1.1)
 have huf:∀ n∈u,1≤fnum m n∧fnum m n≤(m.fountains.toNat:Int):=fun n hn=>c2 n (hp.subset hn)
 have hnd:u.Nodup:=by
  rw [List.nodup_iff_count];intro a;by_cases ha:a∈u
  ·have h1:=huf a ha
   have h2:(cP (fnum m) (fnum m a) u).Nodup:=by
    rw [hof _ h1.1 h1.2];exact ((jk h _).sublist (hR _ h1.1 h1.2).1.1).imp fun h=>by omega
   have h3:=List.nodup_iff_count.1 h2 a
   have h4:(cP (fnum m) (fnum m a) u).count a=u.count a:=by
    unfold cP;exact List.count_filter (by simp)
   omega
  ·rw [List.count_eq_zero.2 ha];omega
 have hu:u.Pairwise (·<·):=(hs.and hnd).imp fun ⟨a,b⟩=>by omega
 exact nM (own:=fun f k=>List.Sublist k (ownL m f)∧WrP m A f k) (iz h) hu huf fun f a b=>by rw [hof f a b];exact hR f a b
theorem qw (h:cu m=true){R:Int→List Int}(hR:∀ f:Int,1≤f→f≤(m.fountains.toNat:Int)→ei (fun k=>List.Sublist k (ownL m f)∧WrP m A f k) (R f)){k:List Int}(hk:iB m A k):(catR R m.fountains.toNat).length≤k.length:=by
 obtain ⟨c1,c2⟩:=ky h (R:=R) (q:=m.fountains.toNat) fun f a b=>(hR f a b).1.1;obtain ⟨k1,k2,k3⟩:=(iz h k).1 hk
 have hcl:=mf (F:=fnum m) (u:=catR R m.fountains.toNat) (k:=k) (q:=m.fountains.toNat) fun f a b=>by
  rw [c1 f a b];have h1:=(hR f a b).2 _ (k3 f a b);unfold cmpS at h1;by_cases e1:(R f).length<(cP (fnum m) f k).length
  ·omega
  ·by_cases e2:(cP (fnum m) f k).length<(R f).length
   ·rw [if_neg e1,if_pos e2] at h1;omega
   ·omega
 rw [gk c2,gk k2] at hcl;exact hcl
theorem r5 (h:cu m=true){f:Int}(f1:1≤f)(f2:f≤m.fountains)(hf:∀ l,List.Sublist l (ownL m f)→l.length≤3→¬ WrP m A f l){k:List Int}(hk:iB m A k):3<k.length:=by
 have hv:=(cI h).2.2.2;have h1:=((iz h k).1 hk).2.2 f f1 (by omega);have h2:(cP (fnum m) f k).length≤k.length:=List.length_filter_le _ _;rcases Nat.lt_or_ge 3 (cP (fnum m) f k).length with h3 | h3
 ·omega
 ·exact absurd h1.2 (hf _ h1.1 h3)
end
end
section
open Go.RowKit Go.Sort
theorem nz (x y:Int)(w:World):Calls Tryz.prog 133 #[.int .i64 x,.int .i64 y] w fun e w'=>e = .returned (.bool (Sort.ltInt x y))∧w'=w:=by
 go_enter Tryz.func133,Tryz.ntmps133
 go_wp2_with (go_at_call 111;refine (pS _ _).mono ?_;rintro e w' ⟨rfl,rfl⟩)
 go_ret
 exact ⟨rfl,rfl⟩
theorem kY (blk off cap a b:Nat)(d:Array Int)(w:World)(hH:Holds (Value.int .i64) w blk off d)(hab:a≤b)(hb:b≤d.size)(hsz:d.size<4611686018427387904) :
  Calls Tryz.prog 127 #[.slice (some ⟨blk,off,none⟩) d.size cap,.int .i64 a,.int .i64 b] w fun e w' =>
   e = .returned (.tuple #[])∧∃ n,w'=putRow (Value.int .i64) (Sort.ahead w n) blk off (Sort.insertionSort ltInt d a b):=by
 go_enter Tryz.func127,Tryz.ntmps127
 go_wp2
 go_loopw [6] (fun vi wr=>∃ (i n:Nat) (dk:Array Int),vi = .int .i64 i∧a<i∧i≤b+1∧dk.size=d.size∧wr=putRow (Value.int .i64) (Sort.ahead w n) blk off dk ∧
   insOuter ltInt a b i dk=insOuter ltInt a b (a+1) d) (fun vi _=>b+1 - (intOf vi).toNat)
 case atStart=>exact ⟨a+1,0,d,by go_num,by omega,by omega,rfl,(putRow_self _ _ _ _ _ hH).symm,rfl⟩
 case round =>
  obtain ⟨i,n,dk,rfl,hai,hib,hsk,hwr,hO⟩:=hrel;have HO:Hid (insOuter ltInt a b i dk=insOuter ltInt a b (a+1) d):=hO;clear hO
  go_wp2
  ·go_loopw [7] (fun vj wr2=>∃ (j m:Nat) (dj:Array Int),vj = .int .i64 j∧a≤j∧j≤i∧dj.size=d.size∧wr2=putRow (Value.int .i64) (Sort.ahead w m) blk off dj ∧
     insInner ltInt a j dj=insInner ltInt a i dk) (fun vj _=>(intOf vj).toNat)
   case atStart=>exact ⟨i,n,dk,rfl,by omega,n_R,hsk,rfl,rfl⟩
   case round =>
    obtain ⟨j,m,dj,rfl,haj,hji,hsj,hw2,hI⟩:=hrel;have hlt:i<b:=by assumption
    obtain ⟨G,hG⟩:∃ G:Nat→Int,∀ t,G t=dj[t]! :=⟨fun t=>dj[t]!,fun _=>rfl⟩
    have hcw:∀ t,t<d.size→wr.cell? ⟨blk,off+t,none⟩=some (.int .i64 (G t)):=fun t ht=>by
     rw [hw2,hG];exact cell?_putRow _ _ _ _ d dj (holds_ahead _ _ _ _ _ _ hH) hsj t (by omega)
    have hfw:∀ t,t<d.size→wr.frozen? ⟨blk,off+t,none⟩=false:=fun t ht=>by
     rw [hw2,frozen?_putRow];exact ((holds_ahead _ _ m _ _ _ hH) t ht).2
    have HW:Hid (wr=putRow (Value.int .i64) (Sort.ahead w m) blk off dj):=hw2;have HG:Hid (∀ t,G t=dj[t]!):=hG;have HI:Hid (insInner ltInt a j dj=insInner ltInt a i dk):=hI;clear hw2 hG hI hH
    have out:(j≤a∨ltInt dj[j]! dj[j - 1]! = false)→∀ q,∃ i' n' dk',Value.int .i64 ((i:Int)+1) = .int .i64 (i':Nat)∧a<i'∧i'≤b+1∧dk'.size=d.size ∧
      wr.drewN q=putRow (Value.int .i64) (Sort.ahead w n') blk off dk'∧insOuter ltInt a b i' dk'=insOuter ltInt a b (a+1) d:=fun hs q =>
     ⟨i+1,m+q,dj,by go_num,by omega,by omega,hsj,by rw [HW.out];exact putRow_drewN _ _ _ _ _ _ _,
      by rw [← HO.out,insOuter_go _ _ _ _ _ hlt,← HI.out,insInner_stop _ _ _ _ hs]⟩
    have OUT:Hid _:=out;clear out
    go_wp2
    by_cases hja:a<j
    ·go_quiet (first | (go_at_call 133;refine Calls.quiet_of_same (nz _ _ _)))
     go_wp2
     ·have hl:ltInt (G j) (G (j - 1))=true:=by assumption
      go_region
      all_goals go_wp2
      go_roundw
      case rel =>
       refine ⟨j - 1,m+(nq+1),swp dj j (j - 1),by congr 1;omega,by omega,by omega,by rw [size_swp];exact hsj,?_,?_⟩
       ·rw [HW.out,HG.out,HG.out]
        exact swap_worldA _ w m (nq+1) blk off dj j (j - 1) (by omega) (by omega)
       ·rw [← HI.out,insInner_go ltInt a j dj hja (by rw [← HG.out,← HG.out];exact hl)]
      case measure=>simp [intOf];omega
     ·have hl:ltInt (G j) (G (j - 1))=false:=by assumption
      go_roundw
      case rel=>exact OUT.out (Or.inr (by rw [← HG.out,← HG.out];exact hl)) nq
      case measure=>simp [intOf];omega
    ·go_quiet (first | (go_at_call 133;refine Calls.quiet_of_same (nz _ _ _)))
     go_wp2
     go_roundw
     case rel=>exact OUT.out (Or.inl (by omega)) nq
     case measure=>simp [intOf];omega
  ·have hge:¬ i<b:=by assumption
   go_end0
   exact ⟨rfl,n,by unfold Sort.insertionSort;rw [← HO.out,insOuter_stop _ _ _ _ _ hge]⟩
theorem k7 (p:Option Addr)(cap:Nat)(w:World) :
  Calls Tryz.prog 127 #[.slice p 0 cap,.int .i64 0,.int .i64 0] w fun e w'=>e = .returned (.tuple #[])∧w'=w:=by
 go_enter Tryz.func127,Tryz.ntmps127
 go_wp2
 refine wp_loop_rounds 1 ?_;rw [rounds_succ]
 go_wp2
 go_end0
 exact ⟨rfl,rfl⟩
theorem nx (x:Int)(h0:0≤x)(hx:x≤12)(w:World):Calls Tryz.prog 137 #[.int .u64 x] w fun e w'=>(∃ k,e = .returned (.int .i64 k))∧w'=w:=by
 have h:x=0∨x=1∨x=2∨x=3∨x=4∨x=5∨x=6∨x=7∨x=8∨x=9∨x=10∨x=11∨x=12:=by omega
 clear h0 hx;rcases h with rfl | rfl | rfl | rfl | rfl | rfl | rfl | rfl | rfl | rfl | rfl | rfl | rfl
 all_goals
  go_enter Tryz.func137,Tryz.ntmps137
  go_wp2
  go_ret
  exact ⟨⟨_,rfl⟩,rfl⟩
theorem qH (x:Int)(h0:0≤x)(hx:x≤12)(w:World):Calls Tryz.prog 97 #[.int .u64 x] w fun e w'=>(∃ k,e = .returned (.int .i64 k))∧w'=w:=by
 go_enter Tryz.func97,Tryz.ntmps97
 go_wp2_with (go_at_call 137;refine (nx _ h0 hx _).mono ?_;rintro e w' ⟨⟨k,rfl⟩,rfl⟩)
 go_ret
 exact ⟨⟨k,rfl⟩,rfl⟩
theorem pU (R:Ending→World→Prop)(p:Option Addr)(n cap:Nat)(k:Int)(w:World)(hn:n≤12)(h:Calls Tryz.prog 127 #[.slice p n cap,.int .i64 0,.int .i64 n] w R)(hR:∀ e w',R e w'→e = .returned (.tuple #[])) :
  Calls Tryz.prog 96 #[.slice p n cap,.int .i64 0,.int .i64 n,.int .i64 k] w R:=by
 go_enter Tryz.func96,Tryz.ntmps96
 go_wp2
 refine wp_loop_rounds 1 ?_;rw [rounds_succ];have hn':(n:Int)≤12:=by omega
 go_wp2_with (first | (go_at_call 127;refine h.mono ?_;rintro e w' hr;obtain rfl:=hR _ _ hr))
 refine bodyPost_ret (results_none rfl _ _ _) rfl ?_;exact hr
theorem th (R:Ending→World→Prop)(p:Option Addr)(n cap:Nat)(w:World)(hn:n≤12)(h:Calls Tryz.prog 127 #[.slice p n cap,.int .i64 0,.int .i64 n] w R)(hR:∀ e w',R e w'→e = .returned (.tuple #[])) :
  Calls Tryz.prog 60 #[.slice p n cap] w R:=by
 go_enter Tryz.func60,Tryz.ntmps60
 go_wp2_with (first
  | (go_at_call 97;refine (qH _ (by omega) (by omega) _).mono ?_;rintro e w' ⟨⟨k,rfl⟩,rfl⟩)
  | (go_at_call 96;refine (pU R p n cap _ _ hn h hR).mono ?_;rintro e w' hr;obtain rfl:=hR _ _ hr))
 go_end0
 exact hr
abbrev upI (l:List Int):List Int:=l.mergeSort fun x y=>decide (x≤y)
theorem nG (l:List Int):(upI l).Perm l:=List.mergeSort_perm _ _
theorem oi (l:List Int):(upI l).Pairwise (·≤·):=by
 have h:=List.pairwise_mergeSort (le:=fun x y:Int=>decide (x≤y)) (fun a b c h1 h2=>by simp at h1 h2 ⊢;omega) (fun a b=>by simp;omega) l;exact h.imp fun h=>by simpa using h
theorem mu (l:List Int):(Sort.insertionSort ltInt l.toArray 0 l.length)=(upI l).toArray:=by
 obtain ⟨hP,hSo⟩:=insertionSort_holds (lt:=ltInt) swo_ltInt l.toArray 0 l.length (Nat.zero_le _) (by simp);have h:=sorted_unique_holds swo_ltInt (fun x y h1 h2=>by simp only [ltInt,decide_eq_false_iff_not] at h1 h2;omega) l.toArray _ (by simpa using hP) (by simpa using hSo)
 have e:(fun x y:Int=>!ltInt y x)=fun x y=>decide (x≤y):=by
  funext x y
  simp only [ltInt];by_cases hxy:y<x<;>simp [hxy]<;>omega
 rw [e] at h
 apply Array.ext'
 simpa using h
theorem rI (base:Nat)(A:Option Addr)(n c:Nat)(l:List Int)(w:World)(hO:Own w base 3 1 A n c (l.map (Value.int .i64)))(hn:n≤12) :
  Calls Tryz.prog 60 #[.slice A n c] w fun e w'=>e = .returned (.tuple #[])∧Own w' base 3 1 A n c ((upI l).map (Value.int .i64))∧w.grownBy w' (A.map (·.block)):=by
 have hl:l.length=n:=by have:=hO.len;simpa using this
 rcases hO.form with ⟨rfl,rfl,rfl,hxs⟩ | ⟨g,cur,rfl,hbg,hblk,hnc,hcm,hsz,htake,_⟩
 ·obtain rfl:l=[]:=List.length_eq_zero_iff.1 hl
  refine (th (fun e w'=>e = .returned (.tuple #[])∧w'=w) none 0 0 w (by omega) (k7 none 0 w) (fun e w' h=>h.1)).mono ?_;rintro e w' ⟨rfl,rfl⟩;exact ⟨rfl,by simpa [upI] using Own.none_ _ _ _ _,cR _ _⟩
 ·have hat:∀ j,j<l.length→cur[j]? =some (.int .i64 l[j]!):=by
   intro j hj;have h1:(cur.toList.take (n * 1))[j]? =(l.map (Value.int .i64))[j]? :=by rw [htake]
   rw [List.getElem?_take_of_lt (by omega),Array.getElem?_toList] at h1;rw [h1];simp [hj]
  have hH:Holds (Value.int .i64) w g 0 l.toArray:=by
   intro j hj;have hj':j<l.length:=by simpa using hj
   refine ⟨?_,hblk.frozen _⟩;rw [Nat.zero_add,hblk.cell,hat j hj'];simp [hj']
  have hw:=kY g 0 c 0 l.length l.toArray w hH (Nat.zero_le _) (by simp) (by simp;omega);have hs:l.toArray.size=n:=by simpa using hl
  rw [mu,hs,hl] at hw;refine (th _ (some ⟨g,0,none⟩) n c w hn hw (fun e w' h=>h.1)).mono ?_;rintro e w' ⟨rfl,q,rfl⟩;have hlu:(upI l).length=n:=by rw [(nG l).length_eq];exact hl
  have hb2:Blk (putRow (Value.int .i64) (Sort.ahead w q) g 0 (upI l).toArray) g 3 (putCells (Value.int .i64) 0 (upI l).toArray cur):=by
   have h0:w.heap[g]? =some (.cells cur 3 (0,0)):=hblk
   show (putRow (Value.int .i64) (Sort.ahead w q) g 0 (upI l).toArray).heap[g]? =_
   simp [putRow,mapBlock,Sort.ahead,Array.getElem?_modify,h0,onCells]
  refine ⟨rfl,Own.mk_ hbg hb2 hnc hcm (by simpa [putCells] using hsz) (by simpa using hlu) ?_,⟨rfl,rfl,rfl,by simp [putRow,mapBlock,Sort.ahead],fun k hk hne=>?_⟩⟩
  ·intro k hk
   have h1:=take_putCellsI cur (upI l) (by rw [hlu];omega);have h2:((putCells (Value.int .i64) 0 (upI l).toArray cur).toList.take (upI l).length)[k]? =((upI l).map (Value.int .i64))[k]? :=by rw [h1]
   rwa [List.getElem?_take_of_lt (by omega),Array.getElem?_toList] at h2
  ·have:g≠k:=fun e=>hne (by rw [← e];rfl)
   simp [putRow,mapBlock,Sort.ahead,Array.getElem?_modify,this]
end
section
open Go.RowKit Go.Shelf
attribute [local go_sem] Oper.semAt_some
structure Er8 {α:Type}(P:α→Prop):Prop where
 ex:∃ a,P a
theorem lu {R S:Int→List Int}:∀ {q:Nat},(∀ f:Int,1≤f→f≤q→R f=S f)→catR R q=catR S q
 | 0,_=>rfl
 | q+1,h=>by
  unfold catR;rw [lu (q:=q) fun f a b=>h f a (by omega),h _ (by omega) (by omega)]
theorem qU (R:Int→List Int)(r:List Int)(q:Nat):catR (fun f=>if f=(q:Int)+1 then r else R f) (q+1)=catR R q++r:=by
 show catR (fun f=>if f=(q:Int)+1 then r else R f) q++(if (q:Int)+1=(q:Int)+1 then r else R ((q:Int)+1))=_
 rw [if_pos rfl,lu (S:=R) fun f a b=>if_neg (by omega)]
def so (w:World)(m:Mix)(e:Ending)(w':World):Prop :=
 ∃ l A n c x,e = .returned (.tuple #[.slice A n c,.int .i64 x])∧eS m l x∧cr w' w'.heap.size A n l∧n≤3∧Below w.heap.size w w'∧∀ ad,A=some ad→w.heap.size≤ad.block
inductive FrWw (v4 v6 v18 v19:Value):Act→Prop
 | mk (a b c d e f g h i j k l m n o p q r s t w x y z A B C D E F G H I J K L M:Value):FrWw v4 v6 v18 v19 ⟨#[a,b,c,d,v4,e,v6,f,g,h,i,j,k,l,m,n,o,p,v18,v19,q,r,s,t,w,x,y,z,A,B,C,D,E,F,G,H,I,J,K,L,M],[]⟩
theorem qx (Av:Option Addr)(nv cv:Nat)(Aa:Option Addr)(na ca:Nat)(At:Option Addr)(nt ct:Nat)(m:Mix)(w:World)(h:MixS w Av nv Aa na At nt m) :
  CallsIn Fence.wide 9 Tryz.prog 18 #[.agg #[.int .i64 m.fountains,.slice Av nv cv,.slice Aa na ca,.slice At nt ct]] w (so w m):=by
 have HM:=lh h;clear h;refine callsIn_of_wp Tryz.func18 rfl trivial ?_ rfl;simp only [Tryz.ntmps18,es,Nat.reduceAdd,Nat.reduceSub];gi_upto_region 1 with fail
 have Ly:=lh (Lay.one w 26 #[.int .i64 m.fountains,.slice Av nv cv,.slice Aa na ca,.slice At nt ct]);generalize (w.alloc (.cells #[.int .i64 m.fountains,.slice Av nv cv,.slice Aa na ca,.slice At nt ct] 26))=w0 at *;obtain ⟨x0_0,x0_1,x0_2,x0_3⟩:=lyc4 Ly 0 rfl;have l0_:=Ly.out.lt 0 rfl;gi_wp2;clear x0_0 x0_1 x0_2 x0_3 l0_;refine ⟨trivial,(callsIn_wide.2 (MixS.laid (HM.out.up Ly.out.1))).mono ?_⟩;rintro e W1 ⟨p,rfl,hb,hp⟩;have HP:=lh hp;clear hp;replace Ly:=lyb Ly hb;clear hb
 cases hk:cu m with
 | false =>
  have HK:=lh hk;clear hk;gi_wp2;refine bodyPost_ret (v:=.tuple #[.slice none 0 0,.int .i64 40]) (by simp [results,Tryz.results18,go_sem]) rfl ?_;exact ⟨[],none,0,0,40,rfl,.inl ⟨HK.out,rfl,rfl⟩,cB.none_,by omega,Ly.out.1,fun a h=>by cases h⟩
 | true =>
  obtain ⟨g,AA,nl,cl,L,rfl,hg,hL,hT⟩:=HP.out hk
  obtain ⟨T,hTT⟩:∃ T:Tb,T=⟨g,Av,nv,cv,Aa,na,ca,At,nt,ct,AA,nl,cl,m,L⟩:=⟨_,rfl⟩
  have hTg:g=T.g:=by rw [hTT]
  have hTm:T.m=m:=by rw [hTT]
  have HTL:Hid (allM m m.acts=some T.L):=lh (by rw [hTT];exact hL);rw [← hTT] at hT;subst hTg;have HK:=lh hk;have HV:=lh (cI hk);have HT:=lh hT.at_;have HTM:=lh hTm;have HOK:Hid (TbOk T):=lh ⟨by rw [hTm];exact hk,by rw [hTm];exact HTL.out⟩;clear HP hTT hL hg hT hk hTm
  obtain ⟨N,hN⟩:∃ N:Nat,m.fountains=(N:Int):=⟨m.fountains.toNat,by have:=HV.out;omega⟩
  have hN4:N≤4:=by have:=HV.out;omega
  have HN:Hid (m.fountains.toNat=N):=lh (by rw [hN];simp);obtain ⟨x0_0,x0_1,x0_2,x0_3⟩:=lyc4 Ly 0 rfl;have l0_:=Ly.out.lt 0 rfl;rw [hN] at x0_0;gi_wp2;clear x0_0 x0_1 x0_2 x0_3 l0_;refine wpIn_loop (fun ac9 W=>∃ (q:Nat) (aA:Option Addr) (an ac:Nat),Hid (Er8 fun (R:Int→List Int)=>q≤N∧(∀ f:Int,1≤f→f≤(q:Int)→(R f).length≤3∧ei (fun k=>List.Sublist k (ownL m f)∧WrP m T.L f k) (R f))∧an=(catR R q).length∧Own W W1.heap.size 3 1 aA an ac ((catR R q).map (Value.int .i64))∧Below W1.heap.size W1 W)∧FrWw (.pointer (some ⟨T.g,0,none⟩)) (.slice aA an ac) (.int .i64 (N:Int)) (.int .i64 (q:Int)) ac9) (fun ac9 _=>N - (intOf (ac9.tmps.getD 19 undef)).toNat) ?_ ?_
  ·exact ⟨0,none,0,0,lh ⟨fun _=>[],Nat.zero_le _,(fun f h1 h2=>by omega),rfl,Own.none_ _ _ _ _,b_R⟩,by constructor⟩
  rintro ac9 W ⟨q,aA,an,ac,HS,ha⟩;cases ha;obtain ⟨R,hs9⟩:=HS.out;replace HS:=lh hs9;clear hs9;have HB:=lh HS.out.2.2.2.2
  have h3q:an≤3 * q:=by
   rw [HS.out.2.2.1];exact px fun f a b=>(HS.out.2.1 f a b).1
  by_cases hqn:q<N
  ·
   gi_wp2;refine ⟨trivial,(c_W (sp T ((q:Int)+1) W (HT.out.below HB.out) HOK.out)).mono ?_⟩;rintro e W2 ⟨A,n,c,b,r,rfl,hb,hin,hwf⟩;rw [HTM.out] at hwf;have HIN:=lh hin;have HWF:=lh hwf;have HB2:=lh (HB.out.trans (hb.mono HB.out.size));have HO2:=lh (HS.out.2.2.2.1.below hb n_R);clear hin hwf hb
   cases b with
   | false =>
    gi_wp2;refine bodyPost_ret (v:=.tuple #[.slice none 0 0,.int .i64 4]) (by simp [results,Tryz.results18,go_sem]) rfl ?_;refine ⟨[],none,0,0,4,rfl,.inr ⟨HK.out,T.L,HTL.out,.inr ⟨rfl,rfl,fun k hk=>?_⟩⟩,cB.none_,by omega,Ly.out.1.trans (HB2.out.mono Ly.out.1.size),fun a h=>by cases h⟩
    rcases HWF.out with ⟨h,_⟩ | ⟨_,h⟩
    ·cases h
    ·exact r5 HK.out (by omega) (by rw [hN];omega) h hk
   | true =>
    have hr:=HWF.out
    obtain ⟨hr3,hrf⟩:r.length≤3∧ei (fun l=>l.Sublist (ownL m ((q:Int)+1))∧WrP m T.L ((q:Int)+1) l) r:=by
     rcases hr with ⟨_,h1,h2⟩ | ⟨h,_⟩
     ·exact ⟨h1,h2⟩
     ·cases h
    have HRF:=lh hrf;have HIR:=lh (HIN.out rfl);have hrl:=HIR.out.len;have hzz:=Nat.le_trans HB.out.size n_R;have hz2:=HB2.out.size;clear hr hrf HIN HWF
    gi_wp2_with (first | (gi_at_builtin;refine cG rfl (.tmp 31) (.tmp 32) (by rfl) dP rfl HO2.out rfl HIR.out (dO r) (by unfold maxLen;omega) (by omega) (by omega) ?_) | fail)
    rintro A9 c9 W3 hown hg hA;have HR':Hid (catR (fun f=>if f=(q:Int)+1 then r else R f) (q+1)=catR R q++r):=lh (qU R r q);have HO3:=lh (show Own W3 W1.heap.size 3 1 A9 (an+n) c9 ((catR (fun f=>if f=(q:Int)+1 then r else R f) (q+1)).map (Value.int .i64)) from by rw [HR'.out,List.map_append];exact hown);have HB3:=lh (HB2.out.grown hg HB2.out.size (fun k e=>(dB HO2.out k e).1));clear hown hg hA;gi_wp2;refine ⟨⟨q+1,A9,an+n,c9,lh ⟨fun f=>if f=(q:Int)+1 then r else R f,hqn,fun f f1 f2=>?_,?_,HO3.out,HB3.out⟩,by rw [show ((q+1:Nat):Int)=(q:Int)+1 from by omega];constructor⟩,?_⟩
    ·by_cases e:f=(q:Int)+1
     ·subst e
      simp only [if_true];exact ⟨hr3,HRF.out⟩
     ·simp only [if_neg e]
      exact HS.out.2.1 f f1 (by omega)
    ·rw [HR'.out,List.length_append,← HS.out.2.2.1,hrl]
    ·simp [intOf]<;>omega
  ·
   obtain rfl:N=q:=by have:=HS.out.1;omega
   have HRS:Hid (∀ f:Int,1≤f→f≤(m.fountains.toNat:Int)→ei (fun k=>List.Sublist k (ownL m f)∧WrP m T.L f k) (R f)):=lh (by rw [HN.out];exact fun f a b=>(HS.out.2.1 f a b).2);have HO:=lh HS.out.2.2.2.1;have HAN:=lh HS.out.2.2.1;have HWZ:=lh (Nat.le_trans Ly.out.1.size (Nat.le_refl W1.heap.size));have HBW:=lh (Ly.out.1.trans (HB.out.mono Ly.out.1.size));by_cases h3:3<an
   ·
    gi_wp2;refine bodyPost_ret (v:=.tuple #[.slice none 0 0,.int .i64 4]) (by simp [results,Tryz.results18,go_sem]) rfl ?_;refine ⟨[],none,0,0,4,rfl,.inr ⟨HK.out,T.L,HTL.out,.inr ⟨rfl,rfl,fun k hk=>?_⟩⟩,cB.none_,by omega,HBW.out,fun a h=>by cases h⟩;have h9:=qw HK.out HRS.out hk;rw [HN.out,← HAN.out] at h9;omega
   ·
    gi_wp2;refine ⟨trivial,(callsIn_wide.2 (rI W1.heap.size aA an ac (catR R N) W HO.out (by omega))).mono ?_⟩;rintro e W2 ⟨rfl,hso,hsg⟩;have HSO:=lh hso;have HSG:=lh hsg;have HB2:=lh (HB.out.grown hsg HB.out.size (fun k e=>(dB HO.out k e).1));clear hso hsg;gi_wp2;refine bodyPost_ret (v:=.tuple #[.slice aA an ac,.int .i64 0]) (by simp [results,Tryz.results18,go_sem]) rfl ?_;have hpm:=nG (catR R N);refine ⟨upI (catR R N),aA,an,ac,0,rfl,.inr ⟨HK.out,T.L,HTL.out,.inl ⟨rfl,by rw [hpm.length_eq,← HAN.out];omega,qr HK.out HRS.out (by rw [HN.out];exact hpm) (oi _)⟩⟩,dM HSO.out n_R,by omega,Ly.out.1.trans (HB2.out.mono Ly.out.1.size),fun a h=>?_⟩;have h1:=(HSO.out.lt h).1;have h2:=HWZ.out;omega
end
section
open Go.RowKit
theorem jn {P:Program}(w:World)(ty:TypeId){base:Nat}{t e:TypeId}{z:Value}{size bytes:Nat}(EE:eX P t e z size bytes){ad:Addr}(hown:Own w base e size (some ad) 0 0 [])
  {A2:Option Addr} {m c B:Nat} {news:List Value} (hR:cB w B size A2 m news) (h1:∀ u∈news,u.oneCell'=true) (h63:m≤maxLen) (hbytes:m * bytes≤140737488355328) (hbase:base≤w.heap.size) :
  ∃ A' cap' w',(Builtin.append_ #[t,t] ty #[.slice (some ad) 0 0,.slice A2 m c]).run P w = .ok (.slice A' m cap') w'∧Own w' base e size A' m cap' news∧Below w.heap.size w w'∧(A'=some ad∨A'=some ⟨w.heap.size,0,none⟩):=by
 obtain ⟨A',cap',w',hr,h2,h3,h4⟩:=eJ (P:=P) w ty EE hown hR (c:=c) h1 (by omega) (by simpa using hbytes) hbase;rw [Nat.zero_add] at hr h2;rw [List.nil_append] at h2;refine ⟨A',cap',w',hr,h2,?_,h4⟩;obtain ⟨i,E⟩:=EE;rcases Nat.eq_zero_or_pos m with h0 | h0
 ·subst h0
  have hne:news=[]:=List.eq_nil_of_length_eq_zero (by rw [hR.1];simp)
  have hw:w'=w:=by
   cases A2 with
   | none =>
    simp [Builtin.append_,run_underlying E.und,sizeOf,typeInfo,E.info,Builtin.lenOf,Builtin.firstCells,storeCells] at hr;exact hr.2.symm
   | some a2 =>
    simp [Builtin.append_,run_underlying E.und,sizeOf,typeInfo,E.info,Builtin.lenOf,Builtin.firstCells,storeCells,loadCells,loadCellsFrom] at hr;exact hr.2.symm
  rw [hw];exact b_R
 ·obtain ⟨B1,cap1,w1,hr1,_,h31,_⟩:=eJ (P:=P) w ty ⟨i,E⟩ (Own.none_ w base e size) hR (c:=c) h1 (by omega) (by simpa using hbytes) hbase
  have hm0:¬ (m=0):=by omega
  have h63i:¬ (9223372036854775807<(m:Int)):=by unfold maxLen at h63;omega
  have hcap:Builtin.nextslicecap m 0=m:=by unfold Builtin.nextslicecap;rw [if_pos (by omega)]
  have h48:¬ (281474976710656<m * i.bytes):=by rw [E.ibytes];omega
  have e1:(Builtin.append_ #[t,t] ty #[.slice (some ad) 0 0,.slice A2 m c]).run P w=(Builtin.append_ #[t,t] ty #[.slice none 0 0,.slice A2 m c]).run P w:=by
   simp [Builtin.append_,run_underlying E.und,sizeOf,typeInfo,E.info,Builtin.lenOf,Builtin.firstCells,hm0,h63i,hcap,h48,loadCells,loadCellsFrom]
  rw [e1] at hr;rw [Nat.zero_add,hr] at hr1;cases hr1;exact b_R.grown h31 n_R (fun k hk=>by cases hk)
theorem db {F:Fence}{nn:Nat}{P:Program}{w:World}{ops:Array Oper}{rest:List Oper}{o:Oper}{a:Act}{Q:Exit→Act→World→Prop}(hgd:o.guard=none)(s x:Operand){t e:TypeId}
  (ho:o.op = .call { callee:=.builtin .append,args:=#[s,x],argTypes:=#[t,t] })
  {z:Value} {size bytes:Nat} (EE:eX P t e z size bytes) {base:Nat} {ad:Addr} (hs:a.eval s = .slice (some ad) 0 0) (hown:Own w base e size (some ad) 0 0 [])
  {A2:Option Addr} {m c B:Nat} {news:List Value} (hx:a.eval x = .slice A2 m c) (hR:cB w B size A2 m news) (h1:∀ u∈news,u.oneCell'=true) (h63:m≤maxLen) (hbytes:m * bytes≤140737488355328) (hbase:base≤w.heap.size)
  (h:∀ A' cap' w',Own w' base e size A' m cap' news→Below w.heap.size w w'→(A'=some ad∨A'=some ⟨w.heap.size,0,none⟩)→wpListIn F nn P ops Q rest (a.put o.dst (.slice A' m cap')) w') :
  wpListIn F nn P ops Q (o::rest) a w:=by
 refine wpListIn_plain hgd fun K hK=>?_;obtain ⟨A',cap',w',hr,h2,h3,h4⟩:=jn (P:=P) w o.type EE hown hR (c:=c) h1 h63 hbytes hbase;unfold Oper.wpIn;refine ⟨?_,?_⟩
 ·simp [Oper.about,ho,resolve,Target.leads,Sem.run_pure]
 ·rw [Oper.semAt_plain F _ _ (by rw [ho];intro c hc';cases hc')]
  unfold execOp;simp only [ho,resolve,invoke,builtin,Sem.run_bind,Sem.run_pure,Result.andThen_ok,List.map_toArray,List.map_cons,List.map_nil,hs,hx,hr];exact hK _ _ (h A' cap' w' h2 h3 h4)
end
section
open Go.RowKit
structure TwGh where
 e1:Nat
 e2:Nat
 e3:Nat
 A1:Option Addr
 c1:Nat
 A2:Option Addr
 c2:Nat
 A3:Option Addr
 c3:Nat
structure du (w:World)(base:Nat)(A1:Option Addr)(nv c1:Nat)(A2:Option Addr)(na c2:Nat)(A3:Option Addr)(nt c3:Nat)(m:Mix):Prop where
 v:Own w base 50 2 A1 nv c1 (m.vessels.flatMap Vess.vals)
 a:Own w base 62 4 A2 na c2 (m.acts.flatMap MAct.vals)
 t:Own w base 69 6 A3 nt c3 (m.tastes.flatMap Tast.vals)
def sD (w:World)(nv na nt:Nat)(m:Mix)(e:Ending)(w':World):Prop :=
 ∃ A1 c1 A2 c2 A3 c3,e = .returned (.agg #[.int .i64 m.fountains,.slice A1 nv c1,.slice A2 na c2,.slice A3 nt c3])∧du w' w.heap.size A1 nv c1 A2 na c2 A3 nt c3 m∧Below w.heap.size w w'
structure TwI (Av:Option Addr)(nv cv:Nat)(Aa:Option Addr)(na ca:Nat)(At:Option Addr)(nt ct:Nat)(m:Mix)(w:World)(L:Nat→Bool)(gh:TwGh)(s:Nat→Value)(W:World):Prop where
 g1:Below w.heap.size w W
 m0:Blk W w.heap.size 26 #[.int .i64 m.fountains,.slice Av nv cv,.slice Aa na ca,.slice At nt ct]
 gz0:L 15=false→Blk W (w.heap.size+1) 26 #[.int .i64 0,.slice none 0 0,.slice none 0 0,.slice none 0 0]
 gz1:L 15=true→Blk W (w.heap.size+1) 26 #[.int .i64 m.fountains,.slice gh.A1 nv gh.c1,.slice gh.A2 na gh.c2,.slice gh.A3 nt gh.c3]
 q1:L 2=true→L 5=false→Own W (w.heap.size+2) 50 2 (some ⟨gh.e1,0,none⟩) 0 0 []
 q2:L 6=true→L 9=false→Own W (w.heap.size+2) 62 4 (some ⟨gh.e2,0,none⟩) 0 0 []
 q3:L 10=true→L 13=false→Own W (w.heap.size+2) 69 6 (some ⟨gh.e3,0,none⟩) 0 0 []
 o1:L 5=true→Own W (w.heap.size+2) 50 2 gh.A1 nv gh.c1 (m.vessels.flatMap Vess.vals)
 o2:L 9=true→Own W (w.heap.size+2) 62 4 gh.A2 na gh.c2 (m.acts.flatMap MAct.vals)
 o3:L 13=true→Own W (w.heap.size+2) 69 6 gh.A3 nt gh.c3 (m.tastes.flatMap Tast.vals)
 f0:L 0=true→s 3 = .pointer (some ⟨w.heap.size,0,none⟩)
 f1:L 1=true→s 4 = .int .i64 m.fountains
 f2:L 2=true→s 5 = .slice (some ⟨gh.e1,0,none⟩) 0 0
 f3:L 3=true→s 6 = .pointer (some ⟨w.heap.size,1,none⟩)
 f4:L 4=true→s 7 = .slice Av nv cv
 f5:L 5=true→s 8 = .slice gh.A1 nv gh.c1
 f6:L 6=true→s 9 = .slice (some ⟨gh.e2,0,none⟩) 0 0
 f7:L 7=true→s 10 = .pointer (some ⟨w.heap.size,2,none⟩)
 f8:L 8=true→s 11 = .slice Aa na ca
 f9:L 9=true→s 12 = .slice gh.A2 na gh.c2
 f10:L 10=true→s 13 = .slice (some ⟨gh.e3,0,none⟩) 0 0
 f11:L 11=true→s 14 = .pointer (some ⟨w.heap.size,3,none⟩)
 f12:L 12=true→s 15 = .slice At nt ct
 f13:L 13=true→s 16 = .slice gh.A3 nt gh.c3
 f14:L 14=true→s 17 = .agg #[.int .i64 m.fountains,.slice gh.A1 nv gh.c1,.slice gh.A2 na gh.c2,.slice gh.A3 nt gh.c3]
theorem mM (Av:Option Addr)(nv cv:Nat)(Aa:Option Addr)(na ca:Nat)(At:Option Addr)(nt ct:Nat)(m:Mix)(w:World)(h:MixS w Av nv Aa na At nt m) :
  CallsIn Fence.wide 9 Tryz.prog 15 #[.agg #[.int .i64 m.fountains,.slice Av nv cv,.slice Aa na ca,.slice At nt ct]] w (sD w nv na nt m):=by
 have HM:=lh h;have hnv:=h.hv;have hna:=h.ha;have hnt:=h.ht;clear h;refine callsIn_of_wp Tryz.func15 rfl trivial ?_ rfl;simp only [Tryz.ntmps15,es,Nat.reduceAdd,Nat.reduceSub];gi_wp2;have Ly:=lh (Lay.two w 26 #[.int .i64 m.fountains,.slice Av nv cv,.slice Aa na ca,.slice At nt ct] 26 #[.int .i64 0,.slice none 0 0,.slice none 0 0,.slice none 0 0]);generalize ((w.alloc (.cells #[.int .i64 m.fountains,.slice Av nv cv,.slice Aa na ca,.slice At nt ct] 26)).alloc (.cells #[.int .i64 0,.slice none 0 0,.slice none 0 0,.slice none 0 0] 26))=w0 at *;have HB0:=lh Ly.out.1;have HX0:=lh (Ly.out.blk 0 rfl);have HZ0:=lh (Ly.out.blk 1 rfl);clear Ly
 refine dJ (by kernel_rfl) (by kernel_rfl) (fun σ:TwGh × (Nat→Value)=>{ tmps:=#[.agg #[.int .i64 m.fountains,.slice Av nv cv,.slice Aa na ca,.slice At nt ct],.pointer (some ⟨w.heap.size,0,none⟩),.pointer (some ⟨w.heap.size+1,0,none⟩),σ.2 3,σ.2 4,σ.2 5,σ.2 6,σ.2 7,σ.2 8,σ.2 9,σ.2 10,σ.2 11,σ.2 12,σ.2 13,σ.2 14,σ.2 15,σ.2 16,σ.2 17],defers:=[] })
  (fun L σ W=>TwI Av nv cv Aa na ca At nt ct m w L σ.1 σ.2 W) (⟨0,0,0,none,0,none,0,none,0⟩,fun k=>undef) rfl ?_ ?_ ?_
 ·exact ⟨av HB0.out 1,HX0.out.drewN 1,(fun _=>HZ0.out.drewN 1),(fun h=>by cases h),(fun h=>by cases h),(fun h=>by cases h),(fun h=>by cases h),(fun h=>by cases h),(fun h=>by cases h),(fun h=>by cases h),(fun h=>by cases h),(fun h=>by cases h),(fun h=>by cases h),(fun h=>by cases h),(fun h=>by cases h),(fun h=>by cases h),(fun h=>by cases h),(fun h=>by cases h),(fun h=>by cases h),(fun h=>by cases h),(fun h=>by cases h),(fun h=>by cases h),(fun h=>by cases h),(fun h=>by cases h),(fun h=>by cases h)⟩
 ·refine ⟨?_,?_,?_,?_,?_,?_,?_,?_,?_,?_,?_,?_,?_,?_,?_,?_,trivial⟩
  ·rintro L ⟨gh,s⟩ W hu hd hdn H K Q hK
   have hxl:=HX0.out.lt;have HF:=lh H;clear H hd
   try simp only
   gi_wp2;exact hK (gh,(upd s 3 (.pointer (some ⟨w.heap.size,0,none⟩)))) _ { HF.out with f0:=(fun _=>rfl) }
  ·rintro L ⟨gh,s⟩ W hu hd hdn H K Q hK
   have e0:=H.f0 (hd.at_ 0 rfl);have c0:W.cell? ⟨w.heap.size,0,none⟩=some (.int .i64 m.fountains):=H.m0.cell 0;have HF:=lh H;clear H hd
   try simp only at e0 ⊢
   gi_wp2;exact hK (gh,(upd (upd s 3 (.pointer (some ⟨w.heap.size,0,none⟩))) 4 (.int .i64 m.fountains))) _ { HF.out with f0:=(fun _=>rfl),f1:=(fun _=>rfl) }
  ·rintro L ⟨gh,s⟩ W hu hd hdn H K Q hK
   have h15:L 15=false:=by
    cases hc:L 15 with
    | false=>rfl
    | true=>exact hdn.no 15 2 hc rfl hu
   have hWq:w.heap.size+2≤W.heap.size:=(H.gz0 h15).lt;have HWq:=lh hWq;clear hWq;have HF:=lh H;clear H hd
   try simp only
   gi_wp2;have hb:Below W.heap.size W (W.alloc (.cells #[] 50)):=b_R.alloc n_R _;exact hK ({ gh with e1:=W.heap.size },(upd s 5 (.slice (some ⟨W.heap.size,0,none⟩) 0 0))) _ { HF.out with g1:=(HF.out.g1.trans (hb.mono HF.out.g1.size)),m0:=(HF.out.m0.below hb HF.out.m0.lt),gz0:=(fun h=>(HF.out.gz0 h).below hb (HF.out.gz0 h).lt),gz1:=(fun h=>(HF.out.gz1 h).below hb (HF.out.gz1 h).lt),q1:=(fun _ _=>World.ownsRow_made W #[] 0 HWq.out (Nat.zero_le _) (by simp)),o1:=(fun h=>(HF.out.o1 h).below hb n_R),q2:=(fun h q=>(HF.out.q2 h q).below hb n_R),o2:=(fun h=>(HF.out.o2 h).below hb n_R),q3:=(fun h q=>(HF.out.q3 h q).below hb n_R),o3:=(fun h=>(HF.out.o3 h).below hb n_R),f2:=(fun _=>rfl) }
  ·rintro L ⟨gh,s⟩ W hu hd hdn H K Q hK
   have HF:=lh H;clear H hd
   try simp only
   gi_wp2;exact hK (gh,(upd s 6 (.pointer (some ⟨w.heap.size,1,none⟩)))) _ { HF.out with f3:=(fun _=>rfl) }
  ·rintro L ⟨gh,s⟩ W hu hd hdn H K Q hK
   have e3:=H.f3 (hd.at_ 3 rfl);have c0:W.cell? ⟨w.heap.size,1,none⟩=some (.slice Av nv cv):=H.m0.cell 1;have HF:=lh H;clear H hd
   try simp only at e3 ⊢
   gi_wp2;exact hK (gh,(upd (upd s 6 (.pointer (some ⟨w.heap.size,1,none⟩))) 7 (.slice Av nv cv))) _ { HF.out with f3:=(fun _=>rfl),f4:=(fun _=>rfl) }
  ·rintro L ⟨gh,s⟩ W hu hd hdn H K Q hK
   have e2:=H.f2 (hd.at_ 2 rfl);have e4:=H.f4 (hd.at_ 4 rfl)
   have h15:L 15=false:=by
    cases hc:L 15 with
    | false=>rfl
    | true=>exact hdn.no 15 5 hc rfl hu
   have h14:L 14=false:=by
    cases hc:L 14 with
    | false=>rfl
    | true=>exact hdn.no 14 5 hc rfl hu
   have hWq:w.heap.size+2≤W.heap.size:=(H.gz0 h15).lt;have HWq:=lh hWq;clear hWq;have HE:=lh (H.q1 (hd.at_ 2 rfl) hu);have HG1:=lh H.g1;have HF:=lh H;clear H hd
   try simp only at e2 e4 ⊢
   gi_wp2_with (first | (gi_at_builtin;refine db rfl (.tmp 5) (.tmp 7) (by rfl) lY e2 HE.out e4 ((HM.out.at_.up HG1.out).vessels) (nP m.vessels) (by unfold maxLen;omega) (by omega) HWq.out ?_) | fail)
   rintro AN cN W1 hO hb hA;gi_wp2;exact hK ({ gh with A1:=AN,c1:=cN },(upd (upd (upd s 5 (.slice (some ⟨gh.e1,0,none⟩) 0 0)) 7 (.slice Av nv cv)) 8 (.slice AN nv cN))) _ { HF.out with g1:=(HF.out.g1.trans (hb.mono HF.out.g1.size)),m0:=(HF.out.m0.below hb HF.out.m0.lt),gz0:=(fun h=>(HF.out.gz0 h).below hb (HF.out.gz0 h).lt),gz1:=(fun h=>absurd (h15.symm.trans h) (by decide)),q1:=(fun _ h=>by cases h),o1:=(fun _=>hO),q2:=(fun h q=>(HF.out.q2 h q).below hb n_R),o2:=(fun h=>(HF.out.o2 h).below hb n_R),q3:=(fun h q=>(HF.out.q3 h q).below hb n_R),o3:=(fun h=>(HF.out.o3 h).below hb n_R),f14:=(fun h=>absurd (h14.symm.trans h) (by decide)),f2:=(fun _=>rfl),f4:=(fun _=>rfl),f5:=(fun _=>rfl) }
  ·rintro L ⟨gh,s⟩ W hu hd hdn H K Q hK
   have h15:L 15=false:=by
    cases hc:L 15 with
    | false=>rfl
    | true=>exact hdn.no 15 6 hc rfl hu
   have hWq:w.heap.size+2≤W.heap.size:=(H.gz0 h15).lt;have HWq:=lh hWq;clear hWq;have HF:=lh H;clear H hd
   try simp only
   gi_wp2;have hb:Below W.heap.size W (W.alloc (.cells #[] 62)):=b_R.alloc n_R _;exact hK ({ gh with e2:=W.heap.size },(upd s 9 (.slice (some ⟨W.heap.size,0,none⟩) 0 0))) _ { HF.out with g1:=(HF.out.g1.trans (hb.mono HF.out.g1.size)),m0:=(HF.out.m0.below hb HF.out.m0.lt),gz0:=(fun h=>(HF.out.gz0 h).below hb (HF.out.gz0 h).lt),gz1:=(fun h=>(HF.out.gz1 h).below hb (HF.out.gz1 h).lt),q1:=(fun h q=>(HF.out.q1 h q).below hb n_R),o1:=(fun h=>(HF.out.o1 h).below hb n_R),q2:=(fun _ _=>World.ownsRow_made W #[] 0 HWq.out (Nat.zero_le _) (by simp)),o2:=(fun h=>(HF.out.o2 h).below hb n_R),q3:=(fun h q=>(HF.out.q3 h q).below hb n_R),o3:=(fun h=>(HF.out.o3 h).below hb n_R),f6:=(fun _=>rfl) }
  ·rintro L ⟨gh,s⟩ W hu hd hdn H K Q hK
   have HF:=lh H;clear H hd
   try simp only
   gi_wp2;exact hK (gh,(upd s 10 (.pointer (some ⟨w.heap.size,2,none⟩)))) _ { HF.out with f7:=(fun _=>rfl) }
  ·rintro L ⟨gh,s⟩ W hu hd hdn H K Q hK
   have e7:=H.f7 (hd.at_ 7 rfl);have c0:W.cell? ⟨w.heap.size,2,none⟩=some (.slice Aa na ca):=H.m0.cell 2;have HF:=lh H;clear H hd
   try simp only at e7 ⊢
   gi_wp2;exact hK (gh,(upd (upd s 10 (.pointer (some ⟨w.heap.size,2,none⟩))) 11 (.slice Aa na ca))) _ { HF.out with f7:=(fun _=>rfl),f8:=(fun _=>rfl) }
  ·rintro L ⟨gh,s⟩ W hu hd hdn H K Q hK
   have e6:=H.f6 (hd.at_ 6 rfl);have e8:=H.f8 (hd.at_ 8 rfl)
   have h15:L 15=false:=by
    cases hc:L 15 with
    | false=>rfl
    | true=>exact hdn.no 15 9 hc rfl hu
   have h14:L 14=false:=by
    cases hc:L 14 with
    | false=>rfl
    | true=>exact hdn.no 14 9 hc rfl hu
   have hWq:w.heap.size+2≤W.heap.size:=(H.gz0 h15).lt;have HWq:=lh hWq;clear hWq;have HE:=lh (H.q2 (hd.at_ 6 rfl) hu);have HG1:=lh H.g1;have HF:=lh H;clear H hd
   try simp only at e6 e8 ⊢
   gi_wp2_with (first | (gi_at_builtin;refine db rfl (.tmp 9) (.tmp 11) (by rfl) gR e6 HE.out e8 ((HM.out.at_.up HG1.out).acts) (mA m.acts) (by unfold maxLen;omega) (by omega) HWq.out ?_) | fail)
   rintro AN cN W1 hO hb hA;gi_wp2;exact hK ({ gh with A2:=AN,c2:=cN },(upd (upd (upd s 9 (.slice (some ⟨gh.e2,0,none⟩) 0 0)) 11 (.slice Aa na ca)) 12 (.slice AN na cN))) _ { HF.out with g1:=(HF.out.g1.trans (hb.mono HF.out.g1.size)),m0:=(HF.out.m0.below hb HF.out.m0.lt),gz0:=(fun h=>(HF.out.gz0 h).below hb (HF.out.gz0 h).lt),gz1:=(fun h=>absurd (h15.symm.trans h) (by decide)),q1:=(fun h q=>(HF.out.q1 h q).below hb n_R),o1:=(fun h=>(HF.out.o1 h).below hb n_R),q2:=(fun _ h=>by cases h),o2:=(fun _=>hO),q3:=(fun h q=>(HF.out.q3 h q).below hb n_R),o3:=(fun h=>(HF.out.o3 h).below hb n_R),f14:=(fun h=>absurd (h14.symm.trans h) (by decide)),f6:=(fun _=>rfl),f8:=(fun _=>rfl),f9:=(fun _=>rfl) }
  ·rintro L ⟨gh,s⟩ W hu hd hdn H K Q hK
   have h15:L 15=false:=by
    cases hc:L 15 with
    | false=>rfl
    | true=>exact hdn.no 15 10 hc rfl hu
   have hWq:w.heap.size+2≤W.heap.size:=(H.gz0 h15).lt;have HWq:=lh hWq;clear hWq;have HF:=lh H;clear H hd
   try simp only
   gi_wp2;have hb:Below W.heap.size W (W.alloc (.cells #[] 69)):=b_R.alloc n_R _;exact hK ({ gh with e3:=W.heap.size },(upd s 13 (.slice (some ⟨W.heap.size,0,none⟩) 0 0))) _ { HF.out with g1:=(HF.out.g1.trans (hb.mono HF.out.g1.size)),m0:=(HF.out.m0.below hb HF.out.m0.lt),gz0:=(fun h=>(HF.out.gz0 h).below hb (HF.out.gz0 h).lt),gz1:=(fun h=>(HF.out.gz1 h).below hb (HF.out.gz1 h).lt),q1:=(fun h q=>(HF.out.q1 h q).below hb n_R),o1:=(fun h=>(HF.out.o1 h).below hb n_R),q2:=(fun h q=>(HF.out.q2 h q).below hb n_R),o2:=(fun h=>(HF.out.o2 h).below hb n_R),q3:=(fun _ _=>World.ownsRow_made W #[] 0 HWq.out (Nat.zero_le _) (by simp)),o3:=(fun h=>(HF.out.o3 h).below hb n_R),f10:=(fun _=>rfl) }
  ·rintro L ⟨gh,s⟩ W hu hd hdn H K Q hK
   have HF:=lh H;clear H hd
   try simp only
   gi_wp2;exact hK (gh,(upd s 14 (.pointer (some ⟨w.heap.size,3,none⟩)))) _ { HF.out with f11:=(fun _=>rfl) }
  ·rintro L ⟨gh,s⟩ W hu hd hdn H K Q hK
   have e11:=H.f11 (hd.at_ 11 rfl);have c0:W.cell? ⟨w.heap.size,3,none⟩=some (.slice At nt ct):=H.m0.cell 3;have HF:=lh H;clear H hd
   try simp only at e11 ⊢
   gi_wp2;exact hK (gh,(upd (upd s 14 (.pointer (some ⟨w.heap.size,3,none⟩))) 15 (.slice At nt ct))) _ { HF.out with f11:=(fun _=>rfl),f12:=(fun _=>rfl) }
  ·rintro L ⟨gh,s⟩ W hu hd hdn H K Q hK
   have e10:=H.f10 (hd.at_ 10 rfl);have e12:=H.f12 (hd.at_ 12 rfl)
   have h15:L 15=false:=by
    cases hc:L 15 with
    | false=>rfl
    | true=>exact hdn.no 15 13 hc rfl hu
   have h14:L 14=false:=by
    cases hc:L 14 with
    | false=>rfl
    | true=>exact hdn.no 14 13 hc rfl hu
   have hWq:w.heap.size+2≤W.heap.size:=(H.gz0 h15).lt;have HWq:=lh hWq;clear hWq;have HE:=lh (H.q3 (hd.at_ 10 rfl) hu);have HG1:=lh H.g1;have HF:=lh H;clear H hd
   try simp only at e10 e12 ⊢
   gi_wp2_with (first | (gi_at_builtin;refine db rfl (.tmp 13) (.tmp 15) (by rfl) jg e10 HE.out e12 ((HM.out.at_.up HG1.out).tastes) (nO m.tastes) (by unfold maxLen;omega) (by omega) HWq.out ?_) | fail)
   rintro AN cN W1 hO hb hA;gi_wp2;exact hK ({ gh with A3:=AN,c3:=cN },(upd (upd (upd s 13 (.slice (some ⟨gh.e3,0,none⟩) 0 0)) 15 (.slice At nt ct)) 16 (.slice AN nt cN))) _ { HF.out with g1:=(HF.out.g1.trans (hb.mono HF.out.g1.size)),m0:=(HF.out.m0.below hb HF.out.m0.lt),gz0:=(fun h=>(HF.out.gz0 h).below hb (HF.out.gz0 h).lt),gz1:=(fun h=>absurd (h15.symm.trans h) (by decide)),q1:=(fun h q=>(HF.out.q1 h q).below hb n_R),o1:=(fun h=>(HF.out.o1 h).below hb n_R),q2:=(fun h q=>(HF.out.q2 h q).below hb n_R),o2:=(fun h=>(HF.out.o2 h).below hb n_R),q3:=(fun _ h=>by cases h),o3:=(fun _=>hO),f14:=(fun h=>absurd (h14.symm.trans h) (by decide)),f10:=(fun _=>rfl),f12:=(fun _=>rfl),f13:=(fun _=>rfl) }
  ·rintro L ⟨gh,s⟩ W hu hd hdn H K Q hK
   have e1:=H.f1 (hd.at_ 1 rfl);have e5:=H.f5 (hd.at_ 5 rfl);have e9:=H.f9 (hd.at_ 9 rfl);have e13:=H.f13 (hd.at_ 13 rfl);have HF:=lh H;clear H hd
   try simp only at e1 e5 e9 e13 ⊢
   gi_wp2;exact hK (gh,(upd (upd (upd (upd (upd s 4 (.int .i64 m.fountains)) 8 (.slice gh.A1 nv gh.c1)) 12 (.slice gh.A2 na gh.c2)) 16 (.slice gh.A3 nt gh.c3)) 17 (.agg #[.int .i64 m.fountains,.slice gh.A1 nv gh.c1,.slice gh.A2 na gh.c2,.slice gh.A3 nt gh.c3]))) _ { HF.out with f1:=(fun _=>rfl),f5:=(fun _=>rfl),f9:=(fun _=>rfl),f13:=(fun _=>rfl),f14:=(fun _=>rfl) }
  ·rintro L ⟨gh,s⟩ W hu hd hdn H K Q hK
   have e14:=H.f14 (hd.at_ 14 rfl);have MB:=H.gz0 hu;have y0:=MB.cell 0;have z0:=MB.frozen 0;have y1:=MB.cell 1;have z1:=MB.frozen 1;have y2:=MB.cell 2;have z2:=MB.frozen 2;have y3:=MB.cell 3;have z3:=MB.frozen 3;have rl:=MB.lt;have HMB:=lh MB;clear MB;have HD5:=lh (hd.at_ 5 rfl);have HD9:=lh (hd.at_ 9 rfl);have HD13:=lh (hd.at_ 13 rfl);have HF:=lh H;clear H hd
   try simp only at e14 ⊢
   gi_wp2;have R4:=ret4' HMB.out (Below.refl (w.heap.size+1) W) n_R (.int .i64 m.fountains) (.slice gh.A1 nv gh.c1) (.slice gh.A2 na gh.c2) (.slice gh.A3 nt gh.c3);have hne:∀ {e:TypeId} {size n cap:Nat} {A:Option Addr} {xs:List Value},Own W (w.heap.size+2) e size A n cap xs→∀ a,A=some a→some a.block≠some (w.heap.size+1):=fun ho a ha e=>by have:=(ho.lt ha).1;have:=Option.some.inj e;omega
   exact hK (gh,(upd s 17 (.agg #[.int .i64 m.fountains,.slice gh.A1 nv gh.c1,.slice gh.A2 na gh.c2,.slice gh.A3 nt gh.c3]))) _ { HF.out with g1:=(HF.out.g1.trans (R4.2.1.mono (by omega))),m0:=(HF.out.m0.grown R4.2.2 (by simp)),gz0:=(fun h=>by cases h),gz1:=(fun _=>R4.1),q1:=(fun _ h=>absurd (HD5.out.symm.trans h) (by decide)),q2:=(fun _ h=>absurd (HD9.out.symm.trans h) (by decide)),q3:=(fun _ h=>absurd (HD13.out.symm.trans h) (by decide)),o1:=(fun h=>(HF.out.o1 h).grown R4.2.2 (hne (HF.out.o1 h))),o2:=(fun h=>(HF.out.o2 h).grown R4.2.2 (hne (HF.out.o2 h))),o3:=(fun h=>(HF.out.o3 h).grown R4.2.2 (hne (HF.out.o3 h))),f14:=(fun _=>rfl) }
 ·rintro L ⟨gh,s⟩ W hall H
  obtain ⟨g1,m0,gz0,gz1,q1,q2,q3,o1,o2,o3,f0,f1,f2,f3,f4,f5,f6,f7,f8,f9,f10,f11,f12,f13,f14⟩:=H;have GO1:=lh (o1 (hall 5 (by decide)));have GO2:=lh (o2 (hall 9 (by decide)));have GO3:=lh (o3 (hall 13 (by decide)));have GZ:=lh (gz1 (hall 15 (by decide)));have G1:=lh g1;clear f14 f13 f12 f11 f10 f9 f8 f7 f6 f5 f4 f3 f2 f1 f0 o3 o2 o1 q3 q2 q1 gz1 gz0 m0 g1 hall;simp only;gi_wp2;have v0:=GZ.out.cell 0;have v1:=GZ.out.cell 1;have v2:=GZ.out.cell 2;have v3:=GZ.out.cell 3;refine bodyPost_ret (v:=.agg #[.int .i64 m.fountains,.slice gh.A1 nv gh.c1,.slice gh.A2 na gh.c2,.slice gh.A3 nt gh.c3]) (by simp [results,Tryz.results15,go_sem,v0,v1,v2,v3]) rfl ?_;exact ⟨gh.A1,gh.c1,gh.A2,gh.c2,gh.A3,gh.c3,rfl,⟨GO1.out.mono (by omega),GO2.out.mono (by omega),GO3.out.mono (by omega)⟩,G1.out⟩
end
section
open Go.RowKit
def wiB (n lo hi:Int):Bool:=decide (lo≤n∧n≤hi)
theorem cK (n lo hi:Int)(w:World):Calls Tryz.prog 56 #[.int .i64 n,.int .i64 lo,.int .i64 hi] w fun e w'=>e = .returned (.bool (wiB n lo hi))∧w=w':=by
 by_cases h1:lo≤n
 all_goals
  go_enter Tryz.func56,Tryz.ntmps56
  go_wp2_with fail
  go_ret
  refine ⟨cU ?_,rfl⟩;unfold wiB;by_cases h2:n≤hi<;>simp [h1,h2]
theorem dm (Av:Option Addr)(nv cv:Nat)(Aa:Option Addr)(na ca:Nat)(At:Option Addr)(nt ct:Nat)(m:Mix)(id:Int)(w:World)(h:MixS w Av nv Aa na At nt m) :
  Calls Tryz.prog 55 #[.agg #[.int .i64 m.fountains,.slice Av nv cv,.slice Aa na ca,.slice At nt ct],.int .i64 id] w fun e w'=>e = .returned (.int .i64 (idxV m.vessels id))∧Below w.heap.size w w':=by
 have HM:=lh h;have hnv:=h.hv;have HLV:=lh h.at_.lenV;clear h
 go_enter Tryz.func55,Tryz.ntmps55
 go_wp2_with fail
 have HB:=lh ((Below.refl w.heap.size w).alloc n_R (.cells #[.int .i64 m.fountains,.slice Av nv cv,.slice Aa na ca,.slice At nt ct] 26));have HX:=lh (Blk.new w 26 #[.int .i64 m.fountains,.slice Av nv cv,.slice Aa na ca,.slice At nt ct]);generalize w.alloc (.cells #[.int .i64 m.fountains,.slice Av nv cv,.slice Aa na ca,.slice At nt ct] 26)=w0 at *
 go_loop [5] (fun i=>∃ k:Nat,k≤nv∧i = .int .i64 k∧(∀ y∈m.vessels.take k,(y.id==id)=false)) (fun i=>nv - (intOf i).toNat)
 case atStart=>exact ⟨0,by omega,rfl,by simp⟩
 case round =>
  obtain ⟨k,hk,rfl,hno⟩:=hrel;have HN:=lh hno;clear hno;have x1:w0.cell? ⟨w.heap.size,1,none⟩=some (.slice Av nv cv):=HX.out.cell 1;have xl:=HX.out.lt;by_cases hlt:k<nv
  ·obtain ⟨b,off,x,rfl,hbB,hx,hc0,hc1⟩:=(HM.out.at_.below HB.out).vess hlt
   have HV:=lh hx;clear hx
   cases hp:(x.id==id) with
   | true =>
    have HP:=lh hp;have hp2:x.id=id:=by simpa using hp
    have HE:=lh (lz HV.out HP.out HN.out);subst hp2;clear hp
    go_wp2_with fail
    go_ret
    exact ⟨dE HE.out.symm,HB.out⟩
   | false =>
    have HP:=lh hp
    go_wp2_with fail
    go_round
    case rel=>exact ⟨k+1,by omega,by go_num,ew HV.out HP.out HN.out⟩
    case measure=>simp [intOf];omega
  ·go_wp2_with fail
   go_ret
   exact ⟨dE (ls (by
    have:=HN.out
    rwa [List.take_of_length_le (by have:=HLV.out;omega)] at this)).symm,HB.out⟩
end
section
open Go.RowKit
section
variable {m:Mix} {s:Held} {x:MAct} {jf jt:Int}
theorem dk1 (hk:x.kind=1)(ht:idxV m.vessels x.to=jt):cS m s x=if (1≤x.fr∧x.fr≤m.fountains)∧0≤jt∧1≤x.drops∧x.drops≤eG m.vessels jt - au s jt then some (s.set jt.toNat (au s jt+x.drops)) else none:=by
 unfold cS;rw [if_pos hk,ht]
theorem dk0 (hk:x.kind≠1)(hf:idxV m.vessels x.fr=jf)(h0:jf<0):cS m s x=none:=by
 unfold cS;rw [if_neg hk,hf,if_pos h0]
theorem dk2 (hk:x.kind=2)(hf:idxV m.vessels x.fr=jf)(ht:idxV m.vessels x.to=jt)(h0:0≤jf):cS m s x=if jt≠jf∧(1≤x.drops∧x.drops≤au s jf)∧0≤jt∧x.drops≤eG m.vessels jt - au s jt then some ((s.set jf.toNat (au s jf - x.drops)).set jt.toNat (au s jt+x.drops)) else none:=by
 unfold cS;rw [if_neg (by omega),hf,if_neg (by omega),if_pos hk,ht];by_cases e:x.fr=x.to
 ·have:jt=jf:=by rw [← hf,← ht,e]
  rw [if_neg (fun h=>h.1 e),if_neg (fun h=>h.1 this)]
 ·have hne:0≤jt→jt≠jf:=fun h1 h2=>e (nY (l:=m.vessels) (by rw [hf];exact h0) (by rw [hf,ht,h2]))
  by_cases c:(1≤x.drops∧x.drops≤au s jf)∧0≤jt∧x.drops≤eG m.vessels jt - au s jt
  ·rw [if_pos ⟨e,c⟩,if_pos ⟨hne c.2.1,c⟩]
  ·rw [if_neg (fun h=>c h.2),if_neg (fun h=>c h.2)]
theorem dk3 (hk:x.kind=3)(hf:idxV m.vessels x.fr=jf)(h0:0≤jf):cS m s x=if x.to=0∧1≤x.drops∧x.drops≤au s jf then some (s.set jf.toNat (au s jf - x.drops)) else none:=by
 unfold cS;rw [if_neg (by omega),hf,if_neg (by omega),if_neg (by omega),if_pos hk]
theorem dk4 (hk:x.kind=4)(hf:idxV m.vessels x.fr=jf)(h0:0≤jf):cS m s x=if x.to=0∧x.drops=0 then some (s.set jf.toNat 0) else none:=by
 unfold cS;rw [if_neg (by omega),hf,if_neg (by omega),if_neg (by omega),if_neg (by omega),if_pos hk]
theorem dk5 (h1:x.kind≠1)(h2:x.kind≠2)(h3:x.kind≠3)(h4:x.kind≠4):cS m s x=none:=by
 unfold cS;rw [if_neg h1,if_neg h2,if_neg h3,if_neg h4]
 split<;>rfl
theorem jo {s:Held}(hs:s.length=4){q:Nat}(hq:q<4)(v:Int):(dH s).toArray.setIfInBounds q (.int .i64 v)=(dH (s.set q v)).toArray:=by
 match s,hs,q,hq with
 | [a,b,c,d],_,0,_=>rfl
 | [a,b,c,d],_,1,_=>rfl
 | [a,b,c,d],_,2,_=>rfl
 | [a,b,c,d],_,3,_=>rfl
def rV (w:World)(m:Mix)(s:Held)(x:MAct)(e:Ending)(w':World):Prop :=
 Below w.heap.size w w'∧∃ s2 b,e = .returned (.tuple #[.agg #[.int .i64 (au s2 0),.int .i64 (au s2 1),.int .i64 (au s2 2),.int .i64 (au s2 3)],.bool b])∧((b=true∧cS m s x=some s2)∨(b=false∧cS m s x=none))
end
end
end Go.Proofs.YthofngceiecniaaGreat
