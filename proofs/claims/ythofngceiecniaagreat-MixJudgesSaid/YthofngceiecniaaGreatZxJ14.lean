/- MixJudges: whatever the mixed water and the whole numbers, the law answers true. No conditions. -/
import Derived.Sort.CutIn
import Derived.Laws.StructEq
import Derived.Lib.SmallJoins
import Derived.LaidHandle
import Derived.ChangeArms
import Derived.ChangeSame
import Derived.Test.YthofngceiecniaaGreatRows
import Derived.OpenShut
import Derived.ShutString
import Derived.ChangeOld
import Derived.Test.YthofngceiecniaaGreatZxJ13
set_option linter.unusedVariables false
/- aguadorref04.without. -/
namespace Go.Proofs.YthofngceiecniaaGreat
set_option maxHeartbeats 32000000
set_option maxRecDepth 100000
section
open Go.RowKit
def WoOut (w:World)(m:Mix)(ns:List Int)(e:Ending)(w':World):Prop:=∃ A1 n1 c1 A2 n2 c2 A3 n3 c3,e = .returned (.agg #[.int .i64 m.fountains,.slice A1 n1 c1,.slice A2 n2 c2,.slice A3 n3 c3])∧du w' w.heap.size A1 n1 c1 A2 n2 c2 A3 n3 c3 (fo m (eK m.tastes ns))∧(n1≤1000∧n2≤1000∧n3≤1000)∧Below w.heap.size w w'
theorem mX (Av:Option Addr)(nv cv:Nat)(Aa:Option Addr)(na ca:Nat)(At:Option Addr)(nt ct:Nat)(m:Mix)(An:Option Addr)(nn cn:Nat)(ns:List Int)(w:World)(h:MixS w Av nv Aa na At nt m)(hn:cr w w.heap.size An nn ns)(hnn:nn≤1000) :
  CallsIn Fence.wide 9 Tryz.prog 99 #[.agg #[.int .i64 m.fountains,.slice Av nv cv,.slice Aa na ca,.slice At nt ct],.slice An nn cn] w (WoOut w m ns):=by
 have HM:=lh h;have HLV:=lh h.at_.lenV;have HLA:=lh h.at_.lenA;have HLT:=lh h.at_.lenT;have hnv:=h.hv;have hna:=h.ha;have hnt:=h.ht;clear h;refine callsIn_of_wp Tryz.func99 rfl trivial ?_ rfl;simp only [Tryz.ntmps99,es,Nat.reduceAdd,Nat.reduceSub];gi_upto_region 1 with fail
 have Ly:=lh (Lay.two w 26 #[.int .i64 m.fountains,.slice Av nv cv,.slice Aa na ca,.slice At nt ct] 26 #[.int .i64 0,.slice none 0 0,.slice none 0 0,.slice none 0 0]);generalize ((w.alloc (.cells #[.int .i64 m.fountains,.slice Av nv cv,.slice Aa na ca,.slice At nt ct] 26)).alloc (.cells #[.int .i64 0,.slice none 0 0,.slice none 0 0,.slice none 0 0] 26))=w0 at *;have HN:=lh hn;clear hn;obtain ⟨x0_0,x0_1,x0_2,x0_3⟩:=lyc4 Ly 0 rfl;have l0_:=Ly.out.lt 0 rfl;gi_wp2;clear x0_0 x0_1 x0_2 x0_3 l0_;have HBS:=lh (Ly.out.1.size);have HBLL:=lh (Ly.out.lt 1 rfl);refine ⟨trivial,(c_W (mM Av nv cv Aa na ca At nt ct m w0 (HM.out.up Ly.out.1))).mono ?_⟩;rintro e W1 ⟨A1,c1,A2,c2,A3,c3,rfl,hmo,hb⟩;have HWW:=lh hb.size;replace Ly:=lyb Ly hb;clear hb;have HMO:=lh hmo;clear hmo;gi_upto_region 2 with fail
 obtain ⟨V2,hV⟩:∃ V,(W1.alloc (.cells #[.int .i64 m.fountains,.slice A1 nv c1,.slice A2 na c2,.slice A3 nt c3] 26))=V:=⟨_,rfl⟩
 rw [hV];have hb:=de hV;have hnew:=dc hV;have hge:=Ly.out.bel.size;replace Ly:=lyb Ly hb;replace HMO:=lh (HMO.out.below hb);replace Ly:=lh (Ly.out.add hge hnew);clear hnew hge hb hV
 obtain ⟨G3,hG⟩:∃ g,W1.heap.size=g:=⟨_,rfl⟩
 rw [hG] at Ly ⊢;have HG_:=lh hG;clear hG;have x2_0:=lyc Ly 2 rfl 0;have z2_0:=lyf Ly 2 rfl 0;have x2_1:=lyc Ly 2 rfl 1;have z2_1:=lyf Ly 2 rfl 1;have x2_2:=lyc Ly 2 rfl 2;have z2_2:=lyf Ly 2 rfl 2;have x2_3:=lyc Ly 2 rfl 3;have z2_3:=lyf Ly 2 rfl 3;have l2_:=Ly.out.lt 2 rfl;gi_upto_region 3 with fail
 clear x2_0 z2_0 x2_1 z2_1 x2_2 z2_2 x2_3 z2_3 l2_;have hgs:=cC (row:=some G3) (cR V2 _) (p:=⟨G3,3,none⟩) (.inl rfl) (.slice none 0 0);have HMO2:Hid (du V2 _ A1 nv c1 A2 na c2 none 0 0 (fo m [])):=lh ⟨HMO.out.v,HMO.out.a,Own.none_ _ _ _ _⟩;have HMO3:=lh (HMO2.out.offB (Ly.out.blk 2 rfl) hgs)
 have hne:∀ b∈([(w.heap.size,26,#[.int .i64 m.fountains,.slice Av nv cv,.slice Aa na ca,.slice At nt ct]),(w.heap.size+1,26,#[.int .i64 0,.slice none 0 0,.slice none 0 0,.slice none 0 0])]:List (Nat × TypeId × Array Value)),b.1≠G3:=fun b hb=>by
  have:=HWW.out;have:=HG_.out;have:=HBLL.out;simp only [List.mem_cons,List.not_mem_nil,or_false] at hb;rcases hb with rfl | rfl<;>dsimp only<;>omega
 have hl:=Lay.setLast Ly.out hne 3 (.slice none 0 0);generalize V2.setCell ⟨G3,3,none⟩ (.slice none 0 0)=V4 at *;replace Ly:=lh (show Lay w V4 [(w.heap.size,26,#[.int .i64 m.fountains,.slice Av nv cv,.slice Aa na ca,.slice At nt ct]),(w.heap.size+1,26,#[.int .i64 0,.slice none 0 0,.slice none 0 0,.slice none 0 0]),(G3,26,#[.int .i64 m.fountains,.slice A1 nv c1,.slice A2 na c2,.slice none 0 0])] from hl);replace HMO:=HMO3;clear hgs hl HMO2 HMO3;have HNE:Hid (∀ b∈([(w.heap.size,26,#[.int .i64 m.fountains,.slice Av nv cv,.slice Aa na ca,.slice At nt ct]),(w.heap.size+1,26,#[.int .i64 0,.slice none 0 0,.slice none 0 0,.slice none 0 0])]:List (Nat × TypeId × Array Value)),b.1≠G3):=lh hne;clear hne;obtain ⟨x0_0,x0_1,x0_2,x0_3⟩:=lyc4 Ly 0 rfl;have l0_:=Ly.out.lt 0 rfl;gi_wp2;clear x0_0 x0_1 x0_2 x0_3 l0_
 gi_loopw [17] (fun v17 wr=>∃ (k:Nat) (A9:Option Addr) (n9 c9:Nat),k≤nt∧v17 = .int .i64 k∧n9≤k∧Hid (Lay w wr [(w.heap.size,26,#[.int .i64 m.fountains,.slice Av nv cv,.slice Aa na ca,.slice At nt ct]),(w.heap.size+1,26,#[.int .i64 0,.slice none 0 0,.slice none 0 0,.slice none 0 0]),(G3,26,#[.int .i64 m.fountains,.slice A1 nv c1,.slice A2 na c2,.slice A9 n9 c9])]∧du wr w0.heap.size A1 nv c1 A2 na c2 A9 n9 c9 (fo m (eK (m.tastes.take k) ns))))
  (fun v17 _=>nt - (intOf v17).toNat)
 case atStart=>exact ⟨0,none,0,0,by omega,rfl,by omega,lh ⟨Ly.out,HMO.out⟩⟩
 case round =>
  clear Ly HMO;obtain ⟨k,A9,n9,c9,hk,rfl,hn9,HS⟩:=hrel;have Ly:=lh HS.out.1;have HMO:=lh HS.out.2;clear HS;have HBW:Hid (w0.heap.size≤wr.heap.size):=lh (by have:=Ly.out.lt 2 rfl;have:=HWW.out;have:=HG_.out;omega);by_cases hlt:k<nt
  ·
   obtain ⟨bt,ot,y,hAt,hbt,hy,t0,t1,t2,t3,t4,t5⟩:=(HM.out.up Ly.out.1).at_.tast hlt;subst hAt;have HY:=lh hy;clear hy;have ktI:(k:Int)<(nt:Int):=by omega
   gi_upto_region 6 with fail
   clear t0 t1 t2 t3 t4 t5
   obtain ⟨V5,hV⟩:∃ V,(wr.alloc (.cells #[.int .i64 y.num,.int .i64 y.vessel,.int .i64 y.after,.int .i64 y.fountain,.int .i64 y.lo,.int .i64 y.hi] 69))=V:=⟨_,rfl⟩
   rw [hV];have hb:=de hV;have hnew:=dc hV;have hge:=Ly.out.bel.size;replace Ly:=lyb Ly hb;replace HMO:=lh (HMO.out.below hb);replace Ly:=lh (Ly.out.add hge hnew);clear hnew hge hb hV
   obtain ⟨G6,hG⟩:∃ g,wr.heap.size=g:=⟨_,rfl⟩
   rw [hG] at Ly ⊢;have HG_:=lh hG;clear hG;replace Ly:=lh (show Lay w V5 [(w.heap.size,26,#[.int .i64 m.fountains,.slice Av nv cv,.slice Aa na ca,.slice (some ⟨bt,ot,none⟩) nt ct]),(w.heap.size+1,26,#[.int .i64 0,.slice none 0 0,.slice none 0 0,.slice none 0 0]),(G3,26,#[.int .i64 m.fountains,.slice A1 nv c1,.slice A2 na c2,.slice A9 n9 c9]),(G6,69,#[.int .i64 y.num,.int .i64 y.vessel,.int .i64 y.after,.int .i64 y.fountain,.int .i64 y.lo,.int .i64 y.hi])] from Ly.out);have HBY:Hid (wr.heap.size≤V5.heap.size):=lh (by have:=HG_.out;have:=Ly.out.lt 3 rfl;omega);gi_wp2
   gi_loopw [8,23] (fun v8 v23 wx=>∃ j:Nat,j≤nn∧v23 = .int .i64 j∧v8 = .bool ((ns.take j).contains y.num)∧Hid (Below V5.heap.size V5 wx))
    (fun _ v23 _=>nn - (intOf v23).toNat)
   case atStart=>exact ⟨0,by omega,rfl,by simp,lh b_R⟩
   case round =>
    rename World=>wx;obtain ⟨j,hj,rfl,rfl,HBX⟩:=hrel;replace Ly:=lh (Ly.out.below HBX.out);replace HMO:=lh (HMO.out.below HBX.out);replace HBW:=lh (Nat.le_trans HBW.out (Nat.le_trans HBY.out HBX.out.size));by_cases hjn:j<nn
    ·
     obtain ⟨b1,o1,z,rfl,hb1,hz,cz⟩:=(HN.out.below Ly.out.1).cell hjn
     have HTK:Hid ((ns.take (j+1)).contains y.num=((ns.take j).contains y.num || y.num==z)):=lh (by
      rw [List.take_add_one,hz,List.contains_eq_any_beq,List.any_append,← List.contains_eq_any_beq]
      simp)
     clear hz;have jnI:(j:Int)<(nn:Int):=by omega
     obtain ⟨x3_0,x3_1,x3_2,x3_3,x3_4,x3_5⟩:=lyc6 Ly 3 rfl;have l3_:=Ly.out.lt 3 rfl
     cases hc:(ns.take j).contains y.num with
     | true =>
      have HC:=lh hc;clear hc;gi_wp2
      go_roundw
      case rel=>exact ⟨j+1,by omega,by go_num,by rw [HTK.out,HC.out];rfl,HBX⟩
      case measure=>simp [intOf];omega
     | false =>
      have HC:=lh hc;clear hc
      cases hzy:(z==y.num) with
      | true =>
       have HZ:Hid ((y.num==z)=true):=lh (by simp at hzy ⊢;exact hzy.symm);have hzy2:decide (z=y.num)=true:=by simpa using hzy
       gi_wp2
       go_roundw
       case rel=>exact ⟨j+1,by omega,by go_num,by rw [HTK.out,HC.out,HZ.out];rfl,HBX⟩
       case measure=>simp [intOf];omega
      | false =>
       have HZ:Hid ((y.num==z)=false):=lh (by simp at hzy ⊢;exact fun e=>hzy e.symm);gi_wp2
       go_roundw
       case rel=>exact ⟨j+1,by omega,by go_num,by rw [HTK.out,HC.out,HZ.out];rfl,HBX⟩
       case measure=>simp [intOf];omega
    ·
     have HTA:Hid ((ns.take j).contains y.num=ns.contains y.num):=lh (by rw [List.take_of_length_le (by have:=HN.out.len;omega)])
     have HLS:Hid (eK (m.tastes.take (k+1)) ns=eK (m.tastes.take k) ns++(if ns.contains y.num then [] else [y])):=lh (by
      unfold eK;rw [List.take_add_one,HY.out,List.filter_append]
      cases hcc:ns.contains y.num<;>simp<;>simpa using hcc)
     rw [HTA.out]
     cases hc:ns.contains y.num with
     | true =>
      have HC:=lh hc;clear hc;gi_wp2
      go_roundw
      case rel=>exact ⟨k+1,A9,n9,c9,by omega,by go_num,by omega,lh ⟨Ly.out.sub (by intro b hb;simp only [List.mem_cons,List.not_mem_nil,or_false] at hb ⊢;rcases hb with h | h | h<;>simp [h]),by rw [HLS.out,HC.out];simpa using HMO.out⟩⟩
      case measure=>simp [intOf];omega
     | false =>
      have HC:=lh hc;clear hc;obtain ⟨x2_0,x2_1,x2_2,x2_3⟩:=lyc4 Ly 2 rfl;have l2_:=Ly.out.lt 2 rfl;obtain ⟨x3_0,x3_1,x3_2,x3_3,x3_4,x3_5⟩:=lyc6 Ly 3 rfl;have l3_:=Ly.out.lt 3 rfl
      gi_wp2_with (first | (gi_at_builtin;refine cG rfl (.tmp 38) (.tmp 40) (by rfl) jg rfl (HMO.out.t.alloc (.cells #[.int .i64 y.num,.int .i64 y.vessel,.int .i64 y.after,.int .i64 y.fountain,.int .i64 y.lo,.int .i64 y.hi] 69)) rfl (fg wx 69 y.vals rfl) (lO y) (by unfold maxLen;omega) (by omega) (by have:=HBW.out;simp;omega) ?_) | fail)
      rintro A8 c8 W9 hown hg hA;have hal:Below wx.heap.size wx (wx.alloc (.cells #[.int .i64 y.num,.int .i64 y.vessel,.int .i64 y.after,.int .i64 y.fountain,.int .i64 y.lo,.int .i64 y.hi] 69)):=b_R.alloc n_R _;have hLB:Lay w wx [(w.heap.size,26,#[.int .i64 m.fountains,.slice Av nv cv,.slice Aa na ca,.slice (some ⟨bt,ot,none⟩) nt ct]),(w.heap.size+1,26,#[.int .i64 0,.slice none 0 0,.slice none 0 0,.slice none 0 0]),(G3,26,#[.int .i64 m.fountains,.slice A1 nv c1,.slice A2 na c2,.slice A9 n9 c9])]:=Ly.out.sub (by intro b hb;simp only [List.mem_cons,List.not_mem_nil,or_false] at hb ⊢;rcases hb with h | h | h<;>simp [h]);have HMU:=lh (HMO.out.below hal);have HLU:=lh (hLB.below hal)
      have HM2:=lh (HMU.out.growT (l:=eK (m.tastes.take k) ns++[y]) hg (by
       have h9:Own W9 _ 69 6 A8 (n9+1) c8 ((eK (m.tastes.take k) ns).flatMap Tast.vals++y.vals):=hown
       rw [List.flatMap_append];simpa using h9))
      have hrow:=dB HMU.out.t
      have HL2:=lh (HLU.out.row hg (fun r e=>⟨Nat.le_trans HBS.out (hrow r e).1,fun b hb=>by
       simp only [List.mem_cons,List.not_mem_nil,or_false] at hb;rcases hb with rfl | rfl | rfl
       ·exact mI (HLU.out.blk 0 rfl) HMU.out.t (by decide) r e
       ·exact mI (HLU.out.blk 1 rfl) HMU.out.t (by decide) r e
       ·exact mI (HLU.out.blk 2 rfl) HMU.out.t (by decide) r e⟩))
      clear hown hg hA hal hLB hrow;clear x2_0 x2_1 x2_2 x2_3 l2_ x3_0 x3_1 x3_2 x3_3 x3_4 x3_5 l3_;have q3:=(HL2.out.blk 2 rfl).cell 3;have qz:=(HL2.out.blk 2 rfl).frozen 3;have ql:=HL2.out.lt 2 rfl;gi_wp2
      go_roundw
      case rel =>
       have hgs:=cC (row:=some G3) (cR W9 _) (p:=⟨G3,3,none⟩) (.inl rfl) (.slice A8 (n9+1) c8);have hm3:=HM2.out.offB (HL2.out.blk 2 rfl) hgs;have hl3:=Lay.setLast (bs:=[(w.heap.size,26,#[.int .i64 m.fountains,.slice Av nv cv,.slice Aa na ca,.slice (some ⟨bt,ot,none⟩) nt ct]),(w.heap.size+1,26,#[.int .i64 0,.slice none 0 0,.slice none 0 0,.slice none 0 0])]) HL2.out HNE.out 3 (.slice A8 (n9+1) c8);exact ⟨k+1,A8,n9+1,c8,by omega,by go_num,by omega,lh ⟨hl3,by rw [HLS.out,HC.out];simp only [Bool.false_eq_true,if_false];exact hm3⟩⟩
      case measure=>simp [intOf];omega
  ·
   have HTA:Hid (m.tastes.take k=m.tastes):=lh (List.take_of_length_le (by have:=HLT.out;omega));have ktI:¬ (k:Int)<(nt:Int):=by omega
   obtain ⟨x2_0,x2_1,x2_2,x2_3⟩:=lyc4 Ly 2 rfl;have l2_:=Ly.out.lt 2 rfl;have r0:=lyc Ly 1 rfl 0;have rz0:=lyf Ly 1 rfl 0;have r1:=lyc Ly 1 rfl 1;have rz1:=lyf Ly 1 rfl 1;have r2:=lyc Ly 1 rfl 2;have rz2:=lyf Ly 1 rfl 2;have r3:=lyc Ly 1 rfl 3;have rz3:=lyf Ly 1 rfl 3;have rl:=Ly.out.lt 1 rfl;gi_wp2;have R4:=ret4' (Ly.out.blk 1 rfl) Ly.out.1 (Ly.out.ge 1 rfl) (.int .i64 m.fountains) (.slice A1 nv c1) (.slice A2 na c2) (.slice A9 n9 c9);have v0:=R4.1.cell 0;have v1:=R4.1.cell 1;have v2:=R4.1.cell 2;have v3:=R4.1.cell 3;refine bodyPost_ret (v:=.agg #[.int .i64 m.fountains,.slice A1 nv c1,.slice A2 na c2,.slice A9 n9 c9]) (by simp [results,Tryz.results99,go_sem,v0,v1,v2,v3]) rfl ?_;have hmn:=HMO.out.offB (Ly.out.blk 1 rfl) R4.2.2;rw [HTA.out] at hmn;exact ⟨_,_,_,_,_,_,_,_,_,rfl,hmn.mono HBS.out,⟨by omega,by omega,by omega⟩,R4.2.1⟩
end
section
def ft (m:Mix)(A:List Held)(l:List Int):Prop:=∀ f:Int,1≤f→f≤m.fountains→WrP m A f l
section
variable {m:Mix} {A:List Held}
theorem iA (h:cu m=true)(l:List Int):iB m A l↔List.Sublist l (m.tastes.map (·.num))∧ft m A l:=by
 constructor
 ·rintro ⟨h1,h2,h3⟩
  exact ⟨iM h1 (fV h) h2,h3⟩
 ·rintro ⟨h1,h2⟩
  exact ⟨(fV h).sublist h1,fun n hn=>h1.subset hn,h2⟩
theorem pc (h:cu m=true)(hA:allM m m.acts=some A){n:Nat}{r:List Int}(hn:n≤3)(hf:ev (dV (m.tastes.map (·.num)) n) (ft m A) true r)
  (hk:∀ k<n,∀ y∈dV (m.tastes.map (·.num)) k,¬ ft m A y):eS m r 0:=by
 rcases hf with ⟨_,i,h1,h2,h3⟩ | ⟨h',_⟩
 ·have hm:=(d9 _ _ _).1 (List.mem_of_getElem? h1)
  refine .inr ⟨h,A,hA,.inl ⟨rfl,by omega,?_⟩⟩;have hF:=ka (fV h) h1 h2 h3 hk;exact ⟨(iA h r).2 hF.1,fun y hy=>hF.2 y ((iA h y).1 hy)⟩
 ·cases h'
theorem nC (h:cu m=true)(hA:allM m m.acts=some A)(hk:∀ k<4,∀ y∈dV (m.tastes.map (·.num)) k,¬ ft m A y):eS m [] 4:=by
 refine .inr ⟨h,A,hA,.inr ⟨rfl,rfl,fun k hP=>?_⟩⟩;obtain ⟨h1,h2⟩:=(iA h k).1 hP;rcases Nat.lt_or_ge 3 k.length with h3 | h3
 ·exact h3
 ·exact absurd h2 (hk k.length (by omega) k ((d9 _ _ _).2 ⟨h1,rfl⟩))
theorem oV (h:cu m=false):eS m [] 40:=.inl ⟨h,rfl,rfl⟩
end
end
section
open Go.RowKit
def iq (a b:List Int):Bool:=decide (a=b)
theorem pI {a b:List Int}(h:a.length≠b.length):iq a b=false:=by unfold iq;simp;intro e;exact h (by rw [e])
theorem rm {a b:List Int}{k:Nat}{x y:Int}(hx:a[k]? =some x)(hy:b[k]? =some y)(h:x≠y):iq a b=false:=by
 unfold iq;simp;intro e;subst e;rw [hx] at hy;cases hy;exact h rfl
theorem ry {a b:List Int}(hl:a.length=b.length)(h:∀ (k:Nat) x y,k<a.length→a[k]? =some x→b[k]? =some y→x=y):iq a b=true:=by
 unfold iq;simp
 apply List.ext_getElem?
 intro k;by_cases hk:k<a.length
 ·have h1:a[k]? =some a[k]:=List.getElem?_eq_getElem hk
  have h2:b[k]? =some (b[k]'(by omega)):=List.getElem?_eq_getElem _;rw [h1,h2,h k _ _ hk h1 h2]
 ·rw [List.getElem?_eq_none (by omega),List.getElem?_eq_none (by omega)]
theorem mr (A:Option Addr)(n c:Nat)(a:List Int)(B:Option Addr)(m d:Nat)(b:List Int)(w:World)(hn:n≤maxLen)(hm:m≤maxLen)(ha:cr w w.heap.size A n a)(hb:cr w w.heap.size B m b) :
  Calls Tryz.prog 20 #[.slice A n c,.slice B m d] w fun e w'=>e = .returned (.bool (iq a b))∧Below w.heap.size w w':=by
 unfold maxLen at hn hm;have HA:=lh ha.len;have HB:=lh hb.len;by_cases hnm:n=m
 ·subst hnm
  have hnn:((n:Int)==(n:Int))=true:=by simp
  go_enter Tryz.func20,Tryz.ntmps20
  go_wp2_with fail
  go_loopw [5] (fun i wr=>∃ k:Nat,k≤n∧i = .int .i64 k∧(∀ (j:Nat) x y,j<k→a[j]? =some x→b[j]? =some y→x=y)∧Below w.heap.size w wr)
   (fun i _=>n - (intOf i).toNat)
  case atStart=>exact ⟨0,by omega,rfl,fun _ _ _ h=>absurd h (by omega),b_R⟩
  case round =>
   obtain ⟨k,hk,rfl,hall,hbel⟩:=hrel;have HAll:=lh hall;clear hall;by_cases hlt:k<n
   ·obtain ⟨b1,o1,x,rfl,hb1,hx,cx⟩:=(ha.below hbel).cell hlt
    obtain ⟨b2,o2,y,rfl,hb2,hy,cy⟩:=(hb.below hbel).cell hlt;have HX:=lh hx;have HY:=lh hy;have kI:(k:Int)<(n:Int):=by omega
    have k0:(0:Int)≤(k:Int):=by omega
    clear hx hy;by_cases hxy:x=y
    ·have hxy':(x==y)=true:=by simpa using hxy
     have HXY:=lh hxy;clear hxy
     go_wp2_with fail
     go_quiet (fail)
     go_wp2_with fail
     go_roundw
     case rel=>exact ⟨k+1,by omega,by go_num,fun j u v hj hu hv=>by
      rcases Nat.lt_or_ge j k with h | h
      ·exact HAll.out j u v h hu hv
      ·obtain rfl:j=k:=by omega
       rw [HX.out] at hu;rw [HY.out] at hv
       cases hu;cases hv;exact HXY.out,av hbel _⟩
     case measure=>simp [intOf];omega
    ·have hxy':(x==y)=false:=by simpa using hxy
     have HXY:=lh hxy;clear hxy
     go_wp2_with fail
     go_quiet (fail)
     go_wp2_with fail
     go_ret
     exact ⟨cU (rm HX.out HY.out HXY.out).symm,av hbel _⟩
   ·go_wp2_with fail
    go_ret
    exact ⟨cU (ry (by rw [HA.out,HB.out]) (fun j x y hj hx hy=>HAll.out j x y (by have:=HA.out;omega) hx hy)).symm,hbel⟩
 ·have hnn:((n:Int)==(m:Int))=false:=by simp;omega
  have HF:Hid (iq a b=false):=pI (by rw [HA.out,HB.out];exact hnm)
  go_enter Tryz.func20,Tryz.ntmps20
  go_wp2_with fail
  go_ret
  exact ⟨cU HF.out.symm,b_R⟩
def eW (nv na nt:Nat):Bool:=decide (8<nv) || decide (24<na) || decide (16<nt)
theorem pR (f:Int)(Av:Option Addr)(nv cv:Nat)(Aa:Option Addr)(na ca:Nat)(At:Option Addr)(nt ct:Nat)(w:World) :
  Calls Tryz.prog 14 #[.agg #[.int .i64 f,.slice Av nv cv,.slice Aa na ca,.slice At nt ct]] w fun e w'=>e = .returned (.bool (eW nv na nt))∧Below w.heap.size w w':=by
 by_cases h1:8<nv
 ·have HG:Hid (eW nv na nt=true):=by show _=_;unfold eW;simp [h1]
  have h1':(8:Int)<(nv:Int):=by omega
  clear h1
  go_enter Tryz.func14,Tryz.ntmps14
  go_wp2_with fail
  go_ret
  exact ⟨cU HG.out.symm,b_R.alloc n_R _⟩
 ·have h1':decide ((8:Int)<(nv:Int))=false:=by simp;omega
  by_cases h2:24<na
  ·have HG:Hid (eW nv na nt=true):=by show _=_;unfold eW;simp [h2]
   have h2':(24:Int)<(na:Int):=by omega
   clear h1 h2
   go_enter Tryz.func14,Tryz.ntmps14
   go_wp2_with fail
   go_ret
   exact ⟨cU HG.out.symm,b_R.alloc n_R _⟩
  ·have h2':decide ((24:Int)<(na:Int))=false:=by simp;omega
   by_cases h3:16<nt
   ·have HG:Hid (eW nv na nt=true):=by show _=_;unfold eW;simp [h3]
    have h3':(16:Int)<(nt:Int):=by omega
    clear h1 h2 h3
    go_enter Tryz.func14,Tryz.ntmps14
    go_wp2_with fail
    go_ret
    exact ⟨cU HG.out.symm,b_R.alloc n_R _⟩
   ·have HG:Hid (eW nv na nt=false):=by show _=_;unfold eW;simp [h1,h2,h3]
    have h3':¬ (16:Int)<(nt:Int):=by omega
    clear h1 h2 h3
    go_enter Tryz.func14,Tryz.ntmps14
    go_wp2_with fail
    go_ret
    exact ⟨cU HG.out.symm,b_R.alloc n_R _⟩
theorem kD (d:Nat)(a b:Int)(w:World):(Op.equalIn (d+1) 3 (.int .i64 a) (.int .i64 b)).run Tryz.prog w = .ok (a==b) w:=by
 simp [Op.equalIn,run_underlying Tryz.underlying3]
theorem mY (a0 a1:Int)(w:World):(Op.equalIn 10000 50 (.agg #[.int .i64 a0,.int .i64 a1]) (.agg #[.int .i64 a0,.int .i64 a1])).run Tryz.prog w = .ok true w:=by
 rw [Op.equalIn];simp [go_sem,run_underlying Tryz.underlying50,kD,Std.Legacy.Range.forIn_eq_forIn_range',part]
theorem oQ (a0 a1 a2 a3:Int)(w:World):(Op.equalIn 10000 62 (.agg #[.int .i64 a0,.int .i64 a1,.int .i64 a2,.int .i64 a3]) (.agg #[.int .i64 a0,.int .i64 a1,.int .i64 a2,.int .i64 a3])).run Tryz.prog w = .ok true w:=by
 rw [Op.equalIn];simp [go_sem,run_underlying Tryz.underlying62,kD,Std.Legacy.Range.forIn_eq_forIn_range',part]
theorem nQ (a0 a1 a2 a3 a4 a5:Int)(w:World):(Op.equalIn 10000 69 (.agg #[.int .i64 a0,.int .i64 a1,.int .i64 a2,.int .i64 a3,.int .i64 a4,.int .i64 a5]) (.agg #[.int .i64 a0,.int .i64 a1,.int .i64 a2,.int .i64 a3,.int .i64 a4,.int .i64 a5])).run Tryz.prog w = .ok true w:=by
 rw [Op.equalIn];simp [go_sem,run_underlying Tryz.underlying69,kD,Std.Legacy.Range.forIn_eq_forIn_range',part]
theorem qc (Av:Option Addr)(nv cv:Nat)(Aa:Option Addr)(na ca:Nat)(At:Option Addr)(nt ct:Nat)(Bv:Option Addr)(dv:Nat)(Ba:Option Addr)(da:Nat)(Bt:Option Addr)(dt:Nat)(m:Mix)(w:World)(h1:MixS w Av nv Aa na At nt m)(h2:MixS w Bv nv Ba na Bt nt m) :
  Calls Tryz.prog 21 #[.agg #[.int .i64 m.fountains,.slice Av nv cv,.slice Aa na ca,.slice At nt ct],.agg #[.int .i64 m.fountains,.slice Bv nv dv,.slice Ba na da,.slice Bt nt dt]] w fun e w'=>e = .returned (.bool true)∧Below w.heap.size w w':=by
 have HM:=lh h1;have HN:=lh h2;have hnv:=h1.hv;have hna:=h1.ha;have hnt:=h1.ht;clear h1 h2;have e0:((nv:Int)==(nv:Int))=true:=by simp
 have e1:((na:Int)==(na:Int))=true:=by simp
 have e2:((nt:Int)==(nt:Int))=true:=by simp
 have hr0:=mY;have hr1:=oQ;have hr2:=nQ
 go_enter Tryz.func21,Tryz.ntmps21
 go_wp2_with fail
 have X0:=(Blk.new w 26 #[.int .i64 m.fountains,.slice Av nv cv,.slice Aa na ca,.slice At nt ct]).alloc (.cells #[.int .i64 m.fountains,.slice Bv nv dv,.slice Ba na da,.slice Bt nt dt] 26);have Y0:=Blk.new (w.alloc (.cells #[.int .i64 m.fountains,.slice Av nv cv,.slice Aa na ca,.slice At nt ct] 26)) 26 #[.int .i64 m.fountains,.slice Bv nv dv,.slice Ba na da,.slice Bt nt dt];have B0:Below w.heap.size w ((w.alloc (.cells #[.int .i64 m.fountains,.slice Av nv cv,.slice Aa na ca,.slice At nt ct] 26)).alloc (.cells #[.int .i64 m.fountains,.slice Bv nv dv,.slice Ba na da,.slice Bt nt dt] 26)):=(b_R.alloc n_R _).alloc (by simp) _;rw [World.size_alloc] at Y0;generalize ((w.alloc (.cells #[.int .i64 m.fountains,.slice Av nv cv,.slice Aa na ca,.slice At nt ct] 26)).alloc (.cells #[.int .i64 m.fountains,.slice Bv nv dv,.slice Ba na da,.slice Bt nt dt] 26))=w0 at *;have HX0:=lh X0;have HY0:=lh Y0;have HB0:=lh B0;clear X0 Y0 B0
 go_loopw [5] (fun i wr=>∃ k:Nat,k≤nv∧i = .int .i64 k∧Below w0.heap.size w0 wr)
  (fun i _=>nv - (intOf i).toNat)
 case atStart=>exact ⟨0,by omega,rfl,b_R⟩
 case round =>
  obtain ⟨k,hk,rfl,hbel⟩:=hrel;have X0:=HX0.out.below hbel HX0.out.lt;have Y0:=HY0.out.below hbel HY0.out.lt;have B0:=HB0.out.trans (hbel.mono HB0.out.size);have x0:=X0.cell 1;have y0:=Y0.cell 1;have x1:=X0.cell 2;have y1:=Y0.cell 2;by_cases hlt:k<nv
  ·obtain ⟨b1,o1,x,rfl,hb1,hx,c0,c1⟩:=(HM.out.at_.below B0).vess hlt
   obtain ⟨b2,o2,y,rfl,hb2,hy,d0,d1⟩:=(HN.out.at_.below B0).vess hlt;obtain rfl:x=y:=by rw [hx] at hy;exact Option.some.inj hy
   have HX:=lh hx;clear hx hy;have kI:(k:Int)<(nv:Int):=by omega
   have k0:(0:Int)≤(k:Int):=by omega
   go_wp2_with fail
   go_quiet (fail)
   go_wp2_with fail
   go_roundw
   case rel=>exact ⟨k+1,by omega,by go_num,av hbel _⟩
   case measure=>simp [intOf];omega
  ·
   have hke:k=nv:=by omega
   clear hbel
   go_wp2_with fail
   clear x0 y0 x1 y1;clear HX0 HY0 HB0;generalize wr=wra at *;have HX1:=lh X0;have HY1:=lh Y0;have HB1:=lh B0;clear X0 Y0 B0
   go_loopw [6] (fun i wr=>∃ k:Nat,k≤na∧i = .int .i64 k∧Below wra.heap.size wra wr)
    (fun i _=>na - (intOf i).toNat)
   case atStart=>exact ⟨0,by omega,rfl,b_R⟩
   case round =>
    obtain ⟨k,hk,rfl,hbel⟩:=hrel;have X0:=HX1.out.below hbel HX1.out.lt;have Y0:=HY1.out.below hbel HY1.out.lt;have B0:=HB1.out.trans (hbel.mono HB1.out.size);have x0:=X0.cell 2;have y0:=Y0.cell 2;have x1:=X0.cell 3;have y1:=Y0.cell 3;by_cases hlt:k<na
    ·obtain ⟨b1,o1,x,rfl,hb1,hx,c0,c1,c2,c3⟩:=(HM.out.at_.below B0).act hlt
     obtain ⟨b2,o2,y,rfl,hb2,hy,d0,d1,d2,d3⟩:=(HN.out.at_.below B0).act hlt;obtain rfl:x=y:=by rw [hx] at hy;exact Option.some.inj hy
     have HX:=lh hx;clear hx hy;have kI:(k:Int)<(na:Int):=by omega
     have k0:(0:Int)≤(k:Int):=by omega
     go_wp2_with fail
     go_quiet (fail)
     go_wp2_with fail
     go_roundw
     case rel=>exact ⟨k+1,by omega,by go_num,av hbel _⟩
     case measure=>simp [intOf];omega
    ·
     have hke:k=na:=by omega
     clear hbel
     go_wp2_with fail
     clear x0 y0 x1 y1;clear HX1 HY1 HB1;generalize wr=wrb at *;have HX2:=lh X0;have HY2:=lh Y0;have HB2:=lh B0;clear X0 Y0 B0
     go_loopw [7] (fun i wr=>∃ k:Nat,k≤nt∧i = .int .i64 k∧Below wrb.heap.size wrb wr)
      (fun i _=>nt - (intOf i).toNat)
     case atStart=>exact ⟨0,by omega,rfl,b_R⟩
     case round =>
      obtain ⟨k,hk,rfl,hbel⟩:=hrel;have X0:=HX2.out.below hbel HX2.out.lt;have Y0:=HY2.out.below hbel HY2.out.lt;have B0:=HB2.out.trans (hbel.mono HB2.out.size);have x0:=X0.cell 3;have y0:=Y0.cell 3;by_cases hlt:k<nt
      ·obtain ⟨b1,o1,x,rfl,hb1,hx,c0,c1,c2,c3,c4,c5⟩:=(HM.out.at_.below B0).tast hlt
       obtain ⟨b2,o2,y,rfl,hb2,hy,d0,d1,d2,d3,d4,d5⟩:=(HN.out.at_.below B0).tast hlt;obtain rfl:x=y:=by rw [hx] at hy;exact Option.some.inj hy
       have HX:=lh hx;clear hx hy;have kI:(k:Int)<(nt:Int):=by omega
       have k0:(0:Int)≤(k:Int):=by omega
       go_wp2_with fail
       go_quiet (fail)
       go_wp2_with fail
       go_roundw
       case rel=>exact ⟨k+1,by omega,by go_num,av hbel _⟩
       case measure=>simp [intOf];omega
      ·
       have hke:k=nt:=by omega
       clear hbel
       go_wp2_with fail
       go_ret
       exact ⟨rfl,B0⟩
end
section
open Go.RowKit
theorem mt {nv na nt:Nat}(h:eW nv na nt=false):nv≤8∧na≤24∧nt≤16:=by
 unfold eW at h;simp at h;omega
def tJ (w:World)(e:Ending)(w':World):Prop:=e = .returned (.bool true)∧Below w.heap.size w w'
end
section
open Go.RowKit Go.Shelf
attribute [local go_sem] Oper.semAt_some
inductive FrJr (v1 v3:Value):Act→Prop
 | mk (a b c d e f g h i j k l:Value):FrJr v1 v3 ⟨#[a,v1,b,v3,c,d,e,f,g,h,i,j,k,l],[]⟩
inductive FrJs (v1 v3 v4 v10:Value):Act→Prop
 | mk (a b c d e f g h i j k l m n o p q r s t w x y z A B C D E F G H I J K L M N O P Q R S T U V:Value):FrJs v1 v3 v4 v10 ⟨#[a,v1,b,v3,v4,c,d,e,f,g,v10,h,i,j,k,l,m,n,o,p,q,r,s,t,w,x,y,z,A,B,C,D,E,F,G,H,I,J,K,L,M,N,O,P,Q,R,S,T,U,V],[]⟩
inductive FrJw (v1 v4:Value):Act→Prop
 | mk (a b c d e f g h i j k l m n o p q r s t:Value):FrJw v1 v4 ⟨#[a,v1,b,c,v4,d,e,f,g,h,i,j,k,l,m,n,o,p,q,r,s,t],[]⟩
def mZ (w:World)(P:Prop)(e:Ending)(w':World):Prop:=∃ b:Bool,e = .returned (.bool b)∧(b=true↔P)∧Below w.heap.size w w'
def ju (m:Mix)(L:List Held)(k:Nat):Prop:=∀ f:Int,1≤f→f≤(k:Int)→cD m f L 0 cQ
theorem oT {m:Mix}{L:List Held}{k:Nat}(h:ju m L k)(h1:cD m ((k:Int)+1) L 0 cQ):ju m L (k+1):=by
 intro f f1 f2;by_cases e:f=(k:Int)+1
 ·rw [e];exact h1
 ·exact h f f1 (by omega)
def oN (W:World)(P:List Int→Prop)(C:List (List Int))(e:Ending)(w':World):Prop :=
 ∃ A n c b r,e = .returned (.tuple #[.slice A n c,.bool b])∧Below W.heap.size W w'∧(b=true→cr w' w'.heap.size A n r∧n≤3)∧ev C P b r
def qu (w:World)(m:Mix)(e:Ending)(w':World):Prop :=
 ∃ l A n c x,e = .returned (.tuple #[.slice A n c,.int .i64 x])∧eS m l x∧cr w' w'.heap.size A n l∧n≤3∧Below w.heap.size w w'
def rR (m:Mix)(L:List Held)(n:Nat):Prop:=∀ k<n,∀ y∈dV (m.tastes.map (·.num)) k,¬ ft m L y
theorem qG {m:Mix}{L:List Held}{n:Nat}{r:List Int}(h:rR m L n)(h1:ev (eU (m.tastes.map (·.num)) [] 0 n) (ft m L) false r):rR m L (n+1):=by
 intro k hk y hy;by_cases e:k=n
 ·subst e
  rw [jp] at h1
  rcases h1 with ⟨h1,_⟩ | ⟨_,h1⟩
  ·cases h1
  ·exact h1 y hy
 ·exact h k (by omega) y hy
theorem r7 {m:Mix}{L:List Held}{l:List Int}:ju (fo m (eK m.tastes l)) L m.fountains.toNat↔ft m L l:=by
 unfold ju ft WrP;constructor
 ·intro h f f1 f2
  exact h f f1 (by omega)
 ·intro h f f1 f2
  exact h f f1 (by omega)
theorem rQ (Av:Option Addr)(nv cv:Nat)(Aa:Option Addr)(na ca:Nat)(At:Option Addr)(nt ct:Nat)(m:Mix)(f:Int)(L:List Held)(w:World)(h:MixS w Av nv Aa na At nt m)(hok:cu m=true)(hL:allM m m.acts=some L) :
  CallsIn Fence.wide 9 Tryz.prog 138 #[.agg #[.int .i64 m.fountains,.slice Av nv cv,.slice Aa na ca,.slice At nt ct],.int .i64 f] w (mZ w (cD m f L 0 cQ)):=by
 have HM:=lh h;have HOK:=lh hok;have HLL:=lh hL;clear h hok hL;refine callsIn_of_wp Tryz.func138 rfl trivial ?_ rfl;simp only [Tryz.ntmps138,es,Nat.reduceAdd,Nat.reduceSub];gi_upto_region 1 with fail
 have Ly:=lh (Lay.one w 26 #[.int .i64 m.fountains,.slice Av nv cv,.slice Aa na ca,.slice At nt ct]);generalize (w.alloc (.cells #[.int .i64 m.fountains,.slice Av nv cv,.slice Aa na ca,.slice At nt ct] 26))=w0 at *;obtain ⟨x0_0,x0_1,x0_2,x0_3⟩:=lyc4 Ly 0 rfl;have l0_:=Ly.out.lt 0 rfl;gi_wp2;clear x0_0 x0_1 x0_2 x0_3 l0_;refine ⟨trivial,(c_W (j7 Av nv cv Aa na ca At nt ct m f w0 (HM.out.up Ly.out.1) HOK.out)).mono ?_⟩;rintro e W1 ⟨L9,rs,bs,g,n,N,b,rfl,-,-,hL9,-,hbr,-,hb9⟩;have hb:=hbr.bel;replace Ly:=lyb Ly hb;clear hb;obtain rfl:L=L9:=Option.some.inj (HLL.out.symm.trans hL9);have HB9:=lh hb9;clear hbr hL9 hb9;gi_wp2;exact bodyPost_ret (v:=.bool b) (by simp [results,Tryz.results138,go_sem]) rfl ⟨b,rfl,HB9.out,Ly.out.1⟩
theorem pM (Av:Option Addr)(nv cv:Nat)(Aa:Option Addr)(na ca:Nat)(At:Option Addr)(nt ct:Nat)(m:Mix)(L:List Held)(w:World)(h:MixS w Av nv Aa na At nt m)(hok:cu m=true)(hL:allM m m.acts=some L) :
  CallsIn Fence.wide 9 Tryz.prog 98 #[.agg #[.int .i64 m.fountains,.slice Av nv cv,.slice Aa na ca,.slice At nt ct]] w (mZ w (ju m L m.fountains.toNat)):=by
 have HM:=lh h;have HOK:=lh hok;have HLL:=lh hL;have hF:=(cI hok).2.2.2;have HFF:=lh hF;clear h hok hL hF;refine callsIn_of_wp Tryz.func98 rfl trivial ?_ rfl;simp only [Tryz.ntmps98,es,Nat.reduceAdd,Nat.reduceSub];gi_upto_region 1 with fail
 have Ly:=lh (Lay.one w 26 #[.int .i64 m.fountains,.slice Av nv cv,.slice Aa na ca,.slice At nt ct]);generalize (w.alloc (.cells #[.int .i64 m.fountains,.slice Av nv cv,.slice Aa na ca,.slice At nt ct] 26))=w0 at *;obtain ⟨x0_0,x0_1,x0_2,x0_3⟩:=lyc4 Ly 0 rfl;have l0_:=Ly.out.lt 0 rfl;gi_wp2;clear x0_0 x0_1 x0_2 x0_3 l0_;refine wpIn_loop (fun a W=>∃ (k:Nat),Hid ((k:Int)≤m.fountains∧ju m L k∧Lay w W [(w.heap.size,26,#[.int .i64 m.fountains,.slice Av nv cv,.slice Aa na ca,.slice At nt ct])])∧FrJr (.pointer (some ⟨w.heap.size,0,none⟩)) (.int .i64 ((k:Int)+1)) a) (fun a _=>5 - (intOf (a.tmps.getD 3 undef)).toNat) ?_ ?_
 ·exact ⟨0,lh ⟨by have:=HFF.out;omega,fun f f1 f2=>by omega,Ly.out⟩,by constructor⟩
 clear Ly;rintro a W ⟨k,HS,ha⟩;cases ha;have Ly:=lh HS.out.2.2;have HRK:=lh HS.out.2.1;have hkF:=HS.out.1;have hF:=HFF.out;clear HS;by_cases hlt:(k:Int)+1≤m.fountains
 ·
  obtain ⟨x0_0,x0_1,x0_2,x0_3⟩:=lyc4 Ly 0 rfl;have l0_:=Ly.out.lt 0 rfl;gi_wp2;clear x0_0 x0_1 x0_2 x0_3 l0_;refine ⟨trivial,(c_W (rQ Av nv cv Aa na ca At nt ct m ((k:Int)+1) L W (HM.out.up Ly.out.1) HOK.out HLL.out)).mono ?_⟩;rintro e W1 ⟨b,rfl,hbt,hb⟩;replace Ly:=lyb Ly hb;clear hb;have HBT:=lh hbt;clear hbt
  cases b with
  | false =>
   gi_wp2
   exact bodyPost_ret (v:=.bool false) (by simp [results,Tryz.results98,go_sem]) rfl ⟨false,rfl,⟨(fun h=>by cases h),fun h=>by
    have h1:=h ((k:Int)+1) (by omega) (by omega);have h2:=HBT.out;simp at h2
    exact absurd h1 h2⟩,Ly.out.1⟩
  | true =>
   gi_wp2;refine ⟨⟨k+1,lh ⟨by omega,oT HRK.out (by have h2:=HBT.out;simpa using h2),Ly.out⟩,by rw [show ((k+1:Nat):Int)=(k:Int)+1 from by omega];constructor⟩,?_⟩;simp [intOf]<;>omega
 ·
  have HKK:Hid (m.fountains.toNat=k):=lh (by omega);obtain ⟨x0_0,x0_1,x0_2,x0_3⟩:=lyc4 Ly 0 rfl;have l0_:=Ly.out.lt 0 rfl;gi_wp2;clear x0_0 x0_1 x0_2 x0_3 l0_;exact bodyPost_ret (v:=.bool true) (by simp [results,Tryz.results98,go_sem]) rfl ⟨true,rfl,⟨fun _=>by rw [HKK.out];exact HRK.out,fun _=>rfl⟩,Ly.out.1⟩
theorem oL (Av:Option Addr)(nv cv:Nat)(Aa:Option Addr)(na ca:Nat)(At:Option Addr)(nt ct:Nat)(m:Mix)(L:List Held)(hok:cu m=true)(hL:allM m m.acts=some L):∀ (more frm:Nat) (l:List Int) (A:Option Addr) (n c:Nat) (w:World),MixS w Av nv Aa na At nt m→cr w w.heap.size A n l→n+more≤3→frm≤nt →
  CallsIn Fence.wide 9 Tryz.prog 61 #[.agg #[.int .i64 m.fountains,.slice Av nv cv,.slice Aa na ca,.slice At nt ct],.slice A n c,.int .i64 (frm:Int),.int .i64 (more:Int)] w (oN w (ft m L) (eU (m.tastes.map (·.num)) l frm more)):=by
 intro more
 induction more with
 | zero =>
  intro frm l A n c w h hl hn hfr;have HM:=lh h;have HOK:=lh hok;have HLL:=lh hL;have HIL:=lh hl;have hn3:n≤3:=by omega
  clear h hl hn hfr;refine callsIn_of_wp Tryz.func61 rfl trivial ?_ rfl;simp only [Tryz.ntmps61,es,Nat.reduceAdd,Nat.reduceSub];gi_upto_region 1 with fail
  have Ly:=lh (Lay.one w 26 #[.int .i64 m.fountains,.slice Av nv cv,.slice Aa na ca,.slice At nt ct]);generalize (w.alloc (.cells #[.int .i64 m.fountains,.slice Av nv cv,.slice Aa na ca,.slice At nt ct] 26))=w0 at *;obtain ⟨x0_0,x0_1,x0_2,x0_3⟩:=lyc4 Ly 0 rfl;have l0_:=Ly.out.lt 0 rfl;gi_upto_region 2 with fail
  clear x0_0 x0_1 x0_2 x0_3 l0_;obtain ⟨x0_0,x0_1,x0_2,x0_3⟩:=lyc4 Ly 0 rfl;have l0_:=Ly.out.lt 0 rfl;gi_wp2;clear x0_0 x0_1 x0_2 x0_3 l0_;refine ⟨trivial,(c_W (mX Av nv cv Aa na ca At nt ct m A n c l w0 (HM.out.up Ly.out.1) ((HIL.out.below Ly.out.1).more Ly.out.1.size) (by omega))).mono ?_⟩;rintro e W1 ⟨A1,n1,c1,A2,n2,c2,A3,n3,c3,rfl,hmo,hsz,hb⟩;replace Ly:=lyb Ly hb;clear hb;have HMO:=lh hmo;have HSZ:=lh hsz;clear hmo hsz;obtain ⟨x0_0,x0_1,x0_2,x0_3⟩:=lyc4 Ly 0 rfl;have l0_:=Ly.out.lt 0 rfl;gi_wp2;clear x0_0 x0_1 x0_2 x0_3 l0_;refine ⟨trivial,(c_W (pM A1 n1 c1 A2 n2 c2 A3 n3 c3 (fo m (eK m.tastes l)) L W1 ⟨⟨HMO.out.v.reads n_R,HMO.out.a.reads n_R,HMO.out.t.reads n_R⟩,HSZ.out.1,HSZ.out.2.1,HSZ.out.2.2⟩ (j3 HOK.out _) HLL.out)).mono ?_⟩;rintro e W2 ⟨b,rfl,hbt,hb⟩;replace Ly:=lyb Ly hb;replace HMO:=lh (HMO.out.below hb);clear hb;have HBT:=lh hbt;clear hbt;gi_wp2;refine bodyPost_ret (v:=.tuple #[.slice A n c,.bool b]) (by simp [results,Tryz.results61,go_sem]) rfl ⟨A,n,c,b,l,rfl,Ly.out.1,fun _=>⟨(HIL.out.below Ly.out.1).more Ly.out.1.size,hn3⟩,?_⟩;rw [j2];exact nT (HBT.out.trans r7)
 | succ more ih =>
  intro frm l A n c w h hl hn hfr;have HIH:=lh ih;have HM:=lh h;have HIL:=lh hl;have HLT:=lh h.at_.lenT;have HNT:=lh h.ht;have hnm:n+more≤2:=by omega
  have HFR:=lh hfr;clear ih h hl hn hfr hok hL;refine callsIn_of_wp Tryz.func61 rfl trivial ?_ rfl;simp only [Tryz.ntmps61,es,Nat.reduceAdd,Nat.reduceSub];gi_upto_region 1 with fail
  have hmb:(((more+1:Nat):Int)==0)=false:=by rw [beq_eq_false_iff_ne];omega
  rw [show ((more+1:Nat):Int)=(more:Int)+1 from by omega] at hmb ⊢;have Ly:=lh (Lay.one w 26 #[.int .i64 m.fountains,.slice Av nv cv,.slice Aa na ca,.slice At nt ct]);generalize (w.alloc (.cells #[.int .i64 m.fountains,.slice Av nv cv,.slice Aa na ca,.slice At nt ct] 26))=w0 at *;obtain ⟨x0_0,x0_1,x0_2,x0_3⟩:=lyc4 Ly 0 rfl;have l0_:=Ly.out.lt 0 rfl;gi_wp2;clear x0_0 x0_1 x0_2 x0_3 l0_;refine wpIn_loop (fun a V=>∃ (i:Nat),Hid (i≤nt∧(∀ b r,ev (eU (m.tastes.map (·.num)) l i (more+1)) (ft m L) b r→ev (eU (m.tastes.map (·.num)) l frm (more+1)) (ft m L) b r)∧Lay w V [(w.heap.size,26,#[.int .i64 m.fountains,.slice Av nv cv,.slice Aa na ca,.slice At nt ct])])∧FrJs (.slice A n c) (.int .i64 ((more:Int)+1)) (.pointer (some ⟨w.heap.size,0,none⟩)) (.int .i64 (i:Int)) a) (fun a _=>nt - (intOf (a.tmps.getD 10 undef)).toNat) ?_ ?_
  ·exact ⟨frm,lh ⟨HFR.out,fun b r h=>h,Ly.out⟩,by constructor⟩
  clear Ly;rintro a V ⟨i,HS,ha⟩;cases ha;have Ly:=lh HS.out.2.2;have HCF:=lh HS.out.2.1;have hin:=HS.out.1;have hnt:=HNT.out;clear HS;by_cases hlt:i<nt
  ·
   obtain ⟨bt,ot,x,rfl,hbt,hx,c0,-,-,-,-,-⟩:=(HM.out.at_.below Ly.out.1).tast hlt;have HIV:=lh ((HIL.out.below Ly.out.1).more Ly.out.1.size);have HXO:Hid ((m.tastes.map (·.num))[i]? =some x.num):=lh (by rw [List.getElem?_map,hx];rfl);have HBT:Hid (bt<V.heap.size):=lh (Nat.lt_of_lt_of_le hbt Ly.out.1.size);have HC0:=lh c0
   obtain ⟨v,hv⟩:∃ v,x.num=v:=⟨_,rfl⟩
   rw [hv] at HXO HC0;clear hx c0 hbt hv;have hlt2:=hlt;obtain ⟨x0_0,x0_1,x0_2,x0_3⟩:=lyc4 Ly 0 rfl;have l0_:=Ly.out.lt 0 rfl;gi_upto_region 6 with fail
   clear x0_0 x0_1 x0_2 x0_3 l0_;have HLV:=lh Ly.out;refine Tr.wpIn_region_tree (G:=UpB V.heap.size) (V0:=V) [([],[true,false,true,false,true,true,true,true,true,true,false,false,true,true,true,true],[1,10]),([1],[],[3,10]),([10],[],[1]),([1,3],[],[10]),([1,10],[],[3]),([1,3,10],[],[11]),([1,3,10,11],[],[16]),([1,3,10,11,16],[false,false,false,false,false,false,false,false,false,false,false,false,false,false,false,false,false,true,true,true,true,true],[])] 6 [] (by kernel_rfl) (by kernel_rfl) (by kernel_rfl) (av b_R 1) ?_;refine Tr.wpTree_two (A:=?AW1) rfl rfl rfl ?hw1 ?_ ?_
   case hw1 =>
    rintro σ hσ of hof hcl;have HOF:=lh hof;clear hof hcl;have hub:∀ z,Below V.heap.size V (of z):=fun z=>(HOF.out z).2 n_R;have q0:∀ z,(of z).cell? ⟨w.heap.size,0,none⟩=some (.int .i64 m.fountains):=fun z=>((HLV.out.blk 0 rfl).below (hub z) (HLV.out.blk 0 rfl).lt).cell 0;have q1:∀ z,(of z).cell? ⟨w.heap.size,1,none⟩=some (.slice Av nv cv):=fun z=>((HLV.out.blk 0 rfl).below (hub z) (HLV.out.blk 0 rfl).lt).cell 1;have q2:∀ z,(of z).cell? ⟨w.heap.size,2,none⟩=some (.slice Aa na ca):=fun z=>((HLV.out.blk 0 rfl).below (hub z) (HLV.out.blk 0 rfl).lt).cell 2;have q3:∀ z,(of z).cell? ⟨w.heap.size,3,none⟩=some (.slice (some ⟨bt,ot,none⟩) nt ct):=fun z=>((HLV.out.blk 0 rfl).below (hub z) (HLV.out.blk 0 rfl).lt).cell 3;have qo:∀ z,(of z).cell? ⟨bt,ot+i * 6,none⟩=some (.int .i64 v):=fun z=>((hub z).cell (p:=⟨bt,ot+i * 6,none⟩) HBT.out).trans HC0.out;clear hub;have hfw:=hfT;simp only [bu]
    repeat (gi_big_quiet_step (fail))
    refine wpQuietIn_nil ?_;exact rfl
   ·
    intro X21 hW;have HBm:=lh (hW);clear hW;have hb:Below X21.heap.size X21 (X21.alloc (.cells #[] 3)):=(Below.refl X21.heap.size X21).alloc n_R (.cells #[] 3);have HO:Hid (Own (X21.alloc (.cells #[] 3)) V.heap.size 3 1 (some ⟨X21.heap.size,0,none⟩) 0 0 []):=lh (Own.mk_ HBm.out.size (Blk.new X21 _ _) n_R (Nat.zero_le _) rfl rfl (fun k hk=>by omega));have HU:Hid (UpB V.heap.size X21 (X21.alloc (.cells #[] 3))):=lh (UpB.of_below' hb);gi_wp2
    first | refine ⟨trivial,HU.out,?_⟩ | refine ⟨rfl,HU.out,?_⟩ | refine ⟨HU.out,?_⟩
    have HBn:=lh (HBm.out.trans (hb.mono HBm.out.size));have HBs:=lh hb;clear HU hb
    obtain ⟨P9,hP⟩:∃ P,X21.heap.size=P:=⟨_,rfl⟩
    rw [hP] at HO ⊢;generalize (X21.alloc (.cells #[] 3))=Y22 at *;clear hP;clear HBm HBs;refine Tr.wpTree_two (m:=[]) rfl rfl rfl Gr.Quietly.none ?_ ?_
    ·
     intro X23 hW;have HBm:=lh (HBn.out.trans (hW.mono HBn.out.size));replace HO:=lh (HO.out.below hW n_R);clear hW;clear HBn;have HI:=lh ((HIV.out.below HBm.out).more HBm.out.size)
     gi_wp2_with (first | (gi_at_builtin;refine db rfl _ _ rfl dP rfl HO.out rfl HI.out (dO l) (by unfold maxLen;omega) (by omega) HBm.out.size ?_) | fail)
     intro A9 c9 Y24 hown hbb hA;replace HO:=lh (show Own Y24 V.heap.size 3 1 A9 n c9 (l.map (Value.int .i64)) from hown);have HU:Hid (UpB V.heap.size X23 Y24):=lh (UpB.of_below' hbb);have HBs:=lh hbb;have HBn:=lh (HBm.out.trans (hbb.mono HBm.out.size));clear hown hbb hA HI;gi_wp2
     first | refine ⟨trivial,HU.out,?_⟩ | refine ⟨rfl,HU.out,?_⟩ | refine ⟨HU.out,?_⟩
     clear HU;clear HBm HBs;refine Tr.wpTree_one (m:=[]) rfl rfl Gr.Quietly.none ?_;intro X25 hW;have HBm:=lh (HBn.out.trans (hW.mono HBn.out.size));replace HO:=lh (HO.out.below hW n_R);clear hW;clear HBn;gi_wp2;have hb:Below X25.heap.size X25 (X25.alloc (.cells #[.int .i64 v] 3)):=b_R.alloc n_R _
     first | refine ⟨trivial,UpB.of_below' hb,?_⟩ | refine ⟨rfl,UpB.of_below' hb,?_⟩ | refine ⟨UpB.of_below' hb,?_⟩
     have HSL:=lh (show cr (X25.alloc (.cells #[.int .i64 v] 3)) (X25.alloc (.cells #[.int .i64 v] 3)).heap.size (some ⟨X25.heap.size,0,none⟩) 1 [v] from cr.new X25 3 [v] _ (by simp));have HBs:=lh hb;have HBn:=lh (HBm.out.trans (hb.mono HBm.out.size));clear hb;generalize (X25.alloc (.cells #[.int .i64 v] 3))=Y26 at *
     obtain ⟨gb,hgb⟩:∃ g,X25.heap.size=g:=⟨_,rfl⟩
     rw [hgb] at HSL ⊢;clear hgb;replace HO:=lh (HO.out.below HBs.out n_R);clear HBm HBs;refine Tr.wpTree_one (m:=[]) rfl rfl Gr.Quietly.none ?_;intro X27 hW;have HBm:=lh (HBn.out.trans (hW.mono HBn.out.size));replace HO:=lh (HO.out.below hW n_R);replace HSL:=lh ((HSL.out.below hW).more hW.size);clear hW;clear HBn
     gi_wp2_with (first | (gi_at_builtin;refine cG rfl _ _ rfl dP rfl HO.out rfl HSL.out (dO [v]) (by unfold maxLen;omega) (by omega) (HBm.out.size) ?_) | fail)
     intro A10 c10 W9 hown hg hA;have HO10:=lh (show Own W9 V.heap.size 3 1 A10 (n+1) c10 ((l++[v]).map (Value.int .i64)) from by rw [List.map_append];exact hown);have HU:Hid (UpB V.heap.size X27 W9):=lh ⟨hg.size,fun hB=>b_R.grown hg hB (fun k e=>(dB HO.out k e).1)⟩;have HB9:=lh (show Below V.heap.size V W9 from HBm.out.grown hg HBm.out.size (fun k e=>(dB HO.out k e).1));clear hown hg hA HBm HO HSL;gi_wp2
     first | refine ⟨trivial,HU.out,?_⟩ | refine ⟨rfl,HU.out,?_⟩ | refine ⟨HU.out,?_⟩
     clear HU;refine Tr.wpTree_one (m:=[]) rfl rfl Gr.Quietly.none ?_;intro W10 hW;have HO11:=lh (HO10.out.below hW n_R);have HB10:=lh (HB9.out.trans (hW.mono HB9.out.size));clear hW HO10 HB9;gi_wp2;refine ⟨trivial,(c_W (HIH.out (i+1) (l++[v]) A10 (n+1) c10 W10 (HM.out.up (HLV.out.below HB10.out).1) (dM HO11.out n_R) (by omega) (by omega))).mono ?_⟩;rintro e W11 ⟨A12,n12,c12,b,r,rfl,hb,hin12,hfi⟩;have HI12:=lh hin12;have HFI:=lh hfi;have HB11:=lh (HB10.out.trans (hb.mono HB10.out.size));have HU:Hid (UpB V.heap.size W10 W11):=lh (UpB.of_below' hb);clear hin12 hfi hb HB10 HO11;gi_wp2
     first | refine ⟨trivial,HU.out,?_⟩ | refine ⟨rfl,HU.out,?_⟩ | refine ⟨HU.out,?_⟩
     clear HU;refine Tr.wpTree_end (A:=?AW2) rfl ?hw2 ?_
     case hw2 =>
      rintro σ hσ of hof hcl;have HOF:=lh hof;clear hof hcl;have hnt_:=hnt;have hfw:=hfT;simp only [bu]
      repeat (gi_big_quiet_step (fail))
      refine wpQuietIn_nil ?_;exact rfl
     intro W12 hW;have HB12:=lh (HB11.out.trans (hW.mono HB11.out.size));have HLW:=lh (HLV.out.below HB12.out);replace HI12:=lh (show b=true→cr W12 W12.heap.size A12 n12 r∧n12≤3 from fun h=>⟨((HI12.out h).1.below hW).more hW.size,(HI12.out h).2⟩);clear hW HB11;simp only [bu];refine cA ?_;have HCS:=lh (fp (l:=l) (n:=more) HXO.out)
     cases b with
     | true =>
      gi_wp2;exact bodyPost_ret (v:=.tuple #[.slice A12 n12 c12,.bool true]) (by simp [results,Tryz.results61,go_sem]) rfl ⟨A12,n12,c12,true,r,rfl,HLW.out.1,fun _=>HI12.out (by first | rfl | trivial),HCF.out _ _ (by rw [HCS.out];exact fT HFI.out)⟩
     | false =>
      gi_wp2;refine ⟨⟨i+1,lh ⟨hlt2,fun b9 r9 h9=>HCF.out b9 r9 (by rw [HCS.out];exact fj HFI.out h9),HLW.out⟩,by rw [show ((i+1:Nat):Int)=(i:Int)+1 from by omega];constructor⟩,?_⟩;simp [intOf]<;>omega
    ·
     intro X28 hW;have HBm:=lh (HBn.out.trans (hW.mono HBn.out.size));replace HO:=lh (HO.out.below hW n_R);clear hW;clear HBn;gi_wp2;have hb:Below X28.heap.size X28 (X28.alloc (.cells #[.int .i64 v] 3)):=b_R.alloc n_R _
     first | refine ⟨trivial,UpB.of_below' hb,?_⟩ | refine ⟨rfl,UpB.of_below' hb,?_⟩ | refine ⟨UpB.of_below' hb,?_⟩
     have HSL:=lh (show cr (X28.alloc (.cells #[.int .i64 v] 3)) (X28.alloc (.cells #[.int .i64 v] 3)).heap.size (some ⟨X28.heap.size,0,none⟩) 1 [v] from cr.new X28 3 [v] _ (by simp));have HBs:=lh hb;have HBn:=lh (HBm.out.trans (hb.mono HBm.out.size));clear hb;generalize (X28.alloc (.cells #[.int .i64 v] 3))=Y29 at *
     obtain ⟨gb,hgb⟩:∃ g,X28.heap.size=g:=⟨_,rfl⟩
     rw [hgb] at HSL ⊢;clear hgb;replace HO:=lh (HO.out.below HBs.out n_R);clear HBm HBs;refine Tr.wpTree_one (m:=[]) rfl rfl Gr.Quietly.none ?_;intro X30 hW;have HBm:=lh (HBn.out.trans (hW.mono HBn.out.size));replace HO:=lh (HO.out.below hW n_R);replace HSL:=lh ((HSL.out.below hW).more hW.size);clear hW;clear HBn;have HI:=lh ((HIV.out.below HBm.out).more HBm.out.size)
     gi_wp2_with (first | (gi_at_builtin;refine db rfl _ _ rfl dP rfl HO.out rfl HI.out (dO l) (by unfold maxLen;omega) (by omega) HBm.out.size ?_) | fail)
     intro A9 c9 Y31 hown hbb hA;replace HO:=lh (show Own Y31 V.heap.size 3 1 A9 n c9 (l.map (Value.int .i64)) from hown);have HU:Hid (UpB V.heap.size X30 Y31):=lh (UpB.of_below' hbb);have HBs:=lh hbb;have HBn:=lh (HBm.out.trans (hbb.mono HBm.out.size));clear hown hbb hA HI;gi_wp2
     first | refine ⟨trivial,HU.out,?_⟩ | refine ⟨rfl,HU.out,?_⟩ | refine ⟨HU.out,?_⟩
     clear HU;replace HSL:=lh ((HSL.out.below HBs.out).more HBs.out.size);clear HBm HBs;refine Tr.wpTree_one (m:=[]) rfl rfl Gr.Quietly.none ?_;intro X32 hW;have HBm:=lh (HBn.out.trans (hW.mono HBn.out.size));replace HO:=lh (HO.out.below hW n_R);replace HSL:=lh ((HSL.out.below hW).more hW.size);clear hW;clear HBn
     gi_wp2_with (first | (gi_at_builtin;refine cG rfl _ _ rfl dP rfl HO.out rfl HSL.out (dO [v]) (by unfold maxLen;omega) (by omega) (HBm.out.size) ?_) | fail)
     intro A10 c10 W9 hown hg hA;have HO10:=lh (show Own W9 V.heap.size 3 1 A10 (n+1) c10 ((l++[v]).map (Value.int .i64)) from by rw [List.map_append];exact hown);have HU:Hid (UpB V.heap.size X32 W9):=lh ⟨hg.size,fun hB=>b_R.grown hg hB (fun k e=>(dB HO.out k e).1)⟩;have HB9:=lh (show Below V.heap.size V W9 from HBm.out.grown hg HBm.out.size (fun k e=>(dB HO.out k e).1));clear hown hg hA HBm HO HSL;gi_wp2
     first | refine ⟨trivial,HU.out,?_⟩ | refine ⟨rfl,HU.out,?_⟩ | refine ⟨HU.out,?_⟩
     clear HU;refine Tr.wpTree_one (m:=[]) rfl rfl Gr.Quietly.none ?_;intro W10 hW;have HO11:=lh (HO10.out.below hW n_R);have HB10:=lh (HB9.out.trans (hW.mono HB9.out.size));clear hW HO10 HB9;gi_wp2;refine ⟨trivial,(c_W (HIH.out (i+1) (l++[v]) A10 (n+1) c10 W10 (HM.out.up (HLV.out.below HB10.out).1) (dM HO11.out n_R) (by omega) (by omega))).mono ?_⟩;rintro e W11 ⟨A12,n12,c12,b,r,rfl,hb,hin12,hfi⟩;have HI12:=lh hin12;have HFI:=lh hfi;have HB11:=lh (HB10.out.trans (hb.mono HB10.out.size));have HU:Hid (UpB V.heap.size W10 W11):=lh (UpB.of_below' hb);clear hin12 hfi hb HB10 HO11;gi_wp2
     first | refine ⟨trivial,HU.out,?_⟩ | refine ⟨rfl,HU.out,?_⟩ | refine ⟨HU.out,?_⟩
     clear HU;refine Tr.wpTree_end (A:=?AW3) rfl ?hw3 ?_
     case hw3 =>
      rintro σ hσ of hof hcl;have HOF:=lh hof;clear hof hcl;have hnt_:=hnt;have hfw:=hfT;simp only [bu]
      repeat (gi_big_quiet_step (fail))
      refine wpQuietIn_nil ?_;exact rfl
     intro W12 hW;have HB12:=lh (HB11.out.trans (hW.mono HB11.out.size));have HLW:=lh (HLV.out.below HB12.out);replace HI12:=lh (show b=true→cr W12 W12.heap.size A12 n12 r∧n12≤3 from fun h=>⟨((HI12.out h).1.below hW).more hW.size,(HI12.out h).2⟩);clear hW HB11;simp only [bu];refine cA ?_;have HCS:=lh (fp (l:=l) (n:=more) HXO.out)
     cases b with
     | true =>
      gi_wp2;exact bodyPost_ret (v:=.tuple #[.slice A12 n12 c12,.bool true]) (by simp [results,Tryz.results61,go_sem]) rfl ⟨A12,n12,c12,true,r,rfl,HLW.out.1,fun _=>HI12.out (by first | rfl | trivial),HCF.out _ _ (by rw [HCS.out];exact fT HFI.out)⟩
     | false =>
      gi_wp2;refine ⟨⟨i+1,lh ⟨hlt2,fun b9 r9 h9=>HCF.out b9 r9 (by rw [HCS.out];exact fj HFI.out h9),HLW.out⟩,by rw [show ((i+1:Nat):Int)=(i:Int)+1 from by omega];constructor⟩,?_⟩;simp [intOf]<;>omega
   ·
    intro X33 hW;have HBm:=lh (hW);clear hW;gi_wp2;have hb:Below X33.heap.size X33 (X33.alloc (.cells #[.int .i64 v] 3)):=b_R.alloc n_R _
    first | refine ⟨trivial,UpB.of_below' hb,?_⟩ | refine ⟨rfl,UpB.of_below' hb,?_⟩ | refine ⟨UpB.of_below' hb,?_⟩
    have HSL:=lh (show cr (X33.alloc (.cells #[.int .i64 v] 3)) (X33.alloc (.cells #[.int .i64 v] 3)).heap.size (some ⟨X33.heap.size,0,none⟩) 1 [v] from cr.new X33 3 [v] _ (by simp));have HBs:=lh hb;have HBn:=lh (HBm.out.trans (hb.mono HBm.out.size));clear hb;generalize (X33.alloc (.cells #[.int .i64 v] 3))=Y34 at *
    obtain ⟨gb,hgb⟩:∃ g,X33.heap.size=g:=⟨_,rfl⟩
    rw [hgb] at HSL ⊢;clear hgb;clear HBm HBs;refine Tr.wpTree_one (m:=[]) rfl rfl Gr.Quietly.none ?_;intro X35 hW;have HBm:=lh (HBn.out.trans (hW.mono HBn.out.size));replace HSL:=lh ((HSL.out.below hW).more hW.size);clear hW;clear HBn;have hb:Below X35.heap.size X35 (X35.alloc (.cells #[] 3)):=(Below.refl X35.heap.size X35).alloc n_R (.cells #[] 3);have HO:Hid (Own (X35.alloc (.cells #[] 3)) V.heap.size 3 1 (some ⟨X35.heap.size,0,none⟩) 0 0 []):=lh (Own.mk_ HBm.out.size (Blk.new X35 _ _) n_R (Nat.zero_le _) rfl rfl (fun k hk=>by omega));have HU:Hid (UpB V.heap.size X35 (X35.alloc (.cells #[] 3))):=lh (UpB.of_below' hb);gi_wp2
    first | refine ⟨trivial,HU.out,?_⟩ | refine ⟨rfl,HU.out,?_⟩ | refine ⟨HU.out,?_⟩
    have HBn:=lh (HBm.out.trans (hb.mono HBm.out.size));have HBs:=lh hb;clear HU hb
    obtain ⟨P9,hP⟩:∃ P,X35.heap.size=P:=⟨_,rfl⟩
    rw [hP] at HO ⊢;generalize (X35.alloc (.cells #[] 3))=Y36 at *;clear hP;replace HSL:=lh ((HSL.out.below HBs.out).more HBs.out.size);clear HBm HBs;refine Tr.wpTree_one (m:=[]) rfl rfl Gr.Quietly.none ?_;intro X37 hW;have HBm:=lh (HBn.out.trans (hW.mono HBn.out.size));replace HO:=lh (HO.out.below hW n_R);replace HSL:=lh ((HSL.out.below hW).more hW.size);clear hW;clear HBn;have HI:=lh ((HIV.out.below HBm.out).more HBm.out.size)
    gi_wp2_with (first | (gi_at_builtin;refine db rfl _ _ rfl dP rfl HO.out rfl HI.out (dO l) (by unfold maxLen;omega) (by omega) HBm.out.size ?_) | fail)
    intro A9 c9 Y38 hown hbb hA;replace HO:=lh (show Own Y38 V.heap.size 3 1 A9 n c9 (l.map (Value.int .i64)) from hown);have HU:Hid (UpB V.heap.size X37 Y38):=lh (UpB.of_below' hbb);have HBs:=lh hbb;have HBn:=lh (HBm.out.trans (hbb.mono HBm.out.size));clear hown hbb hA HI;gi_wp2
    first | refine ⟨trivial,HU.out,?_⟩ | refine ⟨rfl,HU.out,?_⟩ | refine ⟨HU.out,?_⟩
    clear HU;replace HSL:=lh ((HSL.out.below HBs.out).more HBs.out.size);clear HBm HBs;refine Tr.wpTree_one (m:=[]) rfl rfl Gr.Quietly.none ?_;intro X39 hW;have HBm:=lh (HBn.out.trans (hW.mono HBn.out.size));replace HO:=lh (HO.out.below hW n_R);replace HSL:=lh ((HSL.out.below hW).more hW.size);clear hW;clear HBn
    gi_wp2_with (first | (gi_at_builtin;refine cG rfl _ _ rfl dP rfl HO.out rfl HSL.out (dO [v]) (by unfold maxLen;omega) (by omega) (HBm.out.size) ?_) | fail)
    intro A10 c10 W9 hown hg hA;have HO10:=lh (show Own W9 V.heap.size 3 1 A10 (n+1) c10 ((l++[v]).map (Value.int .i64)) from by rw [List.map_append];exact hown);have HU:Hid (UpB V.heap.size X39 W9):=lh ⟨hg.size,fun hB=>b_R.grown hg hB (fun k e=>(dB HO.out k e).1)⟩;have HB9:=lh (show Below V.heap.size V W9 from HBm.out.grown hg HBm.out.size (fun k e=>(dB HO.out k e).1));clear hown hg hA HBm HO HSL;gi_wp2
    first | refine ⟨trivial,HU.out,?_⟩ | refine ⟨rfl,HU.out,?_⟩ | refine ⟨HU.out,?_⟩
    clear HU;refine Tr.wpTree_one (m:=[]) rfl rfl Gr.Quietly.none ?_;intro W10 hW;have HO11:=lh (HO10.out.below hW n_R);have HB10:=lh (HB9.out.trans (hW.mono HB9.out.size));clear hW HO10 HB9;gi_wp2;refine ⟨trivial,(c_W (HIH.out (i+1) (l++[v]) A10 (n+1) c10 W10 (HM.out.up (HLV.out.below HB10.out).1) (dM HO11.out n_R) (by omega) (by omega))).mono ?_⟩;rintro e W11 ⟨A12,n12,c12,b,r,rfl,hb,hin12,hfi⟩;have HI12:=lh hin12;have HFI:=lh hfi;have HB11:=lh (HB10.out.trans (hb.mono HB10.out.size));have HU:Hid (UpB V.heap.size W10 W11):=lh (UpB.of_below' hb);clear hin12 hfi hb HB10 HO11;gi_wp2
    first | refine ⟨trivial,HU.out,?_⟩ | refine ⟨rfl,HU.out,?_⟩ | refine ⟨HU.out,?_⟩
    clear HU;refine Tr.wpTree_end (A:=?AW4) rfl ?hw4 ?_
    case hw4 =>
     rintro σ hσ of hof hcl;have HOF:=lh hof;clear hof hcl;have hnt_:=hnt;have hfw:=hfT;simp only [bu]
     repeat (gi_big_quiet_step (fail))
     refine wpQuietIn_nil ?_;exact rfl
    intro W12 hW;have HB12:=lh (HB11.out.trans (hW.mono HB11.out.size));have HLW:=lh (HLV.out.below HB12.out);replace HI12:=lh (show b=true→cr W12 W12.heap.size A12 n12 r∧n12≤3 from fun h=>⟨((HI12.out h).1.below hW).more hW.size,(HI12.out h).2⟩);clear hW HB11;simp only [bu];refine cA ?_;have HCS:=lh (fp (l:=l) (n:=more) HXO.out)
    cases b with
    | true =>
     gi_wp2;exact bodyPost_ret (v:=.tuple #[.slice A12 n12 c12,.bool true]) (by simp [results,Tryz.results61,go_sem]) rfl ⟨A12,n12,c12,true,r,rfl,HLW.out.1,fun _=>HI12.out (by first | rfl | trivial),HCF.out _ _ (by rw [HCS.out];exact fT HFI.out)⟩
    | false =>
     gi_wp2;refine ⟨⟨i+1,lh ⟨hlt2,fun b9 r9 h9=>HCF.out b9 r9 (by rw [HCS.out];exact fj HFI.out h9),HLW.out⟩,by rw [show ((i+1:Nat):Int)=(i:Int)+1 from by omega];constructor⟩,?_⟩;simp [intOf]<;>omega
  ·
   obtain rfl:nt=i:=by omega
   have hol:=HLT.out;obtain ⟨x0_0,x0_1,x0_2,x0_3⟩:=lyc4 Ly 0 rfl;have l0_:=Ly.out.lt 0 rfl;gi_wp2;clear x0_0 x0_1 x0_2 x0_3 l0_;refine bodyPost_ret (v:=.tuple #[.slice none 0 0,.bool false]) (by simp [results,Tryz.results61,go_sem]) rfl ⟨none,0,0,false,[],rfl,Ly.out.1,(fun h=>by cases h),HCF.out _ _ ?_⟩;rw [lC (by rw [List.length_map];omega)];exact ny
theorem qC (Av:Option Addr)(nv cv:Nat)(Aa:Option Addr)(na ca:Nat)(At:Option Addr)(nt ct:Nat)(m:Mix)(w:World)(h:MixS w Av nv Aa na At nt m) :
  CallsIn Fence.wide 9 Tryz.prog 19 #[.agg #[.int .i64 m.fountains,.slice Av nv cv,.slice Aa na ca,.slice At nt ct]] w (qu w m):=by
 have HM:=lh h;clear h;refine callsIn_of_wp Tryz.func19 rfl trivial ?_ rfl;simp only [Tryz.ntmps19,es,Nat.reduceAdd,Nat.reduceSub];gi_upto_region 1 with fail
 have Ly:=lh (Lay.one w 26 #[.int .i64 m.fountains,.slice Av nv cv,.slice Aa na ca,.slice At nt ct]);generalize (w.alloc (.cells #[.int .i64 m.fountains,.slice Av nv cv,.slice Aa na ca,.slice At nt ct] 26))=w0 at *;obtain ⟨x0_0,x0_1,x0_2,x0_3⟩:=lyc4 Ly 0 rfl;have l0_:=Ly.out.lt 0 rfl;gi_wp2;clear x0_0 x0_1 x0_2 x0_3 l0_;refine ⟨trivial,(callsIn_wide.2 (gM Av nv cv Aa na ca At nt ct m w0 (HM.out.up Ly.out.1))).mono ?_⟩;rintro e W1 ⟨rfl,hb⟩;replace Ly:=lyb Ly hb;clear hb
 cases hok:cu m with
 | false =>
  have HOK:=lh hok;clear hok;gi_wp2;exact bodyPost_ret (v:=.tuple #[.slice none 0 0,.int .i64 40]) (by simp [results,Tryz.results19,go_sem]) rfl ⟨[],none,0,0,40,rfl,oV HOK.out,cB.none_,by omega,Ly.out.1⟩
 | true =>
  obtain ⟨L,hL⟩:=jv hok;have HOK:=lh hok;have HLL:=lh hL;clear hok hL;gi_wp2;refine wpIn_loop (fun a W=>∃ (k:Nat),Hid (k≤4∧rR m L k∧Lay w W [(w.heap.size,26,#[.int .i64 m.fountains,.slice Av nv cv,.slice Aa na ca,.slice At nt ct])])∧FrJw (.pointer (some ⟨w.heap.size,0,none⟩)) (.int .i64 (k:Int)) a) (fun a _=>4 - (intOf (a.tmps.getD 4 undef)).toNat) ?_ ?_
  ·exact ⟨0,lh ⟨by omega,fun k hk=>absurd hk (Nat.not_lt_zero _),Ly.out⟩,by constructor⟩
  clear Ly;rintro a W ⟨k,HS,ha⟩;cases ha;have Ly:=lh HS.out.2.2;have HMK:=lh HS.out.2.1;have hk4:=HS.out.1;clear HS;by_cases hlt:k≤3
  ·
   obtain ⟨x0_0,x0_1,x0_2,x0_3⟩:=lyc4 Ly 0 rfl;have l0_:=Ly.out.lt 0 rfl;gi_wp2;clear x0_0 x0_1 x0_2 x0_3 l0_;refine ⟨trivial,(c_W (oL Av nv cv Aa na ca At nt ct m L HOK.out HLL.out k 0 [] none 0 0 W (HM.out.up Ly.out.1) cB.none_ (by omega) (Nat.zero_le _))).mono ?_⟩;rintro e W2 ⟨A9,n9,c9,b,r,rfl,hb,hi9,hfi⟩;replace Ly:=lyb Ly hb;clear hb;have HI9:=lh hi9;have HFI:=lh hfi;clear hi9 hfi
   cases b with
   | true =>
    have HWI:Hid (eS m r 0):=lh (pc HOK.out HLL.out hlt (by have h:=HFI.out;rwa [jp] at h) HMK.out);have HI8:=lh (HI9.out rfl);gi_wp2;exact bodyPost_ret (v:=.tuple #[.slice A9 n9 c9,.int .i64 0]) (by simp [results,Tryz.results19,go_sem]) rfl ⟨r,A9,n9,c9,0,rfl,HWI.out,HI8.out.1,HI8.out.2,Ly.out.1⟩
   | false =>
    have HMN:=lh (qG HMK.out HFI.out);gi_wp2;refine ⟨⟨k+1,lh ⟨by omega,HMN.out,Ly.out⟩,by rw [show ((k+1:Nat):Int)=(k:Int)+1 from by omega];constructor⟩,?_⟩;simp [intOf]<;>omega
  ·
   obtain rfl:k=4:=by omega
   gi_wp2;exact bodyPost_ret (v:=.tuple #[.slice none 0 0,.int .i64 4]) (by simp [results,Tryz.results19,go_sem]) rfl ⟨[],none,0,0,4,rfl,nC HOK.out HLL.out HMK.out,cB.none_,by omega,Ly.out.1⟩
end
section
open Go.RowKit Go.Shelf
attribute [local go_sem] Oper.semAt_some
theorem oW (l:List Int):iq l l=true:=by unfold iq;simp
theorem oG (Av:Option Addr)(nv cv:Nat)(Aa:Option Addr)(na ca:Nat)(At:Option Addr)(nt ct:Nat)(m:Mix)(a b n f:Int)(w:World)(h:dx w w.heap.size Av nv Aa na At nt m) :
  CallsIn Fence.wide 9 Tryz.prog 3 #[.agg #[.int .i64 m.fountains,.slice Av nv cv,.slice Aa na ca,.slice At nt ct],.int .i64 a,.int .i64 b,.int .i64 n,.int .i64 f] w (tJ w):=by
 refine callsIn_of_wp Tryz.func3 rfl trivial ?_ rfl;simp only [Tryz.ntmps3,es,Nat.reduceAdd,Nat.reduceSub];gi_upto_region 1 with fail
 have Ly:=lh (Lay.one w 26 #[.int .i64 m.fountains,.slice Av nv cv,.slice Aa na ca,.slice At nt ct]);generalize (w.alloc (.cells #[.int .i64 m.fountains,.slice Av nv cv,.slice Aa na ca,.slice At nt ct] 26))=w0 at *;obtain ⟨x0_0,x0_1,x0_2,x0_3⟩:=lyc4 Ly 0 rfl;have l0_:=Ly.out.lt 0 rfl;gi_wp2;clear x0_0 x0_1 x0_2 x0_3 l0_;refine ⟨trivial,(callsIn_wide.2 (pR m.fountains Av nv cv Aa na ca At nt ct w0)).mono ?_⟩;rintro e W1 ⟨rfl,hb⟩;replace Ly:=lyb Ly hb;clear hb
 cases hg:eW nv na nt with
 | true =>
  gi_wp2;refine bodyPost_ret (v:=.bool true) (by simp [results,Tryz.results3,go_sem]) rfl ?_;exact ⟨rfl,Ly.out.1⟩
 | false =>
  have hsm:=mt hg
  have hsx:MixS w Av nv Aa na At nt m:=⟨h,by omega,by omega,by omega⟩
  have HM:=lh hsx;have HSM:=lh hsm;clear hg h hsx hsm;obtain ⟨x0_0,x0_1,x0_2,x0_3⟩:=lyc4 Ly 0 rfl;have l0_:=Ly.out.lt 0 rfl;gi_wp2;clear x0_0 x0_1 x0_2 x0_3 l0_;refine ⟨trivial,(c_W (mM Av nv cv Aa na ca At nt ct m W1 (HM.out.up Ly.out.1))).mono ?_⟩;rintro e W2 ⟨A1,c1,A2,c2,A3,c3,rfl,hmo,hb⟩;replace Ly:=lyb Ly hb;clear hb;have HTW:=lh hmo;clear hmo;gi_upto_region 4 with fail
  obtain ⟨V3,hV⟩:∃ V,(W2.alloc (.cells #[.int .i64 m.fountains,.slice A1 nv c1,.slice A2 na c2,.slice A3 nt c3] 26))=V:=⟨_,rfl⟩
  rw [hV];have hb:=de hV;have hnew:=dc hV;have hge:=Ly.out.bel.size;replace Ly:=lyb Ly hb;replace HTW:=lh (HTW.out.below hb);replace Ly:=lh (Ly.out.add hge hnew);clear hnew hge hb hV
  obtain ⟨G4,hG⟩:∃ g,W2.heap.size=g:=⟨_,rfl⟩
  rw [hG] at Ly ⊢;clear hG;obtain ⟨x1_0,x1_1,x1_2,x1_3⟩:=lyc4 Ly 1 rfl;have l1_:=Ly.out.lt 1 rfl;gi_wp2;clear x1_0 x1_1 x1_2 x1_3 l1_;refine ⟨trivial,(c_W (sv A1 nv c1 A2 na c2 A3 nt c3 m a b n f V3 (HTW.out.s (by have:=HSM.out;omega) (by have:=HSM.out;omega) (by have:=HSM.out;omega)))).mono ?_⟩;rintro e W5 ⟨k1,e1,rfl,hma,hb⟩;replace Ly:=lyb Ly hb;replace HTW:=lh (HTW.out.below hb);clear hb;have HMA:=lh hma;clear hma;obtain ⟨x0_0,x0_1,x0_2,x0_3⟩:=lyc4 Ly 0 rfl;have l0_:=Ly.out.lt 0 rfl;gi_wp2;clear x0_0 x0_1 x0_2 x0_3 l0_;refine ⟨trivial,(c_W (rS Av nv cv Aa na ca At nt ct m a b n f W5 (HM.out.up Ly.out.1))).mono ?_⟩;rintro e W6 ⟨k2,e2,rfl,hma,hb⟩;replace Ly:=lyb Ly hb;replace HTW:=lh (HTW.out.below hb);clear hb;obtain ⟨rfl,rfl⟩:=km.same HMA.out hma;clear hma HMA;obtain ⟨x1_0,x1_1,x1_2,x1_3⟩:=lyc4 Ly 1 rfl;have l1_:=Ly.out.lt 1 rfl;gi_wp2;clear x1_0 x1_1 x1_2 x1_3 l1_;refine ⟨trivial,(c_W (qx A1 nv c1 A2 na c2 A3 nt c3 m W6 (HTW.out.s (by have:=HSM.out;omega) (by have:=HSM.out;omega) (by have:=HSM.out;omega)))).mono ?_⟩;rintro e W7 ⟨l,lA,ln,lc,g1,rfl,hma,hil,hln,hb,-⟩;replace Ly:=lyb Ly hb;replace HTW:=lh (HTW.out.below hb);clear hb;have HMA:=lh hma;have HIL:=lh hil;have HLN:=lh hln;clear hma hil hln;obtain ⟨x0_0,x0_1,x0_2,x0_3⟩:=lyc4 Ly 0 rfl;have l0_:=Ly.out.lt 0 rfl;gi_wp2;clear x0_0 x0_1 x0_2 x0_3 l0_;refine ⟨trivial,(c_W (qC Av nv cv Aa na ca At nt ct m W7 (HM.out.up Ly.out.1))).mono ?_⟩;rintro e W8 ⟨l2,kA,kn,kc,g2,rfl,hma,hil,hln,hb⟩;replace Ly:=lyb Ly hb;replace HTW:=lh (HTW.out.below hb);replace HIL:=lh ((HIL.out.below hb).more hb.size);clear hb;obtain ⟨e9,rfl⟩:=eS.same HMA.out hma;subst e9;have HIK:=lh hil;have HKN:=lh hln;clear hma hil hln HMA;obtain ⟨x0_0,x0_1,x0_2,x0_3⟩:=lyc4 Ly 0 rfl;have l0_:=Ly.out.lt 0 rfl;obtain ⟨x1_0,x1_1,x1_2,x1_3⟩:=lyc4 Ly 1 rfl;have l1_:=Ly.out.lt 1 rfl;gi_wp2;clear x0_0 x0_1 x0_2 x0_3 l0_ x1_0 x1_1 x1_2 x1_3 l1_;refine ⟨trivial,(callsIn_wide.2 (mr lA ln lc l kA kn kc l W8 (by have:=HLN.out;unfold maxLen;omega) (by have:=HKN.out;unfold maxLen;omega) HIL.out HIK.out)).mono ?_⟩;rintro e W9 ⟨rfl,hb⟩;replace Ly:=lyb Ly hb;replace HTW:=lh (HTW.out.below hb);replace HIL:=lh ((HIL.out.below hb).more hb.size);replace HIK:=lh ((HIK.out.below hb).more hb.size);clear hb;rw [oW];obtain ⟨x0_0,x0_1,x0_2,x0_3⟩:=lyc4 Ly 0 rfl;have l0_:=Ly.out.lt 0 rfl;obtain ⟨x1_0,x1_1,x1_2,x1_3⟩:=lyc4 Ly 1 rfl;have l1_:=Ly.out.lt 1 rfl;gi_wp2;clear x0_0 x0_1 x0_2 x0_3 l0_ x1_0 x1_1 x1_2 x1_3 l1_;refine ⟨trivial,(callsIn_wide.2 (qc A1 nv c1 A2 na c2 A3 nt c3 Av cv Aa ca At ct m W9 (HTW.out.s (by have:=HSM.out;omega) (by have:=HSM.out;omega) (by have:=HSM.out;omega)) (HM.out.up Ly.out.1))).mono ?_⟩;rintro e W10 ⟨rfl,hb⟩;replace Ly:=lyb Ly hb;replace HTW:=lh (HTW.out.below hb);replace HIL:=lh ((HIL.out.below hb).more hb.size);replace HIK:=lh ((HIK.out.below hb).more hb.size);clear hb;gi_wp2;refine bodyPost_ret (v:=.bool true) (by simp [results,Tryz.results3,go_sem]) rfl ?_;exact ⟨rfl,Ly.out.1⟩
end
section
open Go.ChangeShapes Go.WideShapes Go.RowKit Go.Deep Go.Joins
set_option maxRecDepth 100000
theorem eO {α:Type}{vals:α→List Value}{sz:Nat}(hk:∀ x,(vals x).length=sz):∀ l:List α,(l.flatMap vals).length=l.length * sz
 | []=>by simp
 | x::l=>by rw [List.flatMap_cons,List.length_append,hk,eO hk l,List.length_cons,Nat.succ_mul];omega
theorem iT {α:Type}{vals:α→List Value}{sz:Nat}(hk:∀ x,(vals x).length=sz):∀ {l:List α} {i j:Nat} {x:α},l[i]? =some x→j<sz→(l.flatMap vals)[i * sz+j]? =(vals x)[j]?
 | [],i,j,x,h,_=>by simp at h
 | y::l,0,j,x,h,hj=>by
  have:y=x:=by simpa using h
  subst this;rw [List.flatMap_cons,Nat.zero_mul,Nat.zero_add,List.getElem?_append_left (by rw [hk];exact hj)]
 | y::l,i+1,j,x,h,hj=>by
  rw [List.flatMap_cons,List.getElem?_append_right (by rw [hk,Nat.succ_mul];omega),hk,show (i+1) * sz+j - sz=i * sz+j by rw [Nat.succ_mul];omega];exact iT hk (by simpa using h) hj
section
variable {H:Type} {enc:TypeId × Value→H} {w:World}
theorem dI:Tryz.prog.cellsOf 3=1:=by kernel_rfl
theorem qa:Tryz.prog.cellsOf 26=4:=by kernel_rfl
theorem sY:∃ f0 f1,Tryz.prog.underlying 50=some (.struct #[f0,f1])∧f0.type=3∧f1.type=3∧f0.offset=0∧f1.offset=1 :=
 ⟨_,_,Tryz.underlying50,rfl,rfl,rfl,rfl⟩
theorem qy:Tryz.prog.cellsOf 50=2:=by kernel_rfl
theorem ou {fuel:Nat}{cs:List Value}{x:DataW H × List MemPlace}(h:DataW.trod enc Tryz.prog w 0 (fun _=>true) true fuel 50 cs=some x)(hl:cs.length=2):∃ l:Vess,cs=l.vals:=by
 obtain ⟨f0,f1,hu,t0,t1,z0,z1⟩:=sY;obtain ⟨xs,n,_,_,_,hlen,hg⟩:=DataW.trod_struct hu h
 match cs,hl,xs,hlen with
 | [c0,c1],_,[y0,y1],_ =>
  have h0:DataW.trod enc Tryz.prog w 0 (fun _=>true) true n 3 [c0]=some y0:=by simpa [t0,z0,dI] using hg 0 f0 rfl
  have h1:DataW.trod enc Tryz.prog w 0 (fun _=>true) true n 3 [c1]=some y1:=by simpa [t1,z1,dI] using hg 1 f1 rfl
  obtain ⟨n0,e0,_,_⟩:=DataW.trod_int Tryz.underlying3 h0;obtain ⟨n1,e1,_,_⟩:=DataW.trod_int Tryz.underlying3 h1;simp only [List.cons.injEq,and_true] at e0 e1;subst e0 e1;exact ⟨⟨n0,n1⟩,rfl⟩
theorem oP {v:Value}{fuel:Nat}{x:DataW H × List MemPlace}(h:DataW.trod enc Tryz.prog w 0 (fun _=>true) true fuel 22 [v]=some x) :
  ∃ A n c,∃ l:List Vess,v = .slice A n c∧n≤c∧n≤maxLen∧c≤maxLen∧cB w w.heap.size 2 A n (l.flatMap Vess.vals):=by
 rcases open_slice Tryz.underlying22 h with ⟨e,_⟩ | ⟨a,len,cap,m,k,D,Pl,e,_,hl,hm,hmm,_,hx⟩
 ·simp only [List.cons.injEq,and_true] at e
  exact ⟨none,0,0,[],e,n_R,Nat.zero_le _,Nat.zero_le _,cB.none_⟩
 ·simp only [List.cons.injEq,and_true] at e
  have hmc:m=cap:=by simpa using hmm
  subst hmc
  have hn:∀ i,i<m→∃ z:Vess,∀ j,j<2→w.cell? (a.add (i * 2+j))=z.vals[j]? :=fun i hi=>by
   obtain ⟨cs',h1,h2⟩:=hx i hi;rw [qy] at h1;obtain ⟨_,hcl,hat⟩:=World.cells?_some h1;obtain ⟨z,rfl⟩:=ou h2 hcl;exact ⟨z,fun j hj=>by rw [← Go.Deep.add_add,hat j hj]⟩
  letI:Inhabited Vess:=⟨⟨0,0⟩⟩
  obtain ⟨Z,hZ⟩:=choose_lt hn;refine ⟨some a,len,m,(List.range len).map Z,e,hl,by omega,hm,by rw [eO gn];simp,fun h0=>⟨a,rfl,?_,fun j u hu=>?_⟩⟩
  ·have:=World.block_lt_of_cell? w _ (hZ 0 (by omega) 0 (by omega))
   rwa [dN] at this
  ·have hj:j<len * 2:=by
    rcases Nat.lt_or_ge j (len * 2) with h' | h'
    ·exact h'
    ·rw [List.getElem?_eq_none (by rw [eO gn];simpa using h')] at hu;cases hu
   have hz:=hZ (j / 2) (by omega) (j % 2) (by omega);have ha:((List.range len).map Z)[j / 2]? =some (Z (j / 2)):=by rw [List.getElem?_map,List.getElem?_range (by omega)];rfl
   have hf:=iT gn ha (show j % 2<2 by omega);rw [show j / 2 * 2+j % 2=j by omega] at hf hz;rw [hz,← hf,hu]
theorem sM:∃ f0 f1 f2 f3,Tryz.prog.underlying 62=some (.struct #[f0,f1,f2,f3])∧f0.type=3∧f1.type=3∧f2.type=3∧f3.type=3∧f0.offset=0∧f1.offset=1∧f2.offset=2∧f3.offset=3 :=
 ⟨_,_,_,_,Tryz.underlying62,rfl,rfl,rfl,rfl,rfl,rfl,rfl,rfl⟩
theorem p7:Tryz.prog.cellsOf 62=4:=by kernel_rfl
theorem oO {fuel:Nat}{cs:List Value}{x:DataW H × List MemPlace}(h:DataW.trod enc Tryz.prog w 0 (fun _=>true) true fuel 62 cs=some x)(hl:cs.length=4):∃ l:MAct,cs=l.vals:=by
 obtain ⟨f0,f1,f2,f3,hu,t0,t1,t2,t3,z0,z1,z2,z3⟩:=sM;obtain ⟨xs,n,_,_,_,hlen,hg⟩:=DataW.trod_struct hu h
 match cs,hl,xs,hlen with
 | [c0,c1,c2,c3],_,[y0,y1,y2,y3],_ =>
  have h0:DataW.trod enc Tryz.prog w 0 (fun _=>true) true n 3 [c0]=some y0:=by simpa [t0,z0,dI] using hg 0 f0 rfl
  have h1:DataW.trod enc Tryz.prog w 0 (fun _=>true) true n 3 [c1]=some y1:=by simpa [t1,z1,dI] using hg 1 f1 rfl
  have h2:DataW.trod enc Tryz.prog w 0 (fun _=>true) true n 3 [c2]=some y2:=by simpa [t2,z2,dI] using hg 2 f2 rfl
  have h3:DataW.trod enc Tryz.prog w 0 (fun _=>true) true n 3 [c3]=some y3:=by simpa [t3,z3,dI] using hg 3 f3 rfl
  obtain ⟨n0,e0,_,_⟩:=DataW.trod_int Tryz.underlying3 h0;obtain ⟨n1,e1,_,_⟩:=DataW.trod_int Tryz.underlying3 h1;obtain ⟨n2,e2,_,_⟩:=DataW.trod_int Tryz.underlying3 h2;obtain ⟨n3,e3,_,_⟩:=DataW.trod_int Tryz.underlying3 h3;simp only [List.cons.injEq,and_true] at e0 e1 e2 e3;subst e0 e1 e2 e3;exact ⟨⟨n0,n1,n2,n3⟩,rfl⟩
theorem pa {v:Value}{fuel:Nat}{x:DataW H × List MemPlace}(h:DataW.trod enc Tryz.prog w 0 (fun _=>true) true fuel 23 [v]=some x) :
  ∃ A n c,∃ l:List MAct,v = .slice A n c∧n≤c∧n≤maxLen∧c≤maxLen∧cB w w.heap.size 4 A n (l.flatMap MAct.vals):=by
 rcases open_slice Tryz.underlying23 h with ⟨e,_⟩ | ⟨a,len,cap,m,k,D,Pl,e,_,hl,hm,hmm,_,hx⟩
 ·simp only [List.cons.injEq,and_true] at e
  exact ⟨none,0,0,[],e,n_R,Nat.zero_le _,Nat.zero_le _,cB.none_⟩
 ·simp only [List.cons.injEq,and_true] at e
  have hmc:m=cap:=by simpa using hmm
  subst hmc
  have hn:∀ i,i<m→∃ z:MAct,∀ j,j<4→w.cell? (a.add (i * 4+j))=z.vals[j]? :=fun i hi=>by
   obtain ⟨cs',h1,h2⟩:=hx i hi;rw [p7] at h1;obtain ⟨_,hcl,hat⟩:=World.cells?_some h1;obtain ⟨z,rfl⟩:=oO h2 hcl;exact ⟨z,fun j hj=>by rw [← Go.Deep.add_add,hat j hj]⟩
  letI:Inhabited MAct:=⟨⟨0,0,0,0⟩⟩
  obtain ⟨Z,hZ⟩:=choose_lt hn;refine ⟨some a,len,m,(List.range len).map Z,e,hl,by omega,hm,by rw [eO jw];simp,fun h0=>⟨a,rfl,?_,fun j u hu=>?_⟩⟩
  ·have:=World.block_lt_of_cell? w _ (hZ 0 (by omega) 0 (by omega))
   rwa [dN] at this
  ·have hj:j<len * 4:=by
    rcases Nat.lt_or_ge j (len * 4) with h' | h'
    ·exact h'
    ·rw [List.getElem?_eq_none (by rw [eO jw];simpa using h')] at hu;cases hu
   have hz:=hZ (j / 4) (by omega) (j % 4) (by omega);have ha:((List.range len).map Z)[j / 4]? =some (Z (j / 4)):=by rw [List.getElem?_map,List.getElem?_range (by omega)];rfl
   have hf:=iT jw ha (show j % 4<4 by omega);rw [show j / 4 * 4+j % 4=j by omega] at hf hz;rw [hz,← hf,hu]
theorem sJ:∃ f0 f1 f2 f3 f4,Tryz.prog.underlying 69=some (.struct #[f0,f1,f2,f3,f4])∧f0.type=3∧f1.type=3∧f2.type=3∧f3.type=3∧f4.type=54∧f0.offset=0∧f1.offset=1∧f2.offset=2∧f3.offset=3∧f4.offset=4 :=
 ⟨_,_,_,_,_,Tryz.underlying69,rfl,rfl,rfl,rfl,rfl,rfl,rfl,rfl,rfl,rfl⟩
theorem sV:∃ f0 f1,Tryz.prog.underlying 54=some (.struct #[f0,f1])∧f0.type=3∧f1.type=3∧f0.offset=0∧f1.offset=1 :=
 ⟨_,_,Tryz.underlying54,rfl,rfl,rfl,rfl⟩
theorem qt:Tryz.prog.cellsOf 69=6:=by kernel_rfl
theorem qi:Tryz.prog.cellsOf 54=2:=by kernel_rfl
theorem pe {fuel:Nat}{cs:List Value}{x:DataW H × List MemPlace}(h:DataW.trod enc Tryz.prog w 0 (fun _=>true) true fuel 69 cs=some x)(hl:cs.length=6):∃ l:Tast,cs=l.vals:=by
 obtain ⟨f0,f1,f2,f3,f4,hu,t0,t1,t2,t3,t4,z0,z1,z2,z3,z4⟩:=sJ;obtain ⟨g0,g1,hu2,s0,s1,o0,o1⟩:=sV;obtain ⟨xs,n,_,_,_,hlen,hg⟩:=DataW.trod_struct hu h
 match cs,hl,xs,hlen with
 | [c0,c1,c2,c3,c4,c5],_,[y0,y1,y2,y3,y4],_ =>
  have h0:DataW.trod enc Tryz.prog w 0 (fun _=>true) true n 3 [c0]=some y0:=by simpa [t0,z0,dI] using hg 0 f0 rfl
  have h1:DataW.trod enc Tryz.prog w 0 (fun _=>true) true n 3 [c1]=some y1:=by simpa [t1,z1,dI] using hg 1 f1 rfl
  have h2:DataW.trod enc Tryz.prog w 0 (fun _=>true) true n 3 [c2]=some y2:=by simpa [t2,z2,dI] using hg 2 f2 rfl
  have h3:DataW.trod enc Tryz.prog w 0 (fun _=>true) true n 3 [c3]=some y3:=by simpa [t3,z3,dI] using hg 3 f3 rfl
  have h4:DataW.trod enc Tryz.prog w 0 (fun _=>true) true n 54 [c4,c5]=some y4:=by simpa [t4,z4,qi] using hg 4 f4 rfl
  obtain ⟨xs',n',_,_,_,hlen',hg'⟩:=DataW.trod_struct hu2 h4
  match xs',hlen' with
  | [u0,u1],_ =>
   have k0:DataW.trod enc Tryz.prog w 0 (fun _=>true) true n' 3 [c4]=some u0:=by simpa [s0,o0,dI] using hg' 0 g0 rfl
   have k1:DataW.trod enc Tryz.prog w 0 (fun _=>true) true n' 3 [c5]=some u1:=by simpa [s1,o1,dI] using hg' 1 g1 rfl
   obtain ⟨n0,e0,_,_⟩:=DataW.trod_int Tryz.underlying3 h0;obtain ⟨n1,e1,_,_⟩:=DataW.trod_int Tryz.underlying3 h1;obtain ⟨n2,e2,_,_⟩:=DataW.trod_int Tryz.underlying3 h2;obtain ⟨n3,e3,_,_⟩:=DataW.trod_int Tryz.underlying3 h3;obtain ⟨n4,e4,_,_⟩:=DataW.trod_int Tryz.underlying3 k0;obtain ⟨n5,e5,_,_⟩:=DataW.trod_int Tryz.underlying3 k1;simp only [List.cons.injEq,and_true] at e0 e1 e2 e3 e4 e5;subst e0 e1 e2 e3 e4 e5;exact ⟨⟨n0,n1,n2,n3,n4,n5⟩,rfl⟩
theorem oD {v:Value}{fuel:Nat}{x:DataW H × List MemPlace}(h:DataW.trod enc Tryz.prog w 0 (fun _=>true) true fuel 24 [v]=some x) :
  ∃ A n c,∃ l:List Tast,v = .slice A n c∧n≤c∧n≤maxLen∧c≤maxLen∧cB w w.heap.size 6 A n (l.flatMap Tast.vals):=by
 rcases open_slice Tryz.underlying24 h with ⟨e,_⟩ | ⟨a,len,cap,m,k,D,Pl,e,_,hl,hm,hmm,_,hx⟩
 ·simp only [List.cons.injEq,and_true] at e
  exact ⟨none,0,0,[],e,n_R,Nat.zero_le _,Nat.zero_le _,cB.none_⟩
 ·simp only [List.cons.injEq,and_true] at e
  have hmc:m=cap:=by simpa using hmm
  subst hmc
  have hn:∀ i,i<m→∃ z:Tast,∀ j,j<6→w.cell? (a.add (i * 6+j))=z.vals[j]? :=fun i hi=>by
   obtain ⟨cs',h1,h2⟩:=hx i hi;rw [qt] at h1;obtain ⟨_,hcl,hat⟩:=World.cells?_some h1;obtain ⟨z,rfl⟩:=pe h2 hcl;exact ⟨z,fun j hj=>by rw [← Go.Deep.add_add,hat j hj]⟩
  letI:Inhabited Tast:=⟨⟨0,0,0,0,0,0⟩⟩
  obtain ⟨Z,hZ⟩:=choose_lt hn;refine ⟨some a,len,m,(List.range len).map Z,e,hl,by omega,hm,by rw [eO gp];simp,fun h0=>⟨a,rfl,?_,fun j u hu=>?_⟩⟩
  ·have:=World.block_lt_of_cell? w _ (hZ 0 (by omega) 0 (by omega))
   rwa [dN] at this
  ·have hj:j<len * 6:=by
    rcases Nat.lt_or_ge j (len * 6) with h' | h'
    ·exact h'
    ·rw [List.getElem?_eq_none (by rw [eO gp];simpa using h')] at hu;cases hu
   have hz:=hZ (j / 6) (by omega) (j % 6) (by omega);have ha:((List.range len).map Z)[j / 6]? =some (Z (j / 6)):=by rw [List.getElem?_map,List.getElem?_range (by omega)];rfl
   have hf:=iT gp ha (show j % 6<6 by omega);rw [show j / 6 * 6+j % 6=j by omega] at hf hz;rw [hz,← hf,hu]
theorem tE:∃ f0 f1 f2 f3,Tryz.prog.underlying 26=some (.struct #[f0,f1,f2,f3])∧(f0.type=3∧f1.type=22∧f2.type=23∧f3.type=24)∧(f0.offset=0∧f1.offset=1∧f2.offset=2∧f3.offset=3) :=
 ⟨_,_,_,_,Tryz.underlying26,⟨rfl,rfl,rfl,rfl⟩,rfl,rfl,rfl,rfl⟩
theorem rY:Tryz.prog.cellsOf 22=1:=by kernel_rfl
theorem sf:Tryz.prog.cellsOf 23=1:=by kernel_rfl
theorem qZ:Tryz.prog.cellsOf 24=1:=by kernel_rfl
theorem r6 {r:Reach}{b0:Nat}{v:Value}{d:DataW H}{p:List MemPlace}(hv:Value.okWide Tryz.prog w r b0 26 v)(h:DataW.Trod enc Tryz.prog w 0 (fun _=>true) true 26 v d p) :
  ∃ Av nv cv Aa na ca At nt ct m,v = .agg #[.int .i64 m.fountains,.slice Av nv cv,.slice Aa na ca,.slice At nt ct]∧(na≤ca∧ca≤maxLen)∧(nt≤ct∧ct≤maxLen)∧dx w w.heap.size Av nv Aa na At nt m:=by
 obtain ⟨f0,f1,f2,f3,hu,⟨t0,t1,t2,t3⟩,z0,z1,z2,z3⟩:=tE;obtain ⟨cs,rfl,hsz⟩:=okWide_struct hu hv;obtain ⟨fuel,hf⟩:=h;obtain ⟨xs,n,_,_,_,hlen,hg⟩:=DataW.trod_struct hu hf;obtain ⟨l⟩:=cs
 match l,hsz.trans qa,xs,hlen with
 | [c0,c1,c2,c3],_,[y0,y1,y2,y3],_ =>
  have h0:DataW.trod enc Tryz.prog w 0 (fun _=>true) true n 3 [c0]=some y0:=by simpa [t0,z0,dI,Value.cells] using hg 0 f0 rfl
  have h1:DataW.trod enc Tryz.prog w 0 (fun _=>true) true n 22 [c1]=some y1:=by simpa [t1,z1,rY,Value.cells] using hg 1 f1 rfl
  have h2:DataW.trod enc Tryz.prog w 0 (fun _=>true) true n 23 [c2]=some y2:=by simpa [t2,z2,sf,Value.cells] using hg 2 f2 rfl
  have h3:DataW.trod enc Tryz.prog w 0 (fun _=>true) true n 24 [c3]=some y3:=by simpa [t3,z3,qZ,Value.cells] using hg 3 f3 rfl
  obtain ⟨f,e0,_,_⟩:=DataW.trod_int Tryz.underlying3 h0;simp only [List.cons.injEq,and_true] at e0;obtain ⟨Av,nv,cv,lv,rfl,_,_,_,hv1⟩:=oP h1;obtain ⟨Aa,na,ca,la,rfl,ha1,_,ha2,hv2⟩:=pa h2;obtain ⟨At,nt,ct,lt,rfl,ht1,_,ht2,hv3⟩:=oD h3;subst e0;exact ⟨Av,nv,cv,Aa,na,ca,At,nt,ct,⟨f,lv,la,lt⟩,rfl,⟨ha1,ha2⟩,⟨ht1,ht2⟩,⟨hv1,hv2,hv3⟩⟩
end
end
section
open Go.ChangeShapes Go.WideShapes Go.ChangeAt Go.RowKit Go.Joins
theorem ownT:ownKnob Tryz.prog.godebug=none:=by kernel_rfl
theorem gS:laidOutB Tryz.prog=true:=by kernel_rfl
theorem mixJudges_lifted (os:Os)(started:os.Started)(H:Type)(enc:TypeId × Value→H) :
  ReturnsInHanded {} Tryz.checked os 3 .any (Rows.mixJudgesSpec.pre6 enc Tryz.prog Tryz.f3 Rows.mixJudgesRow.domain false) (Rows.mixJudgesSpec.post enc Tryz.prog Tryz.f3 false true false false):=by
 refine returnsInHanded_of_change (C:=Tryz.checked) ownT started (by kernel_rfl) Tryz.func3
  (ChangeSpec.witness6 (enc:=enc) (C:=Tryz.checked) false ⟨#[],#[.agg #[.int .i64 0,.slice none 0 0,.slice none 0 0,.slice none 0 0],.int .i64 0,.int .i64 0,.int .i64 0,.int .i64 0],[]⟩ 8 (by kernel_rfl) (by kernel_rfl) (by kernel_rfl) (by kernel_rfl)) ?_
 intro W base args ds gs before hval0 hW hcnd _;have hval:∀ (j:Nat) t v,Tryz.f3.params[j]? =some t→args[j]? =some v→Value.okWide Tryz.prog W .any base t v:=hval0;have hW':=hW;obtain ⟨p,q,hA0,hV,rfl,hfz,hnd⟩:=hW;have hA:DataW.TrodAll enc Tryz.prog W 0 (fun _=>true) true Tryz.f3.params.toList args.toList ds p:=hA0;rw [Tryz.params3] at hA hval;obtain ⟨v0,vs0,d0,ds0,p0,q0,hargs,rfl,rfl,h0,r0⟩:=trodAll_cons hA;obtain ⟨v1,vs1,d1,ds1,p1,q1,rfl,rfl,rfl,h1,r1⟩:=trodAll_cons r0;obtain ⟨v2,vs2,d2,ds2,p2,q2,rfl,rfl,rfl,h2,r2⟩:=trodAll_cons r1;obtain ⟨v3,vs3,d3,ds3,p3,q3,rfl,rfl,rfl,h3,r3⟩:=trodAll_cons r2;obtain ⟨v4,vs4,d4,ds4,p4,q4,rfl,rfl,rfl,h4,r4⟩:=trodAll_cons r3;obtain ⟨rfl,rfl,rfl⟩:=trodAll_nil r4;obtain rfl:args=#[v0,v1,v2,v3,v4]:=by cases args;simp_all
 obtain ⟨rfl,rfl⟩:=trodVars_none hV;have k0:=h0;have lt0:∀ x∈p0,x.block<W.heap.size:=by obtain ⟨m,hm⟩:=k0;exact DataW.trod_lt m _ _ _ hm
 have k1:=h1;have lt1:∀ x∈p1,x.block<W.heap.size:=by obtain ⟨m,hm⟩:=k1;exact DataW.trod_lt m _ _ _ hm
 have k2:=h2;have lt2:∀ x∈p2,x.block<W.heap.size:=by obtain ⟨m,hm⟩:=k2;exact DataW.trod_lt m _ _ _ hm
 have k3:=h3;have lt3:∀ x∈p3,x.block<W.heap.size:=by obtain ⟨m,hm⟩:=k3;exact DataW.trod_lt m _ _ _ hm
 have k4:=h4;have lt4:∀ x∈p4,x.block<W.heap.size:=by obtain ⟨m,hm⟩:=k4;exact DataW.trod_lt m _ _ _ hm
 obtain ⟨Av,nv,cv,Aa,na,ca,At,nt,ct,m,rfl,hca,hct,hm⟩:=r6 (hval 0 26 v0 rfl rfl) h0;obtain ⟨s1,e1⟩:=okWide_int Tryz.underlying3 (hval 1 3 v1 rfl rfl);subst e1;obtain ⟨s2,e2⟩:=okWide_int Tryz.underlying3 (hval 2 3 v2 rfl rfl);subst e2;obtain ⟨s3,e3⟩:=okWide_int Tryz.underlying3 (hval 3 3 v3 rfl rfl);subst e3;obtain ⟨s4,e4⟩:=okWide_int Tryz.underlying3 (hval 4 3 v4 rfl rfl);subst e4;clear hA0 hval0;refine (callsIn_wide.1 (oG Av nv cv Aa na ca At nt ct m s1 s2 s3 s4 W hm)).mono fun e W' ⟨he,bel⟩=>?_;subst he;exact ⟨_,rfl,_,_,_,[],_,[],hW',trodAll_mk1 (shut_bool Tryz.underlying4 _),(trodAll_cons_mk (Below.trod gS (by kernel_rfl) (of_decide_eq_true (by kernel_rfl)) k0 bel lt0) (trodAll_cons_mk (Below.trod gS (by kernel_rfl) (of_decide_eq_true (by kernel_rfl)) k1 bel lt1) (trodAll_cons_mk (Below.trod gS (by kernel_rfl) (of_decide_eq_true (by kernel_rfl)) k2 bel lt2) (trodAll_cons_mk (Below.trod gS (by kernel_rfl) (of_decide_eq_true (by kernel_rfl)) k3 bel lt3) (trodAll_cons_mk (Below.trod gS (by kernel_rfl) (of_decide_eq_true (by kernel_rfl)) k4 bel lt4) (trodAll_mk0)))))),rfl,bel.frame _,fun h=>by cases h⟩
theorem mixJudges_holds:Rows.MixJudgesSaid :=
 OpenClaim.holds_of_wide 3 Tryz.f3 rfl rfl rfl rfl rfl rfl rfl ⟨rfl,rfl,rfl,rfl,rfl⟩ rfl rfl rfl rfl rfl (by kernel_rfl) Tryz.func3 (by kernel_rfl)
  (of_decide_eq_true (by kernel_rfl)) (by unfold Func.isWrapper;rw [if_neg (of_decide_eq_false (by kernel_rfl))];exact ⟨rfl,rfl⟩)
  (fun os started H enc _=>mixJudges_lifted os started H enc)
#print axioms mixJudges_holds
end
end Go.Proofs.YthofngceiecniaaGreat
