/- Part 14 of the texts of this claim, joined. -/
import Derived.Lib.SmallJoins
import Derived.Sort.CutIn
import Derived.LaidHandle
import Derived.ChangeArms
import Derived.ChangeSame
import Derived.Test.YthofngceiecniaaGreatZxB13
set_option linter.unusedVariables false
/- The answer's Played. -/
namespace Go.Proofs.YthofngceiecniaaGreat
set_option maxHeartbeats 32000000
set_option maxRecDepth 100000
section
open Go.RowKit
theorem rV:(Tryz.prog.info? 150).map (fun i=>(i.zero,i.size,i.bytes))=some (some (.agg #[.int .i64 0,.int .i64 0,.int .i64 0,.int .i64 0]),4,32):=by kernel_rfl
theorem rR:fV Tryz.prog 147 150 (.agg #[.int .i64 0,.int .i64 0,.int .i64 0,.int .i64 0]) 4 32:=by
 obtain ⟨i0,hi,hz0,hz1,hz2⟩:=info_parts rV;exact ⟨i0,Tryz.underlying147,hi,hz0,hz1,hz2,rfl,by decide⟩
def PlA (w W:World)(mc:Array Value)(A4:Option Addr)(k c4:Nat)(L:List Held)(m:Mix):Prop :=
 Lay w W [(w.heap.size,26,mc)]∧Own W (w.heap.size+1) 150 4 A4 (k+1) c4 (L.flatMap eI)∧allM m (m.acts.take k)=some L∧∀ (j:Nat) (s:Held),L[j]? =some s→s.length=4∧∀ q:Nat,0≤au s q∧au s q≤12
theorem ti {w W:World}{mc:Array Value}{m:Mix}(h:Lay w W [(w.heap.size,26,mc),(w.heap.size+1,150,#[.int .i64 0,.int .i64 0,.int .i64 0,.int .i64 0])]):PlA w W mc (some ⟨w.heap.size+1,0,none⟩) 0 1 [dF] m:=by
 refine ⟨⟨h.1,fun b hb=>h.2 b (by simp only [List.mem_cons,List.not_mem_nil,or_false] at hb;simp [hb])⟩,⟨rfl,.inr ⟨w.heap.size+1,1,_,rfl,n_R,h.blk 1 rfl,n_R,by unfold maxLen;omega,rfl,rfl⟩⟩,rfl,?_⟩;intro j u hu
 match j,hu with
 | 0,hu =>
  have e:dF=u:=by simpa using hu
  rw [← e];exact mA
theorem ut {w W W':World}{mc:Array Value}{A4 A9:Option Addr}{k c4 c9:Nat}{L:List Held}{m:Mix}{x:MAct}{s s2:Held}(HLAP:mc=mc)(h:PlA w W mc A4 k c4 L m)(hx:m.acts[k]? =some x)(hs:L[k]? =some s)(hd:dy m s x=some s2)(hz:gL m)(hv:m.vessels.length≤4)
  (hl:Lay w W' [(w.heap.size,26,mc)]) (ho:Own W' (w.heap.size+1) 150 4 A9 (k+1+1) c9 (L.flatMap eI++eI s2)):PlA w W' mc A9 (k+1) c9 (L++[s2]) m:=by
 refine ⟨hl,by rw [List.flatMap_append];simpa using ho,by rw [jO hx h.2.2.1 hs,hd];rfl,fun j u hu=>?_⟩;by_cases hj:j<L.length
 ·rw [List.getElem?_append_left hj] at hu
  exact h.2.2.2 j u hu
 ·rw [List.getElem?_append_right (by omega)] at hu
  have hj0:j - L.length=0:=by
   have:=(g_E hu).1;simp at this;omega
  rw [hj0] at hu;have e:s2=u:=by simpa using hu
  rw [← e];have:=h.2.2.2 k s hs;exact kj hv hz this.1 this.2 hd
def s3 (w:World)(m:Mix)(e:Ending)(w':World):Prop :=
 Below w.heap.size w w'∧∃ A n c b L,e = .returned (.tuple #[.slice A n c,.bool b])∧((b=true∧allM m m.acts=some L∧cY w' w'.heap.size 4 A n (L.flatMap eI))∨(b=false∧A=none∧allM m m.acts=none))
theorem r5 (Av:Option Addr)(nv cv:Nat)(Aa:Option Addr)(na ca:Nat)(At:Option Addr)(nt ct:Nat)(m:Mix)(w:World)(h:MixS w Av nv Aa na At nt m)(hz:gL m)(hn4:nv≤4)(hna:na≤1000) :
  CallsIn Fence.wide 9 Tryz.prog 81 #[.agg #[.int .i64 m.fountains,.slice Av nv cv,.slice Aa na ca,.slice At nt ct]] w (s3 w m):=by
 have HM:=lh h;have HZ:=lh hz;have HLA:=lh h.at_.lenA;clear h hz;refine callsIn_of_wp Tryz.func81 rfl trivial ?_ rfl;simp only [Tryz.ntmps81,es,Nat.reduceAdd,Nat.reduceSub];gi_wp2;have Ly:=lh (Lay.two w 26 #[.int .i64 m.fountains,.slice Av nv cv,.slice Aa na ca,.slice At nt ct] 150 #[.int .i64 0,.int .i64 0,.int .i64 0,.int .i64 0]);generalize ((w.alloc (.cells #[.int .i64 m.fountains,.slice Av nv cv,.slice Aa na ca,.slice At nt ct] 26)).alloc (.cells #[.int .i64 0,.int .i64 0,.int .i64 0,.int .i64 0] 150))=w0 at *
 gi_loopw [4,14] (fun v4 i wr=>∃ (k:Nat) (A4:Option Addr) (c4:Nat) (L:List Held),k≤na∧i = .int .i64 k∧v4 = .slice A4 (k+1) c4∧Hid (PlA w wr #[.int .i64 m.fountains,.slice Av nv cv,.slice Aa na ca,.slice At nt ct] A4 k c4 L m))
  (fun _ i _=>na - (intOf i).toNat)
 case atStart=>exact ⟨0,_,_,_,by omega,rfl,rfl,lh (ti Ly.out)⟩
 case round =>
  clear Ly;obtain ⟨k,A4,c4,L,hk,rfl,rfl,HS⟩:=hrel;have Ly:=lh HS.out.1;by_cases hlt:k<na
  ·
   obtain ⟨b,off,x,rfl,hbB,hx,hc0,hc1,hc2,hc3⟩:=(HM.out.at_.below Ly.out.1).act hlt
   have hlen:L.length=k+1:=by
    have:=ei m _ L HS.out.2.2.1;rw [List.length_take,Nat.min_eq_left (by have:=HLA.out;omega)] at this;exact this
   have hs:L[k]? =some (L[k]'(by omega)):=List.getElem?_eq_getElem (by omega)
   obtain ⟨s,hs'⟩:∃ s,L[k]'(by omega)=s:=⟨_,rfl⟩
   rw [hs'] at hs;have HX:=lh hx;have HSS:=lh hs;have HR:=lh (HS.out.2.2.2 k s hs);obtain ⟨b4,o4,s',hA4,hb4,hs2,hcl⟩:=dK dQ (by omega) (HS.out.2.1.reads n_R) (show k<k+1 by omega);rw [hs] at hs2;obtain rfl:s=s':=Option.some.inj hs2;subst hA4;have HB4:=lh hb4;have HOW:=lh HS.out.2.1;clear hx hs hs' hlen hs2 hcl hb4;gi_upto_region 5 with fail
   clear hc0 hc1 hc2 hc3;have HWR:Hid (wr=wr):=lh rfl
   obtain ⟨V1,hV⟩:∃ V,(wr.alloc (.cells #[.int .i64 x.kind,.int .i64 x.fr,.int .i64 x.to,.int .i64 x.drops] 62))=V:=⟨_,rfl⟩
   rw [hV];have hb:=dq hV;have hnew:=dt hV;have hge:=Ly.out.bel.size;replace Ly:=lyb Ly hb;replace HOW:=lh (HOW.out.below hb n_R);replace Ly:=lh (Ly.out.add hge hnew);clear hnew hge hb hV
   obtain ⟨G2,hG⟩:∃ g,wr.heap.size=g:=⟨_,rfl⟩
   rw [hG] at Ly ⊢;clear hG;have HLay0:=lh Ly.out;have HOW0:=lh HOW.out
   have HB5:Hid (b4<V1.heap.size∧∀ (j:Nat) (u:Value),(eI s)[j]? =some u→V1.cell? ⟨b4,o4+k * 4+j,none⟩=some u):=lh ⟨(HOW0.out.lt rfl).2,fun j u hu=>by
    obtain ⟨b',o',s',e1,e2,e3,e4⟩:=dK dQ (by omega) (HOW0.out.reads n_R) (show k<k+1 by omega);rw [HSS.out] at e3;obtain rfl:s=s':=Option.some.inj e3;cases e1
    exact e4 j u hu⟩
   refine eD [([true,true,true,true,true,true],6)] [false,false,false,false,false,false,false,true,true,true,false,false,true] [false,false,false,false,false,false,false,false,false,false,false,true] 10 (fun b=>.pointer (some ⟨b,0,none⟩)) 150 #[.int .i64 0,.int .i64 0,.int .i64 0,.int .i64 0] (by kernel_rfl) (by kernel_rfl) (by kernel_rfl) (av b_R 1) rfl rfl rfl (fun _ _=>rfl) (fun _ _=>rfl) ?_;refine wpFlow_cons (A:=?AF1) rfl ?hq1 ?_
   case hq1 =>
    rintro σ hσ of hof hcl;have HOF:=lh hof;clear hof hcl;obtain ⟨c0_,c1_,c2_,c3_⟩:=lyz4 Ly HOF 0 rfl;obtain ⟨c4_,c5_,c6_,c7_⟩:=lyz4 Ly HOF 1 rfl;have hfw:=hfT;have r0:∀ z,(of z).cell? ⟨b4,o4+k * 4,none⟩=some (.int .i64 (au s 0)):=fun z=>((HOF.out z).cell (p:=⟨b4,o4+k * 4,none⟩) HB5.out.1).trans (HB5.out.2 0 _ rfl);have r1:∀ z,(of z).cell? ⟨b4,o4+k * 4+1,none⟩=some (.int .i64 (au s 1)):=fun z=>((HOF.out z).cell (p:=⟨b4,o4+k * 4+1,none⟩) HB5.out.1).trans (HB5.out.2 1 _ rfl);have r2:∀ z,(of z).cell? ⟨b4,o4+k * 4+2,none⟩=some (.int .i64 (au s 2)):=fun z=>((HOF.out z).cell (p:=⟨b4,o4+k * 4+2,none⟩) HB5.out.1).trans (HB5.out.2 2 _ rfl);have r3:∀ z,(of z).cell? ⟨b4,o4+k * 4+3,none⟩=some (.int .i64 (au s 3)):=fun z=>((HOF.out z).cell (p:=⟨b4,o4+k * 4+3,none⟩) HB5.out.1).trans (HB5.out.2 3 _ rfl);have hkk:k<k+1:=by omega
    simp only [bu]
    repeat (gi_big_quiet_step (fail))
    refine wpQuietIn_nil ?_;exact rfl
   intro W3 hW;replace Ly:=lyb Ly hW;replace HOW:=lh (HOW.out.below hW n_R);clear hW;gi_wp2;refine ⟨trivial,(c_W (vd Av nv cv (some ⟨b,off,none⟩) na ca At nt ct m s x W3 (HM.out.up Ly.out.1) HZ.out hn4 HR.out.1 HR.out.2)).mono ?_⟩;rintro e W4 ⟨hb,s2,bb,rfl,hd⟩;replace Ly:=lyb Ly hb;replace HOW:=lh (HOW.out.below hb n_R);have HD:=lh hd;clear hd;gi_wp2;refine ⟨trivial,hb,?_⟩;clear hb;refine wpFlow_nil (A:=?AF2) ?hq2 ?_
   case hq2 =>
    rintro σ hσ of hof hcl;have HOF:=lh hof;clear hof hcl;obtain ⟨c0_,c1_,c2_,c3_⟩:=lyz4 Ly HOF 0 rfl;obtain ⟨c4_,c5_,c6_,c7_⟩:=lyz4 Ly HOF 1 rfl;have hfw:=hfT;simp only [bu]
    repeat (gi_big_quiet_step (fail))
    refine wpQuietIn_nil ?_;exact rfl
   intro bN W5 hW hbg hbb hbi;replace Ly:=lyb Ly hW;replace HOW:=lh (HOW.out.below hW n_R);have c0:=hbb.cell 0;have z0:=hbb.frozen 0;have c1:=hbb.cell 1;have z1:=hbb.frozen 1;have c2:=hbb.cell 2;have z2:=hbb.frozen 2;have c3:=hbb.cell 3;have z3:=hbb.frozen 3;have hbl:=hbb.lt;have hbw:w.heap.size≤bN:=Nat.le_trans (HLay0.out.1.size) hbg;simp only [bu];refine ej ?_;gi_wp2;refine cX ?_;have R3:=ret4' hbb (Below.refl bN W5) n_R (.int .i64 (au s2 0)) (.int .i64 (au s2 1)) (.int .i64 (au s2 2)) (.int .i64 (au s2 3));have HLay9:=lh (Lay.add (w:=w) (bs:=[(w.heap.size,26,#[.int .i64 m.fountains,.slice Av nv cv,.slice (some ⟨b,off,none⟩) na ca,.slice At nt ct]),(G2,62,#[.int .i64 x.kind,.int .i64 x.fr,.int .i64 x.to,.int .i64 x.drops])]) ⟨Ly.out.1.trans (R3.2.1.mono hbw),fun p hp=>⟨(Ly.out.2 p hp).1,(Ly.out.2 p hp).2.below R3.2.1 (by have:=(HLay0.out.2 p hp).2.lt;omega)⟩⟩ hbw R3.1);replace HOW:=lh (HOW.out.grown (row:=some bN) R3.2.2 (fun a ha e=>by have:=(HOW0.out.lt ha).2;have:=Option.some.inj e;omega));generalize ((((W5.setCell ⟨bN,0,none⟩ (.int .i64 (au s2 0))).setCell ⟨bN,1,none⟩ (.int .i64 (au s2 1))).setCell ⟨bN,2,none⟩ (.int .i64 (au s2 2))).setCell ⟨bN,3,none⟩ (.int .i64 (au s2 3)))=W99 at *;clear c0 z0 c1 z1 c2 z2 c3 z3 hbl hbb hW hbg R3;replace Ly:=HLay9
   rcases HD.out with ⟨rfl,hd⟩ | ⟨rfl,hd⟩
   ·
    have HD2:=lh hd;clear HD hd;obtain ⟨x2_0,x2_1,x2_2,x2_3⟩:=lyc4 Ly 2 rfl;have l2_:=Ly.out.lt 2 rfl;have HBZ:Hid (w.heap.size+1≤W99.heap.size):=lh (Ly.out.lt 0 rfl)
    gi_wp2_with (first | (gi_at_builtin;refine df rfl (.tmp 31) (.tmp 33) (by rfl) rR rfl (HOW.out.alloc (.cells #[.int .i64 (au s2 0),.int .i64 (au s2 1),.int .i64 (au s2 2),.int .i64 (au s2 3)] 150)) rfl (fG W99 150 (eI s2) rfl) (pU s2) (by unfold maxLen;omega) (by omega) (by have:=HBZ.out;simp;omega) ?_) | fail)
    clear x2_0 x2_1 x2_2 x2_3 l2_;rintro A9 c9 V6 hown hg hA;have hrow:=dZ HOW.out
    have hla:=(show Lay w W99 [(w.heap.size,26,#[.int .i64 m.fountains,.slice Av nv cv,.slice (some ⟨b,off,none⟩) na ca,.slice At nt ct])] from ⟨Ly.out.1,fun q hq=>Ly.out.2 q (by simp only [List.mem_cons,List.not_mem_nil,or_false] at hq;simp [hq])⟩)
    have hla2:=(hla.below (b_R.alloc n_R (.cells #[.int .i64 (au s2 0),.int .i64 (au s2 1),.int .i64 (au s2 2),.int .i64 (au s2 3)] 150))).row hg (fun r e=>⟨by have:=(hrow r e).1;omega,fun q hq=>by have:=(hrow r e).1;simp only [List.mem_cons,List.not_mem_nil,or_false] at hq;rw [hq];dsimp only;omega⟩);have HNEW:Hid (PlA w V6 #[.int .i64 m.fountains,.slice Av nv cv,.slice (some ⟨b,off,none⟩) na ca,.slice At nt ct] A9 (k+1) c9 (L++[s2]) m):=lh (ut (HLAP:=rfl) HS.out HX.out HSS.out HD2.out HZ.out (by have:=HM.out.at_.lenV;omega) hla2 (by simpa using hown));clear hown hg hA hrow hla hla2;gi_wp2
    go_roundw
    case rel=>exact ⟨k+1,A9,c9,L++[s2],by omega,by go_num,rfl,HNEW⟩
    case measure=>simp [intOf];omega
   ·
    have HD2:=lh hd;clear HD hd;gi_wp2;refine bodyPost_ret (v:=.tuple #[.slice none 0 0,.bool false]) (by simp [results,Tryz.results81,go_sem]) rfl ?_;refine ⟨Ly.out.1,none,0,0,false,[],rfl,.inr ⟨rfl,rfl,oQ (k:=k+1) ?_⟩⟩;rw [jO HX.out HS.out.2.2.1 HSS.out,HD2.out];rfl
  ·
   obtain rfl:na=k:=by omega
   gi_wp2;refine bodyPost_ret (v:=.tuple #[.slice A4 (na+1) c4,.bool true]) (by simp [results,Tryz.results81,go_sem]) rfl ?_
   have hL:allM m m.acts=some L:=by
    have:=HS.out.2.2.1
    rwa [List.take_of_length_le (by have:=HLA.out;omega)] at this
   exact ⟨Ly.out.1,A4,_,c4,true,L,rfl,.inl ⟨rfl,hL,HS.out.2.1.reads n_R⟩⟩
end
section
open Go.RowKit
theorem wB {m:Mix}(h:risB 0 (m.vessels.map (·.id))=false):dc m=false:=by unfold dc;rw [h];simp
theorem uV {m:Mix}(h:risB 0 (m.tastes.map (·.num))=false):dc m=false:=by unfold dc;rw [h];simp
theorem uX {α:Type}{f:α→Int}{l:List α}{k:Nat}{x:α}(hx:l[k]? =some x)(h:risB 0 ((l.take k).map f)=true):risB 0 ((l.take (k+1)).map f)=wiB (f x) (((l.take k).map f).getLast?.getD 0+1) 9999:=by
 obtain ⟨hk,rfl⟩:=g_E hx;rw [List.take_succ_eq_append_getElem hk,List.map_append,List.map_cons,List.map_nil,kO,h,Bool.true_and];rfl
theorem sK {α:Type}{f:α→Int}{l:List α}{k:Nat}{x:α}(hx:l[k]? =some x):((l.take (k+1)).map f).getLast?.getD 0=f x:=by
 obtain ⟨hk,rfl⟩:=g_E hx;rw [List.take_succ_eq_append_getElem hk,List.map_append,List.map_cons,List.map_nil,List.getLast?_concat];rfl
theorem q6 {α:Type}{f:α→Int}{l:List α}{k:Nat}(h:risB 0 ((l.take k).map f)=false):risB 0 (l.map f)=false:=by
 cases h0:risB 0 (l.map f) with
 | false=>rfl
 | true =>
  have:=po (k:=k) h0;rw [← List.map_take] at this;rw [this] at h;cases h
theorem uL {α:Type}{p:α→Bool}{l:List α}{k:Nat}(h:(l.take k).all p=false):l.all p=false:=by
 cases h0:l.all p with
 | false=>rfl
 | true=>exact absurd ((sn (k:=k) h0).symm.trans h) (by decide)
theorem ve (Av:Option Addr)(nv cv:Nat)(Aa:Option Addr)(na ca:Nat)(At:Option Addr)(nt ct:Nat)(m:Mix)(w:World)(h:MixS w Av nv Aa na At nt m) :
  Calls Tryz.prog 49 #[.agg #[.int .i64 m.fountains,.slice Av nv cv,.slice Aa na ca,.slice At nt ct]] w fun e w'=>e = .returned (.bool (dc m))∧Below w.heap.size w w':=by
 have HM:=lh h;have HLV:=lh h.at_.lenV;have HLA:=lh h.at_.lenA;have HLT:=lh h.at_.lenT;have hnv:=h.hv;have hna:=h.ha;have hnt:=h.ht;clear h
 go_enter Tryz.func49,Tryz.ntmps49
 go_upto_region 1 with fail
 have Ly:=lh (Lay.one w 26 #[.int .i64 m.fountains,.slice Av nv cv,.slice Aa na ca,.slice At nt ct]);generalize (w.alloc (.cells #[.int .i64 m.fountains,.slice Av nv cv,.slice Aa na ca,.slice At nt ct] 26))=w0 at *;obtain ⟨x0,x1,x2,x3⟩:=lyc4 Ly 0 rfl;have xl:=Ly.out.lt 0 rfl
 go_wp2_with fail
 refine (dE m.fountains 1 4 w0).mono ?_;rintro e W1 ⟨rfl,rfl⟩;by_cases hG:(1≤m.fountains∧m.fountains≤4)∧m.vessels.length≤4∧m.acts.length≤12∧m.tastes.length≤8
 ·have HG:=lh hG
  have hi:wiB m.fountains 1 4=true:=decide_eq_true hG.1;have hn4:nv≤4:=by have:=HLV.out;omega
  have hn12:na≤12:=by have:=HLA.out;omega
  have hn8:nt≤8:=by have:=HLT.out;omega
  have d1:(nv:Int)≤4:=by omega
  have d2:(na:Int)≤12:=by omega
  have d3:(nt:Int)≤8:=by omega
  rw [hi];clear hi hG
  go_wp2_with fail
  clear d1 d2 d3 x0 x1 x2 x3 xl
  go_loopw [3,35] (fun v3 i wr=>∃ k:Nat,k≤nv∧i = .int .i64 k∧v3 = .int .i64 (((m.vessels.take k).map (·.id)).getLast?.getD 0)∧Hid (Lay w wr [(w.heap.size,26,#[.int .i64 m.fountains,.slice Av nv cv,.slice Aa na ca,.slice At nt ct])]∧(m.vessels.take k).all iB=true∧risB 0 ((m.vessels.take k).map (·.id))=true))
   (fun _ i _=>nv - (intOf i).toNat)
  case atStart=>exact ⟨0,by omega,rfl,rfl,lh ⟨Ly.out,rfl,rfl⟩⟩
  case round =>
   clear Ly;obtain ⟨k,hk,rfl,rfl,HS⟩:=hrel;obtain ⟨hl0,hl1⟩:=lW HS.out.2.2
   obtain ⟨p,hp⟩:∃ p,((m.vessels.take k).map (·.id)).getLast?.getD 0=p:=⟨_,rfl⟩
   have Ly:=lh HS.out.1;rw [hp] at hl0 hl1 ⊢;have HP:=lh hp;clear hp;have x1:=lyc Ly 0 rfl 1;have x3:=lyc Ly 0 rfl 3;have xl:=Ly.out.lt 0 rfl;by_cases hlt:k<nv
   ·clear x1 x3 xl
    obtain ⟨b,off,x,rfl,hbB,hx,hc0,hc1⟩:=(HM.out.at_.below Ly.out.1).vess hlt;have HX:=lh hx;clear hx
    go_upto_region 7 with fail
    have hb1:Below wr.heap.size wr (wr.alloc (.cells #[.int .i64 x.id,.int .i64 x.size] 50)):=b_R.alloc n_R _;have HN:=lh (Blk.new wr 50 #[.int .i64 x.id,.int .i64 x.size])
    obtain ⟨g8,hg8⟩:∃ g,wr.heap.size=g:=⟨_,rfl⟩
    generalize wr.alloc (.cells #[.int .i64 x.id,.int .i64 x.size] 50)=wa at *;have HB1:=lh hb1;rw [hg8] at HN ⊢;have y0:=HN.out.cell 0;have y1:=HN.out.cell 1;have yl:=HN.out.lt;clear hb1 hc0 hc1;have HRS:=lh (uX (f:=(·.id)) HX.out HS.out.2.2);have HAS:=lh (kG HX.out HS.out.2.1);have HLST:=lh (sK (f:=fun v:Vess=>v.id) HX.out);rw [HP.out] at HRS
    go_wp2_with fail
    refine (dE x.id (p+1) 9999 wa).mono ?_;rintro e W ⟨rfl,rfl⟩
    cases hi:wiB x.id (p+1) 9999 with
    | false =>
     rw [hi] at HRS;clear hi
     go_wp2_with fail
     go_ret
     exact ⟨dG (wB (q6 HRS.out)).symm,Ly.out.1.trans (HB1.out.mono Ly.out.1.size)⟩
    | true =>
     rw [hi] at HRS;clear hi
     go_wp2_with fail
     refine (dE x.size 1 12 wa).mono ?_;rintro e W ⟨rfl,rfl⟩;have hvs:iB x=wiB x.size 1 12:=rfl;rw [hvs] at HAS;clear hvs
     cases hi:wiB x.size 1 12 with
     | false =>
      rw [hi] at HAS;clear hi
      go_wp2_with fail
      go_ret
      exact ⟨dG (q7 (uL HAS.out)).symm,Ly.out.1.trans (HB1.out.mono Ly.out.1.size)⟩
     | true =>
      rw [hi] at HAS;clear hi
      go_wp2_with fail
      go_roundw
      case rel=>exact ⟨k+1,by omega,by go_num,by rw [HLST.out],lh ⟨Ly.out.below HB1.out,HAS.out,HRS.out⟩⟩
      case measure=>simp [intOf];omega
   ·obtain rfl:nv=k:=by omega
    have hz:m.vessels.all iB=true:=by
     have:=HS.out.2.1
     rwa [List.take_of_length_le (by have:=HLV.out;omega)] at this
    have hr:risB 0 (m.vessels.map (·.id))=true:=by
     have:=HS.out.2.2
     rwa [List.take_of_length_le (by have:=HLV.out;omega)] at this
    have HZ:=lh hz;have HRI:=lh hr;clear hz hr
    go_wp2_with fail
    clear x1 x3 xl HP hl0 hl1
    obtain ⟨wo,rfl⟩:∃ wo,wo=wr:=⟨_,rfl⟩
    go_loopw [3,57] (fun v3 i wr=>∃ k:Nat,k≤nt∧i = .int .i64 k∧v3 = .int .i64 (((m.tastes.take k).map (·.num)).getLast?.getD 0)∧Hid (Lay w wr [(w.heap.size,26,#[.int .i64 m.fountains,.slice Av nv cv,.slice Aa na ca,.slice At nt ct])]∧(m.tastes.take k).all (dX m)=true∧risB 0 ((m.tastes.take k).map (·.num))=true))
     (fun _ i _=>nt - (intOf i).toNat)
    case atStart=>exact ⟨0,by omega,rfl,rfl,lh ⟨Ly.out,rfl,rfl⟩⟩
    case round =>
     clear Ly HS;obtain ⟨k,hk2,rfl,rfl,HS⟩:=hrel;obtain ⟨hl0,hl1⟩:=lW HS.out.2.2
     obtain ⟨p,hp⟩:∃ p,((m.tastes.take k).map (·.num)).getLast?.getD 0=p:=⟨_,rfl⟩
     have Ly:=lh HS.out.1;rw [hp] at hl0 hl1 ⊢;have HP:=lh hp;clear hp;obtain ⟨x0,x1,x2,x3⟩:=lyc4 Ly 0 rfl;have xl:=Ly.out.lt 0 rfl;by_cases hlt:k<nt
     ·clear x0 x1 x2 x3 xl
      obtain ⟨b,off,x,rfl,hbB,hx,hc0,hc1,hc2,hc3,hc4,hc5⟩:=(HM.out.at_.below Ly.out.1).tast hlt;have HX:=lh hx;clear hx
      go_upto_region 15 with fail
      have hb1:Below wr.heap.size wr (wr.alloc (.cells #[.int .i64 x.num,.int .i64 x.vessel,.int .i64 x.after,.int .i64 x.fountain,.int .i64 x.lo,.int .i64 x.hi] 69)):=b_R.alloc n_R _;have HN:=lh (Blk.new wr 69 #[.int .i64 x.num,.int .i64 x.vessel,.int .i64 x.after,.int .i64 x.fountain,.int .i64 x.lo,.int .i64 x.hi])
      obtain ⟨g8,hg8⟩:∃ g,wr.heap.size=g:=⟨_,rfl⟩
      generalize wr.alloc (.cells #[.int .i64 x.num,.int .i64 x.vessel,.int .i64 x.after,.int .i64 x.fountain,.int .i64 x.lo,.int .i64 x.hi] 69)=wa at *;have HB1:=lh hb1;rw [hg8] at HN ⊢;have y0:=HN.out.cell 0;have y1:=HN.out.cell 1;have yl:=HN.out.lt;have HLA1:=lh (Ly.out.below HB1.out);have x0:=(HLA1.out.blk 0 rfl).cell 0;have x1:=(HLA1.out.blk 0 rfl).cell 1;have x2:=(HLA1.out.blk 0 rfl).cell 2;have x3:=(HLA1.out.blk 0 rfl).cell 3;have xl:=HLA1.out.lt 0 rfl;clear hb1 hc0 hc1 hc2 hc3 hc4 hc5;have HRS:=lh (uX (f:=(·.num)) HX.out HS.out.2.2);have HAS:=lh (kG HX.out HS.out.2.1);have HLST:=lh (sK (f:=fun v:Tast=>v.num) HX.out);rw [HP.out] at HRS
      go_wp2_with fail
      refine (dE x.num (p+1) 9999 wa).mono ?_;rintro e W ⟨rfl,rfl⟩
      cases hi:wiB x.num (p+1) 9999 with
      | false =>
       rw [hi] at HRS;clear hi
       go_wp2_with fail
       go_ret
       exact ⟨dG (uV (q6 HRS.out)).symm,Ly.out.1.trans (HB1.out.mono Ly.out.1.size)⟩
      | true =>
       rw [hi] at HRS;clear hi
       go_wp2_with fail
       refine (ka Av nv cv Aa na ca (some ⟨b,off,none⟩) nt ct m x.vessel wa (HM.out.up HLA1.out.1)).mono ?_;rintro e W ⟨rfl,hb⟩;have HB:=lh (HB1.out.trans (hb.mono HB1.out.size));have HN2:=lh (HN.out.below hb HN.out.lt);have HLA2:=lh (HLA1.out.below hb);clear hb y0 y1 yl x0 x1 x2 x3 xl HN HLA1 HB1;have y2:=HN2.out.cell 2;have y3:=HN2.out.cell 3;have y4:=HN2.out.cell 4;have y5:=HN2.out.cell 5;have yl:=HN2.out.lt;have x0:=(HLA2.out.blk 0 rfl).cell 0;have x2:=(HLA2.out.blk 0 rfl).cell 2;have xl:=HLA2.out.lt 0 rfl;by_cases hj:idxV m.vessels x.vessel<0
       ·have HTB:Hid (dX m x=false):=lh (by unfold dX;exact decide_eq_false (by omega))
        go_wp2_with fail
        go_ret
        exact ⟨dG (fK (gv HX.out HTB.out)).symm,Ly.out.1.trans (HB.out.mono Ly.out.1.size)⟩
       ·have hj2:0≤idxV m.vessels x.vessel:=by omega
        go_wp2_with fail
        refine (dE x.after 0 na W).mono ?_;rintro e W2 ⟨rfl,rfl⟩
        cases hi:wiB x.after 0 na with
        | false =>
         have HI:=lh (of_decide_eq_false hi);have HTB:Hid (dX m x=false):=lh (by unfold dX;have:=HLA.out;have:=HI.out;exact decide_eq_false (by omega));clear hi
         go_wp2_with fail
         go_ret
         exact ⟨dG (fK (gv HX.out HTB.out)).symm,Ly.out.1.trans (HB.out.mono Ly.out.1.size)⟩
        | true =>
         have HI:=lh (of_decide_eq_true hi);clear hi
         go_wp2_with fail
         refine (dE x.fountain 1 m.fountains W).mono ?_;rintro e W2 ⟨rfl,rfl⟩
         cases hi:wiB x.fountain 1 m.fountains with
         | false =>
          have HJ:=lh (of_decide_eq_false hi);have HTB:Hid (dX m x=false):=lh (by unfold dX;have:=HJ.out;exact decide_eq_false (by omega));clear hi
          go_wp2_with fail
          go_ret
          exact ⟨dG (fK (gv HX.out HTB.out)).symm,Ly.out.1.trans (HB.out.mono Ly.out.1.size)⟩
         | true =>
          have HJ:=lh (of_decide_eq_true hi);clear hi
          go_wp2_with fail
          refine (dE x.lo 0 x.hi W).mono ?_;rintro e W2 ⟨rfl,rfl⟩
          cases hi:wiB x.lo 0 x.hi with
          | false =>
           have HK:=lh (of_decide_eq_false hi);have HTB:Hid (dX m x=false):=lh (by unfold dX;have:=HK.out;exact decide_eq_false (by omega));clear hi
           go_wp2_with fail
           go_ret
           exact ⟨dG (fK (gv HX.out HTB.out)).symm,Ly.out.1.trans (HB.out.mono Ly.out.1.size)⟩
          | true =>
           have HK:=lh (of_decide_eq_true hi);have HTB:Hid (dX m x=true):=lh (by unfold dX;have:=HK.out;have:=HJ.out;have:=HI.out;have:=HLA.out;exact decide_eq_true (by omega));clear hi x0 x2 xl;have y0:=HN2.out.cell 0;rw [HTB.out] at HAS
           go_wp2_with fail
           go_roundw
           case rel=>exact ⟨k+1,by omega,by go_num,by rw [HLST.out],lh ⟨HLA2.out,HAS.out,HRS.out⟩⟩
           case measure=>simp [intOf];omega
     ·obtain rfl:nt=k:=by omega
      have hz:m.tastes.all (dX m)=true:=by
       have:=HS.out.2.1
       rwa [List.take_of_length_le (by have:=HLT.out;omega)] at this
      have hr:risB 0 (m.tastes.map (·.num))=true:=by
       have:=HS.out.2.2
       rwa [List.take_of_length_le (by have:=HLT.out;omega)] at this
      have HZT:=lh hz;have HRN:=lh hr;clear hz hr
      go_wp2_with fail
      refine (callsIn_wide.1 (r5 Av nv cv Aa na ca At nt ct m wr (HM.out.up Ly.out.1) (mo HZ.out) hn4 hna)).mono ?_;rintro e W ⟨hb,A4,n4,c4,bb,L,rfl,hd⟩;have HB:=lh (Ly.out.1.trans (hb.mono Ly.out.1.size));have HD:=lh hd;clear hb hd x0 x1 x2 x3 xl
      go_wp2_with fail
      go_ret
      refine ⟨dG ?_,HB.out⟩
      rcases HD.out with ⟨rfl,h1,_⟩ | ⟨rfl,_,h1⟩
      ·rw [pG HG.out HZ.out HZT.out h1,HRI.out,HRN.out];rfl
      ·exact (pW h1).symm
 ·have HB:=lh (mX hG)
  cases hi:wiB m.fountains 1 4 with
  | false =>
   clear hi
   go_wp2_with fail
   go_ret
   exact ⟨dG HB.out.symm,Ly.out.1⟩
  | true =>
   have h2:¬ (nv≤4∧na≤12∧nt≤8):=by
    have:=of_decide_eq_true hi;rw [← HLV.out,← HLA.out,← HLT.out];exact fun h2=>hG ⟨this,h2⟩
   clear hi hG;by_cases q1:nv≤4
   ·have d1:(nv:Int)≤4:=by omega
    by_cases q2:na≤12
    ·have d2:(na:Int)≤12:=by omega
     have d3:¬ (nt:Int)≤8:=by omega
     clear h2
     go_wp2_with fail
     go_ret
     exact ⟨dG HB.out.symm,Ly.out.1⟩
    ·have d2:¬ (na:Int)≤12:=by omega
     clear h2
     go_wp2_with fail
     go_ret
     exact ⟨dG HB.out.symm,Ly.out.1⟩
   ·have d1:¬ (nv:Int)≤4:=by omega
    clear h2
    go_wp2_with fail
    go_ret
    exact ⟨dG HB.out.symm,Ly.out.1⟩
end
section
open Go.RowKit
theorem nU {α:Type}{vals:α→List Value}{sz:Nat}(hk:∀ x,(vals x).length=sz):∀ (l:List α) (k:Nat),(l.take k).flatMap vals=(l.flatMap vals).take (k * sz)
 | [],k=>by simp
 | x::l,0=>by simp
 | x::l,k+1=>by
  rw [List.take_succ_cons,List.flatMap_cons,List.flatMap_cons,nU hk l k,List.take_append,hk,List.take_of_length_le (l:=vals x) (by rw [hk,Nat.succ_mul];exact Nat.le_add_left _ _),Nat.succ_mul,Nat.add_sub_cancel]
theorem Own.short {w:World}{base n cap size k:Nat}{e:TypeId}{A:Option Addr}{xs:List Value}(h:Own w base e size A n cap xs)(hk:k≤n)(hA:A≠none∨k=0∧n=0):Own w base e size A k cap (xs.take (k * size)):=by
 rcases h.form with ⟨rfl,rfl,rfl,rfl⟩ | ⟨g,cur,rfl,hb,hg,h1,h2,h3,h4,h5⟩
 ·obtain rfl:k=0:=by omega
  simpa using Own.none_ w base e size
 ·have hle:k * size≤n * size:=Nat.mul_le_mul_right _ hk
  refine ⟨by rw [List.length_take,h5,Nat.min_eq_left hle],.inr ⟨g,cap,cur,rfl,hb,hg,Nat.le_trans hk h1,h2,h3,?_⟩⟩;rw [← h4,List.take_take,Nat.min_eq_left hle]
theorem dM.fewer {W:World}{base:Nat}{A1 A2 A3:Option Addr}{nv c1 k c2 nt c3:Nat}{m:Mix}(h:dM W base A1 nv c1 A2 (k+1) c2 A3 nt c3 m)(hl:m.acts.length=k+1):dM W base A1 nv c1 A2 k c2 A3 nt c3 (g7 m (m.acts.take (m.acts.length - 1))):=by
 refine ⟨h.v,?_,h.t,h.va,h.vt,h.at_⟩
 show Own W base _ 4 A2 k c2 ((m.acts.take (m.acts.length - 1)).flatMap MAct.vals)
 rw [hl,Nat.add_sub_cancel,nU jW];refine h.a.short (Nat.le_succ k) (.inl fun e=>?_)
 rcases h.a.form with ⟨_,h0,_⟩ | ⟨g,cur,e2,_⟩
 ·omega
 ·rw [e] at e2;cases e2
end
section
open Go.RowKit
section
variable {w W W':World} {base:Nat} {A1 A2 A3:Option Addr} {nv c1 na c2 nt c3:Nat} {m:Mix}
theorem eu.below (h:eu W base A1 nv c1 A2 na c2 A3 nt c3 m)(hb:Below W.heap.size W W'):eu W' base A1 nv c1 A2 na c2 A3 nt c3 m:=⟨h.v.below hb n_R,h.a.below hb n_R,h.t.below hb n_R⟩
theorem eu.mono {b':Nat}(h:eu W base A1 nv c1 A2 na c2 A3 nt c3 m)(hb:b'≤base):eu W b' A1 nv c1 A2 na c2 A3 nt c3 m:=⟨h.v.mono hb,h.a.mono hb,h.t.mono hb⟩
theorem eu.off {g:Nat}(h:eu W base A1 nv c1 A2 na c2 A3 nt c3 m)(hg:W.grownBy W' (some g))(hlt:g<base):eu W' base A1 nv c1 A2 na c2 A3 nt c3 m:=⟨jM h.v hg hlt,jM h.a hg hlt,jM h.t hg hlt⟩
theorem eu.s (h:eu W base A1 nv c1 A2 na c2 A3 nt c3 m)(hv:nv≤1000)(ha:na≤1000)(ht:nt≤1000):MixS W A1 nv A2 na A3 nt m:=⟨⟨h.v.reads n_R,h.a.reads n_R,h.t.reads n_R⟩,hv,ha,ht⟩
theorem eu.acts {A9:Option Addr}{n9 c9 b9:Nat}{l:List MAct}(h:eu W base A1 nv c1 A2 na c2 A3 nt c3 m)(hb:Below W.heap.size W W')(ho:Own W' b9 62 4 A9 n9 c9 (l.flatMap MAct.vals))(h9:base≤b9):eu W' base A1 nv c1 A9 n9 c9 A3 nt c3 (g7 m l):=⟨(h.below hb).v,ho.mono h9,(h.below hb).t⟩
theorem eu.tasts {A9:Option Addr}{n9 c9 b9:Nat}{l:List Tast}(h:eu W base A1 nv c1 A2 na c2 A3 nt c3 m)(hb:Below W.heap.size W W')(ho:Own W' b9 69 6 A9 n9 c9 (l.flatMap Tast.vals))(h9:base≤b9):eu W' base A1 nv c1 A2 na c2 A9 n9 c9 (dO m l):=⟨(h.below hb).v,(h.below hb).a,ho.mono h9⟩
theorem mB {e t:TypeId}{size n cap g:Nat}{A:Option Addr}{xs:List Value}{cs:Array Value}(h:Own W base e size A n cap xs)(hB:Blk W g t cs)(ht:t≠e)(hg:W.grownBy W' (some g)):Own W' base e size A n cap xs:=by
 refine h.grown hg (fun a ha e'=>?_)
 rcases h.form with ⟨h0,_⟩ | ⟨g',cur,h1,_,hb,_⟩
 ·rw [h0] at ha;cases ha
 ·rw [h1] at ha
  cases ha;exact lc hB hb ht (Option.some.inj e').symm
theorem eu.offB {g:Nat}{cs:Array Value}(h:eu W base A1 nv c1 A2 na c2 A3 nt c3 m)(hB:Blk W g 26 cs)(hg:W.grownBy W' (some g)):eu W' base A1 nv c1 A2 na c2 A3 nt c3 m:=⟨mB h.v hB (by decide) hg,mB h.a hB (by decide) hg,mB h.t hB (by decide) hg⟩
theorem MixS.nothing (W:World):MixS W none 0 none 0 none 0 eG:=⟨⟨cY.none_,cY.none_,cY.none_⟩,by omega,by omega,by omega⟩
end
end
section
open Go.RowKit
theorem o8 {nv na nt:Nat}(h:fJ nv na nt=false):nv≤8∧na≤24∧nt≤16:=by
 unfold fJ at h;simp at h;omega
def t9 (w:World)(e:Ending)(w':World):Prop:=e = .returned (.bool true)∧Below w.heap.size w w'
end
section
open Go.RowKit Go.Shelf
attribute [local go_sem] Oper.semAt_some
theorem xk (d:Nat)(a b:Int)(w:World):(Op.equalIn (d+1) 3 (.int .i64 a) (.int .i64 b)).run Tryz.prog w = .ok (a==b) w:=by
 simp [Op.equalIn,run_underlying Tryz.underlying3]
theorem dP (a0 a1:Int)(w:World):(Op.equalIn 10000 54 (.agg #[.int .i64 a0,.int .i64 a1]) (.agg #[.int .i64 a0,.int .i64 a1])).run Tryz.prog w = .ok true w:=by
 rw [Op.equalIn];simp [go_sem,run_underlying Tryz.underlying54,xk,Std.Legacy.Range.forIn_eq_forIn_range',part]
theorem ub (w:World):CallsIn Fence.wide 9 Tryz.prog 22 #[] w (t9 w):=by
 refine callsIn_of_wp Tryz.func22 rfl trivial ?_ rfl;simp only [Tryz.ntmps22,es,Nat.reduceSub];gi_upto_region 1 with fail
 have Ly:=lh (Lay.nil w);gi_wp2;refine ⟨trivial,(c_W (fa none 0 0 [] w (cY.none_ (w:=w) (B:=w.heap.size)) (by decide))).mono ?_⟩;rintro e W1 ⟨g1,g2,rfl,hg1,hg2,hms,hb⟩;replace Ly:=lyb Ly hb;clear hb;have HMS:=lh hms;clear hms hg1 hg2;gi_wp2;refine ⟨trivial,(c_W (p9 (some ⟨g1,0,none⟩) 3 3 (some ⟨g2,0,none⟩) 5 5 none 0 0 (dS []) 2 3 W1 HMS.out)).mono ?_⟩;rintro e W2 ⟨n,en,rfl,hma,hb⟩;replace Ly:=lyb Ly hb;clear hb;obtain ⟨rfl,rfl⟩:=eL.same hma al_holds;clear hma;clear HMS;gi_wp2;refine ⟨trivial,(c_W (fa none 0 0 [] W2 (cY.none_ (w:=W2) (B:=W2.heap.size)) (by decide))).mono ?_⟩;rintro e W3 ⟨g1,g2,rfl,hg1,hg2,hms,hb⟩;replace Ly:=lyb Ly hb;clear hb;have HMS:=lh hms;clear hms hg1 hg2;gi_wp2;refine ⟨trivial,(c_W (pz (some ⟨g1,0,none⟩) 3 3 (some ⟨g2,0,none⟩) 5 5 none 0 0 (dS []) 3 4 1 W3 HMS.out)).mono ?_⟩;rintro e W4 ⟨lo,hi,ea,rfl,hma,hb⟩;replace Ly:=lyb Ly hb;clear hb;obtain ⟨e1,rfl⟩:=OfIs.same hma al_of
 obtain ⟨rfl,rfl⟩:lo=0∧hi=2:=⟨congrArg Prod.fst e1,congrArg Prod.snd e1⟩
 clear hma e1;clear HMS;gi_upto_region 3 with fail
 obtain ⟨V5,hV⟩:∃ V,(W4.alloc (.cells #[.int .i64 0,.int .i64 2] 54))=V:=⟨_,rfl⟩
 rw [hV];have hb:=dq hV;have hnew:=dt hV;have hge:=Ly.out.bel.size;replace Ly:=lyb Ly hb;replace Ly:=lh (Ly.out.add hge hnew);clear hnew hge hb hV
 obtain ⟨G6,hG⟩:∃ g,W4.heap.size=g:=⟨_,rfl⟩
 rw [hG] at Ly ⊢;clear hG;gi_wp2;refine ⟨trivial,(c_W (fa none 0 0 [] V5 (cY.none_ (w:=V5) (B:=V5.heap.size)) (by decide))).mono ?_⟩;rintro e W7 ⟨g1,g2,rfl,hg1,hg2,hms,hb⟩;replace Ly:=lyb Ly hb;clear hb;have HMS:=lh hms;clear hms hg1 hg2;gi_wp2;refine ⟨trivial,(c_W (s6 (some ⟨g1,0,none⟩) 3 3 (some ⟨g2,0,none⟩) 5 5 none 0 0 (dS []) 3 5 1 W7 HMS.out)).mono ?_⟩;rintro e W8 ⟨lo,hi,eb,rfl,hma,hb⟩;replace Ly:=lyb Ly hb;clear hb;obtain ⟨e1,rfl⟩:=OfIs.same hma vo
 obtain ⟨rfl,rfl⟩:lo=0∧hi=2:=⟨congrArg Prod.fst e1,congrArg Prod.snd e1⟩
 clear hma e1;rw [show jw (decide ((0:Int)<0)) (decide ((0:Int)<2))=1 from by decide];clear HMS;gi_wp2;refine ⟨trivial,(c_W (fa none 0 0 [] W8 (cY.none_ (w:=W8) (B:=W8.heap.size)) (by decide))).mono ?_⟩;rintro e W9 ⟨g1,g2,rfl,hg1,hg2,hms,hb⟩;replace Ly:=lyb Ly hb;clear hb;have HMS:=lh hms;clear hms hg1 hg2;gi_wp2;refine ⟨trivial,(c_W ((qA (some ⟨g1,0,none⟩) 3 3 (some ⟨g2,0,none⟩) 5 5 none 0 0 (dS []) 1 5 1 W9 HMS.out).mono fun _ _ h=>nY h)).mono ?_⟩;rintro e W10 ⟨kp,ep,rfl,hma,hb⟩;replace Ly:=lyb Ly hb;clear hb;obtain ⟨rfl,rfl⟩:=ji.same hma wL;clear hma HMS;gi_wp2;refine ⟨trivial,(c_W (fa none 0 0 [] W10 (cY.none_ (w:=W10) (B:=W10.heap.size)) (by decide))).mono ?_⟩;rintro e W11 ⟨g1,g2,rfl,hg1,hg2,hms,hb⟩;replace Ly:=lyb Ly hb;clear hb;have HMS:=lh hms;clear hms hg1 hg2;gi_wp2;refine ⟨trivial,(c_W (sZ (some ⟨g1,0,none⟩) 3 3 (some ⟨g2,0,none⟩) 5 5 none 0 0 (dS []) 5 1 W11 HMS.out)).mono ?_⟩;rintro e W12 ⟨lo,hi,ec,rfl,hma,hb⟩;replace Ly:=lyb Ly hb;clear hb;obtain ⟨e1,rfl⟩:=fg.same hma vL
 obtain ⟨rfl,rfl⟩:lo=0∧hi=1:=⟨congrArg Prod.fst e1,congrArg Prod.snd e1⟩
 clear hma e1;clear HMS;gi_upto_region 6 with fail
 obtain ⟨V13,hV⟩:∃ V,(W12.alloc (.cells #[.int .i64 0,.int .i64 1] 54))=V:=⟨_,rfl⟩
 rw [hV];have hb:=dq hV;have hnew:=dt hV;have hge:=Ly.out.bel.size;replace Ly:=lyb Ly hb;replace Ly:=lh (Ly.out.add hge hnew);clear hnew hge hb hV
 obtain ⟨G14,hG⟩:∃ g,W12.heap.size=g:=⟨_,rfl⟩
 rw [hG] at Ly ⊢;clear hG;gi_wp2;refine ⟨trivial,(c_W (fa none 0 0 [] V13 (cY.none_ (w:=V13) (B:=V13.heap.size)) (by decide))).mono ?_⟩;rintro e W15 ⟨g1,g2,rfl,hg1,hg2,hms,hb⟩;replace Ly:=lyb Ly hb;clear hb;have HMS:=lh hms;clear hms hg1 hg2;gi_wp2;refine ⟨trivial,(c_W (qr (some ⟨g1,0,none⟩) 3 3 (some ⟨g2,0,none⟩) 5 5 none 0 0 (dS []) 1 W15 HMS.out)).mono ?_⟩;rintro e W16 ⟨lo,hi,ed,rfl,hma,hb⟩;replace Ly:=lyb Ly hb;clear hb;obtain ⟨e1,rfl⟩:=fR.same hma wS
 obtain ⟨rfl,rfl⟩:lo=0∧hi=1:=⟨congrArg Prod.fst e1,congrArg Prod.snd e1⟩
 clear hma e1;clear HMS;gi_upto_region 7 with fail
 obtain ⟨V17,hV⟩:∃ V,(W16.alloc (.cells #[.int .i64 0,.int .i64 1] 54))=V:=⟨_,rfl⟩
 rw [hV];have hb:=dq hV;have hnew:=dt hV;have hge:=Ly.out.bel.size;replace Ly:=lyb Ly hb;replace Ly:=lh (Ly.out.add hge hnew);clear hnew hge hb hV
 obtain ⟨G18,hG⟩:∃ g,W16.heap.size=g:=⟨_,rfl⟩
 rw [hG] at Ly ⊢;clear hG;gi_wp2;refine ⟨trivial,(c_W (fa none 0 0 [] V17 (cY.none_ (w:=V17) (B:=V17.heap.size)) (by decide))).mono ?_⟩;rintro e W19 ⟨g1,g2,rfl,hg1,hg2,hms,hb⟩;replace Ly:=lyb Ly hb;clear hb;have HMS:=lh hms;clear hms hg1 hg2;gi_wp2;refine ⟨trivial,(c_W (xT (some ⟨g1,0,none⟩) 3 3 (some ⟨g2,0,none⟩) 5 5 none 0 0 (dS []) 3 5 1 2 W19 HMS.out ⟨by decide,by decide⟩)).mono ?_⟩;rintro e W20 ⟨mb,me,rfl,hma,hb⟩;replace Ly:=lyb Ly hb;clear hb;obtain ⟨rfl,rfl⟩:=mO.same hma xO;clear hma;clear HMS;gi_wp2;refine ⟨trivial,(c_W (fa none 0 0 [] W20 (cY.none_ (w:=W20) (B:=W20.heap.size)) (by decide))).mono ?_⟩;rintro e W21 ⟨g1,g2,rfl,hg1,hg2,hms,hb⟩;replace Ly:=lyb Ly hb;clear hb;have HMS:=lh hms;clear hms hg1 hg2;gi_wp2;refine ⟨trivial,(c_W (wM (some ⟨g1,0,none⟩) 3 3 (some ⟨g2,0,none⟩) 5 5 none 0 0 (dS []) 3 5 1 W21 HMS.out ⟨by decide,by decide⟩)).mono ?_⟩;rintro e W22 ⟨pl,pA,pn,pc,pe,rfl,hma,hpi,hp13,hb,hpx⟩;replace Ly:=lyb Ly hb;clear hb;obtain ⟨rfl,rfl⟩:=kd.same hma xb;have HIP:=lh hpi;have HIP9:=lh hp13;clear hma hpi hp13 hpx;clear HMS;gi_wp2;refine ⟨trivial,(c_W (fa none 0 0 [] W22 (cY.none_ (w:=W22) (B:=W22.heap.size)) (by decide))).mono ?_⟩;rintro e W23 ⟨g1,g2,rfl,hg1,hg2,hms,hb⟩;replace Ly:=lyb Ly hb;replace HIP:=lh ((HIP.out.below hb).more hb.size);clear hb;have HMS:=lh hms;clear hms hg1 hg2;gi_wp2;refine ⟨trivial,(c_W (ur (some ⟨g1,0,none⟩) 3 3 (some ⟨g2,0,none⟩) 5 5 none 0 0 (dS []) 3 5 1 W23 HMS.out ⟨by decide,by decide⟩)).mono ?_⟩;rintro e W24 ⟨wl,wA,wn,wc,we,rfl,hma,hpi,hp13,hb,hpx⟩;replace Ly:=lyb Ly hb;replace HIP:=lh ((HIP.out.below hb).more hb.size);clear hb;obtain ⟨rfl,rfl⟩:=iW.same hma vh;have HIW:=lh hpi;have HIW9:=lh hp13;clear hma hpi hp13 hpx;clear HMS;gi_upto_region 10 with fail
 refine wpIn_flow_old [([true,true,true,true,true,true,true,true,true,true,true,true],12),([false,false,false,false,false,false,false,false,false,false,false,false,false,true,true,true,true,true,true,true,true,true,true,true,true,true,true,true,true,true,true,true,true,true,true,true,true],37),([false,false,false,false,false,false,false,false,false,false,false,false,false,false,false,false,false,false,false,false,false,false,false,false,false,false,false,false,false,false,false,false,false,false,false,false,false,false,true,true,true,true,true,true,true,true],46),([false,false,false,false,false,false,false,false,false,false,false,false,false,false,false,false,false,false,false,false,false,false,false,false,false,false,false,false,false,false,false,false,false,false,false,false,false,false,false,false,false,false,false,false,false,false,false,true,true,true,true,true,true,true,true,true,true,true,true,true,true,true,true],63),([],64),([false,false,false,false,false,false,false,false,false,false,false,false,false,false,false,false,false,false,false,false,false,false,false,false,false,false,false,false,false,false,false,false,false,false,false,false,false,false,false,false,false,false,false,false,false,false,false,false,false,false,false,false,false,false,false,false,false,false,false,false,false,false,false,false,false,true,true,true,true,true,true,true,true],73),([],74)] [false,false,false,false,false,false,false,false,false,false,false,false,false,false,false,false,false,false,false,false,false,false,false,false,false,false,false,false,false,false,false,false,false,false,false,false,false,false,false,false,false,false,false,false,false,false,false,false,false,false,false,false,false,false,false,false,false,false,false,false,false,false,false,false,false,false,false,false,false,false,false,false,false,false,false,true,true] [] (by kernel_rfl) (by kernel_rfl) (by kernel_rfl) (av b_R 1) ?_;refine wpFlow_cons (A:=?AF1) rfl ?hq1 ?_
 case hq1 =>
  rintro σ hσ of hof hcl;have HOF:=lh hof;clear hof hcl;obtain ⟨c0_,c1_⟩:=lyz2 Ly HOF 0 rfl;obtain ⟨c2_,c3_⟩:=lyz2 Ly HOF 1 rfl;obtain ⟨c4_,c5_⟩:=lyz2 Ly HOF 2 rfl;have hfw:=hfT;have hs02:∀ z:World,(Op.equalIn 10000 54 (.agg #[.int .i64 0,.int .i64 2]) (.agg #[.int .i64 0,.int .i64 2])).run Tryz.prog z = .ok true z:=fun z=>dP 0 2 z;have hs01:∀ z:World,(Op.equalIn 10000 54 (.agg #[.int .i64 0,.int .i64 1]) (.agg #[.int .i64 0,.int .i64 1])).run Tryz.prog z = .ok true z:=fun z=>dP 0 1 z;simp only [List.append_eq,List.cons_append,List.nil_append,bu]
  repeat (gi_big_quiet_step (fail))
  refine wpQuietIn_nil ?_;exact rfl
 intro W25 hW;replace Ly:=lyb Ly hW;replace HIP:=lh ((HIP.out.below hW).more hW.size);replace HIW:=lh ((HIW.out.below hW).more hW.size);clear hW;gi_wp2;refine ⟨trivial,(c_W (gT 0 2 W25)).mono ?_⟩;rintro e W26 ⟨rfl,hb⟩;replace Ly:=lyb Ly hb;replace HIP:=lh ((HIP.out.below hb).more hb.size);replace HIW:=lh ((HIW.out.below hb).more hb.size);gi_wp2;refine ⟨trivial,hb,?_⟩;clear hb;refine wpFlow_cons (A:=?AF2) rfl ?hq2 ?_
 case hq2 =>
  rintro σ hσ of hof hcl;have HOF:=lh hof;clear hof hcl;obtain ⟨c0_,c1_⟩:=lyz2 Ly HOF 0 rfl;obtain ⟨c2_,c3_⟩:=lyz2 Ly HOF 1 rfl;obtain ⟨c4_,c5_⟩:=lyz2 Ly HOF 2 rfl;have hfw:=hfT;have hs02:∀ z:World,(Op.equalIn 10000 54 (.agg #[.int .i64 0,.int .i64 2]) (.agg #[.int .i64 0,.int .i64 2])).run Tryz.prog z = .ok true z:=fun z=>dP 0 2 z;have hs01:∀ z:World,(Op.equalIn 10000 54 (.agg #[.int .i64 0,.int .i64 1]) (.agg #[.int .i64 0,.int .i64 1])).run Tryz.prog z = .ok true z:=fun z=>dP 0 1 z;simp only [List.append_eq,List.cons_append,List.nil_append,bu]
  repeat (gi_big_quiet_step (fail))
  refine wpQuietIn_nil ?_;exact rfl
 intro W27 hW;replace Ly:=lyb Ly hW;replace HIP:=lh ((HIP.out.below hW).more hW.size);replace HIW:=lh ((HIW.out.below hW).more hW.size);clear hW;gi_wp2;refine ⟨trivial,(c_W (gT 0 1 W27)).mono ?_⟩;rintro e W28 ⟨rfl,hb⟩;replace Ly:=lyb Ly hb;replace HIP:=lh ((HIP.out.below hb).more hb.size);replace HIW:=lh ((HIW.out.below hb).more hb.size);gi_wp2;refine ⟨trivial,hb,?_⟩;clear hb;refine wpFlow_cons (A:=?AF3) rfl ?hq3 ?_
 case hq3 =>
  rintro σ hσ of hof hcl;have HOF:=lh hof;clear hof hcl;obtain ⟨c0_,c1_⟩:=lyz2 Ly HOF 0 rfl;obtain ⟨c2_,c3_⟩:=lyz2 Ly HOF 1 rfl;obtain ⟨c4_,c5_⟩:=lyz2 Ly HOF 2 rfl;have hfw:=hfT;have hs02:∀ z:World,(Op.equalIn 10000 54 (.agg #[.int .i64 0,.int .i64 2]) (.agg #[.int .i64 0,.int .i64 2])).run Tryz.prog z = .ok true z:=fun z=>dP 0 2 z;have hs01:∀ z:World,(Op.equalIn 10000 54 (.agg #[.int .i64 0,.int .i64 1]) (.agg #[.int .i64 0,.int .i64 1])).run Tryz.prog z = .ok true z:=fun z=>dP 0 1 z;simp only [List.append_eq,List.cons_append,List.nil_append,bu]
  repeat (gi_big_quiet_step (fail))
  refine wpQuietIn_nil ?_;exact rfl
 intro W29 hW;replace Ly:=lyb Ly hW;replace HIP:=lh ((HIP.out.below hW).more hW.size);replace HIW:=lh ((HIW.out.below hW).more hW.size);clear hW;gi_wp2;refine ⟨trivial,(c_W (gT 0 1 W29)).mono ?_⟩;rintro e W30 ⟨rfl,hb⟩;replace Ly:=lyb Ly hb;replace HIP:=lh ((HIP.out.below hb).more hb.size);replace HIW:=lh ((HIW.out.below hb).more hb.size);gi_wp2;refine ⟨trivial,hb,?_⟩;clear hb;refine wpFlow_cons (A:=?AF4) rfl ?hq4 ?_
 case hq4 =>
  rintro σ hσ of hof hcl;have HOF:=lh hof;clear hof hcl;obtain ⟨c0_,c1_⟩:=lyz2 Ly HOF 0 rfl;obtain ⟨c2_,c3_⟩:=lyz2 Ly HOF 1 rfl;obtain ⟨c4_,c5_⟩:=lyz2 Ly HOF 2 rfl;have hfw:=hfT;have hs02:∀ z:World,(Op.equalIn 10000 54 (.agg #[.int .i64 0,.int .i64 2]) (.agg #[.int .i64 0,.int .i64 2])).run Tryz.prog z = .ok true z:=fun z=>dP 0 2 z;have hs01:∀ z:World,(Op.equalIn 10000 54 (.agg #[.int .i64 0,.int .i64 1]) (.agg #[.int .i64 0,.int .i64 1])).run Tryz.prog z = .ok true z:=fun z=>dP 0 1 z;simp only [List.append_eq,List.cons_append,List.nil_append,bu]
  repeat (gi_big_quiet_step (fail))
  refine wpQuietIn_nil ?_;exact rfl
 intro W31 hW;replace Ly:=lyb Ly hW;replace HIP:=lh ((HIP.out.below hW).more hW.size);replace HIW:=lh ((HIW.out.below hW).more hW.size);clear hW;gi_wp2;refine ⟨trivial,b_R.alloc n_R _,?_⟩;have hb:Below W31.heap.size W31 (W31.alloc (.cells #[.int .i64 1,.int .i64 3,.int .i64 4] 3)):=b_R.alloc n_R _;replace Ly:=lyb Ly hb;replace HIP:=lh ((HIP.out.below hb).more hb.size);replace HIW:=lh ((HIW.out.below hb).more hb.size);have HPl:=lh (show cW (W31.alloc (.cells #[.int .i64 1,.int .i64 3,.int .i64 4] 3)) (W31.alloc (.cells #[.int .i64 1,.int .i64 3,.int .i64 4] 3)).heap.size (some ⟨W31.heap.size,0,none⟩) 3 [1,3,4] from cW.new W31 3 [1,3,4] _ (by simp))
 obtain ⟨P33,hP⟩:∃ P,W31.heap.size=P:=⟨_,rfl⟩
 rw [hP] at HPl ⊢;generalize (W31.alloc (.cells #[.int .i64 1,.int .i64 3,.int .i64 4] 3))=V32 at *;clear hb hP;refine wpFlow_cons rfl Quietly.none ?_;intro W34 hW;replace Ly:=lyb Ly hW;replace HIP:=lh ((HIP.out.below hW).more hW.size);replace HIW:=lh ((HIW.out.below hW).more hW.size);replace HPl:=lh ((HPl.out.below hW).more hW.size);clear hW;gi_wp2;refine ⟨trivial,(callsIn_wide.2 (iY pA pn pc [1,3,4] (some ⟨P33,0,none⟩) 3 3 [1,3,4] W34 (by have:=HIP9.out;unfold maxLen;omega) (by decide) HIP.out HPl.out)).mono ?_⟩;rintro e W35 ⟨rfl,hb⟩;replace Ly:=lyb Ly hb;replace HIP:=lh ((HIP.out.below hb).more hb.size);replace HIW:=lh ((HIW.out.below hb).more hb.size);replace HPl:=lh ((HPl.out.below hb).more hb.size);rw [show jm [1,3,4] [1,3,4]=true from by decide];gi_wp2;refine ⟨trivial,hb,?_⟩;clear hb;clear HPl;refine wpFlow_cons (A:=?AF5) rfl ?hq5 ?_
 case hq5 =>
  rintro σ hσ of hof hcl;have HOF:=lh hof;clear hof hcl;obtain ⟨c0_,c1_⟩:=lyz2 Ly HOF 0 rfl;obtain ⟨c2_,c3_⟩:=lyz2 Ly HOF 1 rfl;obtain ⟨c4_,c5_⟩:=lyz2 Ly HOF 2 rfl;have hfw:=hfT;have hs02:∀ z:World,(Op.equalIn 10000 54 (.agg #[.int .i64 0,.int .i64 2]) (.agg #[.int .i64 0,.int .i64 2])).run Tryz.prog z = .ok true z:=fun z=>dP 0 2 z;have hs01:∀ z:World,(Op.equalIn 10000 54 (.agg #[.int .i64 0,.int .i64 1]) (.agg #[.int .i64 0,.int .i64 1])).run Tryz.prog z = .ok true z:=fun z=>dP 0 1 z;simp only [List.append_eq,List.cons_append,List.nil_append,bu]
  repeat (gi_big_quiet_step (fail))
  refine wpQuietIn_nil ?_;exact rfl
 intro W36 hW;replace Ly:=lyb Ly hW;replace HIP:=lh ((HIP.out.below hW).more hW.size);replace HIW:=lh ((HIW.out.below hW).more hW.size);clear hW;gi_wp2;refine ⟨trivial,b_R.alloc n_R _,?_⟩;have hb:Below W36.heap.size W36 (W36.alloc (.cells #[.int .i64 1] 3)):=b_R.alloc n_R _;replace Ly:=lyb Ly hb;replace HIP:=lh ((HIP.out.below hb).more hb.size);replace HIW:=lh ((HIW.out.below hb).more hb.size);have HPl:=lh (show cW (W36.alloc (.cells #[.int .i64 1] 3)) (W36.alloc (.cells #[.int .i64 1] 3)).heap.size (some ⟨W36.heap.size,0,none⟩) 1 [1] from cW.new W36 3 [1] _ (by simp))
 obtain ⟨P38,hP⟩:∃ P,W36.heap.size=P:=⟨_,rfl⟩
 rw [hP] at HPl ⊢;generalize (W36.alloc (.cells #[.int .i64 1] 3))=V37 at *;clear hb hP;refine wpFlow_cons rfl Quietly.none ?_;intro W39 hW;replace Ly:=lyb Ly hW;replace HIP:=lh ((HIP.out.below hW).more hW.size);replace HIW:=lh ((HIW.out.below hW).more hW.size);replace HPl:=lh ((HPl.out.below hW).more hW.size);clear hW;gi_wp2;refine ⟨trivial,(callsIn_wide.2 (iY wA wn wc [1] (some ⟨P38,0,none⟩) 1 1 [1] W39 (by have:=HIW9.out;unfold maxLen;omega) (by decide) HIW.out HPl.out)).mono ?_⟩;rintro e W40 ⟨rfl,hb⟩;replace Ly:=lyb Ly hb;replace HIP:=lh ((HIP.out.below hb).more hb.size);replace HIW:=lh ((HIW.out.below hb).more hb.size);replace HPl:=lh ((HPl.out.below hb).more hb.size);rw [show jm [1] [1]=true from by decide];gi_wp2;refine ⟨trivial,hb,?_⟩;clear hb;clear HPl;refine wpFlow_nil (A:=?AF6) ?hq6 ?_
 case hq6 =>
  rintro σ hσ of hof hcl;have HOF:=lh hof;clear hof hcl;obtain ⟨c0_,c1_⟩:=lyz2 Ly HOF 0 rfl;obtain ⟨c2_,c3_⟩:=lyz2 Ly HOF 1 rfl;obtain ⟨c4_,c5_⟩:=lyz2 Ly HOF 2 rfl;have hfw:=hfT;have hs02:∀ z:World,(Op.equalIn 10000 54 (.agg #[.int .i64 0,.int .i64 2]) (.agg #[.int .i64 0,.int .i64 2])).run Tryz.prog z = .ok true z:=fun z=>dP 0 2 z;have hs01:∀ z:World,(Op.equalIn 10000 54 (.agg #[.int .i64 0,.int .i64 1]) (.agg #[.int .i64 0,.int .i64 1])).run Tryz.prog z = .ok true z:=fun z=>dP 0 1 z;simp only [List.append_eq,List.cons_append,List.nil_append,bu]
  repeat (gi_big_quiet_step (fail))
  refine wpQuietIn_nil ?_;exact rfl
 intro W41 hW;replace Ly:=lyb Ly hW;replace HIP:=lh ((HIP.out.below hW).more hW.size);replace HIW:=lh ((HIW.out.below hW).more hW.size);clear hW;simp only [List.append_eq,List.cons_append,List.nil_append,bu];refine cX ?_;gi_wp2;refine ⟨trivial,(c_W (fa none 0 0 [] W41 (cY.none_ (w:=W41) (B:=W41.heap.size)) (by decide))).mono ?_⟩;rintro e W42 ⟨g1,g2,rfl,hg1,hg2,hms,hb⟩;replace Ly:=lyb Ly hb;replace HIP:=lh ((HIP.out.below hb).more hb.size);replace HIW:=lh ((HIW.out.below hb).more hb.size);clear hb;have HMS:=lh hms;clear hms hg1 hg2;gi_wp2;refine ⟨trivial,(c_W (wN (some ⟨g1,0,none⟩) 3 3 (some ⟨g2,0,none⟩) 5 5 none 0 0 (dS []) 3 1 1 1 W42 HMS.out)).mono ?_⟩;rintro e W43 ⟨k,ee,rfl,hma,hb⟩;replace Ly:=lyb Ly hb;replace HIP:=lh ((HIP.out.below hb).more hb.size);replace HIW:=lh ((HIW.out.below hb).more hb.size);clear hb;obtain ⟨rfl,rfl⟩:=kN.same hma wC;clear hma;clear HMS;gi_wp2;refine ⟨trivial,(c_W (ov 1 2 4 1 2 2 W43)).mono ?_⟩;rintro e W44 ⟨rfl,hb⟩;replace Ly:=lyb Ly hb;replace HIP:=lh ((HIP.out.below hb).more hb.size);replace HIW:=lh ((HIW.out.below hb).more hb.size);clear hb;gi_wp2;have hb:Below W44.heap.size W44 (W44.alloc (.cells #[.int .i64 1,.int .i64 2,.int .i64 4,.int .i64 1,.int .i64 2,.int .i64 2] 69)):=b_R.alloc n_R _;have HTS:=lh (fG W44 69 (k:=6) (n:=1) [.int .i64 1,.int .i64 2,.int .i64 4,.int .i64 1,.int .i64 2,.int .i64 2] rfl);change Hid (cY (W44.alloc (.cells #[.int .i64 1,.int .i64 2,.int .i64 4,.int .i64 1,.int .i64 2,.int .i64 2] 69)) (W44.alloc (.cells #[.int .i64 1,.int .i64 2,.int .i64 4,.int .i64 1,.int .i64 2,.int .i64 2] 69)).heap.size 6 (some ⟨W44.heap.size,0,none⟩) 1 ([alT1].flatMap Tast.vals)) at HTS
 obtain ⟨V0,hV⟩:∃ V,(W44.alloc (.cells #[.int .i64 1,.int .i64 2,.int .i64 4,.int .i64 1,.int .i64 2,.int .i64 2] 69))=V:=⟨_,rfl⟩
 rw [hV] at hb HTS ⊢
 obtain ⟨gt,hgt⟩:∃ g,W44.heap.size=g:=⟨_,rfl⟩
 rw [hgt] at HTS ⊢;replace Ly:=lyb Ly hb;replace HIP:=lh ((HIP.out.below hb).more hb.size);replace HIW:=lh ((HIW.out.below hb).more hb.size);clear hb hV hgt;refine ⟨trivial,(c_W (fa (some ⟨gt,0,none⟩) 1 1 [alT1] V0 HTS.out (by decide))).mono ?_⟩;rintro e W45 ⟨g1,g2,rfl,hg1,hg2,hms,hb⟩;replace Ly:=lyb Ly hb;replace HIP:=lh ((HIP.out.below hb).more hb.size);replace HIW:=lh ((HIW.out.below hb).more hb.size);clear hb;have HMS:=lh hms;clear hms hg1 hg2 HTS;gi_wp2;refine ⟨trivial,(c_W (ov 2 3 5 1 1 2 W45)).mono ?_⟩;rintro e W46 ⟨rfl,hb⟩;replace Ly:=lyb Ly hb;replace HIP:=lh ((HIP.out.below hb).more hb.size);replace HIW:=lh ((HIW.out.below hb).more hb.size);replace HMS:=lh (HMS.out.up hb);clear hb;gi_wp2;refine ⟨trivial,(c_W (xW (some ⟨g1,0,none⟩) 3 3 (some ⟨g2,0,none⟩) 5 5 (some ⟨gt,0,none⟩) 1 1 (dS [alT1]) alT2 W46 HMS.out)).mono ?_⟩;rintro e W47 ⟨A1,n1,c1,A2,n2,c2,A3,n3,c3,rfl,hmo,hn3,hb⟩;replace Ly:=lyb Ly hb;replace HIP:=lh ((HIP.out.below hb).more hb.size);replace HIW:=lh ((HIW.out.below hb).more hb.size);replace HMS:=lh (HMS.out.up hb);clear hb;rw [xH] at hmo ⊢;have HMO:=lh hmo;have HN3:=lh (nW hmo (by kernel_rfl));clear hmo hn3;clear HMS;gi_upto_region 14 with fail
 obtain ⟨V48,hV⟩:∃ V,(W47.alloc (.cells #[.int .i64 (dS [alT1,alT2]).fountains,.slice A1 n1 c1,.slice A2 n2 c2,.slice A3 n3 c3] 26))=V:=⟨_,rfl⟩
 rw [hV];have hb:=dq hV;have hnew:=dt hV;have hge:=Ly.out.bel.size;replace Ly:=lyb Ly hb;replace HIP:=lh ((HIP.out.below hb).more hb.size);replace HIW:=lh ((HIW.out.below hb).more hb.size);replace HMO:=lh (HMO.out.below hb);replace Ly:=lh (Ly.out.add hge hnew);clear hnew hge hb hV
 obtain ⟨G49,hG⟩:∃ g,W47.heap.size=g:=⟨_,rfl⟩
 rw [hG] at Ly ⊢;clear hG;obtain ⟨x3_0,x3_1,x3_2,x3_3⟩:=lyc4 Ly 3 rfl;have l3_:=Ly.out.lt 3 rfl;gi_wp2;clear x3_0 x3_1 x3_2 x3_3 l3_;refine ⟨trivial,(c_W (sU A1 n1 c1 A2 n2 c2 A3 n3 c3 (dS [alT1,alT2]) V48 (HMO.out.s HN3.out.1 HN3.out.2.1 HN3.out.2.2.1))).mono ?_⟩;rintro e W50 ⟨rl,rA,rn,rc,re,rfl,hma,hpi,hp3,hb,hpx⟩;replace Ly:=lyb Ly hb;replace HIP:=lh ((HIP.out.below hb).more hb.size);replace HIW:=lh ((HIW.out.below hb).more hb.size);replace HMO:=lh (HMO.out.below hb);clear hb;obtain ⟨rfl,rfl⟩:=iM.same hma wm;have HIR:=lh hpi;have HIR9:=lh hp3;clear hma hpi hp3 hpx;gi_wp2;have hb1:Below W50.heap.size W50 (W50.alloc (.cells #[.int .i64 1] 3)):=b_R.alloc n_R _;have HP1:=cW.new W50 3 [1] (W50.alloc (.cells #[.int .i64 1] 3)).heap.size (by simp);refine ⟨trivial,(callsIn_wide.2 (iY rA rn rc [1] (some ⟨W50.heap.size,0,none⟩) 1 1 [1] _ (by have:=HIR9.out;unfold maxLen;omega) (by decide) ((HIR.out.below hb1).more hb1.size) HP1)).mono ?_⟩;rintro e W99 ⟨rfl,hb⟩;have hb9:=Ly.out.1.trans ((hb1.trans (hb.mono hb1.size)).mono Ly.out.1.size);clear hb hb1 HP1;rw [show jm [1] [1]=true from by decide];gi_wp2;refine bodyPost_ret (v:=.bool true) (by simp [results,Tryz.results22,go_sem]) rfl ?_;exact ⟨rfl,hb9⟩
end
section
theorem pZ {m:Mix}(h:dc m=true):(∀ v∈m.vessels,iB v=true)∧(∀ x∈m.tastes,dX m x=true)∧risB 0 (m.vessels.map (·.id))=true∧risB 0 (m.tastes.map (·.num))=true:=by
 unfold dc at h;simp only [Bool.and_eq_true,decide_eq_true_eq] at h;obtain ⟨⟨⟨⟨⟨⟨h1,h2⟩,h5⟩,h6⟩,h7⟩,h8⟩,h9⟩:=h;exact ⟨List.all_eq_true.1 h5,List.all_eq_true.1 h6,h8,h9⟩
theorem wP {m:Mix}(h:dc m=true){l:List Tast}(hl:l.length≤8)(ht:∀ x∈l,dX m x=true)(hr:risB 0 (l.map (·.num))=true):dc (dO m l)=true:=by
 unfold dc at h ⊢;simp only [Bool.and_eq_true,decide_eq_true_eq] at h ⊢;obtain ⟨⟨⟨⟨⟨⟨h1,h2,h3,h4⟩,h5⟩,h6⟩,h7⟩,h8⟩,h9⟩:=h;exact ⟨⟨⟨⟨⟨⟨h1,h2,h3,hl⟩,h5⟩,List.all_eq_true.2 ht⟩,h7⟩,h8⟩,hr⟩
section
variable {m x:Mix} {v t f g n:Int} {T:Tast} {s s' c d:Int × Int} {e h i j k:Int}
theorem jP (hok:dc m=true)(hv:0≤idxV m.vessels v)(ht:0≤t∧t≤m.acts.length)(hf:1≤f∧f≤m.fountains)(h:OfIs m v t f s e):fO m f (OfP m v t f) s e:=by
 have h0:askM m v t [f]=0:=by unfold askM;rw [if_pos hok,if_neg (by omega),if_pos ⟨ht,by simpa using hf⟩]
 rcases h with ⟨h1,_⟩ | ⟨_,h1⟩
 ·exact absurd h0 h1
 ·exact h1
theorem qi (hok:dc m=true)(hf:1≤f∧f≤m.fountains)(h:fR m f s e):fO m f (rg m f) s e:=by
 have h0:j3 m f=0:=by unfold j3;rw [if_pos hok,if_pos hf]
 rcases h with ⟨h1,_⟩ | ⟨_,h1⟩
 ·exact absurd h0 h1
 ·exact h1
theorem pt (hok:dc m=true)(hv:0≤idxV m.vessels v)(ht:0≤t∧t≤m.acts.length)(h:eL m v t n e):e=0∧∃ A a,allM m m.acts=some A∧A[t.toNat]? =some a∧n=au a (idxV m.vessels v):=by
 have h0:askM m v t []=0:=by unfold askM;rw [if_pos hok,if_neg (by omega),if_pos ⟨ht,by simp⟩]
 rcases h with ⟨h1,_⟩ | ⟨_,h1⟩
 ·exact absurd h0 h1
 ·exact h1
theorem jS {P Q:List Held→Int→Prop}{A:List Held}(hA:allM m m.acts=some A)(h1:fO m f P s e)(h2:fO m f Q c k):e=k∧((e=0∧dh m f A 0 dF∧fA (P A) s∧fA (Q A) c)∨(e=8∧¬ dh m f A 0 dF∧s=(0,0)∧c=(0,0))):=by
 obtain ⟨A1,e1,h1⟩:=h1;obtain ⟨A2,e2,h2⟩:=h2;rw [hA] at e1 e2;cases e1;cases e2
 rcases h1 with ⟨a,b,c⟩ | ⟨a,b,c⟩<;>rcases h2 with ⟨a',b',c'⟩ | ⟨a',b',c'⟩
 ·exact ⟨by omega,.inr ⟨c,a,b,b'⟩⟩
 ·exact absurd a' a
 ·exact absurd a a'
 ·exact ⟨by omega,.inl ⟨b,a,c,c'⟩⟩
end
end
section
open Go.RowKit
def lj (nv na nt:Nat)(m:Mix):Bool:=!fJ nv na nt && dc m
theorem qN {nv na nt:Nat}{m:Mix}(h:lj nv na nt m=true):fJ nv na nt=false∧dc m=true:=by unfold lj at h;simpa using h
theorem vN (Av:Option Addr)(nv cv:Nat)(Aa:Option Addr)(na ca:Nat)(At:Option Addr)(nt ct:Nat)(m:Mix)(w:World)(h:dV w w.heap.size Av nv Aa na At nt m) :
  CallsIn Fence.wide 9 Tryz.prog 23 #[.agg #[.int .i64 m.fountains,.slice Av nv cv,.slice Aa na ca,.slice At nt ct]] w (fun e w'=>e = .returned (.bool (lj nv na nt m))∧Below w.heap.size w w'):=by
 have HM:=lh h;clear h;refine callsIn_of_wp Tryz.func23 rfl trivial ?_ rfl;simp only [Tryz.ntmps23,es,Nat.reduceAdd,Nat.reduceSub];gi_upto_region 1 with fail
 have Ly:=lh (Lay.one w 26 #[.int .i64 m.fountains,.slice Av nv cv,.slice Aa na ca,.slice At nt ct]);generalize (w.alloc (.cells #[.int .i64 m.fountains,.slice Av nv cv,.slice Aa na ca,.slice At nt ct] 26))=w0 at *;obtain ⟨x0_0,x0_1,x0_2,x0_3⟩:=lyc4 Ly 0 rfl;have l0_:=Ly.out.lt 0 rfl;gi_wp2;clear x0_0 x0_1 x0_2 x0_3 l0_;refine ⟨trivial,(callsIn_wide.2 (tA m.fountains Av nv cv Aa na ca At nt ct w0)).mono ?_⟩;rintro e W1 ⟨rfl,hb⟩;replace Ly:=lyb Ly hb;clear hb
 cases hg:fJ nv na nt with
 | true =>
  gi_wp2;refine ⟨trivial,?_⟩;gi_wp2;refine bodyPost_ret (v:=.bool false) (by simp [results,Tryz.results23,go_sem]) rfl ?_;exact ⟨by unfold lj;rw [hg];rfl,Ly.out.1⟩
 | false =>
  have hsm:=o8 hg
  have hsx:MixS w Av nv Aa na At nt m:=⟨HM.out,by omega,by omega,by omega⟩
  have HS:=lh hsx;have HG:=lh hg;clear hsm hsx hg;obtain ⟨x0_0,x0_1,x0_2,x0_3⟩:=lyc4 Ly 0 rfl;have l0_:=Ly.out.lt 0 rfl;gi_wp2;clear x0_0 x0_1 x0_2 x0_3 l0_;refine ⟨trivial,(callsIn_wide.2 (ve Av nv cv Aa na ca At nt ct m W1 (HS.out.up Ly.out.1))).mono ?_⟩;rintro e W2 ⟨rfl,hb⟩;replace Ly:=lyb Ly hb;clear hb;gi_wp2;refine bodyPost_ret (v:=.bool (dc m)) (by simp [results,Tryz.results23,go_sem]) rfl ?_;exact ⟨by unfold lj;rw [HG.out];rfl,Ly.out.1⟩
end
section
set_option linter.unusedSectionVars false
abbrev iz:=List (List Int)
def hpAt (H:iz)(i:Int):List Int:=(H[i.toNat]?).getD []
def qf (H:iz)(fr to:Int)(left drops:List Int):iz :=
 let H1:=if 0≤fr then H.set fr.toNat left else H
 if 0≤to then H1.set to.toNat (hpAt H1 to++drops) else H1
def xx (m:Mix)(x:MAct)(H:iz)(drops:List Int)(H':iz):Prop :=
 ∃ left,(x.kind=1→drops=List.replicate x.drops.toNat x.fr)∧(x.kind≠1→(drops++left).Perm (hpAt H (cu m x)))∧(x.kind=4→left=[])∧(x.kind≠4→drops.length=x.drops.toNat)∧H'=qf H (cu m x) (toI m x) left drops
structure Went (m:Mix)(n:Nat)(H:Nat→iz)(Dr:Nat→List Int):Prop where
 zero:H 0=[[],[],[],[]]
 step:∀ {t:Nat} {x:MAct},t<n→m.acts[t]? =some x→xx m x (H t) (Dr t) (H (t+1))
section
variable {m:Mix} {A:List Held} {f:Int} {H:Nat→iz} {Dr:Nat→List Int} {n:Nat}
theorem vb (H:iz)(fr to:Int)(l d:List Int):(qf H fr to l d).length=H.length:=by
 unfold qf;dsimp only
 split<;>split<;>simp
theorem jv {H:iz}{i j:Int}{l:List Int}(hi:0≤i)(hj:0≤j)(hl:i<H.length):hpAt (H.set i.toNat l) j=if j=i then l else hpAt H j:=by
 unfold hpAt;rw [List.getElem?_set];by_cases e:j=i
 ·subst e
  rw [if_pos rfl,if_pos rfl,if_pos (by omega)];rfl
 ·rw [if_neg (by omega),if_neg e]
theorem pE {H:iz}{fr to:Int}{l d:List Int}(hH:H.length=4)(hf:fr<4)(ht:to<4)(hne:fr≠to∨fr<0){i:Nat}(hi:i<4) :
  hpAt (qf H fr to l d) i=if (i:Int)=fr then l else if (i:Int)=to then hpAt H i++d else hpAt H i:=by
 unfold qf;dsimp only;by_cases h1:0≤fr
 ·rw [if_pos h1]
  have hne':to≠fr:=by omega
  by_cases h2:0≤to
  ·rw [if_pos h2,jv h2 (by omega) (by rw [List.length_set];omega),jv h1 h2 (by omega),jv h1 (by omega) (by omega),if_neg hne']
   by_cases p:(i:Int)=to
   ·rw [if_pos p,if_neg (by omega),if_pos p,p]
   ·rw [if_neg p]
    by_cases q:(i:Int)=fr
    ·rw [if_pos q,if_pos q]
    ·rw [if_neg q,if_neg q,if_neg p]
  ·rw [if_neg h2,jv h1 (by omega) (by omega)]
   by_cases q:(i:Int)=fr
   ·rw [if_pos q,if_pos q]
   ·rw [if_neg q,if_neg q,if_neg (by omega)]
 ·rw [if_neg h1]
  by_cases h2:0≤to
  ·rw [if_pos h2,jv h2 (by omega) (by omega)]
   by_cases p:(i:Int)=to
   ·rw [if_pos p,if_neg (by omega),if_pos p,p]
   ·rw [if_neg p,if_neg (by omega),if_neg p]
  ·rw [if_neg h2,if_neg (by omega),if_neg (by omega)]
theorem iR {all:Held}{x:MAct}(h:nc m all x):cu m x≠toI m x∨cu m x<0:=by
 unfold cu toI;by_cases e1:x.kind=1
 ·right;rw [if_pos e1];decide
 ·by_cases e2:x.kind=2
  ·left
   have:=h.apart e2;simp only [e2];simpa using this
  ·left
   have:=h.from_ e1;rw [if_neg e1,if_neg (by omega)];omega
theorem Went.len (h:Went m n H Dr)(hn:n≤m.acts.length):∀ {t:Nat},t≤n→(H t).length=4
 | 0,_=>by rw [h.zero];rfl
 | t+1,ht=>by
  have hx:m.acts[t]? =some (m.acts[t]'(by omega)):=List.getElem?_eq_getElem (by omega);obtain ⟨left,_,_,_,_,e⟩:=h.step (by omega) hx;rw [e,vb];exact h.len hn (by omega)
theorem Went.holds (hA:allM m m.acts=some A)(hv:m.vessels.length≤4)(h:Went m n H Dr)(hn:n≤m.acts.length):∀ {t:Nat} {a:Held} {i:Nat},t≤n→A[t]? =some a→i<4→((hpAt (H t) i).length:Int)=au a i
 | 0,a,i,_,ha,hi=>by
  rw [ip hA] at ha;cases ha;rw [h.zero]
  match i,hi with
  | 0,_=>rfl
  | 1,_=>rfl
  | 2,_=>rfl
  | 3,_=>rfl
 | t+1,a',i,ht,ha,hi=>by
  have hl:=ei m m.acts A hA;have hx:m.acts[t]? =some (m.acts[t]'(by omega)):=List.getElem?_eq_getElem (by omega);have h0:A[t]? =some (A[t]'(by omega)):=List.getElem?_eq_getElem (by omega);obtain ⟨hok,hnext⟩:=gV hA hv hx h0;rw [ha] at hnext;have e:=Option.some.inj hnext;rw [e,fe hv _ (n6 hA hv h0) _ hi];have hih:=fun (j:Nat) (hj:j<4)=>h.holds hA hv hn (i:=j) (Nat.le_of_succ_le ht) h0 hj;obtain ⟨left,k1,k2,k3,k4,k5⟩:=h.step (by omega) hx;rw [k5,pE (h.len hn (by omega)) (dB hv _) (eS hv _) (iR hok) hi];generalize m.acts[t]'(by omega)=x at *;have hsz:=hok.size;by_cases e1:x.kind=1
  ·have hd:=k1 e1
   have hf:cu m x = -1:=by unfold cu;rw [if_pos e1]
   have hs:dn m (A[t]'(by omega)) x=x.drops:=by unfold dn;rw [if_neg (by omega)]
   have h1:=hsz.1 e1;rw [hf,hs,if_neg (by omega)];have h2:=hih i hi;have h3:(Dr t).length=x.drops.toNat:=by rw [hd];simp
   by_cases p:(i:Int)=toI m x
   ·rw [if_pos p,if_pos p.symm,if_neg (by omega),List.length_append]
    omega
   ·rw [if_neg p,if_neg (fun q=>p q.symm),if_neg (by omega)]
    omega
  ·have hp:=(k2 e1).length_eq
   rw [List.length_append] at hp;have hf0:0≤cu m x:=by unfold cu;rw [if_neg e1];exact hok.from_ e1
   have hf4:=dB hv x;have hfi:cu m x=((cu m x).toNat:Int):=by omega
   have h4:=hih (cu m x).toNat (by omega);rw [← hfi] at h4;have h2:=hih i hi
   have hsd:((Dr t).length:Int)=dn m (A[t]'(by omega)) x:=by
    unfold dn;by_cases e4:x.kind=4
    ·rw [if_pos e4,← h4]
     rw [k3 e4] at hp;simp at hp;omega
    ·rw [if_neg e4,k4 e4]
     have:=hsz.2 (by have:=hok.kind;omega);omega
   have hap:=iR hok;by_cases q:(i:Int)=cu m x
   ·rw [if_pos q,if_neg (by omega),if_pos q.symm]
    rw [← q] at h4 hp;omega
   ·rw [if_neg q]
    by_cases p:(i:Int)=toI m x
    ·rw [if_pos p,if_pos p.symm,if_neg (fun r=>q r.symm),List.length_append]
     omega
    ·rw [if_neg p,if_neg (fun r=>p r.symm),if_neg (fun r=>q r.symm)]
     omega
def cntH (f:Int)(H:iz):Held:=H.map fun l=>(l.count f:Int)
theorem lQ (f:Int)(H:iz)(i:Int):au (cntH f H) i=((hpAt H i).count f:Int):=by
 unfold au cntH hpAt;rw [List.getElem?_map];cases H[i.toNat]?<;>rfl
theorem tj (f g:Int)(k:Nat):(List.replicate k g).count f=if g=f then k else 0:=by
 rw [List.count_replicate];by_cases e:g=f<;>simp [e]
theorem Went.run (hA:allM m m.acts=some A)(hv:m.vessels.length≤4)(h:Went m m.acts.length H Dr)(ht:∀ {t:Nat},t≤m.acts.length→dR m f t (cntH f (H t))=true) :
  Run m f A (fun t=>cntH f (H t)) (fun t=>((Dr t).count f:Int)):=by
 refine ⟨by show cntH f (H 0)=dF;rw [h.zero];rfl,?_,ht⟩;intro t x all hx ha;have htl:=(g_E hx).1;obtain ⟨hok,hnext⟩:=gV hA hv hx ha;obtain ⟨left,k1,k2,k3,k4,k5⟩:=h.step htl hx;have hl4:=h.len n_R (Nat.le_of_lt htl);have hl5:(cntH f (H t)).length=4:=by unfold cntH;rw [List.length_map];exact hl4
 have hap:=iR hok
 have hs3:cntH f (H (t+1))=da (cntH f (H t)) (cu m x) (toI m x) ((Dr t).count f:Int):=by
  refine uP (by unfold cntH;rw [List.length_map];exact h.len n_R htl) (by rw [nK];exact hl5) fun i hi=>?_;rw [fe hv x hl5 _ hi,lQ,lQ,k5,pE hl4 (dB hv _) (eS hv _) hap hi];by_cases e1:x.kind=1
  ·have hf:cu m x = -1:=by unfold cu;rw [if_pos e1]
   rw [hf,if_neg (by omega),if_neg (show ¬ ((-1:Int)=(i:Int)) by omega)];by_cases p:(i:Int)=toI m x
   ·rw [if_pos p,if_pos p.symm,List.count_append];omega
   ·rw [if_neg p,if_neg (fun q=>p q.symm)];omega
  ·have hp:=(k2 e1).count_eq f
   rw [List.count_append] at hp;by_cases q:(i:Int)=cu m x
   ·rw [if_pos q,if_neg (by omega),if_pos q.symm]
    rw [← q] at hp;omega
   ·rw [if_neg q]
    by_cases p:(i:Int)=toI m x
    ·rw [if_pos p,if_pos p.symm,if_neg (fun r=>q r.symm),List.count_append];omega
    ·rw [if_neg p,if_neg (fun r=>p r.symm),if_neg (fun r=>q r.symm)];omega
 have hbd:(dI m x f all (cntH f (H t))).1≤((Dr t).count f:Int)∧((Dr t).count f:Int)≤(dI m x f all (cntH f (H t))).2:=by
  have hcl:(Dr t).count f≤(Dr t).length:=List.count_le_length;unfold dI;by_cases e1:x.kind=1
  ·have hf:cu m x = -1:=by unfold cu;rw [if_pos e1]
   have hs:dn m all x=x.drops:=by unfold dn;rw [if_neg (by omega)]
   have h1:=hok.size.1 e1;rw [hf,if_neg (by omega),hs,k1 e1,tj];by_cases e:x.fr=f
   ·rw [if_pos e,if_pos e];dsimp only;omega
   ·rw [if_neg e,if_neg e];dsimp only;omega
  ·have hf0:0≤cu m x:=by unfold cu;rw [if_neg e1];exact hok.from_ e1
   have hf4:=dB hv x;have hfi:cu m x=((cu m x).toNat:Int):=by omega
   have hp:=(k2 e1).count_eq f;rw [List.count_append] at hp;have hp':=(k2 e1).length_eq;rw [List.length_append] at hp';have h4:=h.holds hA hv n_R (Nat.le_of_lt htl) ha (i:=(cu m x).toNat) (by omega);rw [← hfi] at h4;have hcl2:left.count f≤left.length:=List.count_le_length
   have hsd:((Dr t).length:Int)=dn m all x:=by
    unfold dn;by_cases e4:x.kind=4
    ·rw [if_pos e4,← h4]
     rw [k3 e4] at hp';simp at hp';omega
    ·rw [if_neg e4,k4 e4]
     have:=hok.size.2 (by have:=hok.kind;omega);omega
   rw [if_pos hf0,lQ];dsimp only;omega
 exact ⟨hbd.1,hbd.2,hs3⟩
end
end
section
set_option linter.unusedSectionVars false
theorem lC {m:Mix}(h:m.tastes=[]){f:Int}{t:Nat}{s:Held}:dR m f t s=true:=by unfold dR;rw [h];rfl
theorem j5 {m:Mix}(h:dc m=true):dc (dO m [])=true:=wP h (Nat.zero_le _) (fun x hx=>by cases hx) rfl
theorem py {m:Mix}(h:dc m=true){i:Nat}{v:Vess}(hi:m.vessels[i]? =some v):idxV m.vessels v.id=(i:Int):=by
 have hp:=(fS (pZ h).2.2.1).1
 have h0:0≤idxV m.vessels v.id:=by
  unfold idxV;rw [if_pos (List.any_eq_true.2 ⟨v,List.mem_of_getElem? hi,by simp⟩)];omega
 obtain ⟨u,h1,h2⟩:=mq h0;obtain ⟨l1,l2⟩:=g_E h1;obtain ⟨l3,l4⟩:=g_E hi;have e1:(m.vessels.map (·.id))[(idxV m.vessels v.id).toNat]'(by simpa using l1)=u.id:=by simp [l2]
 have e2:(m.vessels.map (·.id))[i]'(by simpa using l3)=v.id:=by simp [l4]
 rw [List.pairwise_iff_getElem] at hp;rcases Nat.lt_trichotomy (idxV m.vessels v.id).toNat i with h | h | h
 ·have:=hp _ _ (by simpa using l1) (by simpa using l3) h
  rw [e1,e2] at this;omega
 ·omega
 ·have:=hp _ _ (by simpa using l3) (by simpa using l1) h
  rw [e1,e2] at this;omega
section
variable {m:Mix} {A:List Held} {f:Int}
theorem nH (hA:allM m m.acts=some A){t:Nat}{x:MAct}(hx:m.acts[t]? =some x)(hk:x.kind=1):1≤x.fr∧x.fr≤m.fountains:=by
 obtain ⟨a,a',_,_,h⟩:=eR hA hx;unfold dy at h;rw [if_pos hk] at h
 split at h
 ·rename_i hc
  exact hc.1
 ·cases h
theorem kM (hA:allM m m.acts=some A)(hv:m.vessels.length≤4):∀ n:Nat,n≤m.acts.length→∃ H Dr,Went m n H Dr
 | 0,_=>⟨fun _=>[[],[],[],[]],fun _=>[],rfl,fun {t} {x} h=>by omega⟩
 | n+1,hn=>by
  obtain ⟨H,Dr,h⟩:=kM hA hv n (by omega)
  obtain ⟨x,hx⟩:∃ x,m.acts[n]? =some x:=⟨_,List.getElem?_eq_getElem (by omega)⟩
  obtain ⟨a,_,ha,_,_⟩:=eR hA hx;obtain ⟨hok,_⟩:=gV hA hv hx ha
  have hs:∃ drops H',xx m x (H n) drops H':=by
   by_cases e1:x.kind=1
   ·exact ⟨List.replicate x.drops.toNat x.fr,_,[],fun _=>rfl,fun e=>absurd e1 e,fun _=>rfl,fun _=>by simp,rfl⟩
   ·by_cases e4:x.kind=4
    ·exact ⟨hpAt (H n) (cu m x),_,[],fun e=>absurd e e1,fun _=>by simp,fun _=>rfl,fun e=>absurd e4 e,rfl⟩
    ·refine ⟨(hpAt (H n) (cu m x)).take x.drops.toNat,_,(hpAt (H n) (cu m x)).drop x.drops.toNat,fun e=>absurd e e1,fun _=>by rw [List.take_append_drop],fun e=>absurd e e4,fun _=>?_,rfl⟩
     have hf0:0≤cu m x:=by unfold cu;rw [if_neg e1];exact hok.from_ e1
     have hf4:=dB hv x;have h1:=h.holds hA hv (by omega) n_R ha (i:=(cu m x).toNat) (by omega);rw [show (((cu m x).toNat:Nat):Int)=cu m x by omega] at h1;have h2:=hok.size.2 (by have:=hok.kind;omega);have h3:cu m x=idxV m.vessels x.fr:=by unfold cu;rw [if_neg e1]
     rw [← h3] at h2;rw [List.length_take];omega
  obtain ⟨drops,H',hs⟩:=hs;refine ⟨fun t=>if t≤n then H t else H',fun t=>if t<n then Dr t else drops,?_,fun {t} {y} ht hy=>?_⟩
  ·show (if 0≤n then H 0 else H')=_
   rw [if_pos (Nat.zero_le _)];exact h.zero
  ·by_cases hlt:t<n
   ·rw [if_pos (show t≤n by omega),if_pos hlt,if_pos (show t+1≤n by omega)]
    exact h.step hlt hy
   ·obtain rfl:t=n:=by omega
    rw [hx] at hy;cases hy;rw [if_pos n_R,if_neg (by omega),if_neg (by omega)];exact hs
theorem sE (hA:allM m m.acts=some A)(hv:m.vessels.length≤4){H:Nat→iz}{Dr:Nat→List Int}{n:Nat}(hn:n≤m.acts.length)(h:Went m n H Dr):∀ {t i:Nat},t≤n→i<4→∀ g∈hpAt (H t) i,1≤g∧g≤m.fountains
 | 0,i,_,hi,g,hg=>by
  rw [h.zero] at hg
  match i,hi with
  | 0,_=>cases hg
  | 1,_=>cases hg
  | 2,_=>cases hg
  | 3,_=>cases hg
 | t+1,i,ht,hi,g,hg=>by
  obtain ⟨x,hx⟩:∃ x,m.acts[t]? =some x:=⟨_,List.getElem?_eq_getElem (by omega)⟩
  obtain ⟨a,_,ha,_,_⟩:=eR hA hx;obtain ⟨hok,_⟩:=gV hA hv hx ha;obtain ⟨left,k1,k2,k3,k4,k5⟩:=h.step (by omega) hx;have hf4:=dB hv x;have ih:∀ {i:Nat},i<4→∀ g∈hpAt (H t) i,1≤g∧g≤m.fountains:=fun hi=>sE hA hv hn h (by omega) hi
  have hboth:∀ g,g∈Dr t∨(x.kind≠1∧g∈left)→1≤g∧g≤m.fountains:=by
   intro g hg;by_cases e1:x.kind=1
   ·rcases hg with hg | hg
    ·rw [k1 e1] at hg
     rw [(List.mem_replicate.1 hg).2];exact nH hA hx e1
    ·exact absurd e1 hg.1
   ·have hf0:0≤cu m x:=by unfold cu;rw [if_neg e1];exact hok.from_ e1
    have hm:g∈hpAt (H t) (cu m x):=(k2 e1).mem_iff.1 (List.mem_append.2 (by rcases hg with hg | hg;exact .inl hg;exact .inr hg.2));rw [show cu m x=(((cu m x).toNat:Nat):Int) by omega] at hm;exact ih (by omega) g hm
  rw [k5,pE (h.len hn (by omega)) (dB hv _) (eS hv _) (iR hok) hi] at hg
  split at hg
  ·rename_i q
   refine hboth g (.inr ⟨fun e=>?_,hg⟩);unfold cu at q;rw [if_pos e] at q;omega
  ·split at hg
   ·rcases List.mem_append.1 hg with hg | hg
    ·exact ih hi g hg
    ·exact hboth g (.inl hg)
   ·exact ih hi g hg
end
def sumF (c:Int→Int):Nat→Int
 | 0=>0
 | q+1=>sumF c q+c ((q:Int)+1)
def sumV (c:Nat→Int):Nat→Int
 | 0=>0
 | q+1=>sumV c q+c q
theorem om {c:Int→Int}(h:∀ f,c f=0):∀ q,sumF c q=0
 | 0=>rfl
 | q+1=>by rw [sumF,om h q,h];rfl
theorem pK (c d:Int→Int):∀ q,sumF (fun f=>c f+d f) q=sumF c q+sumF d q
 | 0=>rfl
 | q+1=>by simp only [sumF];rw [pK c d q];omega
theorem qD (g:Int):∀ q:Nat,sumF (fun f=>if g=f then 1 else 0) q=if 1≤g∧g≤q then 1 else 0
 | 0=>by rw [sumF,if_neg (by omega)]
 | q+1=>by
  rw [sumF,qD g q];by_cases h1:1≤g∧g≤(q:Int)
  ·rw [if_pos h1,if_neg (by omega),if_pos (by omega)];rfl
  ·rw [if_neg h1]
   by_cases h2:g=(q:Int)+1
   ·rw [if_pos h2,if_pos (by omega)];rfl
   ·rw [if_neg h2,if_neg (by omega)];rfl
theorem mr {q:Nat}:∀ {l:List Int},(∀ g∈l,1≤g∧g≤(q:Int))→sumF (fun f=>(l.count f:Int)) q=l.length
 | [],_=>om (fun f=>by simp) q
 | g::l,h=>by
  have e:(fun f:Int=>((g::l).count f:Int))=fun f=>(l.count f:Int)+if g=f then 1 else 0:=by
   funext f
   rw [List.count_cons];by_cases e:g=f<;>simp [e]
  rw [e,pK,mr fun x hx=>h x (by simp [hx]),qD,if_pos (h g (by simp)),List.length_cons];omega
section
variable {m:Mix} {A:List Held} {f:Int}
theorem mD (hA:allM m m.acts=some A)(hv:m.vessels.length≤4):∀ {t:Nat} {s:Held},Fwd m f A t s→∀ i:Nat,m.vessels.length≤i→i<4→au s i=0
 | 0,s,h,i,_,hi=>by
  rw [h.1]
  match i,hi with
  | 0,_=>rfl
  | 1,_=>rfl
  | 2,_=>rfl
  | 3,_=>rfl
 | t+1,s',h,i,h1,hi=>by
  obtain ⟨⟨s,h2,x,all,k,h3,h4,h5,h6,rfl⟩,_⟩:=h;have hl:=(ft hA hv h2 h4).lh
  have hno:∀ id,idxV m.vessels id≠(i:Int):=fun id e=>by
   have:=eH (l:=m.vessels) (id:=id) (by omega);omega
  rw [fe hv x hl k hi,mD hA hv h2 i h1 hi,if_neg,if_neg]
  ·rfl
  ·unfold cu;split;omega;exact hno _
  ·unfold toI;split;exact hno _;omega
theorem tK (hv:m.vessels.length≤4)(x:MAct){s:Held}(hs:s.length=4)(k:Int)(hf : -1≤cu m x)(ht : -1≤toI m x) :
  sumH (da s (cu m x) (toI m x) k)=sumH s+((if 0≤toI m x then k else 0) - (if 0≤cu m x then k else 0)):=by
 have h0:=fe hv x hs k (i:=0) (by decide);have h1:=fe hv x hs k (i:=1) (by decide);have h2:=fe hv x hs k (i:=2) (by decide);have h3:=fe hv x hs k (i:=3) (by decide);have f4:=dB hv x;have t4:=eS hv x;unfold sumH;generalize cu m x=a at *;generalize toI m x=b at *;have ha:a = -1∨a=0∨a=1∨a=2∨a=3:=by omega
 have hb:b = -1∨b=0∨b=1∨b=2∨b=3:=by omega
 rcases ha with rfl | rfl | rfl | rfl | rfl<;>rcases hb with rfl | rfl | rfl | rfl | rfl<;>simp at h0 h1 h2 h3 ⊢<;>omega
def filT (f:Int)(l:List MAct):Int:=l.foldl (fun n x=>if x.kind=1∧x.fr=f then n+x.drops else n) 0
theorem sS (f:Int)(l:List MAct)(x:MAct):filT f (l++[x])=if x.kind=1∧x.fr=f then filT f l+x.drops else filT f l:=by unfold filT;rw [List.foldl_append];rfl
theorem so (hA:allM m m.acts=some A)(hv:m.vessels.length≤4):∀ {t:Nat} {s:Held},Fwd m f A t s→sumH s≤filT f (m.acts.take t)
 | 0,s,h=>by rw [h.1];exact Int.le_refl _
 | t+1,s',h=>by
  obtain ⟨⟨s,h2,x,all,k,h3,h4,h5,h6,rfl⟩,_⟩:=h;have hft:=ft hA hv h2 h4;obtain ⟨hok,_⟩:=gV hA hv h3 h4;have hk:=gS hok hft hv ⟨h5,h6⟩;have ih:=so hA hv h2
  have htl:=(g_E h3)
  rw [List.take_succ_eq_append_getElem htl.1,htl.2,sS];have hf1 : -1≤cu m x:=by unfold cu;split;omega;have:=fb (id:=x.fr) hv;by_cases h:0≤idxV m.vessels x.fr;omega;unfold idxV at h ⊢;split<;>omega
  have ht1 : -1≤toI m x:=sj;rw [tK hv x hft.lh k hf1 ht1];by_cases e1:x.kind=1
  ·have hfr:cu m x = -1:=by unfold cu;rw [if_pos e1]
   have ht0:=xe hok e1;unfold dI at h5 h6;rw [hfr,if_neg (by omega)] at h5 h6;have hz:dn m all x=x.drops:=by unfold dn;rw [if_neg (by omega)]
   rw [hz] at h5 h6;rw [if_pos ht0,hfr,if_neg (by omega)];by_cases e2:x.fr=f
   ·rw [if_pos e2] at h5 h6
    rw [if_pos ⟨e1,e2⟩];dsimp only at h5 h6;omega
   ·rw [if_neg e2] at h5 h6
    rw [if_neg (show ¬ (x.kind=1∧x.fr=f) from fun h=>e2 h.2)];dsimp only at h5 h6;omega
  ·have hf0:=mG hok e1
   rw [if_neg (show ¬ (x.kind=1∧x.fr=f) from fun h=>e1 h.1),if_pos hf0];have hk0:=hk.1;by_cases q:0≤toI m x
   ·rw [if_pos q];omega
   ·rw [if_neg q];omega
theorem xa {all s:Held}(h:Fits all s):0≤sumH s:=by
 have h0:=h.le 0 (by decide);have h1:=h.le 1 (by decide);have h2:=h.le 2 (by decide);have h3:=h.le 3 (by decide);unfold sumH;simp at h0 h1 h2 h3;omega
theorem sC {s:Held}(hv:m.vessels.length≤4)(h:∀ i:Nat,m.vessels.length≤i→i<4→au s i=0):sumV (fun i=>au s (i:Int)) m.vessels.length=sumH s:=by
 unfold sumH
 obtain ⟨n,hn⟩:∃ n,m.vessels.length=n:=⟨_,rfl⟩
 rw [hn] at h hv ⊢;have h0:=h 0;have h1:=h 1;have h2:=h 2;have h3:=h 3;have hc:n=0∨n=1∨n=2∨n=3∨n=4:=by omega
 rcases hc with rfl | rfl | rfl | rfl | rfl<;>simp [sumV] at h0 h1 h2 h3 ⊢<;>omega
theorem px (hA:allM m m.acts=some A)(hv:m.vessels.length≤4)(h1:m.fountains=1):∀ {t:Nat} {s a:Held},Fwd m 1 A t s→A[t]? =some a→s=a
 | 0,s,a,h,ha=>by rw [ip hA] at ha;cases ha;exact h.1
 | t+1,s',a',h,ha=>by
  obtain ⟨⟨s,h2,x,all,k,h3,h4,h5,h6,rfl⟩,_⟩:=h;obtain rfl:=px hA hv h1 h2 h4;obtain ⟨hok,hn⟩:=gV hA hv h3 h4;rw [ha] at hn;rw [Option.some.inj hn]
  have hk:k=dn m s x:=by
   unfold dI at h5 h6;by_cases e1:x.kind=1
   ·have hfr:cu m x = -1:=by unfold cu;rw [if_pos e1]
    have:=nH hA h3 e1;rw [hfr,if_neg (by omega),if_pos (by omega)] at h5 h6;dsimp only at h5 h6;omega
   ·have hf0:=mG hok e1
    have hf4:=dB hv x
    have hs:0≤dn m s x∧dn m s x≤au s (cu m x):=by
     have hb:=(ft hA hv h2 h4).le (cu m x).toNat (by omega);rw [Int.toNat_of_nonneg hf0] at hb;unfold dn;by_cases e4:x.kind=4
     ·rw [if_pos e4];omega
     ·rw [if_neg e4]
      have:=hok.size.2 (by have:=hok.kind;omega);have h3:cu m x=idxV m.vessels x.fr:=by unfold cu;rw [if_neg e1]
      rw [← h3] at this;omega
    rw [if_pos hf0] at h5 h6;dsimp only at h5 h6;omega
  rw [hk]
end
theorem mS {m:Mix}{A:List Held}{f:Int}(hA:allM m m.acts=some A)(hv:m.vessels.length≤4)(hb:m.tastes=[]):dh m f A 0 dF:=by
 obtain ⟨H,Dr,hw⟩:=kM hA hv m.acts.length n_R;have hr:=hw.run hA hv (f:=f) (fun _=>lC hb);have:=hr.truth hA (t:=0) (Nat.zero_le _)
 rwa [hr.zero] at this
theorem tU {m:Mix}{v t n j:Int}(hok:dc m=true)(hv:0≤idxV m.vessels v)(ht:0≤t∧t≤m.acts.length)(hh:eL m v t n j) :
  j=0∧∃ c:Int→Int,sumF c m.fountains.toNat=n∧∀ f,1≤f→f≤m.fountains→∀ s e,OfIs (dO m []) v t f s e→e=0∧(s.1≤c f∧c f≤s.2)∧(m.fountains=1→s=(n,n)):=by
 obtain ⟨A,hA⟩:=jK hok;have hob:=j5 hok;have hv4:=(dx hok).1;have hF:=(dx hok).2.2.2;have hAb:allM (dO m []) (dO m []).acts=some A:=hA;obtain ⟨hj,A1,a,hA1,ha,rfl⟩:=pt hok hv ht hh;rw [hA] at hA1;cases hA1;obtain ⟨H,Dr,hw⟩:=kM hAb hv4 m.acts.length n_R;have hi4:=fb (id:=v) hv4;have htl:t.toNat≤m.acts.length:=by omega
 have hlen:=hw.holds hAb hv4 n_R (t:=t.toNat) htl ha (i:=(idxV m.vessels v).toNat) (by omega);have hall:=sE hAb hv4 n_R hw (t:=t.toNat) (i:=(idxV m.vessels v).toNat) htl (by omega);rw [show (((idxV m.vessels v).toNat:Nat):Int)=idxV m.vessels v by omega] at hlen hall;refine ⟨hj,fun f=>((hpAt (H t.toNat) (idxV m.vessels v)).count f:Int),?_,fun f f1 f2 s e hof=>?_⟩
 ·rw [mr (fun g hg=>by have h1:=hall g hg;have h2:(dO m []).fountains=m.fountains:=rfl;omega),hlen]
 ·have hr:=hw.run hAb hv4 (f:=f) (fun _=>lC rfl)
  have hle:t.toNat≤m.acts.length:=by omega
  have htr:=hr.truth hAb (t:=t.toNat) hle;have hof2:=jP hob hv ht ⟨f1,f2⟩ hof
  rcases (jS hAb hof2 hof2).2 with ⟨c1,c2,c3,_⟩ | ⟨_,c2,_⟩
  ·refine ⟨c1,c3.2.2 _ ⟨_,htr,lQ f _ _⟩,fun h1=>?_⟩
   obtain rfl:f=1:=by omega
   obtain ⟨y,hy,ey⟩:=c3.1;obtain ⟨z,hz,ez⟩:=c3.2.1;have q1:=px hAb hv4 h1 (Fin.fwd hy) ha;have q2:=px hAb hv4 h1 (Fin.fwd hz) ha;rw [q1] at ey;rw [q2] at ez;exact Prod.ext ey.symm ez.symm
  ·exact absurd (mS hAb hv4 rfl) c2
theorem xo {m:Mix}{f h:Int}{gone:Int × Int}(hok:dc m=true)(hf:1≤f∧f≤m.fountains)(hg:fR (dO m []) f gone h) :
  h=0∧0≤gone.1∧gone.1≤gone.2∧gone.2≤d4 m f∧∃ c d:Nat→Int,sumV c m.vessels.length=d4 m f - gone.2∧sumV d m.vessels.length=d4 m f - gone.1 ∧
   ∀ (i:Nat) (v:Vess),m.vessels[i]? =some v→∀ s e,OfIs (dO m []) v.id (m.acts.length:Int) f s e→e=0∧s.1≤c i∧d i≤s.2:=by
 obtain ⟨A,hA⟩:=jK hok;have hob:=j5 hok;have hv4:=(dx hok).1;have hAb:allM (dO m []) (dO m []).acts=some A:=hA;have hl:=ei m m.acts A hA
 obtain ⟨all,hall⟩:∃ all,A[m.acts.length]? =some all:=⟨_,List.getElem?_eq_getElem (by omega)⟩
 have hT:=mS (f:=f) hAb hv4 rfl;have hg2:=qi hob hf hg;have hfe:d4 (dO m []) f=d4 m f:=rfl;have hft:filT f (m.acts.take m.acts.length)=d4 m f:=by rw [List.take_length];rfl
 rcases (jS hAb hg2 hg2).2 with ⟨c1,c2,c3,_⟩ | ⟨_,c2,_⟩
 ·obtain ⟨s1,t1,e1⟩:=c3.1
  obtain ⟨s2,t2,e2⟩:=c3.2.1;rw [hfe] at e1 e2;have k1:=Fin.fwd t1;have k2:=Fin.fwd t2;have b1:=so hAb hv4 k1;have b2:=xa (ft hAb hv4 k2 hall);have b3:=(c3.2.2 _ c3.1).2;have hfx:filT f ((dO m []).acts.take (dO m []).acts.length)=d4 m f:=hft;rw [hfx] at b1;refine ⟨c1,by omega,b3,by omega,fun i=>au s2 (i:Int),fun i=>au s1 (i:Int),?_,?_,fun i v hi s e hof=>?_⟩
  ·rw [show m.vessels.length=(dO m []).vessels.length from rfl,sC (m:=dO m []) hv4 (mD hAb hv4 k2)];omega
  ·rw [show m.vessels.length=(dO m []).vessels.length from rfl,sC (m:=dO m []) hv4 (mD hAb hv4 k1)];omega
  ·have hix:=py hok hi
   have hof2:=jP hob (v:=v.id) (t:=(m.acts.length:Int)) (by show 0≤idxV m.vessels v.id;rw [hix];omega) ⟨by omega,Int.le_refl _⟩ hf hof
   rcases (jS hAb hof2 hof2).2 with ⟨d1,d2,d3,_⟩ | ⟨_,d2,_⟩
   ·have q2:=(d3.2.2 _ ⟨s2,by rw [Int.toNat_natCast];exact t2,rfl⟩).1
    have q1:=(d3.2.2 _ ⟨s1,by rw [Int.toNat_natCast];exact t1,rfl⟩).2;have hix2:idxV (dO m []).vessels v.id=(i:Int):=hix;rw [hix2] at q1 q2;exact ⟨d1,q2,q1⟩
   ·exact absurd hT d2
 ·exact absurd hT c2
end
section
open Go.ChangeShapes Go.WideShapes Go.RowKit Go.Deep Go.Joins
set_option maxRecDepth 100000
theorem fQ {α:Type}{vals:α→List Value}{sz:Nat}(hk:∀ x,(vals x).length=sz):∀ l:List α,(l.flatMap vals).length=l.length * sz
 | []=>by simp
 | x::l=>by rw [List.flatMap_cons,List.length_append,hk,fQ hk l,List.length_cons,Nat.succ_mul];omega
theorem kz {α:Type}{vals:α→List Value}{sz:Nat}(hk:∀ x,(vals x).length=sz):∀ {l:List α} {i j:Nat} {x:α},l[i]? =some x→j<sz→(l.flatMap vals)[i * sz+j]? =(vals x)[j]?
 | [],i,j,x,h,_=>by simp at h
 | y::l,0,j,x,h,hj=>by
  have:y=x:=by simpa using h
  subst this;rw [List.flatMap_cons,Nat.zero_mul,Nat.zero_add,List.getElem?_append_left (by rw [hk];exact hj)]
 | y::l,i+1,j,x,h,hj=>by
  rw [List.flatMap_cons,List.getElem?_append_right (by rw [hk,Nat.succ_mul];omega),hk,show (i+1) * sz+j - sz=i * sz+j by rw [Nat.succ_mul];omega];exact kz hk (by simpa using h) hj
section
variable {H:Type} {enc:TypeId × Value→H} {w:World}
theorem d9:Tryz.prog.cellsOf 3=1:=by kernel_rfl
theorem sX:Tryz.prog.cellsOf 26=4:=by kernel_rfl
theorem wK:∃ f0 f1,Tryz.prog.underlying 50=some (.struct #[f0,f1])∧f0.type=3∧f1.type=3∧f0.offset=0∧f1.offset=1 :=
 ⟨_,_,Tryz.underlying50,rfl,rfl,rfl,rfl⟩
theorem tR:Tryz.prog.cellsOf 50=2:=by kernel_rfl
theorem rj {fuel:Nat}{cs:List Value}{x:DataW H × List MemPlace}(h:DataW.trod enc Tryz.prog w 0 (fun _=>true) true fuel 50 cs=some x)(hl:cs.length=2):∃ l:Vess,cs=l.vals:=by
 obtain ⟨f0,f1,hu,t0,t1,z0,z1⟩:=wK;obtain ⟨xs,n,_,_,_,hlen,hg⟩:=DataW.trod_struct hu h
 match cs,hl,xs,hlen with
 | [c0,c1],_,[y0,y1],_ =>
  have h0:DataW.trod enc Tryz.prog w 0 (fun _=>true) true n 3 [c0]=some y0:=by simpa [t0,z0,d9] using hg 0 f0 rfl
  have h1:DataW.trod enc Tryz.prog w 0 (fun _=>true) true n 3 [c1]=some y1:=by simpa [t1,z1,d9] using hg 1 f1 rfl
  obtain ⟨n0,e0,_,_⟩:=DataW.trod_int Tryz.underlying3 h0;obtain ⟨n1,e1,_,_⟩:=DataW.trod_int Tryz.underlying3 h1;simp only [List.cons.injEq,and_true] at e0 e1;subst e0 e1;exact ⟨⟨n0,n1⟩,rfl⟩
theorem rU {v:Value}{fuel:Nat}{x:DataW H × List MemPlace}(h:DataW.trod enc Tryz.prog w 0 (fun _=>true) true fuel 22 [v]=some x) :
  ∃ A n c,∃ l:List Vess,v = .slice A n c∧n≤c∧n≤maxLen∧c≤maxLen∧cY w w.heap.size 2 A n (l.flatMap Vess.vals):=by
 rcases open_slice Tryz.underlying22 h with ⟨e,_⟩ | ⟨a,len,cap,m,k,D,Pl,e,_,hl,hm,hmm,_,hx⟩
 ·simp only [List.cons.injEq,and_true] at e
  exact ⟨none,0,0,[],e,n_R,Nat.zero_le _,Nat.zero_le _,cY.none_⟩
 ·simp only [List.cons.injEq,and_true] at e
  have hmc:m=cap:=by simpa using hmm
  subst hmc
  have hn:∀ i,i<m→∃ z:Vess,∀ j,j<2→w.cell? (a.add (i * 2+j))=z.vals[j]? :=fun i hi=>by
   obtain ⟨cs',h1,h2⟩:=hx i hi;rw [tR] at h1;obtain ⟨_,hcl,hat⟩:=World.cells?_some h1;obtain ⟨z,rfl⟩:=rj h2 hcl;exact ⟨z,fun j hj=>by rw [← Go.Deep.add_add,hat j hj]⟩
  letI:Inhabited Vess:=⟨⟨0,0⟩⟩
  obtain ⟨Z,hZ⟩:=choose_lt hn;refine ⟨some a,len,m,(List.range len).map Z,e,hl,by omega,hm,by rw [fQ iO];simp,fun h0=>⟨a,rfl,?_,fun j u hu=>?_⟩⟩
  ·have:=World.block_lt_of_cell? w _ (hZ 0 (by omega) 0 (by omega))
   rwa [eB] at this
  ·have hj:j<len * 2:=by
    rcases Nat.lt_or_ge j (len * 2) with h' | h'
    ·exact h'
    ·rw [List.getElem?_eq_none (by rw [fQ iO];simpa using h')] at hu;cases hu
   have hz:=hZ (j / 2) (by omega) (j % 2) (by omega);have ha:((List.range len).map Z)[j / 2]? =some (Z (j / 2)):=by rw [List.getElem?_map,List.getElem?_range (by omega)];rfl
   have hf:=kz iO ha (show j % 2<2 by omega);rw [show j / 2 * 2+j % 2=j by omega] at hf hz;rw [hz,← hf,hu]
theorem wR:∃ f0 f1 f2 f3,Tryz.prog.underlying 62=some (.struct #[f0,f1,f2,f3])∧f0.type=3∧f1.type=3∧f2.type=3∧f3.type=3∧f0.offset=0∧f1.offset=1∧f2.offset=2∧f3.offset=3 :=
 ⟨_,_,_,_,Tryz.underlying62,rfl,rfl,rfl,rfl,rfl,rfl,rfl,rfl⟩
theorem s5:Tryz.prog.cellsOf 62=4:=by kernel_rfl
theorem rI {fuel:Nat}{cs:List Value}{x:DataW H × List MemPlace}(h:DataW.trod enc Tryz.prog w 0 (fun _=>true) true fuel 62 cs=some x)(hl:cs.length=4):∃ l:MAct,cs=l.vals:=by
 obtain ⟨f0,f1,f2,f3,hu,t0,t1,t2,t3,z0,z1,z2,z3⟩:=wR;obtain ⟨xs,n,_,_,_,hlen,hg⟩:=DataW.trod_struct hu h
 match cs,hl,xs,hlen with
 | [c0,c1,c2,c3],_,[y0,y1,y2,y3],_ =>
  have h0:DataW.trod enc Tryz.prog w 0 (fun _=>true) true n 3 [c0]=some y0:=by simpa [t0,z0,d9] using hg 0 f0 rfl
  have h1:DataW.trod enc Tryz.prog w 0 (fun _=>true) true n 3 [c1]=some y1:=by simpa [t1,z1,d9] using hg 1 f1 rfl
  have h2:DataW.trod enc Tryz.prog w 0 (fun _=>true) true n 3 [c2]=some y2:=by simpa [t2,z2,d9] using hg 2 f2 rfl
  have h3:DataW.trod enc Tryz.prog w 0 (fun _=>true) true n 3 [c3]=some y3:=by simpa [t3,z3,d9] using hg 3 f3 rfl
  obtain ⟨n0,e0,_,_⟩:=DataW.trod_int Tryz.underlying3 h0;obtain ⟨n1,e1,_,_⟩:=DataW.trod_int Tryz.underlying3 h1;obtain ⟨n2,e2,_,_⟩:=DataW.trod_int Tryz.underlying3 h2;obtain ⟨n3,e3,_,_⟩:=DataW.trod_int Tryz.underlying3 h3;simp only [List.cons.injEq,and_true] at e0 e1 e2 e3;subst e0 e1 e2 e3;exact ⟨⟨n0,n1,n2,n3⟩,rfl⟩
theorem r6 {v:Value}{fuel:Nat}{x:DataW H × List MemPlace}(h:DataW.trod enc Tryz.prog w 0 (fun _=>true) true fuel 23 [v]=some x) :
  ∃ A n c,∃ l:List MAct,v = .slice A n c∧n≤c∧n≤maxLen∧c≤maxLen∧cY w w.heap.size 4 A n (l.flatMap MAct.vals):=by
 rcases open_slice Tryz.underlying23 h with ⟨e,_⟩ | ⟨a,len,cap,m,k,D,Pl,e,_,hl,hm,hmm,_,hx⟩
 ·simp only [List.cons.injEq,and_true] at e
  exact ⟨none,0,0,[],e,n_R,Nat.zero_le _,Nat.zero_le _,cY.none_⟩
 ·simp only [List.cons.injEq,and_true] at e
  have hmc:m=cap:=by simpa using hmm
  subst hmc
  have hn:∀ i,i<m→∃ z:MAct,∀ j,j<4→w.cell? (a.add (i * 4+j))=z.vals[j]? :=fun i hi=>by
   obtain ⟨cs',h1,h2⟩:=hx i hi;rw [s5] at h1;obtain ⟨_,hcl,hat⟩:=World.cells?_some h1;obtain ⟨z,rfl⟩:=rI h2 hcl;exact ⟨z,fun j hj=>by rw [← Go.Deep.add_add,hat j hj]⟩
  letI:Inhabited MAct:=⟨⟨0,0,0,0⟩⟩
  obtain ⟨Z,hZ⟩:=choose_lt hn;refine ⟨some a,len,m,(List.range len).map Z,e,hl,by omega,hm,by rw [fQ jW];simp,fun h0=>⟨a,rfl,?_,fun j u hu=>?_⟩⟩
  ·have:=World.block_lt_of_cell? w _ (hZ 0 (by omega) 0 (by omega))
   rwa [eB] at this
  ·have hj:j<len * 4:=by
    rcases Nat.lt_or_ge j (len * 4) with h' | h'
    ·exact h'
    ·rw [List.getElem?_eq_none (by rw [fQ jW];simpa using h')] at hu;cases hu
   have hz:=hZ (j / 4) (by omega) (j % 4) (by omega);have ha:((List.range len).map Z)[j / 4]? =some (Z (j / 4)):=by rw [List.getElem?_map,List.getElem?_range (by omega)];rfl
   have hf:=kz jW ha (show j % 4<4 by omega);rw [show j / 4 * 4+j % 4=j by omega] at hf hz;rw [hz,← hf,hu]
theorem xr:∃ f0 f1 f2 f3 f4,Tryz.prog.underlying 69=some (.struct #[f0,f1,f2,f3,f4])∧f0.type=3∧f1.type=3∧f2.type=3∧f3.type=3∧f4.type=54∧f0.offset=0∧f1.offset=1∧f2.offset=2∧f3.offset=3∧f4.offset=4 :=
 ⟨_,_,_,_,_,Tryz.underlying69,rfl,rfl,rfl,rfl,rfl,rfl,rfl,rfl,rfl,rfl⟩
theorem wO:∃ f0 f1,Tryz.prog.underlying 54=some (.struct #[f0,f1])∧f0.type=3∧f1.type=3∧f0.offset=0∧f1.offset=1 :=
 ⟨_,_,Tryz.underlying54,rfl,rfl,rfl,rfl⟩
theorem tF:Tryz.prog.cellsOf 69=6:=by kernel_rfl
theorem tG:Tryz.prog.cellsOf 54=2:=by kernel_rfl
theorem se {fuel:Nat}{cs:List Value}{x:DataW H × List MemPlace}(h:DataW.trod enc Tryz.prog w 0 (fun _=>true) true fuel 69 cs=some x)(hl:cs.length=6):∃ l:Tast,cs=l.vals:=by
 obtain ⟨f0,f1,f2,f3,f4,hu,t0,t1,t2,t3,t4,z0,z1,z2,z3,z4⟩:=xr;obtain ⟨g0,g1,hu2,s0,s1,o0,o1⟩:=wO;obtain ⟨xs,n,_,_,_,hlen,hg⟩:=DataW.trod_struct hu h
 match cs,hl,xs,hlen with
 | [c0,c1,c2,c3,c4,c5],_,[y0,y1,y2,y3,y4],_ =>
  have h0:DataW.trod enc Tryz.prog w 0 (fun _=>true) true n 3 [c0]=some y0:=by simpa [t0,z0,d9] using hg 0 f0 rfl
  have h1:DataW.trod enc Tryz.prog w 0 (fun _=>true) true n 3 [c1]=some y1:=by simpa [t1,z1,d9] using hg 1 f1 rfl
  have h2:DataW.trod enc Tryz.prog w 0 (fun _=>true) true n 3 [c2]=some y2:=by simpa [t2,z2,d9] using hg 2 f2 rfl
  have h3:DataW.trod enc Tryz.prog w 0 (fun _=>true) true n 3 [c3]=some y3:=by simpa [t3,z3,d9] using hg 3 f3 rfl
  have h4:DataW.trod enc Tryz.prog w 0 (fun _=>true) true n 54 [c4,c5]=some y4:=by simpa [t4,z4,tG] using hg 4 f4 rfl
  obtain ⟨xs',n',_,_,_,hlen',hg'⟩:=DataW.trod_struct hu2 h4
  match xs',hlen' with
  | [u0,u1],_ =>
   have k0:DataW.trod enc Tryz.prog w 0 (fun _=>true) true n' 3 [c4]=some u0:=by simpa [s0,o0,d9] using hg' 0 g0 rfl
   have k1:DataW.trod enc Tryz.prog w 0 (fun _=>true) true n' 3 [c5]=some u1:=by simpa [s1,o1,d9] using hg' 1 g1 rfl
   obtain ⟨n0,e0,_,_⟩:=DataW.trod_int Tryz.underlying3 h0;obtain ⟨n1,e1,_,_⟩:=DataW.trod_int Tryz.underlying3 h1;obtain ⟨n2,e2,_,_⟩:=DataW.trod_int Tryz.underlying3 h2;obtain ⟨n3,e3,_,_⟩:=DataW.trod_int Tryz.underlying3 h3;obtain ⟨n4,e4,_,_⟩:=DataW.trod_int Tryz.underlying3 k0;obtain ⟨n5,e5,_,_⟩:=DataW.trod_int Tryz.underlying3 k1;simp only [List.cons.injEq,and_true] at e0 e1 e2 e3 e4 e5;subst e0 e1 e2 e3 e4 e5;exact ⟨⟨n0,n1,n2,n3,n4,n5⟩,rfl⟩
theorem rZ {v:Value}{fuel:Nat}{x:DataW H × List MemPlace}(h:DataW.trod enc Tryz.prog w 0 (fun _=>true) true fuel 24 [v]=some x) :
  ∃ A n c,∃ l:List Tast,v = .slice A n c∧n≤c∧n≤maxLen∧c≤maxLen∧cY w w.heap.size 6 A n (l.flatMap Tast.vals):=by
 rcases open_slice Tryz.underlying24 h with ⟨e,_⟩ | ⟨a,len,cap,m,k,D,Pl,e,_,hl,hm,hmm,_,hx⟩
 ·simp only [List.cons.injEq,and_true] at e
  exact ⟨none,0,0,[],e,n_R,Nat.zero_le _,Nat.zero_le _,cY.none_⟩
 ·simp only [List.cons.injEq,and_true] at e
  have hmc:m=cap:=by simpa using hmm
  subst hmc
  have hn:∀ i,i<m→∃ z:Tast,∀ j,j<6→w.cell? (a.add (i * 6+j))=z.vals[j]? :=fun i hi=>by
   obtain ⟨cs',h1,h2⟩:=hx i hi;rw [tF] at h1;obtain ⟨_,hcl,hat⟩:=World.cells?_some h1;obtain ⟨z,rfl⟩:=se h2 hcl;exact ⟨z,fun j hj=>by rw [← Go.Deep.add_add,hat j hj]⟩
  letI:Inhabited Tast:=⟨⟨0,0,0,0,0,0⟩⟩
  obtain ⟨Z,hZ⟩:=choose_lt hn;refine ⟨some a,len,m,(List.range len).map Z,e,hl,by omega,hm,by rw [fQ fj];simp,fun h0=>⟨a,rfl,?_,fun j u hu=>?_⟩⟩
  ·have:=World.block_lt_of_cell? w _ (hZ 0 (by omega) 0 (by omega))
   rwa [eB] at this
  ·have hj:j<len * 6:=by
    rcases Nat.lt_or_ge j (len * 6) with h' | h'
    ·exact h'
    ·rw [List.getElem?_eq_none (by rw [fQ fj];simpa using h')] at hu;cases hu
   have hz:=hZ (j / 6) (by omega) (j % 6) (by omega);have ha:((List.range len).map Z)[j / 6]? =some (Z (j / 6)):=by rw [List.getElem?_map,List.getElem?_range (by omega)];rfl
   have hf:=kz fj ha (show j % 6<6 by omega);rw [show j / 6 * 6+j % 6=j by omega] at hf hz;rw [hz,← hf,hu]
theorem xD:∃ f0 f1 f2 f3,Tryz.prog.underlying 26=some (.struct #[f0,f1,f2,f3])∧(f0.type=3∧f1.type=22∧f2.type=23∧f3.type=24)∧(f0.offset=0∧f1.offset=1∧f2.offset=2∧f3.offset=3) :=
 ⟨_,_,_,_,Tryz.underlying26,⟨rfl,rfl,rfl,rfl⟩,rfl,rfl,rfl,rfl⟩
theorem uf:Tryz.prog.cellsOf 22=1:=by kernel_rfl
theorem uJ:Tryz.prog.cellsOf 23=1:=by kernel_rfl
theorem t5:Tryz.prog.cellsOf 24=1:=by kernel_rfl
theorem vR {r:Reach}{b0:Nat}{v:Value}{d:DataW H}{p:List MemPlace}(hv:Value.okWide Tryz.prog w r b0 26 v)(h:DataW.Trod enc Tryz.prog w 0 (fun _=>true) true 26 v d p) :
  ∃ Av nv cv Aa na ca At nt ct m,v = .agg #[.int .i64 m.fountains,.slice Av nv cv,.slice Aa na ca,.slice At nt ct]∧(na≤ca∧ca≤maxLen)∧(nt≤ct∧ct≤maxLen)∧dV w w.heap.size Av nv Aa na At nt m:=by
 obtain ⟨f0,f1,f2,f3,hu,⟨t0,t1,t2,t3⟩,z0,z1,z2,z3⟩:=xD;obtain ⟨cs,rfl,hsz⟩:=okWide_struct hu hv;obtain ⟨fuel,hf⟩:=h;obtain ⟨xs,n,_,_,_,hlen,hg⟩:=DataW.trod_struct hu hf;obtain ⟨l⟩:=cs
 match l,hsz.trans sX,xs,hlen with
 | [c0,c1,c2,c3],_,[y0,y1,y2,y3],_ =>
  have h0:DataW.trod enc Tryz.prog w 0 (fun _=>true) true n 3 [c0]=some y0:=by simpa [t0,z0,d9,Value.cells] using hg 0 f0 rfl
  have h1:DataW.trod enc Tryz.prog w 0 (fun _=>true) true n 22 [c1]=some y1:=by simpa [t1,z1,uf,Value.cells] using hg 1 f1 rfl
  have h2:DataW.trod enc Tryz.prog w 0 (fun _=>true) true n 23 [c2]=some y2:=by simpa [t2,z2,uJ,Value.cells] using hg 2 f2 rfl
  have h3:DataW.trod enc Tryz.prog w 0 (fun _=>true) true n 24 [c3]=some y3:=by simpa [t3,z3,t5,Value.cells] using hg 3 f3 rfl
  obtain ⟨f,e0,_,_⟩:=DataW.trod_int Tryz.underlying3 h0;simp only [List.cons.injEq,and_true] at e0;obtain ⟨Av,nv,cv,lv,rfl,_,_,_,hv1⟩:=rU h1;obtain ⟨Aa,na,ca,la,rfl,ha1,_,ha2,hv2⟩:=r6 h2;obtain ⟨At,nt,ct,lt,rfl,ht1,_,ht2,hv3⟩:=rZ h3;subst e0;exact ⟨Av,nv,cv,Aa,na,ca,At,nt,ct,⟨f,lv,la,lt⟩,rfl,⟨ha1,ha2⟩,⟨ht1,ht2⟩,⟨hv1,hv2,hv3⟩⟩
end
end
section
open Go.ChangeShapes Go.WideShapes Go.RowKit Go.Deep Go.Joins
set_option maxRecDepth 100000
section
variable {H:Type} {enc:TypeId × Value→H} {w:World}
theorem u8_wf {z:Int}(h:(Lit.int .u8 z).wf=true):0≤z∧z≤255:=by
 simp [Lit.wf] at h;have h1:IntKind.u8.min=0:=rfl;have h2:IntKind.u8.max=255:=rfl;omega
theorem sl {v:Value}{d:DataW H}{p:List MemPlace}(h:DataW.Trod enc Tryz.prog w 0 (fun _=>true) true 5 v d p)(hv:∃ z:Int,v = .int .u8 z):∃ x:Nat,v = .int .u8 (x:Nat)∧x≤255:=by
 obtain ⟨z,rfl⟩:=hv;obtain ⟨fuel,hf⟩:=h;obtain ⟨n,e,_,hw⟩:=DataW.trod_int Tryz.underlying5 hf;have e':n=z:=by simpa [Value.cells] using e.symm
 subst e';have hb:=u8_wf hw;obtain ⟨k,rfl⟩:=Int.eq_ofNat_of_zero_le hb.1;exact ⟨k,rfl,by omega⟩
end
end
end Go.Proofs.YthofngceiecniaaGreat
