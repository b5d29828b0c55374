/- Part 14 of the texts of this claim, joined. -/
import Derived.Sort.CutIn
import Derived.Lib.SmallJoins
import Derived.LaidHandle
import Derived.ChangeArms
import Derived.ChangeSame
import Derived.Test.YthofngceiecniaaGreatZxB13
set_option linter.unusedVariables false
/- The answer's Mix, and Check. -/
namespace Go.Proofs.YthofngceiecniaaGreat
set_option maxHeartbeats 32000000
set_option maxRecDepth 100000
section
open Go.RowKit
theorem yw {m:Mix}(h:risB 0 (m.vessels.map (·.id))=false):cA m=false:=by unfold cA;rw [h];simp
theorem w8 {m:Mix}(h:risB 0 (m.tastes.map (·.num))=false):cA m=false:=by unfold cA;rw [h];simp
theorem vG {α:Type}{f:α→Int}{l:List α}{k:Nat}{x:α}(hx:l[k]? =some x)(h:risB 0 ((l.take k).map f)=true):risB 0 ((l.take (k+1)).map f)=wiB (f x) (((l.take k).map f).getLast?.getD 0+1) 9999:=by
 obtain ⟨hk,rfl⟩:=g_E hx;rw [List.take_succ_eq_append_getElem hk,List.map_append,List.map_cons,List.map_nil,lG,h,Bool.true_and];rfl
theorem tm {α:Type}{f:α→Int}{l:List α}{k:Nat}{x:α}(hx:l[k]? =some x):((l.take (k+1)).map f).getLast?.getD 0=f x:=by
 obtain ⟨hk,rfl⟩:=g_E hx;rw [List.take_succ_eq_append_getElem hk,List.map_append,List.map_cons,List.map_nil,List.getLast?_concat];rfl
theorem rE {α:Type}{f:α→Int}{l:List α}{k:Nat}(h:risB 0 ((l.take k).map f)=false):risB 0 (l.map f)=false:=by
 cases h0:risB 0 (l.map f) with
 | false=>rfl
 | true =>
  have:=pX (k:=k) h0;rw [← List.map_take] at this;rw [this] at h;cases h
theorem vb {α:Type}{p:α→Bool}{l:List α}{k:Nat}(h:(l.take k).all p=false):l.all p=false:=by
 cases h0:l.all p with
 | false=>rfl
 | true=>exact absurd ((tC (k:=k) h0).symm.trans h) (by decide)
theorem qF (Av:Option Addr)(nv cv:Nat)(Aa:Option Addr)(na ca:Nat)(At:Option Addr)(nt ct:Nat)(m:Mix)(w:World)(h:MixS w Av nv Aa na At nt m) :
  Calls Tryz.prog 49 #[.agg #[.int .i64 m.fountains,.slice Av nv cv,.slice Aa na ca,.slice At nt ct]] w fun e w'=>e = .returned (.bool (cA m))∧Below w.heap.size w w':=by
 have HM:=lh h;have HLV:=lh h.at_.lenV;have HLA:=lh h.at_.lenA;have HLT:=lh h.at_.lenT;have hnv:=h.hv;have hna:=h.ha;have hnt:=h.ht;clear h
 go_enter Tryz.func49,Tryz.ntmps49
 go_upto_region 1 with fail
 have Ly:=lh (Lay.one w 26 #[.int .i64 m.fountains,.slice Av nv cv,.slice Aa na ca,.slice At nt ct]);generalize (w.alloc (.cells #[.int .i64 m.fountains,.slice Av nv cv,.slice Aa na ca,.slice At nt ct] 26))=w0 at *;obtain ⟨x0,x1,x2,x3⟩:=lyc4 Ly 0 rfl;have xl:=Ly.out.lt 0 rfl
 go_wp2_with fail
 refine (cZ m.fountains 1 4 w0).mono ?_;rintro e W1 ⟨rfl,rfl⟩;by_cases hG:(1≤m.fountains∧m.fountains≤4)∧m.vessels.length≤4∧m.acts.length≤12∧m.tastes.length≤8
 ·have HG:=lh hG
  have hi:wiB m.fountains 1 4=true:=decide_eq_true hG.1;have hn4:nv≤4:=by have:=HLV.out;omega
  have hn12:na≤12:=by have:=HLA.out;omega
  have hn8:nt≤8:=by have:=HLT.out;omega
  have d1:(nv:Int)≤4:=by omega
  have d2:(na:Int)≤12:=by omega
  have d3:(nt:Int)≤8:=by omega
  rw [hi];clear hi hG
  go_wp2_with fail
  clear d1 d2 d3 x0 x1 x2 x3 xl
  go_loopw [3,35] (fun v3 i wr=>∃ k:Nat,k≤nv∧i = .int .i64 k∧v3 = .int .i64 (((m.vessels.take k).map (·.id)).getLast?.getD 0)∧Hid (Lay w wr [(w.heap.size,26,#[.int .i64 m.fountains,.slice Av nv cv,.slice Aa na ca,.slice At nt ct])]∧(m.vessels.take k).all iG=true∧risB 0 ((m.vessels.take k).map (·.id))=true))
   (fun _ i _=>nv - (intOf i).toNat)
  case atStart=>exact ⟨0,by omega,rfl,rfl,lh ⟨Ly.out,rfl,rfl⟩⟩
  case round =>
   clear Ly;obtain ⟨k,hk,rfl,rfl,HS⟩:=hrel;obtain ⟨hl0,hl1⟩:=nz HS.out.2.2
   obtain ⟨p,hp⟩:∃ p,((m.vessels.take k).map (·.id)).getLast?.getD 0=p:=⟨_,rfl⟩
   have Ly:=lh HS.out.1;rw [hp] at hl0 hl1 ⊢;have HP:=lh hp;clear hp;have x1:=lyc Ly 0 rfl 1;have x3:=lyc Ly 0 rfl 3;have xl:=Ly.out.lt 0 rfl;by_cases hlt:k<nv
   ·clear x1 x3 xl
    obtain ⟨b,off,x,rfl,hbB,hx,hc0,hc1⟩:=(HM.out.at_.below Ly.out.1).vess hlt;have HX:=lh hx;clear hx
    go_upto_region 7 with fail
    have hb1:Below wr.heap.size wr (wr.alloc (.cells #[.int .i64 x.id,.int .i64 x.size] 50)):=b_R.alloc n_R _;have HN:=lh (Blk.new wr 50 #[.int .i64 x.id,.int .i64 x.size])
    obtain ⟨g8,hg8⟩:∃ g,wr.heap.size=g:=⟨_,rfl⟩
    generalize wr.alloc (.cells #[.int .i64 x.id,.int .i64 x.size] 50)=wa at *;have HB1:=lh hb1;rw [hg8] at HN ⊢;have y0:=HN.out.cell 0;have y1:=HN.out.cell 1;have yl:=HN.out.lt;clear hb1 hc0 hc1;have HRS:=lh (vG (f:=(·.id)) HX.out HS.out.2.2);have HAS:=lh (lp HX.out HS.out.2.1);have HLST:=lh (tm (f:=fun v:Vess=>v.id) HX.out);rw [HP.out] at HRS
    go_wp2_with fail
    refine (cZ x.id (p+1) 9999 wa).mono ?_;rintro e W ⟨rfl,rfl⟩
    cases hi:wiB x.id (p+1) 9999 with
    | false =>
     rw [hi] at HRS;clear hi
     go_wp2_with fail
     go_ret
     exact ⟨dc (yw (rE HRS.out)).symm,Ly.out.1.trans (HB1.out.mono Ly.out.1.size)⟩
    | true =>
     rw [hi] at HRS;clear hi
     go_wp2_with fail
     refine (cZ x.size 1 12 wa).mono ?_;rintro e W ⟨rfl,rfl⟩;have hvs:iG x=wiB x.size 1 12:=rfl;rw [hvs] at HAS;clear hvs
     cases hi:wiB x.size 1 12 with
     | false =>
      rw [hi] at HAS;clear hi
      go_wp2_with fail
      go_ret
      exact ⟨dc (qp (vb HAS.out)).symm,Ly.out.1.trans (HB1.out.mono Ly.out.1.size)⟩
     | true =>
      rw [hi] at HAS;clear hi
      go_wp2_with fail
      go_roundw
      case rel=>exact ⟨k+1,by omega,by go_num,by rw [HLST.out],lh ⟨Ly.out.below HB1.out,HAS.out,HRS.out⟩⟩
      case measure=>simp [intOf];omega
   ·obtain rfl:nv=k:=by omega
    have hz:m.vessels.all iG=true:=by
     have:=HS.out.2.1
     rwa [List.take_of_length_le (by have:=HLV.out;omega)] at this
    have hr:risB 0 (m.vessels.map (·.id))=true:=by
     have:=HS.out.2.2
     rwa [List.take_of_length_le (by have:=HLV.out;omega)] at this
    have HZ:=lh hz;have HRI:=lh hr;clear hz hr
    go_wp2_with fail
    clear x1 x3 xl HP hl0 hl1
    obtain ⟨wo,rfl⟩:∃ wo,wo=wr:=⟨_,rfl⟩
    go_loopw [3,57] (fun v3 i wr=>∃ k:Nat,k≤nt∧i = .int .i64 k∧v3 = .int .i64 (((m.tastes.take k).map (·.num)).getLast?.getD 0)∧Hid (Lay w wr [(w.heap.size,26,#[.int .i64 m.fountains,.slice Av nv cv,.slice Aa na ca,.slice At nt ct])]∧(m.tastes.take k).all (dA m)=true∧risB 0 ((m.tastes.take k).map (·.num))=true))
     (fun _ i _=>nt - (intOf i).toNat)
    case atStart=>exact ⟨0,by omega,rfl,rfl,lh ⟨Ly.out,rfl,rfl⟩⟩
    case round =>
     clear Ly HS;obtain ⟨k,hk2,rfl,rfl,HS⟩:=hrel;obtain ⟨hl0,hl1⟩:=nz HS.out.2.2
     obtain ⟨p,hp⟩:∃ p,((m.tastes.take k).map (·.num)).getLast?.getD 0=p:=⟨_,rfl⟩
     have Ly:=lh HS.out.1;rw [hp] at hl0 hl1 ⊢;have HP:=lh hp;clear hp;obtain ⟨x0,x1,x2,x3⟩:=lyc4 Ly 0 rfl;have xl:=Ly.out.lt 0 rfl;by_cases hlt:k<nt
     ·clear x0 x1 x2 x3 xl
      obtain ⟨b,off,x,rfl,hbB,hx,hc0,hc1,hc2,hc3,hc4,hc5⟩:=(HM.out.at_.below Ly.out.1).tast hlt;have HX:=lh hx;clear hx
      go_upto_region 15 with fail
      have hb1:Below wr.heap.size wr (wr.alloc (.cells #[.int .i64 x.num,.int .i64 x.vessel,.int .i64 x.after,.int .i64 x.fountain,.int .i64 x.lo,.int .i64 x.hi] 69)):=b_R.alloc n_R _;have HN:=lh (Blk.new wr 69 #[.int .i64 x.num,.int .i64 x.vessel,.int .i64 x.after,.int .i64 x.fountain,.int .i64 x.lo,.int .i64 x.hi])
      obtain ⟨g8,hg8⟩:∃ g,wr.heap.size=g:=⟨_,rfl⟩
      generalize wr.alloc (.cells #[.int .i64 x.num,.int .i64 x.vessel,.int .i64 x.after,.int .i64 x.fountain,.int .i64 x.lo,.int .i64 x.hi] 69)=wa at *;have HB1:=lh hb1;rw [hg8] at HN ⊢;have y0:=HN.out.cell 0;have y1:=HN.out.cell 1;have yl:=HN.out.lt;have HLA1:=lh (Ly.out.below HB1.out);have x0:=(HLA1.out.blk 0 rfl).cell 0;have x1:=(HLA1.out.blk 0 rfl).cell 1;have x2:=(HLA1.out.blk 0 rfl).cell 2;have x3:=(HLA1.out.blk 0 rfl).cell 3;have xl:=HLA1.out.lt 0 rfl;clear hb1 hc0 hc1 hc2 hc3 hc4 hc5;have HRS:=lh (vG (f:=(·.num)) HX.out HS.out.2.2);have HAS:=lh (lp HX.out HS.out.2.1);have HLST:=lh (tm (f:=fun v:Tast=>v.num) HX.out);rw [HP.out] at HRS
      go_wp2_with fail
      refine (cZ x.num (p+1) 9999 wa).mono ?_;rintro e W ⟨rfl,rfl⟩
      cases hi:wiB x.num (p+1) 9999 with
      | false =>
       rw [hi] at HRS;clear hi
       go_wp2_with fail
       go_ret
       exact ⟨dc (w8 (rE HRS.out)).symm,Ly.out.1.trans (HB1.out.mono Ly.out.1.size)⟩
      | true =>
       rw [hi] at HRS;clear hi
       go_wp2_with fail
       refine (kC Av nv cv Aa na ca (some ⟨b,off,none⟩) nt ct m x.vessel wa (HM.out.up HLA1.out.1)).mono ?_;rintro e W ⟨rfl,hb⟩;have HB:=lh (HB1.out.trans (hb.mono HB1.out.size));have HN2:=lh (HN.out.below hb HN.out.lt);have HLA2:=lh (HLA1.out.below hb);clear hb y0 y1 yl x0 x1 x2 x3 xl HN HLA1 HB1;have y2:=HN2.out.cell 2;have y3:=HN2.out.cell 3;have y4:=HN2.out.cell 4;have y5:=HN2.out.cell 5;have yl:=HN2.out.lt;have x0:=(HLA2.out.blk 0 rfl).cell 0;have x2:=(HLA2.out.blk 0 rfl).cell 2;have xl:=HLA2.out.lt 0 rfl;by_cases hj:idxV m.vessels x.vessel<0
       ·have HTB:Hid (dA m x=false):=lh (by unfold dA;exact decide_eq_false (by omega))
        go_wp2_with fail
        go_ret
        exact ⟨dc (fH (gr HX.out HTB.out)).symm,Ly.out.1.trans (HB.out.mono Ly.out.1.size)⟩
       ·have hj2:0≤idxV m.vessels x.vessel:=by omega
        go_wp2_with fail
        refine (cZ x.after 0 na W).mono ?_;rintro e W2 ⟨rfl,rfl⟩
        cases hi:wiB x.after 0 na with
        | false =>
         have HI:=lh (of_decide_eq_false hi);have HTB:Hid (dA m x=false):=lh (by unfold dA;have:=HLA.out;have:=HI.out;exact decide_eq_false (by omega));clear hi
         go_wp2_with fail
         go_ret
         exact ⟨dc (fH (gr HX.out HTB.out)).symm,Ly.out.1.trans (HB.out.mono Ly.out.1.size)⟩
        | true =>
         have HI:=lh (of_decide_eq_true hi);clear hi
         go_wp2_with fail
         refine (cZ x.fountain 1 m.fountains W).mono ?_;rintro e W2 ⟨rfl,rfl⟩
         cases hi:wiB x.fountain 1 m.fountains with
         | false =>
          have HJ:=lh (of_decide_eq_false hi);have HTB:Hid (dA m x=false):=lh (by unfold dA;have:=HJ.out;exact decide_eq_false (by omega));clear hi
          go_wp2_with fail
          go_ret
          exact ⟨dc (fH (gr HX.out HTB.out)).symm,Ly.out.1.trans (HB.out.mono Ly.out.1.size)⟩
         | true =>
          have HJ:=lh (of_decide_eq_true hi);clear hi
          go_wp2_with fail
          refine (cZ x.lo 0 x.hi W).mono ?_;rintro e W2 ⟨rfl,rfl⟩
          cases hi:wiB x.lo 0 x.hi with
          | false =>
           have HK:=lh (of_decide_eq_false hi);have HTB:Hid (dA m x=false):=lh (by unfold dA;have:=HK.out;exact decide_eq_false (by omega));clear hi
           go_wp2_with fail
           go_ret
           exact ⟨dc (fH (gr HX.out HTB.out)).symm,Ly.out.1.trans (HB.out.mono Ly.out.1.size)⟩
          | true =>
           have HK:=lh (of_decide_eq_true hi);have HTB:Hid (dA m x=true):=lh (by unfold dA;have:=HK.out;have:=HJ.out;have:=HI.out;have:=HLA.out;exact decide_eq_true (by omega));clear hi x0 x2 xl;have y0:=HN2.out.cell 0;rw [HTB.out] at HAS
           go_wp2_with fail
           go_roundw
           case rel=>exact ⟨k+1,by omega,by go_num,by rw [HLST.out],lh ⟨HLA2.out,HAS.out,HRS.out⟩⟩
           case measure=>simp [intOf];omega
     ·obtain rfl:nt=k:=by omega
      have hz:m.tastes.all (dA m)=true:=by
       have:=HS.out.2.1
       rwa [List.take_of_length_le (by have:=HLT.out;omega)] at this
      have hr:risB 0 (m.tastes.map (·.num))=true:=by
       have:=HS.out.2.2
       rwa [List.take_of_length_le (by have:=HLT.out;omega)] at this
      have HZT:=lh hz;have HRN:=lh hr;clear hz hr
      go_wp2_with fail
      refine (callsIn_wide.1 (sB Av nv cv Aa na ca At nt ct m wr (HM.out.up Ly.out.1) (m6 HZ.out) hn4 hna)).mono ?_;rintro e W ⟨hb,A4,n4,c4,bb,L,rfl,hd⟩;have HB:=lh (Ly.out.1.trans (hb.mono Ly.out.1.size));have HD:=lh hd;clear hb hd x0 x1 x2 x3 xl
      go_wp2_with fail
      go_ret
      refine ⟨dc ?_,HB.out⟩
      rcases HD.out with ⟨rfl,h1,_⟩ | ⟨rfl,_,h1⟩
      ·rw [p9 HG.out HZ.out HZT.out h1,HRI.out,HRN.out];rfl
      ·exact (rL h1).symm
 ·have HB:=lh (mL hG)
  cases hi:wiB m.fountains 1 4 with
  | false =>
   clear hi
   go_wp2_with fail
   go_ret
   exact ⟨dc HB.out.symm,Ly.out.1⟩
  | true =>
   have h2:¬ (nv≤4∧na≤12∧nt≤8):=by
    have:=of_decide_eq_true hi;rw [← HLV.out,← HLA.out,← HLT.out];exact fun h2=>hG ⟨this,h2⟩
   clear hi hG;by_cases q1:nv≤4
   ·have d1:(nv:Int)≤4:=by omega
    by_cases q2:na≤12
    ·have d2:(na:Int)≤12:=by omega
     have d3:¬ (nt:Int)≤8:=by omega
     clear h2
     go_wp2_with fail
     go_ret
     exact ⟨dc HB.out.symm,Ly.out.1⟩
    ·have d2:¬ (na:Int)≤12:=by omega
     clear h2
     go_wp2_with fail
     go_ret
     exact ⟨dc HB.out.symm,Ly.out.1⟩
   ·have d1:¬ (nv:Int)≤4:=by omega
    clear h2
    go_wp2_with fail
    go_ret
    exact ⟨dc HB.out.symm,Ly.out.1⟩
end
section
open Go.RowKit
theorem oR {α:Type}{vals:α→List Value}{sz:Nat}(hk:∀ x,(vals x).length=sz):∀ (l:List α) (k:Nat),(l.take k).flatMap vals=(l.flatMap vals).take (k * sz)
 | [],k=>by simp
 | x::l,0=>by simp
 | x::l,k+1=>by
  rw [List.take_succ_cons,List.flatMap_cons,List.flatMap_cons,oR hk l k,List.take_append,hk,List.take_of_length_le (l:=vals x) (by rw [hk,Nat.succ_mul];exact Nat.le_add_left _ _),Nat.succ_mul,Nat.add_sub_cancel]
theorem Own.short {w:World}{base n cap size k:Nat}{e:TypeId}{A:Option Addr}{xs:List Value}(h:Own w base e size A n cap xs)(hk:k≤n)(hA:A≠none∨k=0∧n=0):Own w base e size A k cap (xs.take (k * size)):=by
 rcases h.form with ⟨rfl,rfl,rfl,rfl⟩ | ⟨g,cur,rfl,hb,hg,h1,h2,h3,h4,h5⟩
 ·obtain rfl:k=0:=by omega
  simpa using Own.none_ w base e size
 ·have hle:k * size≤n * size:=Nat.mul_le_mul_right _ hk
  refine ⟨by rw [List.length_take,h5,Nat.min_eq_left hle],.inr ⟨g,cap,cur,rfl,hb,hg,Nat.le_trans hk h1,h2,h3,?_⟩⟩;rw [← h4,List.take_take,Nat.min_eq_left hle]
theorem dh.fewer {W:World}{base:Nat}{A1 A2 A3:Option Addr}{nv c1 k c2 nt c3:Nat}{m:Mix}(h:dh W base A1 nv c1 A2 (k+1) c2 A3 nt c3 m)(hl:m.acts.length=k+1):dh W base A1 nv c1 A2 k c2 A3 nt c3 (dm m (m.acts.take (m.acts.length - 1))):=by
 refine ⟨h.v,?_,h.t,h.va,h.vt,h.at_⟩
 show Own W base _ 4 A2 k c2 ((m.acts.take (m.acts.length - 1)).flatMap MAct.vals)
 rw [hl,Nat.add_sub_cancel,oR jV];refine h.a.short (Nat.le_succ k) (.inl fun e=>?_)
 rcases h.a.form with ⟨_,h0,_⟩ | ⟨g,cur,e2,_⟩
 ·omega
 ·rw [e] at e2;cases e2
theorem ym (Av:Option Addr)(nv cv:Nat)(Aa:Option Addr)(na ca:Nat)(At:Option Addr)(nt ct:Nat)(m:Mix)  (w:World)(h:MixS w Av nv Aa na At nt m) :
  CallsIn Fence.wide 9 Tryz.prog 48 #[.agg #[.int .i64 m.fountains,.slice Av nv cv,.slice Aa na ca,.slice At nt ct]] w (sf w (jE m)):=by
 have HM:=lh h;have HLV:=lh h.at_.lenV;have HLA:=lh h.at_.lenA;have HLT:=lh h.at_.lenT;have hnv:=h.hv;have hna:=h.ha;have hnt:=h.ht;clear h;refine callsIn_of_wp Tryz.func48 rfl trivial ?_ rfl;simp only [Tryz.ntmps48,es,Nat.reduceAdd,Nat.reduceSub];gi_upto_region 1 with fail
 have Ly:=lh (Lay.two w 26 #[.int .i64 m.fountains,.slice Av nv cv,.slice Aa na ca,.slice At nt ct] 26 #[.int .i64 0,.slice none 0 0,.slice none 0 0,.slice none 0 0]);generalize ((w.alloc (.cells #[.int .i64 m.fountains,.slice Av nv cv,.slice Aa na ca,.slice At nt ct] 26)).alloc (.cells #[.int .i64 0,.slice none 0 0,.slice none 0 0,.slice none 0 0] 26))=w0 at *;obtain ⟨x0_0,x0_1,x0_2,x0_3⟩:=lyc4 Ly 0 rfl;have l0_:=Ly.out.lt 0 rfl;gi_wp2;clear x0_0 x0_1 x0_2 x0_3 l0_;refine ⟨trivial,(callsIn_wide.2 (gD Av nv cv Aa na ca At nt ct m w0 (HM.out.up Ly.out.1))).mono ?_⟩;rintro e W1 ⟨rfl,hb⟩;have HBC:=lh hb;replace Ly:=lyb Ly hb;clear hb
 cases hk:cA m with
 | false =>
  have HF:Hid (jE m=(dn,40)):=lh (by unfold jE;rw [hk];rfl);rw [show dC m=40 from by unfold dC;rw [hk];rfl];clear hk;have x1_0:=lyc Ly 1 rfl 0;have z1_0:=lyf Ly 1 rfl 0;have x1_1:=lyc Ly 1 rfl 1;have z1_1:=lyf Ly 1 rfl 1;have x1_2:=lyc Ly 1 rfl 2;have z1_2:=lyf Ly 1 rfl 2;have x1_3:=lyc Ly 1 rfl 3;have z1_3:=lyf Ly 1 rfl 3;have l1_:=Ly.out.lt 1 rfl;gi_wp2;have R4:=ret4' (Ly.out.blk 1 rfl) Ly.out.1 (Ly.out.ge 1 rfl) (.int .i64 0) (.slice none 0 0) (.slice none 0 0) (.slice none 0 0);have v0:=R4.1.cell 0;have v1:=R4.1.cell 1;have v2:=R4.1.cell 2;have v3:=R4.1.cell 3;refine bodyPost_ret (v:=.tuple #[.agg #[.int .i64 0,.slice none 0 0,.slice none 0 0,.slice none 0 0],.int .i64 40]) (by simp [results,Tryz.results48,go_sem,v0,v1,v2,v3]) rfl ?_;rw [HF.out];exact ⟨none,0,0,none,0,0,none,0,0,rfl,dh.nothing _ _,⟨by omega,by omega,by omega⟩,R4.2.1⟩
 | true =>
  have HK:=lh hk;have hlim:=cL hk;have hv4:nv≤4:=by have:=HLV.out;omega
  have ha12:na≤12:=by have:=HLA.out;omega
  have ht8:nt≤8:=by have:=HLT.out;omega
  clear hlim;rw [show dC m=0 from by unfold dC;rw [hk];rfl];clear hk;by_cases h12:na=0
  ·
   have HF:Hid (jE m=(dn,6)):=lh (by unfold jE;rw [if_pos HK.out,if_pos (by rw [HLA.out];exact h12)]);have h12a:((na:Int)==0)=true:=by simp;omega
   have H12:=lh h12;clear h12;obtain ⟨x0_0,x0_1,x0_2,x0_3⟩:=lyc4 Ly 0 rfl;have l0_:=Ly.out.lt 0 rfl;have x1_0:=lyc Ly 1 rfl 0;have z1_0:=lyf Ly 1 rfl 0;have x1_1:=lyc Ly 1 rfl 1;have z1_1:=lyf Ly 1 rfl 1;have x1_2:=lyc Ly 1 rfl 2;have z1_2:=lyf Ly 1 rfl 2;have x1_3:=lyc Ly 1 rfl 3;have z1_3:=lyf Ly 1 rfl 3;have l1_:=Ly.out.lt 1 rfl;gi_wp2;have R4:=ret4' (Ly.out.blk 1 rfl) Ly.out.1 (Ly.out.ge 1 rfl) (.int .i64 0) (.slice none 0 0) (.slice none 0 0) (.slice none 0 0);have v0:=R4.1.cell 0;have v1:=R4.1.cell 1;have v2:=R4.1.cell 2;have v3:=R4.1.cell 3;refine bodyPost_ret (v:=.tuple #[.agg #[.int .i64 0,.slice none 0 0,.slice none 0 0,.slice none 0 0],.int .i64 6]) (by simp [results,Tryz.results48,go_sem,v0,v1,v2,v3]) rfl ?_;rw [HF.out];exact ⟨none,0,0,none,0,0,none,0,0,rfl,dh.nothing _ _,⟨by omega,by omega,by omega⟩,R4.2.1⟩
  ·
   obtain ⟨k,rfl⟩:∃ k,na=k+1:=⟨na - 1,by omega⟩
   have h12a:(((k+1:Nat):Int)==0)=false:=by simp;omega
   have HF:Hid (jE m=if cA (dm m (m.acts.take (m.acts.length - 1)))=true then ((dm m (m.acts.take (m.acts.length - 1))),0) else (dn,42)):=lh (by unfold jE;rw [if_pos HK.out,if_neg (by rw [HLA.out];exact h12)]);have H12:=lh h12;clear h12;obtain ⟨x0_0,x0_1,x0_2,x0_3⟩:=lyc4 Ly 0 rfl;have l0_:=Ly.out.lt 0 rfl;gi_wp2;clear x0_0 x0_1 x0_2 x0_3 l0_;have HBL:Hid (w.heap.size<W1.heap.size):=lh (Ly.out.lt 0 rfl);have HBS:=lh (Ly.out.1.size);have HBL1:=lh (Ly.out.lt 1 rfl);refine ⟨trivial,(c_W (jX Av nv cv Aa (k+1) ca At nt ct m W1 (HM.out.up Ly.out.1))).mono ?_⟩;rintro e W2 ⟨A1,c1,A2,c2,A3,c3,rfl,hmo,hb⟩;have HCB:=lh hb.size;replace Ly:=lyb Ly hb;clear hb;have HMO:=lh hmo;clear hmo;have x0_0:=lyc Ly 0 rfl 0;have z0_0:=lyf Ly 0 rfl 0;have x0_1:=lyc Ly 0 rfl 1;have z0_1:=lyf Ly 0 rfl 1;have x0_2:=lyc Ly 0 rfl 2;have z0_2:=lyf Ly 0 rfl 2;have x0_3:=lyc Ly 0 rfl 3;have z0_3:=lyf Ly 0 rfl 3;have l0_:=Ly.out.lt 0 rfl;gi_upto_region 7 with fail
   have R4:=ret4' (Ly.out.blk 0 rfl) (Below.refl w.heap.size W2) n_R (.int .i64 m.fountains) (.slice A1 nv c1) (.slice A2 (k+1) c2) (.slice A3 nt c3);have hl:=fZ Ly.out (fun b hb=>by simp only [List.mem_cons,List.not_mem_nil,or_false] at hb;rcases hb with rfl<;>simp<;>omega) R4.2.2 R4.1;have HMO2:=lh (HMO.out.off R4.2.2 HBL.out);have HSZ:=lh (Nat.le_trans HCB.out R4.2.2.size);clear x0_0 z0_0 x0_1 z0_1 x0_2 z0_2 x0_3 z0_3 l0_;generalize ((((W2.setCell ⟨w.heap.size,0,none⟩ (.int .i64 m.fountains)).setCell ⟨w.heap.size,1,none⟩ (.slice A1 nv c1)).setCell ⟨w.heap.size,2,none⟩ (.slice A2 (k+1) c2)).setCell ⟨w.heap.size,3,none⟩ (.slice A3 nt c3))=V3 at *;replace Ly:=lh hl;replace HMO:=HMO2;clear R4 HMO2 hl;have x0_0:=lyc Ly 0 rfl 0;have z0_0:=lyf Ly 0 rfl 0;have x0_1:=lyc Ly 0 rfl 1;have z0_1:=lyf Ly 0 rfl 1;have x0_2:=lyc Ly 0 rfl 2;have z0_2:=lyf Ly 0 rfl 2;have x0_3:=lyc Ly 0 rfl 3;have z0_3:=lyf Ly 0 rfl 3;have l0_:=Ly.out.lt 0 rfl;have hkc:k≤c2:=by have:=HMO.out.a.cap_le;omega
   have hcm:c2≤9223372036854775807:=by have:=HMO.out.a.cap_le.2;unfold maxLen at this;omega
   gi_upto_region 8 with fail
   have HMO2:=lh (HMO.out.fewer (k:=k) HLA.out);have hgs:=cE (row:=some w.heap.size) (cY V3 _) (p:=⟨w.heap.size,2,none⟩) (.inl rfl) (.slice A2 k c2);have hl:=fZ Ly.out (fun b hb=>by simp only [List.mem_cons,List.not_mem_nil,or_false] at hb;rcases hb with rfl<;>simp<;>omega) hgs ((Ly.out.blk 0 rfl).set_ 2 (.slice A2 k c2));have HMO3:=lh (HMO2.out.off hgs HBL.out);clear x0_0 z0_0 x0_1 z0_1 x0_2 z0_2 x0_3 z0_3 l0_;generalize V3.setCell ⟨w.heap.size,2,none⟩ (.slice A2 k c2)=V4 at *;replace Ly:=lh (show Lay w V4 [(w.heap.size,26,#[.int .i64 m.fountains,.slice A1 nv c1,.slice A2 k c2,.slice A3 nt c3]),(w.heap.size+1,26,#[.int .i64 0,.slice none 0 0,.slice none 0 0,.slice none 0 0])] from hl);replace HMO:=HMO3;clear hgs hl HMO2 HMO3;obtain ⟨x0_0,x0_1,x0_2,x0_3⟩:=lyc4 Ly 0 rfl;have l0_:=Ly.out.lt 0 rfl;gi_wp2;clear x0_0 x0_1 x0_2 x0_3 l0_;refine ⟨trivial,(callsIn_wide.2 (gD A1 nv c1 A2 k c2 A3 nt c3 (dm m (m.acts.take (m.acts.length - 1))) V4 (HMO.out.s hnv (by omega) hnt))).mono ?_⟩;rintro e W5 ⟨rfl,hb⟩;have HBC:=lh hb;replace Ly:=lyb Ly hb;clear hb
   cases hk:cA (dm m (m.acts.take (m.acts.length - 1))) with
   | false =>
    rw [show dC (dm m (m.acts.take (m.acts.length - 1)))=40 from by unfold dC;rw [hk];rfl];replace HF:Hid (jE m=(dn,42)):=lh (by rw [HF.out,hk];rfl);clear hk HMO;have x1_0:=lyc Ly 1 rfl 0;have z1_0:=lyf Ly 1 rfl 0;have x1_1:=lyc Ly 1 rfl 1;have z1_1:=lyf Ly 1 rfl 1;have x1_2:=lyc Ly 1 rfl 2;have z1_2:=lyf Ly 1 rfl 2;have x1_3:=lyc Ly 1 rfl 3;have z1_3:=lyf Ly 1 rfl 3;have l1_:=Ly.out.lt 1 rfl;gi_wp2;have R4:=ret4' (Ly.out.blk 1 rfl) Ly.out.1 (Ly.out.ge 1 rfl) (.int .i64 0) (.slice none 0 0) (.slice none 0 0) (.slice none 0 0);have v0:=R4.1.cell 0;have v1:=R4.1.cell 1;have v2:=R4.1.cell 2;have v3:=R4.1.cell 3;refine bodyPost_ret (v:=.tuple #[.agg #[.int .i64 0,.slice none 0 0,.slice none 0 0,.slice none 0 0],.int .i64 42]) (by simp [results,Tryz.results48,go_sem,v0,v1,v2,v3]) rfl ?_;rw [HF.out];exact ⟨none,0,0,none,0,0,none,0,0,rfl,dh.nothing _ _,⟨by omega,by omega,by omega⟩,R4.2.1⟩
   | true =>
    rw [show dC (dm m (m.acts.take (m.acts.length - 1)))=0 from by unfold dC;rw [hk];rfl];replace HF:Hid (jE m=((dm m (m.acts.take (m.acts.length - 1))),0)):=lh (by rw [HF.out,hk];rfl);replace HMO:=lh (HMO.out.below HBC.out);clear hk;obtain ⟨x0_0,x0_1,x0_2,x0_3⟩:=lyc4 Ly 0 rfl;have l0_:=Ly.out.lt 0 rfl;have r0:=lyc Ly 1 rfl 0;have rz0:=lyf Ly 1 rfl 0;have r1:=lyc Ly 1 rfl 1;have rz1:=lyf Ly 1 rfl 1;have r2:=lyc Ly 1 rfl 2;have rz2:=lyf Ly 1 rfl 2;have r3:=lyc Ly 1 rfl 3;have rz3:=lyf Ly 1 rfl 3;have rl:=Ly.out.lt 1 rfl;gi_wp2;have R4:=ret4' (Ly.out.blk 1 rfl) Ly.out.1 (Ly.out.ge 1 rfl) (.int .i64 m.fountains) (.slice A1 nv c1) (.slice A2 k c2) (.slice A3 nt c3);have v0:=R4.1.cell 0;have v1:=R4.1.cell 1;have v2:=R4.1.cell 2;have v3:=R4.1.cell 3;refine bodyPost_ret (v:=.tuple #[.agg #[.int .i64 m.fountains,.slice A1 nv c1,.slice A2 k c2,.slice A3 nt c3],.int .i64 0]) (by simp [results,Tryz.results48,go_sem,v0,v1,v2,v3]) rfl ?_;rw [HF.out];exact ⟨_,_,_,_,_,_,_,_,_,rfl,(HMO.out.off R4.2.2 HBL1.out).mono HBS.out,⟨by omega,by omega,by omega⟩,R4.2.1⟩
end
section
open Go.RowKit
section
variable {w W W':World} {base:Nat} {A1 A2 A3:Option Addr} {nv c1 na c2 nt c3:Nat} {m:Mix}
theorem eR.below (h:eR W base A1 nv c1 A2 na c2 A3 nt c3 m)(hb:Below W.heap.size W W'):eR W' base A1 nv c1 A2 na c2 A3 nt c3 m:=⟨h.v.below hb n_R,h.a.below hb n_R,h.t.below hb n_R⟩
theorem eR.mono {b':Nat}(h:eR W base A1 nv c1 A2 na c2 A3 nt c3 m)(hb:b'≤base):eR W b' A1 nv c1 A2 na c2 A3 nt c3 m:=⟨h.v.mono hb,h.a.mono hb,h.t.mono hb⟩
theorem eR.off {g:Nat}(h:eR W base A1 nv c1 A2 na c2 A3 nt c3 m)(hg:W.grownBy W' (some g))(hlt:g<base):eR W' base A1 nv c1 A2 na c2 A3 nt c3 m:=⟨kb h.v hg hlt,kb h.a hg hlt,kb h.t hg hlt⟩
theorem eR.s (h:eR W base A1 nv c1 A2 na c2 A3 nt c3 m)(hv:nv≤1000)(ha:na≤1000)(ht:nt≤1000):MixS W A1 nv A2 na A3 nt m:=⟨⟨h.v.reads n_R,h.a.reads n_R,h.t.reads n_R⟩,hv,ha,ht⟩
theorem eR.acts {A9:Option Addr}{n9 c9 b9:Nat}{l:List MAct}(h:eR W base A1 nv c1 A2 na c2 A3 nt c3 m)(hb:Below W.heap.size W W')(ho:Own W' b9 62 4 A9 n9 c9 (l.flatMap MAct.vals))(h9:base≤b9):eR W' base A1 nv c1 A9 n9 c9 A3 nt c3 (dm m l):=⟨(h.below hb).v,ho.mono h9,(h.below hb).t⟩
theorem eR.tasts {A9:Option Addr}{n9 c9 b9:Nat}{l:List Tast}(h:eR W base A1 nv c1 A2 na c2 A3 nt c3 m)(hb:Below W.heap.size W W')(ho:Own W' b9 69 6 A9 n9 c9 (l.flatMap Tast.vals))(h9:base≤b9):eR W' base A1 nv c1 A2 na c2 A9 n9 c9 (eq m l):=⟨(h.below hb).v,(h.below hb).a,ho.mono h9⟩
theorem eH {e t:TypeId}{size n cap g:Nat}{A:Option Addr}{xs:List Value}{cs:Array Value}(h:Own W base e size A n cap xs)(hB:Blk W g t cs)(ht:t≠e)(hg:W.grownBy W' (some g)):Own W' base e size A n cap xs:=by
 refine h.grown hg (fun a ha e'=>?_)
 rcases h.form with ⟨h0,_⟩ | ⟨g',cur,h1,_,hb,_⟩
 ·rw [h0] at ha;cases ha
 ·rw [h1] at ha
  cases ha;exact lS hB hb ht (Option.some.inj e').symm
theorem MixS.nothing (W:World):MixS W none 0 none 0 none 0 dn:=⟨⟨cB.none_,cB.none_,cB.none_⟩,by omega,by omega,by omega⟩
end
end
section
open Go.RowKit
theorem pL {nv na nt:Nat}(h:fF nv na nt=false):nv≤8∧na≤24∧nt≤16:=by
 unfold fF at h;simp at h;omega
def pZ (w:World)(e:Ending)(w':World):Prop:=e = .returned (.bool true)∧Below w.heap.size w w'
end
section
open Go.RowKit Go.Shelf
attribute [local go_sem] Oper.semAt_some
theorem x6 (d:Nat)(a b:Int)(w:World):(Op.equalIn (d+1) 3 (.int .i64 a) (.int .i64 b)).run Tryz.prog w = .ok (a==b) w:=by
 simp [Op.equalIn,run_underlying Tryz.underlying3]
theorem du (a0 a1:Int)(w:World):(Op.equalIn 10000 54 (.agg #[.int .i64 a0,.int .i64 a1]) (.agg #[.int .i64 a0,.int .i64 a1])).run Tryz.prog w = .ok true w:=by
 rw [Op.equalIn];simp [go_sem,run_underlying Tryz.underlying54,x6,Std.Legacy.Range.forIn_eq_forIn_range',part]
theorem m5 (w:World):CallsIn Fence.wide 9 Tryz.prog 22 #[] w (pZ w):=by
 refine callsIn_of_wp Tryz.func22 rfl trivial ?_ rfl;simp only [Tryz.ntmps22,es,Nat.reduceSub];gi_upto_region 1 with fail
 have Ly:=lh (Lay.nil w);gi_wp2;refine ⟨trivial,(c_W (eQ none 0 0 [] w (cB.none_ (w:=w) (B:=w.heap.size)) (by decide))).mono ?_⟩;rintro e W1 ⟨g1,g2,rfl,hg1,hg2,hms,hb⟩;replace Ly:=lyb Ly hb;clear hb;have HMS:=lh hms;clear hms hg1 hg2;gi_wp2;refine ⟨trivial,(c_W (rN (some ⟨g1,0,none⟩) 3 3 (some ⟨g2,0,none⟩) 5 5 none 0 0 (dz []) 2 3 W1 HMS.out)).mono ?_⟩;rintro e W2 ⟨n,en,rfl,hma,hb⟩;replace Ly:=lyb Ly hb;clear hb;obtain ⟨rfl,rfl⟩:=eF.same hma al_holds;clear hma;clear HMS;gi_wp2;refine ⟨trivial,(c_W (eQ none 0 0 [] W2 (cB.none_ (w:=W2) (B:=W2.heap.size)) (by decide))).mono ?_⟩;rintro e W3 ⟨g1,g2,rfl,hg1,hg2,hms,hb⟩;replace Ly:=lyb Ly hb;clear hb;have HMS:=lh hms;clear hms hg1 hg2;gi_wp2;refine ⟨trivial,(c_W (kx (some ⟨g1,0,none⟩) 3 3 (some ⟨g2,0,none⟩) 5 5 none 0 0 (dz []) 3 4 1 W3 HMS.out)).mono ?_⟩;rintro e W4 ⟨lo,hi,ea,rfl,hma,hb⟩;replace Ly:=lyb Ly hb;clear hb;obtain ⟨e1,rfl⟩:=OfIs.same hma al_of
 obtain ⟨rfl,rfl⟩:lo=0∧hi=2:=⟨congrArg Prod.fst e1,congrArg Prod.snd e1⟩
 clear hma e1;clear HMS;gi_upto_region 3 with fail
 obtain ⟨V5,hV⟩:∃ V,(W4.alloc (.cells #[.int .i64 0,.int .i64 2] 54))=V:=⟨_,rfl⟩
 rw [hV];have hb:=cK hV;have hnew:=cO hV;have hge:=Ly.out.bel.size;replace Ly:=lyb Ly hb;replace Ly:=lh (Ly.out.add hge hnew);clear hnew hge hb hV
 obtain ⟨G6,hG⟩:∃ g,W4.heap.size=g:=⟨_,rfl⟩
 rw [hG] at Ly ⊢;clear hG;gi_wp2;refine ⟨trivial,(c_W (eQ none 0 0 [] V5 (cB.none_ (w:=V5) (B:=V5.heap.size)) (by decide))).mono ?_⟩;rintro e W7 ⟨g1,g2,rfl,hg1,hg2,hms,hb⟩;replace Ly:=lyb Ly hb;clear hb;have HMS:=lh hms;clear hms hg1 hg2;gi_wp2;refine ⟨trivial,(c_W (oW (some ⟨g1,0,none⟩) 3 3 (some ⟨g2,0,none⟩) 5 5 none 0 0 (dz []) 3 5 1 W7 HMS.out)).mono ?_⟩;rintro e W8 ⟨lo,hi,eb,rfl,hma,hb⟩;replace Ly:=lyb Ly hb;clear hb;obtain ⟨e1,rfl⟩:=OfIs.same hma wt
 obtain ⟨rfl,rfl⟩:lo=0∧hi=2:=⟨congrArg Prod.fst e1,congrArg Prod.snd e1⟩
 clear hma e1;rw [show fj (decide ((0:Int)<0)) (decide ((0:Int)<2))=1 from by decide];clear HMS;gi_wp2;refine ⟨trivial,(c_W (eQ none 0 0 [] W8 (cB.none_ (w:=W8) (B:=W8.heap.size)) (by decide))).mono ?_⟩;rintro e W9 ⟨g1,g2,rfl,hg1,hg2,hms,hb⟩;replace Ly:=lyb Ly hb;clear hb;have HMS:=lh hms;clear hms hg1 hg2;gi_wp2;refine ⟨trivial,(c_W ((jB (some ⟨g1,0,none⟩) 3 3 (some ⟨g2,0,none⟩) 5 5 none 0 0 (dz []) 1 5 1 W9 HMS.out).mono fun _ _ h=>iw h)).mono ?_⟩;rintro e W10 ⟨kp,ep,rfl,hma,hb⟩;replace Ly:=lyb Ly hb;clear hb;obtain ⟨rfl,rfl⟩:=gn.same hma yr;clear hma HMS;gi_wp2;refine ⟨trivial,(c_W (eQ none 0 0 [] W10 (cB.none_ (w:=W10) (B:=W10.heap.size)) (by decide))).mono ?_⟩;rintro e W11 ⟨g1,g2,rfl,hg1,hg2,hms,hb⟩;replace Ly:=lyb Ly hb;clear hb;have HMS:=lh hms;clear hms hg1 hg2;gi_wp2;refine ⟨trivial,(c_W (tR (some ⟨g1,0,none⟩) 3 3 (some ⟨g2,0,none⟩) 5 5 none 0 0 (dz []) 5 1 W11 HMS.out)).mono ?_⟩;rintro e W12 ⟨lo,hi,ec,rfl,hma,hb⟩;replace Ly:=lyb Ly hb;clear hb;obtain ⟨e1,rfl⟩:=eW.same hma wh
 obtain ⟨rfl,rfl⟩:lo=0∧hi=1:=⟨congrArg Prod.fst e1,congrArg Prod.snd e1⟩
 clear hma e1;clear HMS;gi_upto_region 6 with fail
 obtain ⟨V13,hV⟩:∃ V,(W12.alloc (.cells #[.int .i64 0,.int .i64 1] 54))=V:=⟨_,rfl⟩
 rw [hV];have hb:=cK hV;have hnew:=cO hV;have hge:=Ly.out.bel.size;replace Ly:=lyb Ly hb;replace Ly:=lh (Ly.out.add hge hnew);clear hnew hge hb hV
 obtain ⟨G14,hG⟩:∃ g,W12.heap.size=g:=⟨_,rfl⟩
 rw [hG] at Ly ⊢;clear hG;gi_wp2;refine ⟨trivial,(c_W (eQ none 0 0 [] V13 (cB.none_ (w:=V13) (B:=V13.heap.size)) (by decide))).mono ?_⟩;rintro e W15 ⟨g1,g2,rfl,hg1,hg2,hms,hb⟩;replace Ly:=lyb Ly hb;clear hb;have HMS:=lh hms;clear hms hg1 hg2;gi_wp2;refine ⟨trivial,(c_W (nc (some ⟨g1,0,none⟩) 3 3 (some ⟨g2,0,none⟩) 5 5 none 0 0 (dz []) 1 W15 HMS.out)).mono ?_⟩;rintro e W16 ⟨lo,hi,ed,rfl,hma,hb⟩;replace Ly:=lyb Ly hb;clear hb;obtain ⟨e1,rfl⟩:=fI.same hma xN
 obtain ⟨rfl,rfl⟩:lo=0∧hi=1:=⟨congrArg Prod.fst e1,congrArg Prod.snd e1⟩
 clear hma e1;clear HMS;gi_upto_region 7 with fail
 obtain ⟨V17,hV⟩:∃ V,(W16.alloc (.cells #[.int .i64 0,.int .i64 1] 54))=V:=⟨_,rfl⟩
 rw [hV];have hb:=cK hV;have hnew:=cO hV;have hge:=Ly.out.bel.size;replace Ly:=lyb Ly hb;replace Ly:=lh (Ly.out.add hge hnew);clear hnew hge hb hV
 obtain ⟨G18,hG⟩:∃ g,W16.heap.size=g:=⟨_,rfl⟩
 rw [hG] at Ly ⊢;clear hG;gi_wp2;refine ⟨trivial,(c_W (eQ none 0 0 [] V17 (cB.none_ (w:=V17) (B:=V17.heap.size)) (by decide))).mono ?_⟩;rintro e W19 ⟨g1,g2,rfl,hg1,hg2,hms,hb⟩;replace Ly:=lyb Ly hb;clear hb;have HMS:=lh hms;clear hms hg1 hg2;gi_wp2;refine ⟨trivial,(c_W (yU (some ⟨g1,0,none⟩) 3 3 (some ⟨g2,0,none⟩) 5 5 none 0 0 (dz []) 3 5 1 2 W19 HMS.out ⟨by decide,by decide⟩)).mono ?_⟩;rintro e W20 ⟨mb,me,rfl,hma,hb⟩;replace Ly:=lyb Ly hb;clear hb;obtain ⟨rfl,rfl⟩:=nM.same hma yO;clear hma;clear HMS;gi_wp2;refine ⟨trivial,(c_W (eQ none 0 0 [] W20 (cB.none_ (w:=W20) (B:=W20.heap.size)) (by decide))).mono ?_⟩;rintro e W21 ⟨g1,g2,rfl,hg1,hg2,hms,hb⟩;replace Ly:=lyb Ly hb;clear hb;have HMS:=lh hms;clear hms hg1 hg2;gi_wp2;refine ⟨trivial,(c_W (yd (some ⟨g1,0,none⟩) 3 3 (some ⟨g2,0,none⟩) 5 5 none 0 0 (dz []) 3 5 1 W21 HMS.out ⟨by decide,by decide⟩)).mono ?_⟩;rintro e W22 ⟨pl,pA,pn,pc,pe,rfl,hma,hpi,hp13,hb,hpx⟩;replace Ly:=lyb Ly hb;clear hb;obtain ⟨rfl,rfl⟩:=kF.same hma xR;have HIP:=lh hpi;have HIP9:=lh hp13;clear hma hpi hp13 hpx;clear HMS;gi_wp2;refine ⟨trivial,(c_W (eQ none 0 0 [] W22 (cB.none_ (w:=W22) (B:=W22.heap.size)) (by decide))).mono ?_⟩;rintro e W23 ⟨g1,g2,rfl,hg1,hg2,hms,hb⟩;replace Ly:=lyb Ly hb;replace HIP:=lh ((HIP.out.below hb).more hb.size);clear hb;have HMS:=lh hms;clear hms hg1 hg2;gi_wp2;refine ⟨trivial,(c_W (wU (some ⟨g1,0,none⟩) 3 3 (some ⟨g2,0,none⟩) 5 5 none 0 0 (dz []) 3 5 1 W23 HMS.out ⟨by decide,by decide⟩)).mono ?_⟩;rintro e W24 ⟨wl,wA,wn,wc,we,rfl,hma,hpi,hp13,hb,hpx⟩;replace Ly:=lyb Ly hb;replace HIP:=lh ((HIP.out.below hb).more hb.size);clear hb;obtain ⟨rfl,rfl⟩:=iT.same hma wZ;have HIW:=lh hpi;have HIW9:=lh hp13;clear hma hpi hp13 hpx;clear HMS;gi_upto_region 10 with fail
 refine wpIn_flow_old [([true,true,true,true,true,true,true,true,true,true,true,true],12),([false,false,false,false,false,false,false,false,false,false,false,false,false,true,true,true,true,true,true,true,true,true,true,true,true,true,true,true,true,true,true,true,true,true,true,true,true],37),([false,false,false,false,false,false,false,false,false,false,false,false,false,false,false,false,false,false,false,false,false,false,false,false,false,false,false,false,false,false,false,false,false,false,false,false,false,false,true,true,true,true,true,true,true,true],46),([false,false,false,false,false,false,false,false,false,false,false,false,false,false,false,false,false,false,false,false,false,false,false,false,false,false,false,false,false,false,false,false,false,false,false,false,false,false,false,false,false,false,false,false,false,false,false,true,true,true,true,true,true,true,true,true,true,true,true,true,true,true,true],63),([],64),([false,false,false,false,false,false,false,false,false,false,false,false,false,false,false,false,false,false,false,false,false,false,false,false,false,false,false,false,false,false,false,false,false,false,false,false,false,false,false,false,false,false,false,false,false,false,false,false,false,false,false,false,false,false,false,false,false,false,false,false,false,false,false,false,false,true,true,true,true,true,true,true,true],73),([],74)] [false,false,false,false,false,false,false,false,false,false,false,false,false,false,false,false,false,false,false,false,false,false,false,false,false,false,false,false,false,false,false,false,false,false,false,false,false,false,false,false,false,false,false,false,false,false,false,false,false,false,false,false,false,false,false,false,false,false,false,false,false,false,false,false,false,false,false,false,false,false,false,false,false,false,false,true,true] [] (by kernel_rfl) (by kernel_rfl) (by kernel_rfl) (av b_R 1) ?_;refine wpFlow_cons (A:=?AF1) rfl ?hq1 ?_
 case hq1 =>
  rintro σ hσ of hof hcl;have HOF:=lh hof;clear hof hcl;obtain ⟨c0_,c1_⟩:=lyz2 Ly HOF 0 rfl;obtain ⟨c2_,c3_⟩:=lyz2 Ly HOF 1 rfl;obtain ⟨c4_,c5_⟩:=lyz2 Ly HOF 2 rfl;have hfw:=hfT;have hs02:∀ z:World,(Op.equalIn 10000 54 (.agg #[.int .i64 0,.int .i64 2]) (.agg #[.int .i64 0,.int .i64 2])).run Tryz.prog z = .ok true z:=fun z=>du 0 2 z;have hs01:∀ z:World,(Op.equalIn 10000 54 (.agg #[.int .i64 0,.int .i64 1]) (.agg #[.int .i64 0,.int .i64 1])).run Tryz.prog z = .ok true z:=fun z=>du 0 1 z;simp only [List.append_eq,List.cons_append,List.nil_append,bu]
  repeat (gi_big_quiet_step (fail))
  refine wpQuietIn_nil ?_;exact rfl
 intro W25 hW;replace Ly:=lyb Ly hW;replace HIP:=lh ((HIP.out.below hW).more hW.size);replace HIW:=lh ((HIW.out.below hW).more hW.size);clear hW;gi_wp2;refine ⟨trivial,(c_W (kY 0 2 W25)).mono ?_⟩;rintro e W26 ⟨rfl,hb⟩;replace Ly:=lyb Ly hb;replace HIP:=lh ((HIP.out.below hb).more hb.size);replace HIW:=lh ((HIW.out.below hb).more hb.size);gi_wp2;refine ⟨trivial,hb,?_⟩;clear hb;refine wpFlow_cons (A:=?AF2) rfl ?hq2 ?_
 case hq2 =>
  rintro σ hσ of hof hcl;have HOF:=lh hof;clear hof hcl;obtain ⟨c0_,c1_⟩:=lyz2 Ly HOF 0 rfl;obtain ⟨c2_,c3_⟩:=lyz2 Ly HOF 1 rfl;obtain ⟨c4_,c5_⟩:=lyz2 Ly HOF 2 rfl;have hfw:=hfT;have hs02:∀ z:World,(Op.equalIn 10000 54 (.agg #[.int .i64 0,.int .i64 2]) (.agg #[.int .i64 0,.int .i64 2])).run Tryz.prog z = .ok true z:=fun z=>du 0 2 z;have hs01:∀ z:World,(Op.equalIn 10000 54 (.agg #[.int .i64 0,.int .i64 1]) (.agg #[.int .i64 0,.int .i64 1])).run Tryz.prog z = .ok true z:=fun z=>du 0 1 z;simp only [List.append_eq,List.cons_append,List.nil_append,bu]
  repeat (gi_big_quiet_step (fail))
  refine wpQuietIn_nil ?_;exact rfl
 intro W27 hW;replace Ly:=lyb Ly hW;replace HIP:=lh ((HIP.out.below hW).more hW.size);replace HIW:=lh ((HIW.out.below hW).more hW.size);clear hW;gi_wp2;refine ⟨trivial,(c_W (kY 0 1 W27)).mono ?_⟩;rintro e W28 ⟨rfl,hb⟩;replace Ly:=lyb Ly hb;replace HIP:=lh ((HIP.out.below hb).more hb.size);replace HIW:=lh ((HIW.out.below hb).more hb.size);gi_wp2;refine ⟨trivial,hb,?_⟩;clear hb;refine wpFlow_cons (A:=?AF3) rfl ?hq3 ?_
 case hq3 =>
  rintro σ hσ of hof hcl;have HOF:=lh hof;clear hof hcl;obtain ⟨c0_,c1_⟩:=lyz2 Ly HOF 0 rfl;obtain ⟨c2_,c3_⟩:=lyz2 Ly HOF 1 rfl;obtain ⟨c4_,c5_⟩:=lyz2 Ly HOF 2 rfl;have hfw:=hfT;have hs02:∀ z:World,(Op.equalIn 10000 54 (.agg #[.int .i64 0,.int .i64 2]) (.agg #[.int .i64 0,.int .i64 2])).run Tryz.prog z = .ok true z:=fun z=>du 0 2 z;have hs01:∀ z:World,(Op.equalIn 10000 54 (.agg #[.int .i64 0,.int .i64 1]) (.agg #[.int .i64 0,.int .i64 1])).run Tryz.prog z = .ok true z:=fun z=>du 0 1 z;simp only [List.append_eq,List.cons_append,List.nil_append,bu]
  repeat (gi_big_quiet_step (fail))
  refine wpQuietIn_nil ?_;exact rfl
 intro W29 hW;replace Ly:=lyb Ly hW;replace HIP:=lh ((HIP.out.below hW).more hW.size);replace HIW:=lh ((HIW.out.below hW).more hW.size);clear hW;gi_wp2;refine ⟨trivial,(c_W (kY 0 1 W29)).mono ?_⟩;rintro e W30 ⟨rfl,hb⟩;replace Ly:=lyb Ly hb;replace HIP:=lh ((HIP.out.below hb).more hb.size);replace HIW:=lh ((HIW.out.below hb).more hb.size);gi_wp2;refine ⟨trivial,hb,?_⟩;clear hb;refine wpFlow_cons (A:=?AF4) rfl ?hq4 ?_
 case hq4 =>
  rintro σ hσ of hof hcl;have HOF:=lh hof;clear hof hcl;obtain ⟨c0_,c1_⟩:=lyz2 Ly HOF 0 rfl;obtain ⟨c2_,c3_⟩:=lyz2 Ly HOF 1 rfl;obtain ⟨c4_,c5_⟩:=lyz2 Ly HOF 2 rfl;have hfw:=hfT;have hs02:∀ z:World,(Op.equalIn 10000 54 (.agg #[.int .i64 0,.int .i64 2]) (.agg #[.int .i64 0,.int .i64 2])).run Tryz.prog z = .ok true z:=fun z=>du 0 2 z;have hs01:∀ z:World,(Op.equalIn 10000 54 (.agg #[.int .i64 0,.int .i64 1]) (.agg #[.int .i64 0,.int .i64 1])).run Tryz.prog z = .ok true z:=fun z=>du 0 1 z;simp only [List.append_eq,List.cons_append,List.nil_append,bu]
  repeat (gi_big_quiet_step (fail))
  refine wpQuietIn_nil ?_;exact rfl
 intro W31 hW;replace Ly:=lyb Ly hW;replace HIP:=lh ((HIP.out.below hW).more hW.size);replace HIW:=lh ((HIW.out.below hW).more hW.size);clear hW;gi_wp2;refine ⟨trivial,b_R.alloc n_R _,?_⟩;have hb:Below W31.heap.size W31 (W31.alloc (.cells #[.int .i64 1,.int .i64 3,.int .i64 4] 3)):=b_R.alloc n_R _;replace Ly:=lyb Ly hb;replace HIP:=lh ((HIP.out.below hb).more hb.size);replace HIW:=lh ((HIW.out.below hb).more hb.size);have HPl:=lh (show cp (W31.alloc (.cells #[.int .i64 1,.int .i64 3,.int .i64 4] 3)) (W31.alloc (.cells #[.int .i64 1,.int .i64 3,.int .i64 4] 3)).heap.size (some ⟨W31.heap.size,0,none⟩) 3 [1,3,4] from cp.new W31 3 [1,3,4] _ (by simp))
 obtain ⟨P33,hP⟩:∃ P,W31.heap.size=P:=⟨_,rfl⟩
 rw [hP] at HPl ⊢;generalize (W31.alloc (.cells #[.int .i64 1,.int .i64 3,.int .i64 4] 3))=V32 at *;clear hb hP;refine wpFlow_cons rfl Quietly.none ?_;intro W34 hW;replace Ly:=lyb Ly hW;replace HIP:=lh ((HIP.out.below hW).more hW.size);replace HIW:=lh ((HIW.out.below hW).more hW.size);replace HPl:=lh ((HPl.out.below hW).more hW.size);clear hW;gi_wp2;refine ⟨trivial,(callsIn_wide.2 (iU pA pn pc [1,3,4] (some ⟨P33,0,none⟩) 3 3 [1,3,4] W34 (by have:=HIP9.out;unfold maxLen;omega) (by decide) HIP.out HPl.out)).mono ?_⟩;rintro e W35 ⟨rfl,hb⟩;replace Ly:=lyb Ly hb;replace HIP:=lh ((HIP.out.below hb).more hb.size);replace HIW:=lh ((HIW.out.below hb).more hb.size);replace HPl:=lh ((HPl.out.below hb).more hb.size);rw [show jD [1,3,4] [1,3,4]=true from by decide];gi_wp2;refine ⟨trivial,hb,?_⟩;clear hb;clear HPl;refine wpFlow_cons (A:=?AF5) rfl ?hq5 ?_
 case hq5 =>
  rintro σ hσ of hof hcl;have HOF:=lh hof;clear hof hcl;obtain ⟨c0_,c1_⟩:=lyz2 Ly HOF 0 rfl;obtain ⟨c2_,c3_⟩:=lyz2 Ly HOF 1 rfl;obtain ⟨c4_,c5_⟩:=lyz2 Ly HOF 2 rfl;have hfw:=hfT;have hs02:∀ z:World,(Op.equalIn 10000 54 (.agg #[.int .i64 0,.int .i64 2]) (.agg #[.int .i64 0,.int .i64 2])).run Tryz.prog z = .ok true z:=fun z=>du 0 2 z;have hs01:∀ z:World,(Op.equalIn 10000 54 (.agg #[.int .i64 0,.int .i64 1]) (.agg #[.int .i64 0,.int .i64 1])).run Tryz.prog z = .ok true z:=fun z=>du 0 1 z;simp only [List.append_eq,List.cons_append,List.nil_append,bu]
  repeat (gi_big_quiet_step (fail))
  refine wpQuietIn_nil ?_;exact rfl
 intro W36 hW;replace Ly:=lyb Ly hW;replace HIP:=lh ((HIP.out.below hW).more hW.size);replace HIW:=lh ((HIW.out.below hW).more hW.size);clear hW;gi_wp2;refine ⟨trivial,b_R.alloc n_R _,?_⟩;have hb:Below W36.heap.size W36 (W36.alloc (.cells #[.int .i64 1] 3)):=b_R.alloc n_R _;replace Ly:=lyb Ly hb;replace HIP:=lh ((HIP.out.below hb).more hb.size);replace HIW:=lh ((HIW.out.below hb).more hb.size);have HPl:=lh (show cp (W36.alloc (.cells #[.int .i64 1] 3)) (W36.alloc (.cells #[.int .i64 1] 3)).heap.size (some ⟨W36.heap.size,0,none⟩) 1 [1] from cp.new W36 3 [1] _ (by simp))
 obtain ⟨P38,hP⟩:∃ P,W36.heap.size=P:=⟨_,rfl⟩
 rw [hP] at HPl ⊢;generalize (W36.alloc (.cells #[.int .i64 1] 3))=V37 at *;clear hb hP;refine wpFlow_cons rfl Quietly.none ?_;intro W39 hW;replace Ly:=lyb Ly hW;replace HIP:=lh ((HIP.out.below hW).more hW.size);replace HIW:=lh ((HIW.out.below hW).more hW.size);replace HPl:=lh ((HPl.out.below hW).more hW.size);clear hW;gi_wp2;refine ⟨trivial,(callsIn_wide.2 (iU wA wn wc [1] (some ⟨P38,0,none⟩) 1 1 [1] W39 (by have:=HIW9.out;unfold maxLen;omega) (by decide) HIW.out HPl.out)).mono ?_⟩;rintro e W40 ⟨rfl,hb⟩;replace Ly:=lyb Ly hb;replace HIP:=lh ((HIP.out.below hb).more hb.size);replace HIW:=lh ((HIW.out.below hb).more hb.size);replace HPl:=lh ((HPl.out.below hb).more hb.size);rw [show jD [1] [1]=true from by decide];gi_wp2;refine ⟨trivial,hb,?_⟩;clear hb;clear HPl;refine wpFlow_nil (A:=?AF6) ?hq6 ?_
 case hq6 =>
  rintro σ hσ of hof hcl;have HOF:=lh hof;clear hof hcl;obtain ⟨c0_,c1_⟩:=lyz2 Ly HOF 0 rfl;obtain ⟨c2_,c3_⟩:=lyz2 Ly HOF 1 rfl;obtain ⟨c4_,c5_⟩:=lyz2 Ly HOF 2 rfl;have hfw:=hfT;have hs02:∀ z:World,(Op.equalIn 10000 54 (.agg #[.int .i64 0,.int .i64 2]) (.agg #[.int .i64 0,.int .i64 2])).run Tryz.prog z = .ok true z:=fun z=>du 0 2 z;have hs01:∀ z:World,(Op.equalIn 10000 54 (.agg #[.int .i64 0,.int .i64 1]) (.agg #[.int .i64 0,.int .i64 1])).run Tryz.prog z = .ok true z:=fun z=>du 0 1 z;simp only [List.append_eq,List.cons_append,List.nil_append,bu]
  repeat (gi_big_quiet_step (fail))
  refine wpQuietIn_nil ?_;exact rfl
 intro W41 hW;replace Ly:=lyb Ly hW;replace HIP:=lh ((HIP.out.below hW).more hW.size);replace HIW:=lh ((HIW.out.below hW).more hW.size);clear hW;simp only [List.append_eq,List.cons_append,List.nil_append,bu];refine cr ?_;gi_wp2;refine ⟨trivial,(c_W (eQ none 0 0 [] W41 (cB.none_ (w:=W41) (B:=W41.heap.size)) (by decide))).mono ?_⟩;rintro e W42 ⟨g1,g2,rfl,hg1,hg2,hms,hb⟩;replace Ly:=lyb Ly hb;replace HIP:=lh ((HIP.out.below hb).more hb.size);replace HIW:=lh ((HIW.out.below hb).more hb.size);clear hb;have HMS:=lh hms;clear hms hg1 hg2;gi_wp2;refine ⟨trivial,(c_W (tn (some ⟨g1,0,none⟩) 3 3 (some ⟨g2,0,none⟩) 5 5 none 0 0 (dz []) 3 1 1 1 W42 HMS.out)).mono ?_⟩;rintro e W43 ⟨k,ee,rfl,hma,hb⟩;replace Ly:=lyb Ly hb;replace HIP:=lh ((HIP.out.below hb).more hb.size);replace HIW:=lh ((HIW.out.below hb).more hb.size);clear hb;obtain ⟨rfl,rfl⟩:=jS.same hma xX;clear hma;clear HMS;gi_wp2;refine ⟨trivial,(c_W (j5 1 2 4 1 2 2 W43)).mono ?_⟩;rintro e W44 ⟨rfl,hb⟩;replace Ly:=lyb Ly hb;replace HIP:=lh ((HIP.out.below hb).more hb.size);replace HIW:=lh ((HIW.out.below hb).more hb.size);clear hb;gi_wp2;have hb:Below W44.heap.size W44 (W44.alloc (.cells #[.int .i64 1,.int .i64 2,.int .i64 4,.int .i64 1,.int .i64 2,.int .i64 2] 69)):=b_R.alloc n_R _;have HTS:=lh (fy W44 69 (k:=6) (n:=1) [.int .i64 1,.int .i64 2,.int .i64 4,.int .i64 1,.int .i64 2,.int .i64 2] rfl);change Hid (cB (W44.alloc (.cells #[.int .i64 1,.int .i64 2,.int .i64 4,.int .i64 1,.int .i64 2,.int .i64 2] 69)) (W44.alloc (.cells #[.int .i64 1,.int .i64 2,.int .i64 4,.int .i64 1,.int .i64 2,.int .i64 2] 69)).heap.size 6 (some ⟨W44.heap.size,0,none⟩) 1 ([alT1].flatMap Tast.vals)) at HTS
 obtain ⟨V0,hV⟩:∃ V,(W44.alloc (.cells #[.int .i64 1,.int .i64 2,.int .i64 4,.int .i64 1,.int .i64 2,.int .i64 2] 69))=V:=⟨_,rfl⟩
 rw [hV] at hb HTS ⊢
 obtain ⟨gt,hgt⟩:∃ g,W44.heap.size=g:=⟨_,rfl⟩
 rw [hgt] at HTS ⊢;replace Ly:=lyb Ly hb;replace HIP:=lh ((HIP.out.below hb).more hb.size);replace HIW:=lh ((HIW.out.below hb).more hb.size);clear hb hV hgt;refine ⟨trivial,(c_W (eQ (some ⟨gt,0,none⟩) 1 1 [alT1] V0 HTS.out (by decide))).mono ?_⟩;rintro e W45 ⟨g1,g2,rfl,hg1,hg2,hms,hb⟩;replace Ly:=lyb Ly hb;replace HIP:=lh ((HIP.out.below hb).more hb.size);replace HIW:=lh ((HIW.out.below hb).more hb.size);clear hb;have HMS:=lh hms;clear hms hg1 hg2 HTS;gi_wp2;refine ⟨trivial,(c_W (j5 2 3 5 1 1 2 W45)).mono ?_⟩;rintro e W46 ⟨rfl,hb⟩;replace Ly:=lyb Ly hb;replace HIP:=lh ((HIP.out.below hb).more hb.size);replace HIW:=lh ((HIW.out.below hb).more hb.size);replace HMS:=lh (HMS.out.up hb);clear hb;gi_wp2;refine ⟨trivial,(c_W (sJ (some ⟨g1,0,none⟩) 3 3 (some ⟨g2,0,none⟩) 5 5 (some ⟨gt,0,none⟩) 1 1 (dz [alT1]) alT2 W46 HMS.out)).mono ?_⟩;rintro e W47 ⟨A1,n1,c1,A2,n2,c2,A3,n3,c3,rfl,hmo,hn3,hb⟩;replace Ly:=lyb Ly hb;replace HIP:=lh ((HIP.out.below hb).more hb.size);replace HIW:=lh ((HIW.out.below hb).more hb.size);replace HMS:=lh (HMS.out.up hb);clear hb;rw [yW] at hmo ⊢;have HMO:=lh hmo;have HN3:=lh (iL hmo (by kernel_rfl));clear hmo hn3;clear HMS;gi_upto_region 14 with fail
 obtain ⟨V48,hV⟩:∃ V,(W47.alloc (.cells #[.int .i64 (dz [alT1,alT2]).fountains,.slice A1 n1 c1,.slice A2 n2 c2,.slice A3 n3 c3] 26))=V:=⟨_,rfl⟩
 rw [hV];have hb:=cK hV;have hnew:=cO hV;have hge:=Ly.out.bel.size;replace Ly:=lyb Ly hb;replace HIP:=lh ((HIP.out.below hb).more hb.size);replace HIW:=lh ((HIW.out.below hb).more hb.size);replace HMO:=lh (HMO.out.below hb);replace Ly:=lh (Ly.out.add hge hnew);clear hnew hge hb hV
 obtain ⟨G49,hG⟩:∃ g,W47.heap.size=g:=⟨_,rfl⟩
 rw [hG] at Ly ⊢;clear hG;obtain ⟨x3_0,x3_1,x3_2,x3_3⟩:=lyc4 Ly 3 rfl;have l3_:=Ly.out.lt 3 rfl;gi_wp2;clear x3_0 x3_1 x3_2 x3_3 l3_;refine ⟨trivial,(c_W (tP A1 n1 c1 A2 n2 c2 A3 n3 c3 (dz [alT1,alT2]) V48 (HMO.out.s HN3.out.1 HN3.out.2.1 HN3.out.2.2.1))).mono ?_⟩;rintro e W50 ⟨rl,rA,rn,rc,re,rfl,hma,hpi,hp3,hb,hpx⟩;replace Ly:=lyb Ly hb;replace HIP:=lh ((HIP.out.below hb).more hb.size);replace HIW:=lh ((HIW.out.below hb).more hb.size);replace HMO:=lh (HMO.out.below hb);clear hb;obtain ⟨rfl,rfl⟩:=jc.same hma xx;have HIR:=lh hpi;have HIR9:=lh hp3;clear hma hpi hp3 hpx;gi_wp2;have hb1:Below W50.heap.size W50 (W50.alloc (.cells #[.int .i64 1] 3)):=b_R.alloc n_R _;have HP1:=cp.new W50 3 [1] (W50.alloc (.cells #[.int .i64 1] 3)).heap.size (by simp);refine ⟨trivial,(callsIn_wide.2 (iU rA rn rc [1] (some ⟨W50.heap.size,0,none⟩) 1 1 [1] _ (by have:=HIR9.out;unfold maxLen;omega) (by decide) ((HIR.out.below hb1).more hb1.size) HP1)).mono ?_⟩;rintro e W99 ⟨rfl,hb⟩;have hb9:=Ly.out.1.trans ((hb1.trans (hb.mono hb1.size)).mono Ly.out.1.size);clear hb hb1 HP1;rw [show jD [1] [1]=true from by decide];gi_wp2;refine bodyPost_ret (v:=.bool true) (by simp [results,Tryz.results22,go_sem]) rfl ?_;exact ⟨rfl,hb9⟩
end
section
section
variable {m m':Mix} {A:List Held} {f:Int} {T:Tast}
theorem qV (hv:m'.vessels=m.vessels)(ha:m'.acts=m.acts){S:Nat→Held}{K:Nat→Int}(h:Run m f A S K)(ht:∀ {t:Nat},t≤m.acts.length→db m' f t (S t)=true):Run m' f A S K:=by
 have e1:∀ x,cm m' x=cm m x:=fun x=>by unfold cm;rw [hv]
 have e2:∀ x,toI m' x=toI m x:=fun x=>by unfold toI;rw [hv]
 have e3:∀ all x,cJ m' all x=cJ m all x:=fun all x=>by unfold cJ;rw [e1]
 have e4:∀ x all has,cP m' x f all has=cP m x f all has:=fun x all has=>by unfold cP;rw [e1,e3]
 refine ⟨h.zero,fun {t} {x} {all} hx hal=>?_,fun {t} h'=>ht (by rw [← ha];exact h')⟩;rw [ha] at hx;rw [e4,e1,e2];exact h.step hx hal
theorem i8 {t:Nat}{s:Held}:db m f t s=true↔∀ x∈m.tastes,x.fountain=f→x.after=(t:Int)→x.lo≤au s (idxV m.vessels x.vessel)∧au s (idxV m.vessels x.vessel)≤x.hi:=by
 unfold db;rw [List.all_eq_true];constructor
 ·intro h x hx e1 e2
  have:=h x hx;simpa [e1,e2] using this
 ·intro h x hx
  by_cases e1:x.fountain=f
  ·by_cases e2:x.after=(t:Int)
   ·have:=h x hx e1 e2
    simp [e1,e2,this.1,this.2]
   ·simp [e2]
  ·simp [e1]
theorem qC (hA:allM m m.acts=some A)(hv:m'.vessels=m.vessels)(ha:m'.acts=m.acts)(ht:∀ x,x∈m'.tastes↔x∈m.tastes∨x=T)(hf:T.fountain=f){a:Nat}(haf:T.after=(a:Int))(hal:a≤m.acts.length)(hA':allM m' m'.acts=some A) :
  cu m' f A 0 cQ↔∃ s,cu m f A a s∧T.lo≤au s (idxV m.vessels T.vessel)∧au s (idxV m.vessels T.vessel)≤T.hi:=by
 constructor
 ·intro h
  obtain ⟨S,K,hr,_⟩:=h.run (Nat.zero_le _);have hr2:Run m f A S K:=qV hv.symm ha.symm hr (fun {t} h'=>jN hv (fun x hx _=>(ht x).2 (.inl hx)) (hr.tast h'));have h3:=i8.1 (hr.tast (t:=a) (by rw [ha];exact hal)) T ((ht T).2 (.inr rfl)) hf haf;rw [hv] at h3;exact ⟨S a,hr2.truth hA hal,h3⟩
 ·rintro ⟨s,h,h1,h2⟩
  obtain ⟨S,K,hr,rfl⟩:=h.run hal
  have hr2:Run m' f A S K:=qV hv ha hr (fun {t} h'=>by
   rw [i8];intro x hx e1 e2;rw [hv];rcases (ht x).1 hx with hx | rfl
   ·exact i8.1 (hr.tast h') x hx e1 e2
   ·obtain rfl:a=t:=by omega
    exact ⟨h1,h2⟩)
  have h3:=hr2.truth hA' (t:=0) (Nat.zero_le _);rw [hr2.zero] at h3;exact h3
theorem uK (hA:allM m m.acts=some A)(hm:m.vessels.length≤4)(hv:m'.vessels=m.vessels)(ha:m'.acts=m.acts)(ht:∀ x,x∈m'.tastes↔x∈m.tastes∨x=T)(hf:T.fountain=f){a:Nat}(haf:T.after=(a:Int))(hal:a≤m.acts.length)(hA':allM m' m'.acts=some A){n:Int}(hlo:T.lo=n)(hhi:T.hi=n) :
  (cu m' f A 0 cQ↔cu m f A 0 cQ∧∀ s:Int × Int,dW (OfP m T.vessel a f A) s→s.1≤n∧n≤s.2)∨¬ (cu m f A 0 cQ→∃ s,dW (OfP m T.vessel a f A) s):=by
 by_cases hs:cu m f A 0 cQ→∃ s,dW (OfP m T.vessel a f A) s
 ·left
  rw [qC hA hv ha ht hf haf hal hA',hlo,hhi];constructor
  ·rintro ⟨x,h,h1,h2⟩
   have h0:cu m f A 0 cQ:=by
    obtain ⟨S,K,hr,_⟩:=h.run hal;have:=hr.truth hA (t:=0) (Nat.zero_le _)
    rwa [hr.zero] at this
   refine ⟨h0,fun s hsp=>?_⟩;exact hsp.2.2 n ⟨x,by simpa using h,by omega⟩
  ·rintro ⟨h0,h1⟩
   obtain ⟨s,hsp⟩:=hs h0;obtain ⟨k1,k2⟩:=h1 s hsp;obtain ⟨x,hx,ex⟩:=hsp.1;obtain ⟨y,hy,ey⟩:=hsp.2.1;simp only [Int.toNat_natCast] at hx hy;rw [i6] at ex ey;have hi4:(idxV m.vessels T.vessel).toNat<4:=by have:=d9 (id:=T.vessel) hm;omega
   obtain ⟨z,hz,ez⟩:=nS hA hm hal hi4 hx hy (n:=n) (by omega) (by omega);rw [← i6] at ez;exact ⟨z,hz,by omega,by omega⟩
 ·exact .inr hs
end
end
section
def et (n:Int)(x:Tast):Int:=if x.num=n then n+1 else n
def eu (l:List Tast):Int:=l.foldl et 1
theorem pr:∀ {l:List Tast} {n:Int},(∀ x∈l,n<x.num)→l.foldl et n=n
 | [],n,_=>rfl
 | x::l,n,h=>by
  have h1:=h x (by simp);rw [List.foldl_cons,show et n x=n from if_neg (by omega)];exact pr fun y hy=>h y (by simp [hy])
theorem rD:∀ {l:List Tast} {n:Int},(l.map (·.num)).Pairwise (·<·)→(∀ x∈l,n≤x.num)→n≤l.foldl et n∧l.foldl et n≤n+l.length∧∀ x∈l,x.num≠l.foldl et n
 | [],n,_,_=>⟨Int.le_refl _,by simp,fun x h=>by cases h⟩
 | x::l,n,hp,h=>by
  rw [List.map_cons,List.pairwise_cons] at hp;have h1:=h x (by simp);have h2:∀ y∈l,x.num<y.num:=fun y hy=>hp.1 _ (List.mem_map.2 ⟨y,hy,rfl⟩);rw [List.foldl_cons];by_cases e:x.num=n
  ·rw [show et n x=n+1 from if_pos e]
   obtain ⟨a,b,c⟩:=rD (n:=n+1) hp.2 fun y hy=>by have:=h2 y hy;omega
   refine ⟨by omega,by simp;omega,fun y hy=>?_⟩;rcases List.mem_cons.1 hy with rfl | hy
   ·omega
   ·exact c y hy
  ·rw [show et n x=n from if_neg e,pr fun y hy=>by have:=h2 y hy;omega]
   refine ⟨Int.le_refl _,by simp;omega,fun y hy=>?_⟩;rcases List.mem_cons.1 hy with rfl | hy
   ·exact e
   ·have:=h2 y hy;omega
theorem jK {l:List Tast}{T x:Tast}:x∈insS l T↔x∈l∨x=T:=by
 have h:x∈l↔x∈l.takeWhile (fun y=>decide (y.num≤T.num))∨x∈l.dropWhile (fun y=>decide (y.num≤T.num)):=by
  rw [← List.mem_append,List.takeWhile_append_dropWhile]
 unfold insS;rw [h];simp only [List.mem_append,List.mem_singleton];constructor
 ·rintro ((h | h) | h)
  ·exact .inl (.inl h)
  ·exact .inr h
  ·exact .inl (.inr h)
 ·rintro ((h | h) | h)
  ·exact .inl (.inl h)
  ·exact .inr h
  ·exact .inl (.inr h)
theorem tx {p:Tast→Bool}:∀ {l:List Tast},∀ x∈l.takeWhile p,p x=true
 | [],x,h=>by cases h
 | y::l,x,h=>by
  rw [List.takeWhile_cons] at h;by_cases e:p y=true
  ·rw [if_pos e] at h
   rcases List.mem_cons.1 h with rfl | h
   ·exact e
   ·exact tx x h
  ·rw [if_neg e] at h
   cases h
theorem tw {k:Int}:∀ {l:List Tast},(l.map (·.num)).Pairwise (·<·)→∀ x∈l.dropWhile (fun y=>decide (y.num≤k)),k<x.num
 | [],_,x,h=>by cases h
 | y::l,hp,x,h=>by
  rw [List.map_cons,List.pairwise_cons] at hp;rw [List.dropWhile_cons] at h;by_cases e:y.num≤k
  ·rw [if_pos (by simpa using e)] at h
   exact tw hp.2 x h
  ·rw [if_neg (by simpa using e)] at h
   rcases List.mem_cons.1 h with rfl | h
   ·omega
   ·have:=hp.1 _ (List.mem_map.2 ⟨x,h,rfl⟩)
    omega
theorem xb {l:List Tast}{T:Tast}(hp:(l.map (·.num)).Pairwise (·<·))(hn:∀ x∈l,x.num≠T.num):((insS l T).map (·.num)).Pairwise (·<·):=by
 have ht:∀ x∈l.takeWhile (fun y=>decide (y.num≤T.num)),x.num<T.num:=fun x hx=>by
  have h1:=tx x hx;have h2:=hn x ((List.takeWhile_sublist _).subset hx);simp at h1;omega
 have hd:=tw (k:=T.num) hp;unfold insS;rw [List.map_append,List.map_append,List.pairwise_append,List.pairwise_append];refine ⟨⟨hp.sublist ((List.takeWhile_sublist _).map _),by simp,fun a ha b hb=>?_⟩,hp.sublist ((List.dropWhile_sublist _).map _),fun a ha b hb=>?_⟩
 ·obtain ⟨x,hx,rfl⟩:=List.mem_map.1 ha
  have:=ht x hx;simp at hb;omega
 ·obtain ⟨y,hy,rfl⟩:=List.mem_map.1 hb
  have h2:=hd y hy;rcases List.mem_append.1 ha with ha | ha
  ·obtain ⟨x,hx,rfl⟩:=List.mem_map.1 ha
   have:=ht x hx;omega
  ·simp at ha
   omega
theorem jx {m:Mix}(h:cA m=true):(∀ v∈m.vessels,iG v=true)∧(∀ x∈m.tastes,dA m x=true)∧risB 0 (m.vessels.map (·.id))=true∧risB 0 (m.tastes.map (·.num))=true:=by
 unfold cA at h;simp only [Bool.and_eq_true,decide_eq_true_eq] at h;obtain ⟨⟨⟨⟨⟨⟨h1,h2⟩,h5⟩,h6⟩,h7⟩,h8⟩,h9⟩:=h;exact ⟨List.all_eq_true.1 h5,List.all_eq_true.1 h6,h8,h9⟩
theorem xP {m:Mix}(h:cA m=true){l:List Tast}(hl:l.length≤8)(ht:∀ x∈l,dA m x=true)(hr:risB 0 (l.map (·.num))=true):cA (eq m l)=true:=by
 unfold cA at h ⊢;simp only [Bool.and_eq_true,decide_eq_true_eq] at h ⊢;obtain ⟨⟨⟨⟨⟨⟨h1,h2,h3,h4⟩,h5⟩,h6⟩,h7⟩,h8⟩,h9⟩:=h;exact ⟨⟨⟨⟨⟨⟨h1,h2,h3,hl⟩,h5⟩,List.all_eq_true.2 ht⟩,h7⟩,h8⟩,hr⟩
theorem tq {m:Mix}{T:Tast}(h:cA m=true)(h8:m.tastes.length≠8)(hn:T.num=eu m.tastes)(hT:dA m T=true) :
  putS m T=(eq m (insS m.tastes T),0)∧cA (eq m (insS m.tastes T))=true:=by
 have hv:=cL h;obtain ⟨p1,p2,p3,p4⟩:=jx h;obtain ⟨r1,r2⟩:=fA p4;obtain ⟨n1,n2,n3⟩:=rD (n:=1) r1 fun x hx=>by have:=r2 _ (List.mem_map.2 ⟨x,hx,rfl⟩);omega
 have hnn:∀ x∈m.tastes,x.num≠T.num:=fun x hx=>by rw [hn];exact n3 x hx
 have hlen:(insS m.tastes T).length=m.tastes.length+1:=by
  unfold insS;have:=congrArg List.length (List.takeWhile_append_dropWhile (p:=fun y=>decide (y.num≤T.num)) (l:=m.tastes));simp only [List.length_append,List.length_singleton] at this ⊢;omega
 have hok:cA (eq m (insS m.tastes T))=true:=by
  refine xP h (by omega) (fun x hx=>?_) (qj (xb r1 hnn) fun x hx=>?_)
  ·rcases jK.1 hx with hx | rfl
   ·exact p2 x hx
   ·exact hT
  ·obtain ⟨y,hy,rfl⟩:=List.mem_map.1 hx
   rcases jK.1 hy with hy | rfl
   ·exact r2 _ (List.mem_map.2 ⟨y,hy,rfl⟩)
   ·rw [hn]
    unfold eu;omega
 refine ⟨?_,hok⟩;unfold putS;rw [if_pos h,if_neg h8,if_pos hok]
section
variable {m x:Mix} {v t f g n:Int} {T:Tast} {s s' c d:Int × Int} {e h i j k:Int}
theorem dJ (hok:cA m=true)(hv:0≤idxV m.vessels v)(ht:0≤t∧t≤m.acts.length)(hf:1≤f∧f≤m.fountains)(h:OfIs m v t f s e):fG m f (OfP m v t f) s e:=by
 have h0:askM m v t [f]=0:=by unfold askM;rw [if_pos hok,if_neg (by omega),if_pos ⟨ht,by simpa using hf⟩]
 rcases h with ⟨h1,_⟩ | ⟨_,h1⟩
 ·exact absurd h0 h1
 ·exact h1
theorem mh (hok:cA m=true)(hf:1≤f∧f≤m.fountains)(h:fI m f s e):fG m f (jH m f) s e:=by
 have h0:kj m f=0:=by unfold kj;rw [if_pos hok,if_pos hf]
 rcases h with ⟨h1,_⟩ | ⟨_,h1⟩
 ·exact absurd h0 h1
 ·exact h1
theorem kT (hok:cA m=true)(hv:0≤idxV m.vessels v)(ht:0≤t∧t≤m.acts.length)(h:eF m v t n e):e=0∧∃ A a,allM m m.acts=some A∧A[t.toNat]? =some a∧n=au a (idxV m.vessels v):=by
 have h0:askM m v t []=0:=by unfold askM;rw [if_pos hok,if_neg (by omega),if_pos ⟨ht,by simp⟩]
 rcases h with ⟨h1,_⟩ | ⟨_,h1⟩
 ·exact absurd h0 h1
 ·exact h1
theorem fu {P Q:List Held→Int→Prop}{A:List Held}(hA:allM m m.acts=some A)(h1:fG m f P s e)(h2:fG m f Q c k):e=k∧((e=0∧cu m f A 0 cQ∧dW (P A) s∧dW (Q A) c)∨(e=8∧¬ cu m f A 0 cQ∧s=(0,0)∧c=(0,0))):=by
 obtain ⟨A1,e1,h1⟩:=h1;obtain ⟨A2,e2,h2⟩:=h2;rw [hA] at e1 e2;cases e1;cases e2
 rcases h1 with ⟨a,b,c⟩ | ⟨a,b,c⟩<;>rcases h2 with ⟨a',b',c'⟩ | ⟨a',b',c'⟩
 ·exact ⟨by omega,.inr ⟨c,a,b,b'⟩⟩
 ·exact absurd a' a
 ·exact absurd a a'
 ·exact ⟨by omega,.inl ⟨b,a,c,c'⟩⟩
theorem xq (hok:cA m=true)(hox:cA x=true)(hx:x=eq m (insS m.tastes T))(hT:T.fountain=g)(hv:0≤idxV m.vessels v)(ht:0≤t∧t≤m.acts.length)(hf:1≤f∧f≤m.fountains)
  (h1:OfIs m v t f s h) (h2:OfIs x v t f s' i) (h3:fI m f c j) (h4:fI x f d k) :
  h=j∧i=k∧(f≠g→s=s'∧h=i∧c=d)∧(f=g→(i=0∧h=0∧(s.1≤s'.1∧s'.2≤s.2∧s'.1≤s'.2)∧(c.1≤d.1∧d.2≤c.2∧d.1≤d.2))∨(i=8∧(h=0∨h=8))):=by
 obtain ⟨A,hA⟩:=iC hok;have hAx:allM x x.acts=some A:=by rw [hx];exact hA
 have hxv:x.vessels=m.vessels:=by rw [hx];rfl
 have hxa:x.acts=m.acts:=by rw [hx];rfl
 have hxf:x.fountains=m.fountains:=by rw [hx];rfl
 have hxt:x.tastes=insS m.tastes T:=by rw [hx];rfl
 have hfil:eP x f=eP m f:=by unfold eP;rw [hxa]
 obtain ⟨a1,a2⟩:=fu hA (dJ hok hv ht hf h1) (mh hok hf h3);obtain ⟨b1,b2⟩:=fu hAx (dJ hox (by rw [hxv];exact hv) (by rw [hxa];exact ht) (by rw [hxf];exact hf) h2) (mh hox (by rw [hxf];exact hf) h4);refine ⟨a1,b1,fun hne=>?_,fun heq=>?_⟩
 ·have key:∀ {t:Nat} {s:Held},cu x f A t s↔cu m f A t s:=nJ hxv hxa fun y ey=>by
   rw [hxt,jK];constructor
   ·exact .inl
   ·rintro (h | rfl)
    ·exact h
    ·exact absurd (ey.symm.trans hT) hne
  have kO:∀ n,OfP m v t f A n↔OfP x v t f A n:=fun n=>by unfold OfP;rw [hxv];exact ⟨fun ⟨y,p,q⟩=>⟨y,key.2 p,q⟩,fun ⟨y,p,q⟩=>⟨y,key.1 p,q⟩⟩
  have kG:∀ n,jH m f A n↔jH x f A n:=fun n=>by unfold jH;rw [hxa,hfil];exact ⟨fun ⟨y,p,q⟩=>⟨y,key.2 p,q⟩,fun ⟨y,p,q⟩=>⟨y,key.1 p,q⟩⟩
  rcases a2 with ⟨c1,c2,c3,c4⟩ | ⟨c1,c2,c3,c4⟩<;>rcases b2 with ⟨d1,d2,d3,d4⟩ | ⟨d1,d2,d3,d4⟩
  ·exact ⟨(c3.congr kO).same d3,by omega,(c4.congr kG).same d4⟩
  ·exact absurd (key.2 c2) d2
  ·exact absurd (key.1 d2) c2
  ·exact ⟨c3.trans d3.symm,by omega,c4.trans d4.symm⟩
 ·have key:∀ {t:Nat} {s:Held},cu x f A t s→cu m f A t s:=fun h=>kA hxv hxa (fun y hy _=>by rw [hxt,jK];exact .inl hy) h
  have kO:∀ n,OfP x v t f A n→OfP m v t f A n:=fun n=>by unfold OfP;rw [hxv];exact fun ⟨y,p,q⟩=>⟨y,key p,q⟩
  have kG:∀ n,jH x f A n→jH m f A n:=fun n=>by unfold jH;rw [hxa,hfil];exact fun ⟨y,p,q⟩=>⟨y,key p,q⟩
  rcases b2 with ⟨d1,d2,d3,d4⟩ | ⟨d1,d2,d3,d4⟩
  ·rcases a2 with ⟨c1,c2,c3,c4⟩ | ⟨c1,c2,c3,c4⟩
   ·exact .inl ⟨d1,c1,d3.inner c3 kO,d4.inner c4 kG⟩
   ·exact absurd (key d2) c2
  ·exact .inr ⟨d1,by omega⟩
theorem qI (hok:cA m=true)(hv:0≤idxV m.vessels v)(ht:0≤t∧t≤m.acts.length)(hf:1≤f∧f≤m.fountains)(h1:OfIs m v t f s e)(h2:eF m v t k j) :
  j=0∧(e=0∨e=8)∧(e=0→0≤s.1∧s.1≤s.2∧s.2≤k):=by
 obtain ⟨A,hA⟩:=iC hok;have hv4:=(cL hok).1;obtain ⟨hj,A1,a,hA1,ha,rfl⟩:=kT hok hv ht h2;rw [hA] at hA1;cases hA1;have o1:=fu hA (dJ hok hv ht hf h1) (dJ hok hv ht hf h1);refine ⟨hj,by rcases o1.2 with ⟨c1,_⟩ | ⟨c1,_⟩<;>omega,fun he=>?_⟩
 rcases o1.2 with ⟨c1,c2,c3,_⟩ | ⟨c1,_⟩
 ·obtain ⟨y,hy,ey⟩:=c3.1
  obtain ⟨z,hz,ez⟩:=c3.2.1;have hi4:(idxV m.vessels v).toNat<4:=by have:=d9 (id:=v) hv4;omega
  have b1:=(hy.fits hA hv4 ha).le _ hi4;have b2:=(hz.fits hA hv4 ha).le _ hi4;rw [show (((idxV m.vessels v).toNat:Nat):Int)=idxV m.vessels v by omega] at b1 b2;have:=(c3.2.2 _ c3.1).2;exact ⟨by omega,this,by omega⟩
 ·omega
theorem pu (hok:cA m=true)(hox:cA x=true)(hx:x=eq m (insS m.tastes T))(hT:T.fountain=f∧T.vessel=v∧T.after=t∧T.lo=n∧T.hi=n)(hv:0≤idxV m.vessels v)(ht:0≤t∧t≤m.acts.length)(hf:1≤f∧f≤m.fountains)
  (h1:OfIs m v t f s e) (h3:OfIs x v t f s' i):(i=0∨i=8)∧(i=0↔e=0∧s.1≤n∧n≤s.2):=by
 obtain ⟨A,hA⟩:=iC hok;have hAx:allM x x.acts=some A:=by rw [hx];exact hA
 have hxv:x.vessels=m.vessels:=by rw [hx];rfl
 have hxa:x.acts=m.acts:=by rw [hx];rfl
 have hxf:x.fountains=m.fountains:=by rw [hx];rfl
 have hxt:x.tastes=insS m.tastes T:=by rw [hx];rfl
 have hv4:=(cL hok).1
 obtain ⟨t',rfl⟩:∃ a:Nat,t=(a:Int):=⟨t.toNat,by omega⟩
 have o1:=fu hA (dJ hok hv ht hf h1) (dJ hok hv ht hf h1);have o2:=fu hAx (dJ hox (by rw [hxv];exact hv) (by rw [hxa];exact ht) (by rw [hxf];exact hf) h3) (dJ hox (by rw [hxv];exact hv) (by rw [hxa];exact ht) (by rw [hxf];exact hf) h3);have law:=uK (m:=m) (m':=x) (A:=A) (f:=f) (T:=T) hA hv4 hxv hxa (fun y=>by rw [hxt];exact jK) hT.1 (a:=t') hT.2.2.1 (by omega) hAx hT.2.2.2.1 hT.2.2.2.2
 have law2:=law.resolve_right fun hn=>hn fun h0=>by
  rcases o1.2 with ⟨_,_,c3,_⟩ | ⟨_,c2,_⟩
  ·exact ⟨s,by rw [hT.2.1];exact c3⟩
  ·exact absurd h0 c2
 rw [hT.2.1] at law2;refine ⟨by rcases o2.2 with ⟨c1,_⟩ | ⟨c1,_⟩<;>omega,?_⟩;constructor
 ·intro hi
  rcases o2.2 with ⟨d1,d2,_⟩ | ⟨d1,_⟩
  ·obtain ⟨q1,q2⟩:=law2.1 d2
   rcases o1.2 with ⟨c1,_,c3,_⟩ | ⟨c1,c2,_⟩
   ·exact ⟨c1,q2 s c3⟩
   ·exact absurd q1 c2
  ·omega
 ·rintro ⟨he,hn⟩
  rcases o1.2 with ⟨c1,c2,c3,_⟩ | ⟨c1,_⟩
  ·have:=law2.2 ⟨c2,fun r hr=>by rw [hr.same c3];exact hn⟩
   rcases o2.2 with ⟨d1,_⟩ | ⟨d1,d2,_⟩
   ·exact d1
   ·exact absurd this d2
  ·omega
end
end
section
open Go.RowKit
def jC (nv na nt:Nat)(m:Mix):Bool:=!fF nv na nt && cA m
theorem jz {nv na nt:Nat}{m:Mix}(h:jC nv na nt m=true):fF nv na nt=false∧cA m=true:=by unfold jC at h;simpa using h
theorem mM (Av:Option Addr)(nv cv:Nat)(Aa:Option Addr)(na ca:Nat)(At:Option Addr)(nt ct:Nat)(m:Mix)(w:World)(h:dD w w.heap.size Av nv Aa na At nt m) :
  CallsIn Fence.wide 9 Tryz.prog 23 #[.agg #[.int .i64 m.fountains,.slice Av nv cv,.slice Aa na ca,.slice At nt ct]] w (fun e w'=>e = .returned (.bool (jC nv na nt m))∧Below w.heap.size w w'):=by
 have HM:=lh h;clear h;refine callsIn_of_wp Tryz.func23 rfl trivial ?_ rfl;simp only [Tryz.ntmps23,es,Nat.reduceAdd,Nat.reduceSub];gi_upto_region 1 with fail
 have Ly:=lh (Lay.one w 26 #[.int .i64 m.fountains,.slice Av nv cv,.slice Aa na ca,.slice At nt ct]);generalize (w.alloc (.cells #[.int .i64 m.fountains,.slice Av nv cv,.slice Aa na ca,.slice At nt ct] 26))=w0 at *;obtain ⟨x0_0,x0_1,x0_2,x0_3⟩:=lyc4 Ly 0 rfl;have l0_:=Ly.out.lt 0 rfl;gi_wp2;clear x0_0 x0_1 x0_2 x0_3 l0_;refine ⟨trivial,(callsIn_wide.2 (uT m.fountains Av nv cv Aa na ca At nt ct w0)).mono ?_⟩;rintro e W1 ⟨rfl,hb⟩;replace Ly:=lyb Ly hb;clear hb
 cases hg:fF nv na nt with
 | true =>
  gi_wp2;refine ⟨trivial,?_⟩;gi_wp2;refine bodyPost_ret (v:=.bool false) (by simp [results,Tryz.results23,go_sem]) rfl ?_;exact ⟨by unfold jC;rw [hg];rfl,Ly.out.1⟩
 | false =>
  have hsm:=pL hg
  have hsx:MixS w Av nv Aa na At nt m:=⟨HM.out,by omega,by omega,by omega⟩
  have HS:=lh hsx;have HG:=lh hg;clear hsm hsx hg;obtain ⟨x0_0,x0_1,x0_2,x0_3⟩:=lyc4 Ly 0 rfl;have l0_:=Ly.out.lt 0 rfl;gi_wp2;clear x0_0 x0_1 x0_2 x0_3 l0_;refine ⟨trivial,(callsIn_wide.2 (qF Av nv cv Aa na ca At nt ct m W1 (HS.out.up Ly.out.1))).mono ?_⟩;rintro e W2 ⟨rfl,hb⟩;replace Ly:=lyb Ly hb;clear hb;gi_wp2;refine bodyPost_ret (v:=.bool (cA m)) (by simp [results,Tryz.results23,go_sem]) rfl ?_;exact ⟨by unfold jC;rw [HG.out];rfl,Ly.out.1⟩
theorem zg (l:List Tast):1≤eu l∧eu l≤1+l.length:=by
 unfold eu
 have key:∀ (l:List Tast) (n:Int),n≤l.foldl et n∧l.foldl et n≤n+l.length:=by
  intro l
  induction l with
  | nil=>intro n;simp
  | cons x l ih =>
   intro n;rw [List.foldl_cons];have h1:=ih (et n x);have h2:n≤et n x∧et n x≤n+1:=by unfold et;split<;>omega
   simp;omega
 have:=key l 1;omega
theorem vV {l:List Tast}{k:Nat}{x:Tast}(hx:l[k]? =some x):eu (l.take (k+1))=et (eu (l.take k)) x:=by
 obtain ⟨h1,h2⟩:=g_E hx;unfold eu;rw [List.take_succ_eq_append_getElem h1,h2,List.foldl_append];rfl
inductive yF (v0 v1 v3 v7 v8 v9:Value):Act→Prop
 | mk (a b c d e f g h i j k l m n o:Value):yF v0 v1 v3 v7 v8 v9 ⟨#[v0,v1,a,v3,b,c,d,v7,v8,v9,e,f,g,h,i,j,k,l,m,n,o],[]⟩
theorem py (Av:Option Addr)(nv cv:Nat)(Aa:Option Addr)(na ca:Nat)(At:Option Addr)(nt ct:Nat)(m:Mix)(w:World)(h:MixS w Av nv Aa na At nt m) :
  CallsIn Fence.wide 9 Tryz.prog 36 #[.agg #[.int .i64 m.fountains,.slice Av nv cv,.slice Aa na ca,.slice At nt ct]] w (fun e w'=>e = .returned (.int .i64 (eu m.tastes))∧Below w.heap.size w w'):=by
 have HM:=lh h;have HLT:=lh h.at_.lenT;have HB:=lh h.ht;clear h;refine callsIn_of_wp Tryz.func36 rfl trivial ?_ rfl;simp only [Tryz.ntmps36,es,Nat.reduceAdd,Nat.reduceSub];gi_upto_region 2 with fail
 have Ly:=lh (Lay.one w 26 #[.int .i64 m.fountains,.slice Av nv cv,.slice Aa na ca,.slice At nt ct]);generalize (w.alloc (.cells #[.int .i64 m.fountains,.slice Av nv cv,.slice Aa na ca,.slice At nt ct] 26))=w0 at *;obtain ⟨x0_0,x0_1,x0_2,x0_3⟩:=lyc4 Ly 0 rfl;have l0_:=Ly.out.lt 0 rfl;gi_wp2;clear x0_0 x0_1 x0_2 x0_3 l0_;refine wpIn_loop (fun a W=>∃ k:Nat,Hid (k≤nt∧Lay w W [(w.heap.size,26,#[.int .i64 m.fountains,.slice Av nv cv,.slice Aa na ca,.slice At nt ct])])∧yF (.agg #[.int .i64 m.fountains,.slice Av nv cv,.slice Aa na ca,.slice At nt ct]) (.pointer (some ⟨w.heap.size,0,none⟩)) (.int .i64 (eu (m.tastes.take k))) (.slice At nt ct) (.int .i64 nt) (.int .i64 k) a) (fun a _=>nt - (intOf (a.tmps.getD 9 undef)).toNat) ?_ ?_
 ·exact ⟨0,lh ⟨by omega,Ly.out⟩,by constructor⟩
 clear Ly;rintro a W ⟨k,HS,ha⟩;cases ha;have Ly:=lh HS.out.2;by_cases hlt:k<nt
 ·
  obtain ⟨b,off,x,hAv,hbB,hx,c0,c1,c2,c3,c4,c5⟩:=(HM.out.at_.below Ly.out.1).tast hlt;have hk2:k+1≤1000:=by have:=HB.out;omega
  rw [hAv];gi_upto_region 5 with fail
  clear c0 c1 c2 c3 c4 c5
  obtain ⟨V1,hV⟩:∃ V,(W.alloc (.cells #[.int .i64 x.num,.int .i64 x.vessel,.int .i64 x.after,.int .i64 x.fountain,.int .i64 x.lo,.int .i64 x.hi] 69))=V:=⟨_,rfl⟩
  rw [hV];have hb:=cK hV;have hnew:=cO hV;have hge:=Ly.out.bel.size;replace Ly:=lyb Ly hb;replace Ly:=lh (Ly.out.add hge hnew);clear hnew hge hb hV
  obtain ⟨G2,hG⟩:∃ g,W.heap.size=g:=⟨_,rfl⟩
  rw [hG] at Ly ⊢;clear hG;replace Ly:=lh (show Lay w V1 [(w.heap.size,26,#[.int .i64 m.fountains,.slice Av nv cv,.slice Aa na ca,.slice At nt ct]),(G2,69,#[.int .i64 x.num,.int .i64 x.vessel,.int .i64 x.after,.int .i64 x.fountain,.int .i64 x.lo,.int .i64 x.hi])] from Ly.out);have hbd:=zg (m.tastes.take k);have hle:(m.tastes.take k).length≤k:=List.length_take_le _ _;have hsc:eu (m.tastes.take (k+1))=et (eu (m.tastes.take k)) x:=vV hx
  obtain ⟨nn,hnn⟩:∃ nn,eu (m.tastes.take k)=nn:=⟨_,rfl⟩
  rw [hnn] at hbd hsc ⊢;have hbd1:1≤nn∧nn≤1000:=by omega
  clear hx hbB hnn hbd hle;by_cases hc:x.num=nn
  ·
   have hcb:(x.num==nn)=true:=by simpa using hc
   have HSC:=lh (hsc.trans (if_pos hc));clear hc hsc;obtain ⟨x1_0,x1_1,x1_2,x1_3,x1_4,x1_5⟩:=lyc6 Ly 1 rfl;have l1_:=Ly.out.lt 1 rfl;gi_wp2;have hAt:=hAv;subst hAt;refine ⟨⟨k+1,lh ⟨hlt,Ly.out.sub (by intro b hb;simp only [List.mem_cons,List.not_mem_nil,or_false] at hb ⊢;rcases hb with rfl;simp)⟩,by rw [HSC.out,show ((k+1:Nat):Int)=(k:Int)+1 from by omega];constructor⟩,?_⟩;simp [intOf];omega
  ·
   have hcb:(x.num==nn)=false:=by simpa using hc
   have HSC:=lh (hsc.trans (if_neg hc));clear hc hsc;obtain ⟨x1_0,x1_1,x1_2,x1_3,x1_4,x1_5⟩:=lyc6 Ly 1 rfl;have l1_:=Ly.out.lt 1 rfl;gi_wp2;have hAt:=hAv;subst hAt;refine ⟨⟨k+1,lh ⟨hlt,Ly.out.sub (by intro b hb;simp only [List.mem_cons,List.not_mem_nil,or_false] at hb ⊢;rcases hb with rfl;simp)⟩,by rw [HSC.out,show ((k+1:Nat):Int)=(k:Int)+1 from by omega];constructor⟩,?_⟩;simp [intOf];omega
 ·
  gi_wp2;refine bodyPost_ret (v:=.int .i64 (eu (m.tastes.take k))) (by simp [results,Tryz.results36,go_sem]) rfl ?_;exact ⟨by rw [List.take_of_length_le (by have:=HLT.out;omega)],Ly.out.1⟩
theorem qK (a0 a1 b0 b1:Int)(w:World)(h:b0≤a0∧a1≤b1∧a0≤a1) :
  CallsIn Fence.wide 9 Tryz.prog 44 #[.agg #[.int .i64 a0,.int .i64 a1],.agg #[.int .i64 b0,.int .i64 b1]] w (fun e w'=>e = .returned (.bool true)∧Below w.heap.size w w'):=by
 obtain ⟨h0,h1,h2⟩:=h;have g0:decide (b0≤a0)=true:=by simpa using h0
 have g1:decide (a1≤b1)=true:=by simpa using h1
 have g2:decide (a0≤a1)=true:=by simpa using h2
 refine callsIn_of_wp Tryz.func44 rfl trivial ?_ rfl;simp only [Tryz.ntmps44,es,Nat.reduceAdd,Nat.reduceSub];gi_upto_region 1 with fail
 have Ly:=lh (Lay.two w 54 #[.int .i64 a0,.int .i64 a1] 54 #[.int .i64 b0,.int .i64 b1]);generalize ((w.alloc (.cells #[.int .i64 a0,.int .i64 a1] 54)).alloc (.cells #[.int .i64 b0,.int .i64 b1] 54))=w0 at *;obtain ⟨x0_0,x0_1⟩:=lyc2 Ly 0 rfl;have l0_:=Ly.out.lt 0 rfl;obtain ⟨x1_0,x1_1⟩:=lyc2 Ly 1 rfl;have l1_:=Ly.out.lt 1 rfl;gi_wp2;clear x0_0 x0_1 l0_ x1_0 x1_1 l1_;refine bodyPost_ret (v:=.bool true) (by simp [results,Tryz.results44,go_sem]) rfl ?_;exact ⟨rfl,Ly.out.1⟩
theorem ph (lo hi n:Int)(w:World) :
  CallsIn Fence.wide 9 Tryz.prog 31 #[.agg #[.int .i64 lo,.int .i64 hi],.int .i64 n] w (fun e w'=>e = .returned (.bool (decide (lo≤n∧n≤hi)))∧Below w.heap.size w w'):=by
 refine callsIn_of_wp Tryz.func31 rfl trivial ?_ rfl;simp only [Tryz.ntmps31,es,Nat.reduceAdd,Nat.reduceSub];gi_upto_region 1 with fail
 have Ly:=lh (Lay.one w 54 #[.int .i64 lo,.int .i64 hi]);generalize (w.alloc (.cells #[.int .i64 lo,.int .i64 hi] 54))=w0 at *;by_cases h0:lo≤n
 ·by_cases h1:n≤hi
  ·
   obtain ⟨x0_0,x0_1⟩:=lyc2 Ly 0 rfl;have l0_:=Ly.out.lt 0 rfl;gi_wp2;clear x0_0 x0_1 l0_;refine bodyPost_ret (v:=.bool true) (by simp [results,Tryz.results31,go_sem]) rfl ?_;exact ⟨by simp [h0,h1],Ly.out.1⟩
  ·
   obtain ⟨x0_0,x0_1⟩:=lyc2 Ly 0 rfl;have l0_:=Ly.out.lt 0 rfl;gi_wp2;clear x0_0 x0_1 l0_;refine bodyPost_ret (v:=.bool false) (by simp [results,Tryz.results31,go_sem]) rfl ?_;exact ⟨by simp [h1],Ly.out.1⟩
 ·
  obtain ⟨x0_0,x0_1⟩:=lyc2 Ly 0 rfl;have l0_:=Ly.out.lt 0 rfl;gi_wp2;clear x0_0 x0_1 l0_;refine bodyPost_ret (v:=.bool false) (by simp [results,Tryz.results31,go_sem]) rfl ?_;exact ⟨by simp;omega,Ly.out.1⟩
end
section
set_option linter.unusedSectionVars false
abbrev jh:=List (List Int)
def hpAt (H:jh)(i:Int):List Int:=(H[i.toNat]?).getD []
def ru (H:jh)(fr to:Int)(left drops:List Int):jh :=
 let H1:=if 0≤fr then H.set fr.toNat left else H
 if 0≤to then H1.set to.toNat (hpAt H1 to++drops) else H1
def SentP (m:Mix)(x:MAct)(H:jh)(drops:List Int)(H':jh):Prop :=
 ∃ left,(x.kind=1→drops=List.replicate x.drops.toNat x.fr)∧(x.kind≠1→(drops++left).Perm (hpAt H (cm m x)))∧(x.kind=4→left=[])∧(x.kind≠4→drops.length=x.drops.toNat)∧H'=ru H (cm m x) (toI m x) left drops
structure Went (m:Mix)(n:Nat)(H:Nat→jh)(Dr:Nat→List Int):Prop where
 zero:H 0=[[],[],[],[]]
 step:∀ {t:Nat} {x:MAct},t<n→m.acts[t]? =some x→SentP m x (H t) (Dr t) (H (t+1))
section
variable {m:Mix} {A:List Held} {f:Int} {H:Nat→jh} {Dr:Nat→List Int} {n:Nat}
theorem wF (H:jh)(fr to:Int)(l d:List Int):(ru H fr to l d).length=H.length:=by
 unfold ru;dsimp only
 split<;>split<;>simp
theorem jr {H:jh}{i j:Int}{l:List Int}(hi:0≤i)(hj:0≤j)(hl:i<H.length):hpAt (H.set i.toNat l) j=if j=i then l else hpAt H j:=by
 unfold hpAt;rw [List.getElem?_set];by_cases e:j=i
 ·subst e
  rw [if_pos rfl,if_pos rfl,if_pos (by omega)];rfl
 ·rw [if_neg (by omega),if_neg e]
theorem tv {H:jh}{fr to:Int}{l d:List Int}(hH:H.length=4)(hf:fr<4)(ht:to<4)(hne:fr≠to∨fr<0){i:Nat}(hi:i<4) :
  hpAt (ru H fr to l d) i=if (i:Int)=fr then l else if (i:Int)=to then hpAt H i++d else hpAt H i:=by
 unfold ru;dsimp only;by_cases h1:0≤fr
 ·rw [if_pos h1]
  have hne':to≠fr:=by omega
  by_cases h2:0≤to
  ·rw [if_pos h2,jr h2 (by omega) (by rw [List.length_set];omega),jr h1 h2 (by omega),jr h1 (by omega) (by omega),if_neg hne']
   by_cases p:(i:Int)=to
   ·rw [if_pos p,if_neg (by omega),if_pos p,p]
   ·rw [if_neg p]
    by_cases q:(i:Int)=fr
    ·rw [if_pos q,if_pos q]
    ·rw [if_neg q,if_neg q,if_neg p]
  ·rw [if_neg h2,jr h1 (by omega) (by omega)]
   by_cases q:(i:Int)=fr
   ·rw [if_pos q,if_pos q]
   ·rw [if_neg q,if_neg q,if_neg (by omega)]
 ·rw [if_neg h1]
  by_cases h2:0≤to
  ·rw [if_pos h2,jr h2 (by omega) (by omega)]
   by_cases p:(i:Int)=to
   ·rw [if_pos p,if_neg (by omega),if_pos p,p]
   ·rw [if_neg p,if_neg (by omega),if_neg p]
  ·rw [if_neg h2,if_neg (by omega),if_neg (by omega)]
theorem kK {all:Held}{x:MAct}(h:mJ m all x):cm m x≠toI m x∨cm m x<0:=by
 unfold cm toI;by_cases e1:x.kind=1
 ·right;rw [if_pos e1];decide
 ·by_cases e2:x.kind=2
  ·left
   have:=h.apart e2;simp only [e2];simpa using this
  ·left
   have:=h.from_ e1;rw [if_neg e1,if_neg (by omega)];omega
theorem Went.len (h:Went m n H Dr)(hn:n≤m.acts.length):∀ {t:Nat},t≤n→(H t).length=4
 | 0,_=>by rw [h.zero];rfl
 | t+1,ht=>by
  have hx:m.acts[t]? =some (m.acts[t]'(by omega)):=List.getElem?_eq_getElem (by omega);obtain ⟨left,_,_,_,_,e⟩:=h.step (by omega) hx;rw [e,wF];exact h.len hn (by omega)
theorem Went.holds (hA:allM m m.acts=some A)(hv:m.vessels.length≤4)(h:Went m n H Dr)(hn:n≤m.acts.length):∀ {t:Nat} {a:Held} {i:Nat},t≤n→A[t]? =some a→i<4→((hpAt (H t) i).length:Int)=au a i
 | 0,a,i,_,ha,hi=>by
  rw [jZ hA] at ha;cases ha;rw [h.zero]
  match i,hi with
  | 0,_=>rfl
  | 1,_=>rfl
  | 2,_=>rfl
  | 3,_=>rfl
 | t+1,a',i,ht,ha,hi=>by
  have hl:=dS m m.acts A hA;have hx:m.acts[t]? =some (m.acts[t]'(by omega)):=List.getElem?_eq_getElem (by omega);have h0:A[t]? =some (A[t]'(by omega)):=List.getElem?_eq_getElem (by omega);obtain ⟨hok,hnext⟩:=jb hA hv hx h0;rw [ha] at hnext;have e:=Option.some.inj hnext;rw [e,fx hv _ (lB hA hv h0) _ hi];have hih:=fun (j:Nat) (hj:j<4)=>h.holds hA hv hn (i:=j) (Nat.le_of_succ_le ht) h0 hj;obtain ⟨left,k1,k2,k3,k4,k5⟩:=h.step (by omega) hx;rw [k5,tv (h.len hn (by omega)) (de hv _) (eX hv _) (kK hok) hi];generalize m.acts[t]'(by omega)=x at *;have hsz:=hok.size;by_cases e1:x.kind=1
  ·have hd:=k1 e1
   have hf:cm m x = -1:=by unfold cm;rw [if_pos e1]
   have hs:cJ m (A[t]'(by omega)) x=x.drops:=by unfold cJ;rw [if_neg (by omega)]
   have h1:=hsz.1 e1;rw [hf,hs,if_neg (by omega)];have h2:=hih i hi;have h3:(Dr t).length=x.drops.toNat:=by rw [hd];simp
   by_cases p:(i:Int)=toI m x
   ·rw [if_pos p,if_pos p.symm,if_neg (by omega),List.length_append]
    omega
   ·rw [if_neg p,if_neg (fun q=>p q.symm),if_neg (by omega)]
    omega
  ·have hp:=(k2 e1).length_eq
   rw [List.length_append] at hp;have hf0:0≤cm m x:=by unfold cm;rw [if_neg e1];exact hok.from_ e1
   have hf4:=de hv x;have hfi:cm m x=((cm m x).toNat:Int):=by omega
   have h4:=hih (cm m x).toNat (by omega);rw [← hfi] at h4;have h2:=hih i hi
   have hsd:((Dr t).length:Int)=cJ m (A[t]'(by omega)) x:=by
    unfold cJ;by_cases e4:x.kind=4
    ·rw [if_pos e4,← h4]
     rw [k3 e4] at hp;simp at hp;omega
    ·rw [if_neg e4,k4 e4]
     have:=hsz.2 (by have:=hok.kind;omega);omega
   have hap:=kK hok;by_cases q:(i:Int)=cm m x
   ·rw [if_pos q,if_neg (by omega),if_pos q.symm]
    rw [← q] at h4 hp;omega
   ·rw [if_neg q]
    by_cases p:(i:Int)=toI m x
    ·rw [if_pos p,if_pos p.symm,if_neg (fun r=>q r.symm),List.length_append]
     omega
    ·rw [if_neg p,if_neg (fun r=>p r.symm),if_neg (fun r=>q r.symm)]
     omega
def cntH (f:Int)(H:jh):Held:=H.map fun l=>(l.count f:Int)
theorem pG (f:Int)(H:jh)(i:Int):au (cntH f H) i=((hpAt H i).count f:Int):=by
 unfold au cntH hpAt;rw [List.getElem?_map];cases H[i.toNat]?<;>rfl
theorem t6 (f g:Int)(k:Nat):(List.replicate k g).count f=if g=f then k else 0:=by
 rw [List.count_replicate];by_cases e:g=f<;>simp [e]
theorem Went.run (hA:allM m m.acts=some A)(hv:m.vessels.length≤4)(h:Went m m.acts.length H Dr)(ht:∀ {t:Nat},t≤m.acts.length→db m f t (cntH f (H t))=true) :
  Run m f A (fun t=>cntH f (H t)) (fun t=>((Dr t).count f:Int)):=by
 refine ⟨by show cntH f (H 0)=cQ;rw [h.zero];rfl,?_,ht⟩;intro t x all hx ha;have htl:=(g_E hx).1;obtain ⟨hok,hnext⟩:=jb hA hv hx ha;obtain ⟨left,k1,k2,k3,k4,k5⟩:=h.step htl hx;have hl4:=h.len n_R (Nat.le_of_lt htl);have hl5:(cntH f (H t)).length=4:=by unfold cntH;rw [List.length_map];exact hl4
 have hap:=kK hok
 have hs3:cntH f (H (t+1))=cC (cntH f (H t)) (cm m x) (toI m x) ((Dr t).count f:Int):=by
  refine mH (by unfold cntH;rw [List.length_map];exact h.len n_R htl) (by rw [lX];exact hl5) fun i hi=>?_;rw [fx hv x hl5 _ hi,pG,pG,k5,tv hl4 (de hv _) (eX hv _) hap hi];by_cases e1:x.kind=1
  ·have hf:cm m x = -1:=by unfold cm;rw [if_pos e1]
   rw [hf,if_neg (by omega),if_neg (show ¬ ((-1:Int)=(i:Int)) by omega)];by_cases p:(i:Int)=toI m x
   ·rw [if_pos p,if_pos p.symm,List.count_append];omega
   ·rw [if_neg p,if_neg (fun q=>p q.symm)];omega
  ·have hp:=(k2 e1).count_eq f
   rw [List.count_append] at hp;by_cases q:(i:Int)=cm m x
   ·rw [if_pos q,if_neg (by omega),if_pos q.symm]
    rw [← q] at hp;omega
   ·rw [if_neg q]
    by_cases p:(i:Int)=toI m x
    ·rw [if_pos p,if_pos p.symm,if_neg (fun r=>q r.symm),List.count_append];omega
    ·rw [if_neg p,if_neg (fun r=>p r.symm),if_neg (fun r=>q r.symm)];omega
 have hbd:(cP m x f all (cntH f (H t))).1≤((Dr t).count f:Int)∧((Dr t).count f:Int)≤(cP m x f all (cntH f (H t))).2:=by
  have hcl:(Dr t).count f≤(Dr t).length:=List.count_le_length;unfold cP;by_cases e1:x.kind=1
  ·have hf:cm m x = -1:=by unfold cm;rw [if_pos e1]
   have hs:cJ m all x=x.drops:=by unfold cJ;rw [if_neg (by omega)]
   have h1:=hok.size.1 e1;rw [hf,if_neg (by omega),hs,k1 e1,t6];by_cases e:x.fr=f
   ·rw [if_pos e,if_pos e];dsimp only;omega
   ·rw [if_neg e,if_neg e];dsimp only;omega
  ·have hf0:0≤cm m x:=by unfold cm;rw [if_neg e1];exact hok.from_ e1
   have hf4:=de hv x;have hfi:cm m x=((cm m x).toNat:Int):=by omega
   have hp:=(k2 e1).count_eq f;rw [List.count_append] at hp;have hp':=(k2 e1).length_eq;rw [List.length_append] at hp';have h4:=h.holds hA hv n_R (Nat.le_of_lt htl) ha (i:=(cm m x).toNat) (by omega);rw [← hfi] at h4;have hcl2:left.count f≤left.length:=List.count_le_length
   have hsd:((Dr t).length:Int)=cJ m all x:=by
    unfold cJ;by_cases e4:x.kind=4
    ·rw [if_pos e4,← h4]
     rw [k3 e4] at hp';simp at hp';omega
    ·rw [if_neg e4,k4 e4]
     have:=hok.size.2 (by have:=hok.kind;omega);omega
   rw [if_pos hf0,pG];dsimp only;omega
 exact ⟨hbd.1,hbd.2,hs3⟩
end
end
section
set_option linter.unusedSectionVars false
section
variable {m:Mix} {A:List Held} {f:Int} {x z:MAct} {all has:Held}
theorem uM (h:mJ m all x)(hf:Fits all has)(hv:m.vessels.length≤4):(cP m x f all has).1≤(cP m x f all has).2:=by
 unfold cP;by_cases h0:0≤cm m x
 ·rw [if_pos h0]
  have h4:=de hv x;have hb:=hf.le (cm m x).toNat (by omega);rw [Int.toNat_of_nonneg h0] at hb
  have hs:0≤cJ m all x∧cJ m all x≤au all (cm m x):=by
   unfold cJ;by_cases e4:x.kind=4
   ·rw [if_pos e4];omega
   ·rw [if_neg e4]
    have hk:=h.kind;have h1:x.kind≠1:=fun e=>by unfold cm at h0;rw [if_pos e] at h0;omega
    have:=h.size.2 (by omega);unfold cm;rw [if_neg h1];omega
  dsimp only;omega
 ·rw [if_neg h0]
  split<;>exact Int.le_refl _
theorem oG (hA:allM m m.acts=some A):cu m f A 0 cQ↔∃ s,Fwd m f A m.acts.length s:=by
 constructor
 ·intro h
  obtain ⟨s,hs⟩:=iJ h n_R;exact ⟨s,cu.last.1 hs⟩
 ·rintro ⟨s,hs⟩
  obtain ⟨S,K,hr,_⟩:=(cu.last.2 hs).run n_R;have:=hr.truth hA (t:=0) (Nat.zero_le _)
  rwa [hr.zero] at this
end
section
variable {m:Mix} {A A':List Held} {f:Int} {z:MAct} {a':Held}
theorem wk (hl:A.length=m.acts.length+1){t:Nat}{s s':Held}(ht:t<m.acts.length):Goes (dm m (m.acts++[z])) f (A++[a']) t s s'↔Goes m f A t s s':=by
 unfold Goes;have e1:(dm m (m.acts++[z])).acts[t]? =m.acts[t]? :=List.getElem?_append_left ht;have e2:(A++[a'])[t]? =A[t]? :=List.getElem?_append_left (by omega);rw [e1,e2];exact Iff.rfl
theorem tz (hl:A.length=m.acts.length+1):∀ {t:Nat} {s:Held},t≤m.acts.length→(Fwd (dm m (m.acts++[z])) f (A++[a']) t s↔Fwd m f A t s)
 | 0,s,_=>Iff.rfl
 | t+1,s,ht=>by
  show ((∃ s0,Fwd (dm m (m.acts++[z])) f (A++[a']) t s0∧Goes (dm m (m.acts++[z])) f (A++[a']) t s0 s)∧db (dm m (m.acts++[z])) f (t+1) s=true)↔((∃ s0,Fwd m f A t s0∧Goes m f A t s0 s)∧db m f (t+1) s=true)
  have e:db (dm m (m.acts++[z])) f (t+1) s=db m f (t+1) s:=rfl;rw [e];constructor
  ·rintro ⟨⟨s0,h1,h2⟩,h3⟩
   exact ⟨⟨s0,(tz hl (by omega)).1 h1,(wk hl (by omega)).1 h2⟩,h3⟩
  ·rintro ⟨⟨s0,h1,h2⟩,h3⟩
   exact ⟨⟨s0,(tz hl (by omega)).2 h1,(wk hl (by omega)).2 h2⟩,h3⟩
theorem rC (hok:cA m=true){t:Nat}(ht:m.acts.length<t)(s:Held):db m f t s=true:=by
 rw [i8];intro x hx _ e;have:=(jx hok).2.1 x hx;unfold dA at this;simp only [decide_eq_true_eq] at this;omega
theorem xk (hok:cA m=true)(hl:A.length=m.acts.length+1){all s':Held}(ha:A[m.acts.length]? =some all) :
  Fwd (dm m (m.acts++[z])) f (A++[a']) (m.acts.length+1) s'↔∃ s k,Fwd m f A m.acts.length s∧(cP m z f all s).1≤k∧k≤(cP m z f all s).2∧s'=cC s (cm m z) (toI m z) k:=by
 have e1:(dm m (m.acts++[z])).acts[m.acts.length]? =some z:=by show (m.acts++[z])[m.acts.length]? =some z;simp
 have e2:(A++[a'])[m.acts.length]? =some all:=by rw [List.getElem?_append_left (by omega)];exact ha
 show ((∃ s0,Fwd (dm m (m.acts++[z])) f (A++[a']) m.acts.length s0∧Goes (dm m (m.acts++[z])) f (A++[a']) m.acts.length s0 s')∧db m f (m.acts.length+1) s'=true)↔_
 constructor
 ·rintro ⟨⟨s,h1,y,al,k,h2,h3,h4,h5,h6⟩,_⟩
  rw [e1] at h2;rw [e2] at h3;cases h2;cases h3;exact ⟨s,k,(tz hl n_R).1 h1,h4,h5,h6⟩
 ·rintro ⟨s,k,h1,h4,h5,h6⟩
  exact ⟨⟨s,(tz hl n_R).2 h1,z,all,k,e1,e2,h4,h5,h6⟩,rC hok (Nat.lt_succ_self _) _⟩
end
theorem js {m:Mix}{v t f k e:Int}{A:List Held}(hok:cA m=true)(hA:allM m m.acts=some A)(hv:0≤idxV m.vessels v)(ht:0≤t∧t≤m.acts.length)(hf:1≤f∧f≤m.fountains)(h:gn m v t f k e) :
  (e=8∧k=0∧¬ cu m f A 0 cQ)∨(e=0∧cu m f A 0 cQ∧∃ s a,dW (OfP m v t f A) s∧A[t.toNat]? =some a∧k=fj (decide (s.1=au a (idxV m.vessels v))) (decide (s.2=au a (idxV m.vessels v)))):=by
 rcases h with ⟨h0,rfl,h1⟩ | ⟨rfl,lo,hi,n,rfl,h1,h2⟩
 ·have o:=fu hA (dJ hok hv ht hf h1) (dJ hok hv ht hf h1)
  rcases o.2 with ⟨c1,_⟩ | ⟨c1,c2,_⟩
  ·exact absurd c1 h0
  ·exact .inl ⟨c1,rfl,c2⟩
 ·have o:=fu hA (dJ hok hv ht hf h1) (dJ hok hv ht hf h1)
  rcases o.2 with ⟨c1,c2,c3,_⟩ | ⟨c1,_⟩
  ·obtain ⟨_,A1,a,hA1,ha,rfl⟩:=kT hok hv ht h2
   rw [hA] at hA1;cases hA1;exact .inr ⟨rfl,c2,(lo,hi),a,c3,ha,rfl⟩
  ·omega
theorem lN {p q:Prop}[Decidable p][Decidable q]:fj (decide p) (decide q)=2↔p:=by
 unfold fj;by_cases hp:p<;>by_cases hq:q<;>simp [hp,hq]
theorem mP {p q:Prop}[Decidable p][Decidable q]:fj (decide p) (decide q)=0↔¬ p∧¬ q:=by
 unfold fj;by_cases hp:p<;>by_cases hq:q<;>simp [hp,hq]
theorem xy {m x:Mix}{a b n f k e p i q j r l s o lo hi:Int}(hok:cA m=true)(hox:cA x=true)(hx:x=dm m (m.acts++[⟨2,a,b,n⟩]))(ha0:0≤idxV m.vessels a)(hb0:0≤idxV m.vessels b)(hf:1≤f∧f≤m.fountains)
  (hd:doM m ⟨2,a,b,n⟩=(x,0)) (h1:jS m a b n f k e) (h2:gn x b ((m.acts.length+1:Nat):Int) f p i) (h3:gn m b (m.acts.length:Int) f q j) (h4:OfIs m a (m.acts.length:Int) f (lo,hi) l) (hr:l=0→r=fj (decide (0<lo)) (decide (0<hi))) (h5:gn m a (m.acts.length:Int) f s o) :
  e=i∧i=j∧j=l∧l=o∧(e≠0→e=8)∧(e=0→k=p∧(k=2→q=2)∧(q=2→s=2→k=2)∧(r=0→k=0)):=by
 obtain ⟨A,hA⟩:=iC hok;have hv4:=(cL hok).1;have hl:=dS m m.acts A hA
 obtain ⟨all,hall⟩:∃ all,A[m.acts.length]? =some all:=⟨_,List.getElem?_eq_getElem (by omega)⟩
 -- the water with the pouring
 obtain ⟨A',hA'⟩:=iC hox;have hA2:=hA';rw [hx] at hA2;have e0:allM (dm m (m.acts++[(⟨2,a,b,n⟩:MAct)])) (m.acts++[(⟨2,a,b,n⟩:MAct)])=gV m (some A) ⟨2,a,b,n⟩:=by rw [← hA];exact jW m m.acts _
 have hA3:gV m (some A) ⟨2,a,b,n⟩=some A':=e0.symm.trans hA2
 obtain ⟨a',ha'⟩:∃ a',A'=A++[a']:=by
  unfold gV at hA3;simp only [Option.bind_some] at hA3
  cases hdn:cU m (A.getLast?.getD []) ⟨2,a,b,n⟩ with
  | none=>rw [hdn] at hA3;cases hA3
  | some s=>rw [hdn] at hA3;exact ⟨s,(Option.some.inj hA3).symm⟩
 have hxv:x.vessels=m.vessels:=by rw [hx];rfl
 have hxf:x.fountains=m.fountains:=by rw [hx];rfl
 have hxl:x.acts.length=m.acts.length+1:=by rw [hx];show (m.acts++[_]).length=_;simp
 have hxz:x.acts[m.acts.length]? =some ⟨2,a,b,n⟩:=by rw [hx];show (m.acts++[_])[m.acts.length]? =_;simp
 have hall':A'[m.acts.length]? =some all:=by rw [ha',List.getElem?_append_left (by omega)];exact hall
 obtain ⟨hz,hlast⟩:=jb hA' (by rw [hxv];exact hv4) hxz hall';have hfrx:cm x ⟨2,a,b,n⟩=idxV m.vessels a:=by unfold cm;rw [hxv];rfl
 have htox:toI x ⟨2,a,b,n⟩=idxV m.vessels b:=by unfold toI;rw [hxv];rfl
 have hfr:cm m ⟨2,a,b,n⟩=idxV m.vessels a:=rfl;have hto:toI m ⟨2,a,b,n⟩=idxV m.vessels b:=rfl;have hszx:cJ x all ⟨2,a,b,n⟩=n:=rfl;rw [hfrx,htox,hszx] at hlast;have hab:idxV m.vessels a≠idxV m.vessels b:=by have:=hz.apart rfl;rw [hxv] at this;exact this
 have hn:1≤n∧n≤au all (idxV m.vessels a):=by have:=hz.size.2 (.inl rfl);rw [hxv] at this;exact this
 have hzm:mJ m all ⟨2,a,b,n⟩:=⟨hz.kind,by have:=hz.from_;rw [hxv] at this;exact this,by have:=hz.to_;rw [hxv] at this;exact this,by have:=hz.apart;rw [hxv] at this;exact this,by have:=hz.size;rw [hxv] at this;exact this⟩
 have ia4:=d9 (id:=a) hv4;have ib4:=d9 (id:=b) hv4
 obtain ⟨ia,hia⟩:∃ k:Nat,idxV m.vessels a=(k:Int):=⟨(idxV m.vessels a).toNat,by omega⟩
 obtain ⟨ib,hib⟩:∃ k:Nat,idxV m.vessels b=(k:Int):=⟨(idxV m.vessels b).toNat,by omega⟩
 have hlen4:=lB hA hv4 hall
 have hB:au (cC all (idxV m.vessels a) (idxV m.vessels b) n) (idxV m.vessels b)=au all (idxV m.vessels b)+n:=by
  have:=fx hv4 ⟨2,a,b,n⟩ hlen4 n (i:=ib) (by omega);rw [hfr,hto,← hib,if_pos rfl,if_neg hab] at this;omega
 -- truths there and here
 have hone:∀ s',cu x f A' (m.acts.length+1) s'↔∃ s k,Fwd m f A m.acts.length s∧(cP m ⟨2,a,b,n⟩ f all s).1≤k∧k≤(cP m ⟨2,a,b,n⟩ f all s).2∧s'=cC s (cm m ⟨2,a,b,n⟩) (toI m ⟨2,a,b,n⟩) k:=fun s'=>by
  rw [← hxl,cu.last,hxl,hx,ha'];exact xk hok hl hall
 have hspan:∀ s,cP m ⟨2,a,b,n⟩ f all s=(max 0 (n - (au all (idxV m.vessels a) - au s (idxV m.vessels a))),min n (au s (idxV m.vessels a))):=fun s=>by
  unfold cP;rw [hfr,if_pos ha0];rfl
 have hpos:(∃ s,Fwd m f A m.acts.length s)↔∃ s',cu x f A' (m.acts.length+1) s':=by
  constructor
  ·rintro ⟨s,hs⟩
   exact ⟨_,(hone _).2 ⟨s,_,hs,Int.le_refl _,uM hzm (gi hA hv4 hs hall) hv4,rfl⟩⟩
  ·rintro ⟨s',hs'⟩
   obtain ⟨s,k,hs,_⟩:=(hone s').1 hs';exact ⟨s,hs⟩
 have hT:cu x f A' 0 cQ↔cu m f A 0 cQ:=by
  rw [oG hA,oG hA',hpos,hxl];constructor
  ·rintro ⟨s,hs⟩
   exact ⟨s,by rw [← hxl] at hs ⊢;exact cu.last.2 hs⟩
  ·rintro ⟨s,hs⟩
   exact ⟨s,by rw [← hxl] at hs ⊢;exact cu.last.1 hs⟩
 have hL:(0:Int)≤(m.acts.length:Int)∧(m.acts.length:Int)≤(m.acts.length:Int):=⟨by omega,Int.le_refl _⟩
 have p2:=js hox hA' (by rw [hxv];exact hb0) ⟨by omega,by rw [hxl];exact Int.le_refl _⟩ (by rw [hxf];exact hf) h2;have p3:=js hok hA hb0 hL hf h3;have p5:=js hok hA ha0 hL hf h5;have p4:=fu hA (dJ hok ha0 hL hf h4) (dJ hok ha0 hL hf h4)
 -- Safe is Pure behind it
 have hg:fM m a b f=0:=by unfold fM;rw [if_pos hok,if_neg (by omega),if_pos hf]
 have hki:k=p∧e=i:=by
  rcases h1 with ⟨c,_⟩ | ⟨_,c,_⟩ | ⟨_,_,c⟩
  ·exact absurd hg c
  ·rw [hd] at c;exact absurd rfl c
  ·rw [hd] at c
   dsimp only at c;rw [hxl] at c;exact c.same h2
 obtain ⟨rfl,rfl⟩:=hki
 rcases p2 with ⟨b1,b2,b3⟩ | ⟨b1,b2,s2,a2,b4,b5,b6⟩<;>rcases p3 with ⟨c1,c2,c3⟩ | ⟨c1,c2,s3,a3,c4,c5,c6⟩
 rotate_left
 ·exact absurd (hT.2 c2) b3
 ·exact absurd (hT.1 b2) c3
 ·rcases p4.2 with ⟨d1,d2,d3,_⟩ | ⟨d1,d2,_⟩
  rotate_left
  ·exact absurd c2 d2
  rcases p5 with ⟨g1,g2,g3⟩ | ⟨g1,g2,s5,a5,g4,g5,g6⟩
  ·exact absurd c2 g3
  refine ⟨rfl,by omega,by omega,by omega,fun h=>absurd b1 h,fun _=>⟨rfl,?_⟩⟩;simp only [Int.toNat_natCast] at b5 c5 g5;rw [hlast] at b5;rw [hall] at c5 g5;cases b5;cases c5;cases g5;rw [hxv,hB] at b6;have hr':=hr d1;subst hr';rw [b6,c6,g6,lN,lN,lN,mP,mP]
  -- what can be in b behind it
  have hO2:∀ v,OfP x b ((m.acts.length+1:Nat):Int) f A' v↔∃ s k,cu m f A m.acts.length s∧max 0 (n - (au all (idxV m.vessels a) - au s (idxV m.vessels a)))≤k∧k≤min n (au s (idxV m.vessels a))∧v=au s (idxV m.vessels b)+k:=fun v=>by
   unfold OfP;rw [Int.toNat_natCast,hxv]
   have hsb:∀ s k,Fwd m f A m.acts.length s→au (cC s (cm m ⟨2,a,b,n⟩) (toI m ⟨2,a,b,n⟩) k) (idxV m.vessels b)=au s (idxV m.vessels b)+k:=fun s k hs=>by
    have:=fx hv4 ⟨2,a,b,n⟩ (gi hA hv4 hs hall).lh k (i:=ib) (by omega);rw [hfr,hto,← hib,if_pos rfl,if_neg hab] at this;rw [hfr,hto];omega
   constructor
   ·rintro ⟨s',hs',rfl⟩
    obtain ⟨s,k,hs,k1,k2,rfl⟩:=(hone s').1 hs';rw [hspan] at k1 k2;exact ⟨s,k,cu.last.2 hs,k1,k2,hsb s k hs⟩
   ·rintro ⟨s,k,hs,k1,k2,rfl⟩
    have hs':=cu.last.1 hs;exact ⟨_,(hone _).2 ⟨s,k,hs',by rw [hspan];exact k1,by rw [hspan];exact k2,rfl⟩,hsb s k hs'⟩
  have hfit:∀ s,cu m f A m.acts.length s→(0≤au s (idxV m.vessels a)∧au s (idxV m.vessels a)≤au all (idxV m.vessels a))∧(0≤au s (idxV m.vessels b)∧au s (idxV m.vessels b)≤au all (idxV m.vessels b)):=fun s hs=>by
   have h:=hs.fits hA hv4 hall;have h1:=h.le ia (by omega);have h2:=h.le ib (by omega);rw [← hia] at h1;rw [← hib] at h2;exact ⟨h1,h2⟩
  have hO3:∀ v,OfP m b (m.acts.length:Int) f A v↔∃ s,cu m f A m.acts.length s∧au s (idxV m.vessels b)=v:=fun v=>by unfold OfP;rw [Int.toNat_natCast]
  have hOa:∀ v,OfP m a (m.acts.length:Int) f A v↔∃ s,cu m f A m.acts.length s∧au s (idxV m.vessels a)=v:=fun v=>by unfold OfP;rw [Int.toNat_natCast]
  refine ⟨fun hk=>?_,fun hq hs=>?_,fun hr0=>?_⟩
  ·-- pure behind it: pure ahead
   obtain ⟨s,hs,es⟩:=(hO3 _).1 c4.1;have hb1:=hfit s hs;have:=(b4.2.2 _ ((hO2 _).2 ⟨s,max 0 (n - (au all (idxV m.vessels a) - au s (idxV m.vessels a))),hs,Int.le_refl _,by omega,rfl⟩)).1;omega
  ·obtain ⟨s,k,hs,k1,k2,es⟩:=(hO2 _).1 b4.1
   have h1:=(c4.2.2 _ ((hO3 _).2 ⟨s,hs,rfl⟩)).1;have h2:=(g4.2.2 _ ((hOa _).2 ⟨s,hs,rfl⟩)).1;have h3:=hfit s hs;rw [es];omega
  ·have h0:hi≤0:=by have:=hr0.2;omega
   have hno:∀ v,OfP x b ((m.acts.length+1:Nat):Int) f A' v→v≠au all (idxV m.vessels b)+n:=fun v hv'=>by
    obtain ⟨s,k,hs,k1,k2,rfl⟩:=(hO2 v).1 hv';have h2:=(d3.2.2 _ ((hOa _).2 ⟨s,hs,rfl⟩)).2;have h3:=hfit s hs;omega
   exact ⟨hno _ b4.1,hno _ b4.2.1⟩
 ·rcases p4.2 with ⟨d1,d2,d3,_⟩ | ⟨d1,d2,_⟩
  ·exact absurd d2 c3
  rcases p5 with ⟨g1,g2,g3⟩ | ⟨g1,g2,_⟩
  ·exact ⟨rfl,by omega,by omega,by omega,fun _=>b1,fun h=>by omega⟩
  ·exact absurd g2 c3
theorem tQ {m:Mix}{z:MAct}(h:cA m=true)(hx:cA (dm m (m.acts++[z]))=true):jE (dm m (m.acts++[z]))=(m,0):=by
 have e:dm (dm m (m.acts++[z])) ((dm m (m.acts++[z])).acts.take ((dm m (m.acts++[z])).acts.length - 1))=m:=by
  show dm (dm m (m.acts++[z])) ((m.acts++[z]).take ((m.acts++[z]).length - 1))=m
  have:(m.acts++[z]).take ((m.acts++[z]).length - 1)=m.acts:=by simp
  rw [this];rfl
 unfold jE;rw [if_pos hx,e,if_pos h,if_neg]
 show (m.acts++[z]).length≠0
 simp
theorem yQ {m:Mix}{z:MAct}(h:cA m=true)(h12:m.acts.length≠12):(doM m z=(dn,41))∨(doM m z=(dm m (m.acts++[z]),0)∧cA (dm m (m.acts++[z]))=true):=by
 unfold doM;rw [if_pos h,if_neg h12];by_cases hx:cA (dm m (m.acts++[z]))=true
 ·rw [if_pos hx];exact .inr ⟨rfl,hx⟩
 ·rw [if_neg hx];exact .inl rfl
theorem vT {m:Mix}{a b n f k e:Int}(hok:cA m=true)(ha0:0≤idxV m.vessels a)(hb0:0≤idxV m.vessels b)(hf:1≤f∧f≤m.fountains)(hd:doM m ⟨2,a,b,n⟩=(dn,41))(h:jS m a b n f k e):e=41:=by
 have hg:fM m a b f=0:=by unfold fM;rw [if_pos hok,if_neg (by omega),if_pos hf]
 rcases h with ⟨c,_⟩ | ⟨_,_,_,c⟩ | ⟨_,c,_⟩
 ·exact absurd hg c
 ·rw [hd] at c;exact c
 ·rw [hd] at c;exact absurd c (by decide)
end
section
set_option linter.unusedSectionVars false
theorem k9 {m:Mix}(h:cA m=true){i:Nat}{v:Vess}(hi:m.vessels[i]? =some v):idxV m.vessels v.id=(i:Int):=by
 have hp:=(fA (jx h).2.2.1).1
 have h0:0≤idxV m.vessels v.id:=by
  unfold idxV;rw [if_pos (List.any_eq_true.2 ⟨v,List.mem_of_getElem? hi,by simp⟩)];omega
 obtain ⟨u,h1,h2⟩:=nx h0;obtain ⟨l1,l2⟩:=g_E h1;obtain ⟨l3,l4⟩:=g_E hi;have e1:(m.vessels.map (·.id))[(idxV m.vessels v.id).toNat]'(by simpa using l1)=u.id:=by simp [l2]
 have e2:(m.vessels.map (·.id))[i]'(by simpa using l3)=v.id:=by simp [l4]
 rw [List.pairwise_iff_getElem] at hp;rcases Nat.lt_trichotomy (idxV m.vessels v.id).toNat i with h | h | h
 ·have:=hp _ _ (by simpa using l1) (by simpa using l3) h
  rw [e1,e2] at this;omega
 ·omega
 ·have:=hp _ _ (by simpa using l3) (by simpa using l1) h
  rw [e1,e2] at this;omega
section
variable {m:Mix} {A:List Held} {f:Int}
end
section
variable {m:Mix} {A:List Held} {f:Int}
end
end
section
open Go.ChangeShapes Go.WideShapes Go.RowKit Go.Deep Go.Joins
set_option maxRecDepth 100000
theorem fR {α:Type}{vals:α→List Value}{sz:Nat}(hk:∀ x,(vals x).length=sz):∀ l:List α,(l.flatMap vals).length=l.length * sz
 | []=>by simp
 | x::l=>by rw [List.flatMap_cons,List.length_append,hk,fR hk l,List.length_cons,Nat.succ_mul];omega
theorem lx {α:Type}{vals:α→List Value}{sz:Nat}(hk:∀ x,(vals x).length=sz):∀ {l:List α} {i j:Nat} {x:α},l[i]? =some x→j<sz→(l.flatMap vals)[i * sz+j]? =(vals x)[j]?
 | [],i,j,x,h,_=>by simp at h
 | y::l,0,j,x,h,hj=>by
  have:y=x:=by simpa using h
  subst this;rw [List.flatMap_cons,Nat.zero_mul,Nat.zero_add,List.getElem?_append_left (by rw [hk];exact hj)]
 | y::l,i+1,j,x,h,hj=>by
  rw [List.flatMap_cons,List.getElem?_append_right (by rw [hk,Nat.succ_mul];omega),hk,show (i+1) * sz+j - sz=i * sz+j by rw [Nat.succ_mul];omega];exact lx hk (by simpa using h) hj
section
variable {H:Type} {enc:TypeId × Value→H} {w:World}
theorem dP:Tryz.prog.cellsOf 3=1:=by kernel_rfl
theorem uX:Tryz.prog.cellsOf 26=4:=by kernel_rfl
theorem yg:∃ f0 f1,Tryz.prog.underlying 50=some (.struct #[f0,f1])∧f0.type=3∧f1.type=3∧f0.offset=0∧f1.offset=1 :=
 ⟨_,_,Tryz.underlying50,rfl,rfl,rfl,rfl⟩
theorem uI:Tryz.prog.cellsOf 50=2:=by kernel_rfl
theorem sF {fuel:Nat}{cs:List Value}{x:DataW H × List MemPlace}(h:DataW.trod enc Tryz.prog w 0 (fun _=>true) true fuel 50 cs=some x)(hl:cs.length=2):∃ l:Vess,cs=l.vals:=by
 obtain ⟨f0,f1,hu,t0,t1,z0,z1⟩:=yg;obtain ⟨xs,n,_,_,_,hlen,hg⟩:=DataW.trod_struct hu h
 match cs,hl,xs,hlen with
 | [c0,c1],_,[y0,y1],_ =>
  have h0:DataW.trod enc Tryz.prog w 0 (fun _=>true) true n 3 [c0]=some y0:=by simpa [t0,z0,dP] using hg 0 f0 rfl
  have h1:DataW.trod enc Tryz.prog w 0 (fun _=>true) true n 3 [c1]=some y1:=by simpa [t1,z1,dP] using hg 1 f1 rfl
  obtain ⟨n0,e0,_,_⟩:=DataW.trod_int Tryz.underlying3 h0;obtain ⟨n1,e1,_,_⟩:=DataW.trod_int Tryz.underlying3 h1;simp only [List.cons.injEq,and_true] at e0 e1;subst e0 e1;exact ⟨⟨n0,n1⟩,rfl⟩
theorem sZ {v:Value}{fuel:Nat}{x:DataW H × List MemPlace}(h:DataW.trod enc Tryz.prog w 0 (fun _=>true) true fuel 22 [v]=some x) :
  ∃ A n c,∃ l:List Vess,v = .slice A n c∧n≤c∧n≤maxLen∧c≤maxLen∧cB w w.heap.size 2 A n (l.flatMap Vess.vals):=by
 rcases open_slice Tryz.underlying22 h with ⟨e,_⟩ | ⟨a,len,cap,m,k,D,Pl,e,_,hl,hm,hmm,_,hx⟩
 ·simp only [List.cons.injEq,and_true] at e
  exact ⟨none,0,0,[],e,n_R,Nat.zero_le _,Nat.zero_le _,cB.none_⟩
 ·simp only [List.cons.injEq,and_true] at e
  have hmc:m=cap:=by simpa using hmm
  subst hmc
  have hn:∀ i,i<m→∃ z:Vess,∀ j,j<2→w.cell? (a.add (i * 2+j))=z.vals[j]? :=fun i hi=>by
   obtain ⟨cs',h1,h2⟩:=hx i hi;rw [uI] at h1;obtain ⟨_,hcl,hat⟩:=World.cells?_some h1;obtain ⟨z,rfl⟩:=sF h2 hcl;exact ⟨z,fun j hj=>by rw [← Go.Deep.add_add,hat j hj]⟩
  letI:Inhabited Vess:=⟨⟨0,0⟩⟩
  obtain ⟨Z,hZ⟩:=choose_lt hn;refine ⟨some a,len,m,(List.range len).map Z,e,hl,by omega,hm,by rw [fR g9];simp,fun h0=>⟨a,rfl,?_,fun j u hu=>?_⟩⟩
  ·have:=World.block_lt_of_cell? w _ (hZ 0 (by omega) 0 (by omega))
   rwa [dY] at this
  ·have hj:j<len * 2:=by
    rcases Nat.lt_or_ge j (len * 2) with h' | h'
    ·exact h'
    ·rw [List.getElem?_eq_none (by rw [fR g9];simpa using h')] at hu;cases hu
   have hz:=hZ (j / 2) (by omega) (j % 2) (by omega);have ha:((List.range len).map Z)[j / 2]? =some (Z (j / 2)):=by rw [List.getElem?_map,List.getElem?_range (by omega)];rfl
   have hf:=lx g9 ha (show j % 2<2 by omega);rw [show j / 2 * 2+j % 2=j by omega] at hf hz;rw [hz,← hf,hu]
theorem yq:∃ f0 f1 f2 f3,Tryz.prog.underlying 62=some (.struct #[f0,f1,f2,f3])∧f0.type=3∧f1.type=3∧f2.type=3∧f3.type=3∧f0.offset=0∧f1.offset=1∧f2.offset=2∧f3.offset=3 :=
 ⟨_,_,_,_,Tryz.underlying62,rfl,rfl,rfl,rfl,rfl,rfl,rfl,rfl⟩
theorem uz:Tryz.prog.cellsOf 62=4:=by kernel_rfl
theorem ss {fuel:Nat}{cs:List Value}{x:DataW H × List MemPlace}(h:DataW.trod enc Tryz.prog w 0 (fun _=>true) true fuel 62 cs=some x)(hl:cs.length=4):∃ l:MAct,cs=l.vals:=by
 obtain ⟨f0,f1,f2,f3,hu,t0,t1,t2,t3,z0,z1,z2,z3⟩:=yq;obtain ⟨xs,n,_,_,_,hlen,hg⟩:=DataW.trod_struct hu h
 match cs,hl,xs,hlen with
 | [c0,c1,c2,c3],_,[y0,y1,y2,y3],_ =>
  have h0:DataW.trod enc Tryz.prog w 0 (fun _=>true) true n 3 [c0]=some y0:=by simpa [t0,z0,dP] using hg 0 f0 rfl
  have h1:DataW.trod enc Tryz.prog w 0 (fun _=>true) true n 3 [c1]=some y1:=by simpa [t1,z1,dP] using hg 1 f1 rfl
  have h2:DataW.trod enc Tryz.prog w 0 (fun _=>true) true n 3 [c2]=some y2:=by simpa [t2,z2,dP] using hg 2 f2 rfl
  have h3:DataW.trod enc Tryz.prog w 0 (fun _=>true) true n 3 [c3]=some y3:=by simpa [t3,z3,dP] using hg 3 f3 rfl
  obtain ⟨n0,e0,_,_⟩:=DataW.trod_int Tryz.underlying3 h0;obtain ⟨n1,e1,_,_⟩:=DataW.trod_int Tryz.underlying3 h1;obtain ⟨n2,e2,_,_⟩:=DataW.trod_int Tryz.underlying3 h2;obtain ⟨n3,e3,_,_⟩:=DataW.trod_int Tryz.underlying3 h3;simp only [List.cons.injEq,and_true] at e0 e1 e2 e3;subst e0 e1 e2 e3;exact ⟨⟨n0,n1,n2,n3⟩,rfl⟩
theorem sk {v:Value}{fuel:Nat}{x:DataW H × List MemPlace}(h:DataW.trod enc Tryz.prog w 0 (fun _=>true) true fuel 23 [v]=some x) :
  ∃ A n c,∃ l:List MAct,v = .slice A n c∧n≤c∧n≤maxLen∧c≤maxLen∧cB w w.heap.size 4 A n (l.flatMap MAct.vals):=by
 rcases open_slice Tryz.underlying23 h with ⟨e,_⟩ | ⟨a,len,cap,m,k,D,Pl,e,_,hl,hm,hmm,_,hx⟩
 ·simp only [List.cons.injEq,and_true] at e
  exact ⟨none,0,0,[],e,n_R,Nat.zero_le _,Nat.zero_le _,cB.none_⟩
 ·simp only [List.cons.injEq,and_true] at e
  have hmc:m=cap:=by simpa using hmm
  subst hmc
  have hn:∀ i,i<m→∃ z:MAct,∀ j,j<4→w.cell? (a.add (i * 4+j))=z.vals[j]? :=fun i hi=>by
   obtain ⟨cs',h1,h2⟩:=hx i hi;rw [uz] at h1;obtain ⟨_,hcl,hat⟩:=World.cells?_some h1;obtain ⟨z,rfl⟩:=ss h2 hcl;exact ⟨z,fun j hj=>by rw [← Go.Deep.add_add,hat j hj]⟩
  letI:Inhabited MAct:=⟨⟨0,0,0,0⟩⟩
  obtain ⟨Z,hZ⟩:=choose_lt hn;refine ⟨some a,len,m,(List.range len).map Z,e,hl,by omega,hm,by rw [fR jV];simp,fun h0=>⟨a,rfl,?_,fun j u hu=>?_⟩⟩
  ·have:=World.block_lt_of_cell? w _ (hZ 0 (by omega) 0 (by omega))
   rwa [dY] at this
  ·have hj:j<len * 4:=by
    rcases Nat.lt_or_ge j (len * 4) with h' | h'
    ·exact h'
    ·rw [List.getElem?_eq_none (by rw [fR jV];simpa using h')] at hu;cases hu
   have hz:=hZ (j / 4) (by omega) (j % 4) (by omega);have ha:((List.range len).map Z)[j / 4]? =some (Z (j / 4)):=by rw [List.getElem?_map,List.getElem?_range (by omega)];rfl
   have hf:=lx jV ha (show j % 4<4 by omega);rw [show j / 4 * 4+j % 4=j by omega] at hf hz;rw [hz,← hf,hu]
theorem yo:∃ f0 f1 f2 f3 f4,Tryz.prog.underlying 69=some (.struct #[f0,f1,f2,f3,f4])∧f0.type=3∧f1.type=3∧f2.type=3∧f3.type=3∧f4.type=54∧f0.offset=0∧f1.offset=1∧f2.offset=2∧f3.offset=3∧f4.offset=4 :=
 ⟨_,_,_,_,_,Tryz.underlying69,rfl,rfl,rfl,rfl,rfl,rfl,rfl,rfl,rfl,rfl⟩
theorem xL:∃ f0 f1,Tryz.prog.underlying 54=some (.struct #[f0,f1])∧f0.type=3∧f1.type=3∧f0.offset=0∧f1.offset=1 :=
 ⟨_,_,Tryz.underlying54,rfl,rfl,rfl,rfl⟩
theorem ug:Tryz.prog.cellsOf 69=6:=by kernel_rfl
theorem uu:Tryz.prog.cellsOf 54=2:=by kernel_rfl
theorem sW {fuel:Nat}{cs:List Value}{x:DataW H × List MemPlace}(h:DataW.trod enc Tryz.prog w 0 (fun _=>true) true fuel 69 cs=some x)(hl:cs.length=6):∃ l:Tast,cs=l.vals:=by
 obtain ⟨f0,f1,f2,f3,f4,hu,t0,t1,t2,t3,t4,z0,z1,z2,z3,z4⟩:=yo;obtain ⟨g0,g1,hu2,s0,s1,o0,o1⟩:=xL;obtain ⟨xs,n,_,_,_,hlen,hg⟩:=DataW.trod_struct hu h
 match cs,hl,xs,hlen with
 | [c0,c1,c2,c3,c4,c5],_,[y0,y1,y2,y3,y4],_ =>
  have h0:DataW.trod enc Tryz.prog w 0 (fun _=>true) true n 3 [c0]=some y0:=by simpa [t0,z0,dP] using hg 0 f0 rfl
  have h1:DataW.trod enc Tryz.prog w 0 (fun _=>true) true n 3 [c1]=some y1:=by simpa [t1,z1,dP] using hg 1 f1 rfl
  have h2:DataW.trod enc Tryz.prog w 0 (fun _=>true) true n 3 [c2]=some y2:=by simpa [t2,z2,dP] using hg 2 f2 rfl
  have h3:DataW.trod enc Tryz.prog w 0 (fun _=>true) true n 3 [c3]=some y3:=by simpa [t3,z3,dP] using hg 3 f3 rfl
  have h4:DataW.trod enc Tryz.prog w 0 (fun _=>true) true n 54 [c4,c5]=some y4:=by simpa [t4,z4,uu] using hg 4 f4 rfl
  obtain ⟨xs',n',_,_,_,hlen',hg'⟩:=DataW.trod_struct hu2 h4
  match xs',hlen' with
  | [u0,u1],_ =>
   have k0:DataW.trod enc Tryz.prog w 0 (fun _=>true) true n' 3 [c4]=some u0:=by simpa [s0,o0,dP] using hg' 0 g0 rfl
   have k1:DataW.trod enc Tryz.prog w 0 (fun _=>true) true n' 3 [c5]=some u1:=by simpa [s1,o1,dP] using hg' 1 g1 rfl
   obtain ⟨n0,e0,_,_⟩:=DataW.trod_int Tryz.underlying3 h0;obtain ⟨n1,e1,_,_⟩:=DataW.trod_int Tryz.underlying3 h1;obtain ⟨n2,e2,_,_⟩:=DataW.trod_int Tryz.underlying3 h2;obtain ⟨n3,e3,_,_⟩:=DataW.trod_int Tryz.underlying3 h3;obtain ⟨n4,e4,_,_⟩:=DataW.trod_int Tryz.underlying3 k0;obtain ⟨n5,e5,_,_⟩:=DataW.trod_int Tryz.underlying3 k1;simp only [List.cons.injEq,and_true] at e0 e1 e2 e3 e4 e5;subst e0 e1 e2 e3 e4 e5;exact ⟨⟨n0,n1,n2,n3,n4,n5⟩,rfl⟩
theorem tc {v:Value}{fuel:Nat}{x:DataW H × List MemPlace}(h:DataW.trod enc Tryz.prog w 0 (fun _=>true) true fuel 24 [v]=some x) :
  ∃ A n c,∃ l:List Tast,v = .slice A n c∧n≤c∧n≤maxLen∧c≤maxLen∧cB w w.heap.size 6 A n (l.flatMap Tast.vals):=by
 rcases open_slice Tryz.underlying24 h with ⟨e,_⟩ | ⟨a,len,cap,m,k,D,Pl,e,_,hl,hm,hmm,_,hx⟩
 ·simp only [List.cons.injEq,and_true] at e
  exact ⟨none,0,0,[],e,n_R,Nat.zero_le _,Nat.zero_le _,cB.none_⟩
 ·simp only [List.cons.injEq,and_true] at e
  have hmc:m=cap:=by simpa using hmm
  subst hmc
  have hn:∀ i,i<m→∃ z:Tast,∀ j,j<6→w.cell? (a.add (i * 6+j))=z.vals[j]? :=fun i hi=>by
   obtain ⟨cs',h1,h2⟩:=hx i hi;rw [ug] at h1;obtain ⟨_,hcl,hat⟩:=World.cells?_some h1;obtain ⟨z,rfl⟩:=sW h2 hcl;exact ⟨z,fun j hj=>by rw [← Go.Deep.add_add,hat j hj]⟩
  letI:Inhabited Tast:=⟨⟨0,0,0,0,0,0⟩⟩
  obtain ⟨Z,hZ⟩:=choose_lt hn;refine ⟨some a,len,m,(List.range len).map Z,e,hl,by omega,hm,by rw [fR eT];simp,fun h0=>⟨a,rfl,?_,fun j u hu=>?_⟩⟩
  ·have:=World.block_lt_of_cell? w _ (hZ 0 (by omega) 0 (by omega))
   rwa [dY] at this
  ·have hj:j<len * 6:=by
    rcases Nat.lt_or_ge j (len * 6) with h' | h'
    ·exact h'
    ·rw [List.getElem?_eq_none (by rw [fR eT];simpa using h')] at hu;cases hu
   have hz:=hZ (j / 6) (by omega) (j % 6) (by omega);have ha:((List.range len).map Z)[j / 6]? =some (Z (j / 6)):=by rw [List.getElem?_map,List.getElem?_range (by omega)];rfl
   have hf:=lx eT ha (show j % 6<6 by omega);rw [show j / 6 * 6+j % 6=j by omega] at hf hz;rw [hz,← hf,hu]
theorem ze:∃ f0 f1 f2 f3,Tryz.prog.underlying 26=some (.struct #[f0,f1,f2,f3])∧(f0.type=3∧f1.type=22∧f2.type=23∧f3.type=24)∧(f0.offset=0∧f1.offset=1∧f2.offset=2∧f3.offset=3) :=
 ⟨_,_,_,_,Tryz.underlying26,⟨rfl,rfl,rfl,rfl⟩,rfl,rfl,rfl,rfl⟩
theorem wm:Tryz.prog.cellsOf 22=1:=by kernel_rfl
theorem xB:Tryz.prog.cellsOf 23=1:=by kernel_rfl
theorem wQ:Tryz.prog.cellsOf 24=1:=by kernel_rfl
theorem m4 {r:Reach}{b0:Nat}{v:Value}{d:DataW H}{p:List MemPlace}(hv:Value.okWide Tryz.prog w r b0 26 v)(h:DataW.Trod enc Tryz.prog w 0 (fun _=>true) true 26 v d p) :
  ∃ Av nv cv Aa na ca At nt ct m,v = .agg #[.int .i64 m.fountains,.slice Av nv cv,.slice Aa na ca,.slice At nt ct]∧(na≤ca∧ca≤maxLen)∧(nt≤ct∧ct≤maxLen)∧dD w w.heap.size Av nv Aa na At nt m:=by
 obtain ⟨f0,f1,f2,f3,hu,⟨t0,t1,t2,t3⟩,z0,z1,z2,z3⟩:=ze;obtain ⟨cs,rfl,hsz⟩:=okWide_struct hu hv;obtain ⟨fuel,hf⟩:=h;obtain ⟨xs,n,_,_,_,hlen,hg⟩:=DataW.trod_struct hu hf;obtain ⟨l⟩:=cs
 match l,hsz.trans uX,xs,hlen with
 | [c0,c1,c2,c3],_,[y0,y1,y2,y3],_ =>
  have h0:DataW.trod enc Tryz.prog w 0 (fun _=>true) true n 3 [c0]=some y0:=by simpa [t0,z0,dP,Value.cells] using hg 0 f0 rfl
  have h1:DataW.trod enc Tryz.prog w 0 (fun _=>true) true n 22 [c1]=some y1:=by simpa [t1,z1,wm,Value.cells] using hg 1 f1 rfl
  have h2:DataW.trod enc Tryz.prog w 0 (fun _=>true) true n 23 [c2]=some y2:=by simpa [t2,z2,xB,Value.cells] using hg 2 f2 rfl
  have h3:DataW.trod enc Tryz.prog w 0 (fun _=>true) true n 24 [c3]=some y3:=by simpa [t3,z3,wQ,Value.cells] using hg 3 f3 rfl
  obtain ⟨f,e0,_,_⟩:=DataW.trod_int Tryz.underlying3 h0;simp only [List.cons.injEq,and_true] at e0;obtain ⟨Av,nv,cv,lv,rfl,_,_,_,hv1⟩:=sZ h1;obtain ⟨Aa,na,ca,la,rfl,ha1,_,ha2,hv2⟩:=sk h2;obtain ⟨At,nt,ct,lt,rfl,ht1,_,ht2,hv3⟩:=tc h3;subst e0;exact ⟨Av,nv,cv,Aa,na,ca,At,nt,ct,⟨f,lv,la,lt⟩,rfl,⟨ha1,ha2⟩,⟨ht1,ht2⟩,⟨hv1,hv2,hv3⟩⟩
end
end
section
open Go.ChangeShapes Go.WideShapes Go.RowKit Go.Deep Go.Joins
set_option maxRecDepth 100000
section
variable {H:Type} {enc:TypeId × Value→H} {w:World}
theorem u8_wf {z:Int}(h:(Lit.int .u8 z).wf=true):0≤z∧z≤255:=by
 simp [Lit.wf] at h;have h1:IntKind.u8.min=0:=rfl;have h2:IntKind.u8.max=255:=rfl;omega
theorem ev {v:Value}{d:DataW H}{p:List MemPlace}(h:DataW.Trod enc Tryz.prog w 0 (fun _=>true) true 5 v d p)(hv:∃ z:Int,v = .int .u8 z):∃ x:Nat,v = .int .u8 (x:Nat)∧x≤255:=by
 obtain ⟨z,rfl⟩:=hv;obtain ⟨fuel,hf⟩:=h;obtain ⟨n,e,_,hw⟩:=DataW.trod_int Tryz.underlying5 hf;have e':n=z:=by simpa [Value.cells] using e.symm
 subst e';have hb:=u8_wf hw;obtain ⟨k,rfl⟩:=Int.eq_ofNat_of_zero_le hb.1;exact ⟨k,rfl,by omega⟩
end
end
end Go.Proofs.YthofngceiecniaaGreat
