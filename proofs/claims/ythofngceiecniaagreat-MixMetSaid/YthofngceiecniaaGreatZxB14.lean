/- Part 14 of the texts of this claim, joined. -/
import Derived.Sort.CutIn
import Derived.Lib.SmallJoins
import Derived.LaidHandle
import Derived.ChangeArms
import Derived.ChangeSame
import Derived.Test.YthofngceiecniaaGreatZxB13
set_option linter.unusedVariables false
/- The answer's Mix, and Check. -/
namespace Go.Proofs.YthofngceiecniaaGreat
set_option maxHeartbeats 32000000
set_option maxRecDepth 100000
section
open Go.RowKit
theorem xF {m:Mix}(h:risB 0 (m.vessels.map (·.id))=false):cG m=false:=by unfold cG;rw [h];simp
theorem uS {m:Mix}(h:risB 0 (m.tastes.map (·.num))=false):cG m=false:=by unfold cG;rw [h];simp
theorem uM {α:Type}{f:α→Int}{l:List α}{k:Nat}{x:α}(hx:l[k]? =some x)(h:risB 0 ((l.take k).map f)=true):risB 0 ((l.take (k+1)).map f)=wiB (f x) (((l.take k).map f).getLast?.getD 0+1) 9999:=by
 obtain ⟨hk,rfl⟩:=g_E hx;rw [List.take_succ_eq_append_getElem hk,List.map_append,List.map_cons,List.map_nil,kO,h,Bool.true_and];rfl
theorem sJ {α:Type}{f:α→Int}{l:List α}{k:Nat}{x:α}(hx:l[k]? =some x):((l.take (k+1)).map f).getLast?.getD 0=f x:=by
 obtain ⟨hk,rfl⟩:=g_E hx;rw [List.take_succ_eq_append_getElem hk,List.map_append,List.map_cons,List.map_nil,List.getLast?_concat];rfl
theorem qV {α:Type}{f:α→Int}{l:List α}{k:Nat}(h:risB 0 ((l.take k).map f)=false):risB 0 (l.map f)=false:=by
 cases h0:risB 0 (l.map f) with
 | false=>rfl
 | true =>
  have:=o9 (k:=k) h0;rw [← List.map_take] at this;rw [this] at h;cases h
theorem vX {α:Type}{p:α→Bool}{l:List α}{k:Nat}(h:(l.take k).all p=false):l.all p=false:=by
 cases h0:l.all p with
 | false=>rfl
 | true=>exact absurd ((sT (k:=k) h0).symm.trans h) (by decide)
theorem vN (Av:Option Addr)(nv cv:Nat)(Aa:Option Addr)(na ca:Nat)(At:Option Addr)(nt ct:Nat)(m:Mix)(w:World)(h:MixS w Av nv Aa na At nt m) :
  Calls Tryz.prog 49 #[.agg #[.int .i64 m.fountains,.slice Av nv cv,.slice Aa na ca,.slice At nt ct]] w fun e w'=>e = .returned (.bool (cG m))∧Below w.heap.size w w':=by
 have HM:=lh h;have HLV:=lh h.at_.lenV;have HLA:=lh h.at_.lenA;have HLT:=lh h.at_.lenT;have hnv:=h.hv;have hna:=h.ha;have hnt:=h.ht;clear h
 go_enter Tryz.func49,Tryz.ntmps49
 go_upto_region 1 with fail
 have Ly:=lh (Lay.one w 26 #[.int .i64 m.fountains,.slice Av nv cv,.slice Aa na ca,.slice At nt ct]);generalize (w.alloc (.cells #[.int .i64 m.fountains,.slice Av nv cv,.slice Aa na ca,.slice At nt ct] 26))=w0 at *;obtain ⟨x0,x1,x2,x3⟩:=lyc4 Ly 0 rfl;have xl:=Ly.out.lt 0 rfl
 go_wp2_with fail
 refine (cY m.fountains 1 4 w0).mono ?_;rintro e W1 ⟨rfl,rfl⟩;by_cases hG:(1≤m.fountains∧m.fountains≤4)∧m.vessels.length≤4∧m.acts.length≤12∧m.tastes.length≤8
 ·have HG:=lh hG
  have hi:wiB m.fountains 1 4=true:=decide_eq_true hG.1;have hn4:nv≤4:=by have:=HLV.out;omega
  have hn12:na≤12:=by have:=HLA.out;omega
  have hn8:nt≤8:=by have:=HLT.out;omega
  have d1:(nv:Int)≤4:=by omega
  have d2:(na:Int)≤12:=by omega
  have d3:(nt:Int)≤8:=by omega
  rw [hi];clear hi hG
  go_wp2_with fail
  clear d1 d2 d3 x0 x1 x2 x3 xl
  go_loopw [3,35] (fun v3 i wr=>∃ k:Nat,k≤nv∧i = .int .i64 k∧v3 = .int .i64 (((m.vessels.take k).map (·.id)).getLast?.getD 0)∧Hid (Lay w wr [(w.heap.size,26,#[.int .i64 m.fountains,.slice Av nv cv,.slice Aa na ca,.slice At nt ct])]∧(m.vessels.take k).all ip=true∧risB 0 ((m.vessels.take k).map (·.id))=true))
   (fun _ i _=>nv - (intOf i).toNat)
  case atStart=>exact ⟨0,by omega,rfl,rfl,lh ⟨Ly.out,rfl,rfl⟩⟩
  case round =>
   clear Ly;obtain ⟨k,hk,rfl,rfl,HS⟩:=hrel;obtain ⟨hl0,hl1⟩:=mB HS.out.2.2
   obtain ⟨p,hp⟩:∃ p,((m.vessels.take k).map (·.id)).getLast?.getD 0=p:=⟨_,rfl⟩
   have Ly:=lh HS.out.1;rw [hp] at hl0 hl1 ⊢;have HP:=lh hp;clear hp;have x1:=lyc Ly 0 rfl 1;have x3:=lyc Ly 0 rfl 3;have xl:=Ly.out.lt 0 rfl;by_cases hlt:k<nv
   ·clear x1 x3 xl
    obtain ⟨b,off,x,rfl,hbB,hx,hc0,hc1⟩:=(HM.out.at_.below Ly.out.1).vess hlt;have HX:=lh hx;clear hx
    go_upto_region 7 with fail
    have hb1:Below wr.heap.size wr (wr.alloc (.cells #[.int .i64 x.id,.int .i64 x.size] 50)):=b_R.alloc n_R _;have HN:=lh (Blk.new wr 50 #[.int .i64 x.id,.int .i64 x.size])
    obtain ⟨g8,hg8⟩:∃ g,wr.heap.size=g:=⟨_,rfl⟩
    generalize wr.alloc (.cells #[.int .i64 x.id,.int .i64 x.size] 50)=wa at *;have HB1:=lh hb1;rw [hg8] at HN ⊢;have y0:=HN.out.cell 0;have y1:=HN.out.cell 1;have yl:=HN.out.lt;clear hb1 hc0 hc1;have HRS:=lh (uM (f:=(·.id)) HX.out HS.out.2.2);have HAS:=lh (kn HX.out HS.out.2.1);have HLST:=lh (sJ (f:=fun v:Vess=>v.id) HX.out);rw [HP.out] at HRS
    go_wp2_with fail
    refine (cY x.id (p+1) 9999 wa).mono ?_;rintro e W ⟨rfl,rfl⟩
    cases hi:wiB x.id (p+1) 9999 with
    | false =>
     rw [hi] at HRS;clear hi
     go_wp2_with fail
     go_ret
     exact ⟨de (xF (qV HRS.out)).symm,Ly.out.1.trans (HB1.out.mono Ly.out.1.size)⟩
    | true =>
     rw [hi] at HRS;clear hi
     go_wp2_with fail
     refine (cY x.size 1 12 wa).mono ?_;rintro e W ⟨rfl,rfl⟩;have hvs:ip x=wiB x.size 1 12:=rfl;rw [hvs] at HAS;clear hvs
     cases hi:wiB x.size 1 12 with
     | false =>
      rw [hi] at HAS;clear hi
      go_wp2_with fail
      go_ret
      exact ⟨de (qF (vX HAS.out)).symm,Ly.out.1.trans (HB1.out.mono Ly.out.1.size)⟩
     | true =>
      rw [hi] at HAS;clear hi
      go_wp2_with fail
      go_roundw
      case rel=>exact ⟨k+1,by omega,by go_num,by rw [HLST.out],lh ⟨Ly.out.below HB1.out,HAS.out,HRS.out⟩⟩
      case measure=>simp [intOf];omega
   ·obtain rfl:nv=k:=by omega
    have hz:m.vessels.all ip=true:=by
     have:=HS.out.2.1
     rwa [List.take_of_length_le (by have:=HLV.out;omega)] at this
    have hr:risB 0 (m.vessels.map (·.id))=true:=by
     have:=HS.out.2.2
     rwa [List.take_of_length_le (by have:=HLV.out;omega)] at this
    have HZ:=lh hz;have HRI:=lh hr;clear hz hr
    go_wp2_with fail
    clear x1 x3 xl HP hl0 hl1
    obtain ⟨wo,rfl⟩:∃ wo,wo=wr:=⟨_,rfl⟩
    go_loopw [3,57] (fun v3 i wr=>∃ k:Nat,k≤nt∧i = .int .i64 k∧v3 = .int .i64 (((m.tastes.take k).map (·.num)).getLast?.getD 0)∧Hid (Lay w wr [(w.heap.size,26,#[.int .i64 m.fountains,.slice Av nv cv,.slice Aa na ca,.slice At nt ct])]∧(m.tastes.take k).all (dI m)=true∧risB 0 ((m.tastes.take k).map (·.num))=true))
     (fun _ i _=>nt - (intOf i).toNat)
    case atStart=>exact ⟨0,by omega,rfl,rfl,lh ⟨Ly.out,rfl,rfl⟩⟩
    case round =>
     clear Ly HS;obtain ⟨k,hk2,rfl,rfl,HS⟩:=hrel;obtain ⟨hl0,hl1⟩:=mB HS.out.2.2
     obtain ⟨p,hp⟩:∃ p,((m.tastes.take k).map (·.num)).getLast?.getD 0=p:=⟨_,rfl⟩
     have Ly:=lh HS.out.1;rw [hp] at hl0 hl1 ⊢;have HP:=lh hp;clear hp;obtain ⟨x0,x1,x2,x3⟩:=lyc4 Ly 0 rfl;have xl:=Ly.out.lt 0 rfl;by_cases hlt:k<nt
     ·clear x0 x1 x2 x3 xl
      obtain ⟨b,off,x,rfl,hbB,hx,hc0,hc1,hc2,hc3,hc4,hc5⟩:=(HM.out.at_.below Ly.out.1).tast hlt;have HX:=lh hx;clear hx
      go_upto_region 15 with fail
      have hb1:Below wr.heap.size wr (wr.alloc (.cells #[.int .i64 x.num,.int .i64 x.vessel,.int .i64 x.after,.int .i64 x.fountain,.int .i64 x.lo,.int .i64 x.hi] 69)):=b_R.alloc n_R _;have HN:=lh (Blk.new wr 69 #[.int .i64 x.num,.int .i64 x.vessel,.int .i64 x.after,.int .i64 x.fountain,.int .i64 x.lo,.int .i64 x.hi])
      obtain ⟨g8,hg8⟩:∃ g,wr.heap.size=g:=⟨_,rfl⟩
      generalize wr.alloc (.cells #[.int .i64 x.num,.int .i64 x.vessel,.int .i64 x.after,.int .i64 x.fountain,.int .i64 x.lo,.int .i64 x.hi] 69)=wa at *;have HB1:=lh hb1;rw [hg8] at HN ⊢;have y0:=HN.out.cell 0;have y1:=HN.out.cell 1;have yl:=HN.out.lt;have HLA1:=lh (Ly.out.below HB1.out);have x0:=(HLA1.out.blk 0 rfl).cell 0;have x1:=(HLA1.out.blk 0 rfl).cell 1;have x2:=(HLA1.out.blk 0 rfl).cell 2;have x3:=(HLA1.out.blk 0 rfl).cell 3;have xl:=HLA1.out.lt 0 rfl;clear hb1 hc0 hc1 hc2 hc3 hc4 hc5;have HRS:=lh (uM (f:=(·.num)) HX.out HS.out.2.2);have HAS:=lh (kn HX.out HS.out.2.1);have HLST:=lh (sJ (f:=fun v:Tast=>v.num) HX.out);rw [HP.out] at HRS
      go_wp2_with fail
      refine (cY x.num (p+1) 9999 wa).mono ?_;rintro e W ⟨rfl,rfl⟩
      cases hi:wiB x.num (p+1) 9999 with
      | false =>
       rw [hi] at HRS;clear hi
       go_wp2_with fail
       go_ret
       exact ⟨de (uS (qV HRS.out)).symm,Ly.out.1.trans (HB1.out.mono Ly.out.1.size)⟩
      | true =>
       rw [hi] at HRS;clear hi
       go_wp2_with fail
       refine (gu Av nv cv Aa na ca (some ⟨b,off,none⟩) nt ct m x.vessel wa (HM.out.up HLA1.out.1)).mono ?_;rintro e W ⟨rfl,hb⟩;have HB:=lh (HB1.out.trans (hb.mono HB1.out.size));have HN2:=lh (HN.out.below hb HN.out.lt);have HLA2:=lh (HLA1.out.below hb);clear hb y0 y1 yl x0 x1 x2 x3 xl HN HLA1 HB1;have y2:=HN2.out.cell 2;have y3:=HN2.out.cell 3;have y4:=HN2.out.cell 4;have y5:=HN2.out.cell 5;have yl:=HN2.out.lt;have x0:=(HLA2.out.blk 0 rfl).cell 0;have x2:=(HLA2.out.blk 0 rfl).cell 2;have xl:=HLA2.out.lt 0 rfl;by_cases hj:idxV m.vessels x.vessel<0
       ·have HTB:Hid (dI m x=false):=lh (by unfold dI;exact decide_eq_false (by omega))
        go_wp2_with fail
        go_ret
        exact ⟨de (ff (fQ HX.out HTB.out)).symm,Ly.out.1.trans (HB.out.mono Ly.out.1.size)⟩
       ·have hj2:0≤idxV m.vessels x.vessel:=by omega
        go_wp2_with fail
        refine (cY x.after 0 na W).mono ?_;rintro e W2 ⟨rfl,rfl⟩
        cases hi:wiB x.after 0 na with
        | false =>
         have HI:=lh (of_decide_eq_false hi);have HTB:Hid (dI m x=false):=lh (by unfold dI;have:=HLA.out;have:=HI.out;exact decide_eq_false (by omega));clear hi
         go_wp2_with fail
         go_ret
         exact ⟨de (ff (fQ HX.out HTB.out)).symm,Ly.out.1.trans (HB.out.mono Ly.out.1.size)⟩
        | true =>
         have HI:=lh (of_decide_eq_true hi);clear hi
         go_wp2_with fail
         refine (cY x.fountain 1 m.fountains W).mono ?_;rintro e W2 ⟨rfl,rfl⟩
         cases hi:wiB x.fountain 1 m.fountains with
         | false =>
          have HJ:=lh (of_decide_eq_false hi);have HTB:Hid (dI m x=false):=lh (by unfold dI;have:=HJ.out;exact decide_eq_false (by omega));clear hi
          go_wp2_with fail
          go_ret
          exact ⟨de (ff (fQ HX.out HTB.out)).symm,Ly.out.1.trans (HB.out.mono Ly.out.1.size)⟩
         | true =>
          have HJ:=lh (of_decide_eq_true hi);clear hi
          go_wp2_with fail
          refine (cY x.lo 0 x.hi W).mono ?_;rintro e W2 ⟨rfl,rfl⟩
          cases hi:wiB x.lo 0 x.hi with
          | false =>
           have HK:=lh (of_decide_eq_false hi);have HTB:Hid (dI m x=false):=lh (by unfold dI;have:=HK.out;exact decide_eq_false (by omega));clear hi
           go_wp2_with fail
           go_ret
           exact ⟨de (ff (fQ HX.out HTB.out)).symm,Ly.out.1.trans (HB.out.mono Ly.out.1.size)⟩
          | true =>
           have HK:=lh (of_decide_eq_true hi);have HTB:Hid (dI m x=true):=lh (by unfold dI;have:=HK.out;have:=HJ.out;have:=HI.out;have:=HLA.out;exact decide_eq_true (by omega));clear hi x0 x2 xl;have y0:=HN2.out.cell 0;rw [HTB.out] at HAS
           go_wp2_with fail
           go_roundw
           case rel=>exact ⟨k+1,by omega,by go_num,by rw [HLST.out],lh ⟨HLA2.out,HAS.out,HRS.out⟩⟩
           case measure=>simp [intOf];omega
     ·obtain rfl:nt=k:=by omega
      have hz:m.tastes.all (dI m)=true:=by
       have:=HS.out.2.1
       rwa [List.take_of_length_le (by have:=HLT.out;omega)] at this
      have hr:risB 0 (m.tastes.map (·.num))=true:=by
       have:=HS.out.2.2
       rwa [List.take_of_length_le (by have:=HLT.out;omega)] at this
      have HZT:=lh hz;have HRN:=lh hr;clear hz hr
      go_wp2_with fail
      refine (callsIn_wide.1 (si Av nv cv Aa na ca At nt ct m wr (HM.out.up Ly.out.1) (mK HZ.out) hn4 hna)).mono ?_;rintro e W ⟨hb,A4,n4,c4,bb,L,rfl,hd⟩;have HB:=lh (Ly.out.1.trans (hb.mono Ly.out.1.size));have HD:=lh hd;clear hb hd x0 x1 x2 x3 xl
      go_wp2_with fail
      go_ret
      refine ⟨de ?_,HB.out⟩
      rcases HD.out with ⟨rfl,h1,_⟩ | ⟨rfl,_,h1⟩
      ·rw [pI HG.out HZ.out HZT.out h1,HRI.out,HRN.out];rfl
      ·exact (pQ h1).symm
 ·have HB:=lh (mX hG)
  cases hi:wiB m.fountains 1 4 with
  | false =>
   clear hi
   go_wp2_with fail
   go_ret
   exact ⟨de HB.out.symm,Ly.out.1⟩
  | true =>
   have h2:¬ (nv≤4∧na≤12∧nt≤8):=by
    have:=of_decide_eq_true hi;rw [← HLV.out,← HLA.out,← HLT.out];exact fun h2=>hG ⟨this,h2⟩
   clear hi hG;by_cases q1:nv≤4
   ·have d1:(nv:Int)≤4:=by omega
    by_cases q2:na≤12
    ·have d2:(na:Int)≤12:=by omega
     have d3:¬ (nt:Int)≤8:=by omega
     clear h2
     go_wp2_with fail
     go_ret
     exact ⟨de HB.out.symm,Ly.out.1⟩
    ·have d2:¬ (na:Int)≤12:=by omega
     clear h2
     go_wp2_with fail
     go_ret
     exact ⟨de HB.out.symm,Ly.out.1⟩
   ·have d1:¬ (nv:Int)≤4:=by omega
    clear h2
    go_wp2_with fail
    go_ret
    exact ⟨de HB.out.symm,Ly.out.1⟩
end
section
open Go.RowKit
theorem oB {α:Type}{vals:α→List Value}{sz:Nat}(hk:∀ x,(vals x).length=sz):∀ (l:List α) (k:Nat),(l.take k).flatMap vals=(l.flatMap vals).take (k * sz)
 | [],k=>by simp
 | x::l,0=>by simp
 | x::l,k+1=>by
  rw [List.take_succ_cons,List.flatMap_cons,List.flatMap_cons,oB hk l k,List.take_append,hk,List.take_of_length_le (l:=vals x) (by rw [hk,Nat.succ_mul];exact Nat.le_add_left _ _),Nat.succ_mul,Nat.add_sub_cancel]
theorem Own.short {w:World}{base n cap size k:Nat}{e:TypeId}{A:Option Addr}{xs:List Value}(h:Own w base e size A n cap xs)(hk:k≤n)(hA:A≠none∨k=0∧n=0):Own w base e size A k cap (xs.take (k * size)):=by
 rcases h.form with ⟨rfl,rfl,rfl,rfl⟩ | ⟨g,cur,rfl,hb,hg,h1,h2,h3,h4,h5⟩
 ·obtain rfl:k=0:=by omega
  simpa using Own.none_ w base e size
 ·have hle:k * size≤n * size:=Nat.mul_le_mul_right _ hk
  refine ⟨by rw [List.length_take,h5,Nat.min_eq_left hle],.inr ⟨g,cap,cur,rfl,hb,hg,Nat.le_trans hk h1,h2,h3,?_⟩⟩;rw [← h4,List.take_take,Nat.min_eq_left hle]
theorem dt.fewer {W:World}{base:Nat}{A1 A2 A3:Option Addr}{nv c1 k c2 nt c3:Nat}{m:Mix}(h:dt W base A1 nv c1 A2 (k+1) c2 A3 nt c3 m)(hl:m.acts.length=k+1):dt W base A1 nv c1 A2 k c2 A3 nt c3 (gF m (m.acts.take (m.acts.length - 1))):=by
 refine ⟨h.v,?_,h.t,h.va,h.vt,h.at_⟩
 show Own W base _ 4 A2 k c2 ((m.acts.take (m.acts.length - 1)).flatMap MAct.vals)
 rw [hl,Nat.add_sub_cancel,oB jQ];refine h.a.short (Nat.le_succ k) (.inl fun e=>?_)
 rcases h.a.form with ⟨_,h0,_⟩ | ⟨g,cur,e2,_⟩
 ·omega
 ·rw [e] at e2;cases e2
end
section
open Go.RowKit
section
variable {w W W':World} {base:Nat} {A1 A2 A3:Option Addr} {nv c1 na c2 nt c3:Nat} {m:Mix}
theorem eG.below (h:eG W base A1 nv c1 A2 na c2 A3 nt c3 m)(hb:Below W.heap.size W W'):eG W' base A1 nv c1 A2 na c2 A3 nt c3 m:=⟨h.v.below hb n_R,h.a.below hb n_R,h.t.below hb n_R⟩
theorem eG.mono {b':Nat}(h:eG W base A1 nv c1 A2 na c2 A3 nt c3 m)(hb:b'≤base):eG W b' A1 nv c1 A2 na c2 A3 nt c3 m:=⟨h.v.mono hb,h.a.mono hb,h.t.mono hb⟩
theorem eG.off {g:Nat}(h:eG W base A1 nv c1 A2 na c2 A3 nt c3 m)(hg:W.grownBy W' (some g))(hlt:g<base):eG W' base A1 nv c1 A2 na c2 A3 nt c3 m:=⟨jw h.v hg hlt,jw h.a hg hlt,jw h.t hg hlt⟩
theorem eG.s (h:eG W base A1 nv c1 A2 na c2 A3 nt c3 m)(hv:nv≤1000)(ha:na≤1000)(ht:nt≤1000):MixS W A1 nv A2 na A3 nt m:=⟨⟨h.v.reads n_R,h.a.reads n_R,h.t.reads n_R⟩,hv,ha,ht⟩
theorem eG.acts {A9:Option Addr}{n9 c9 b9:Nat}{l:List MAct}(h:eG W base A1 nv c1 A2 na c2 A3 nt c3 m)(hb:Below W.heap.size W W')(ho:Own W' b9 62 4 A9 n9 c9 (l.flatMap MAct.vals))(h9:base≤b9):eG W' base A1 nv c1 A9 n9 c9 A3 nt c3 (gF m l):=⟨(h.below hb).v,ho.mono h9,(h.below hb).t⟩
theorem eG.tasts {A9:Option Addr}{n9 c9 b9:Nat}{l:List Tast}(h:eG W base A1 nv c1 A2 na c2 A3 nt c3 m)(hb:Below W.heap.size W W')(ho:Own W' b9 69 6 A9 n9 c9 (l.flatMap Tast.vals))(h9:base≤b9):eG W' base A1 nv c1 A2 na c2 A9 n9 c9 (fd m l):=⟨(h.below hb).v,(h.below hb).a,ho.mono h9⟩
theorem oJ {e t:TypeId}{size n cap size' n' cap':Nat}{A B:Option Addr}{xs ys:List Value}(h:Own W base e size A n cap xs)(h':Own W base t size' B n' cap' ys)(ht:e≠t):∀ a,A=some a→some a.block≠B.map (·.block):=by
 intro a ha e'
 rcases h.form with ⟨h0,_⟩ | ⟨g,cur,h1,_,hb,_⟩
 ·rw [h0] at ha;cases ha
 ·rcases h'.form with ⟨h0,_⟩ | ⟨g',cur',h1',_,hb',_⟩
  ·rw [h0] at e';cases e'
  ·rw [h1] at ha
   cases ha;rw [h1'] at e';exact jq hb hb' ht (Option.some.inj e')
theorem MixS.nothing (W:World):MixS W none 0 none 0 none 0 eh:=⟨⟨cA.none_,cA.none_,cA.none_⟩,by omega,by omega,by omega⟩
end
end
section
open Go.RowKit
theorem ph {nv na nt:Nat}(h:fg nv na nt=false):nv≤8∧na≤24∧nt≤16:=by
 unfold fg at h;simp at h;omega
def uX (w:World)(e:Ending)(w':World):Prop:=e = .returned (.bool true)∧Below w.heap.size w w'
end
section
open Go.RowKit Go.Shelf
attribute [local go_sem] Oper.semAt_some
theorem xI (d:Nat)(a b:Int)(w:World):(Op.equalIn (d+1) 3 (.int .i64 a) (.int .i64 b)).run Tryz.prog w = .ok (a==b) w:=by
 simp [Op.equalIn,run_underlying Tryz.underlying3]
theorem dC (a0 a1:Int)(w:World):(Op.equalIn 10000 54 (.agg #[.int .i64 a0,.int .i64 a1]) (.agg #[.int .i64 a0,.int .i64 a1])).run Tryz.prog w = .ok true w:=by
 rw [Op.equalIn];simp [go_sem,run_underlying Tryz.underlying54,xI,Std.Legacy.Range.forIn_eq_forIn_range',part]
theorem uy (w:World):CallsIn Fence.wide 9 Tryz.prog 22 #[] w (uX w):=by
 refine callsIn_of_wp Tryz.func22 rfl trivial ?_ rfl;simp only [Tryz.ntmps22,es,Nat.reduceSub];gi_upto_region 1 with fail
 have Ly:=lh (Lay.nil w);gi_wp2;refine ⟨trivial,(c_W (eH none 0 0 [] w (cA.none_ (w:=w) (B:=w.heap.size)) (by decide))).mono ?_⟩;rintro e W1 ⟨g1,g2,rfl,hg1,hg2,hms,hb⟩;replace Ly:=lyb Ly hb;clear hb;have HMS:=lh hms;clear hms hg1 hg2;gi_wp2;refine ⟨trivial,(c_W (pZ (some ⟨g1,0,none⟩) 3 3 (some ⟨g2,0,none⟩) 5 5 none 0 0 (dB []) 2 3 W1 HMS.out)).mono ?_⟩;rintro e W2 ⟨n,en,rfl,hma,hb⟩;replace Ly:=lyb Ly hb;clear hb;obtain ⟨rfl,rfl⟩:=ei.same hma al_holds;clear hma;clear HMS;gi_wp2;refine ⟨trivial,(c_W (eH none 0 0 [] W2 (cA.none_ (w:=W2) (B:=W2.heap.size)) (by decide))).mono ?_⟩;rintro e W3 ⟨g1,g2,rfl,hg1,hg2,hms,hb⟩;replace Ly:=lyb Ly hb;clear hb;have HMS:=lh hms;clear hms hg1 hg2;gi_wp2;refine ⟨trivial,(c_W (wC (some ⟨g1,0,none⟩) 3 3 (some ⟨g2,0,none⟩) 5 5 none 0 0 (dB []) 3 4 1 W3 HMS.out)).mono ?_⟩;rintro e W4 ⟨lo,hi,ea,rfl,hma,hb⟩;replace Ly:=lyb Ly hb;clear hb;obtain ⟨e1,rfl⟩:=OfIs.same hma al_of
 obtain ⟨rfl,rfl⟩:lo=0∧hi=2:=⟨congrArg Prod.fst e1,congrArg Prod.snd e1⟩
 clear hma e1;clear HMS;gi_upto_region 3 with fail
 obtain ⟨V5,hV⟩:∃ V,(W4.alloc (.cells #[.int .i64 0,.int .i64 2] 54))=V:=⟨_,rfl⟩
 rw [hV];have hb:=cZ hV;have hnew:=da hV;have hge:=Ly.out.bel.size;replace Ly:=lyb Ly hb;replace Ly:=lh (Ly.out.add hge hnew);clear hnew hge hb hV
 obtain ⟨G6,hG⟩:∃ g,W4.heap.size=g:=⟨_,rfl⟩
 rw [hG] at Ly ⊢;clear hG;gi_wp2;refine ⟨trivial,(c_W (eH none 0 0 [] V5 (cA.none_ (w:=V5) (B:=V5.heap.size)) (by decide))).mono ?_⟩;rintro e W7 ⟨g1,g2,rfl,hg1,hg2,hms,hb⟩;replace Ly:=lyb Ly hb;clear hb;have HMS:=lh hms;clear hms hg1 hg2;gi_wp2;refine ⟨trivial,(c_W (tA (some ⟨g1,0,none⟩) 3 3 (some ⟨g2,0,none⟩) 5 5 none 0 0 (dB []) 3 5 1 W7 HMS.out)).mono ?_⟩;rintro e W8 ⟨lo,hi,eb,rfl,hma,hb⟩;replace Ly:=lyb Ly hb;clear hb;obtain ⟨e1,rfl⟩:=OfIs.same hma ur
 obtain ⟨rfl,rfl⟩:lo=0∧hi=2:=⟨congrArg Prod.fst e1,congrArg Prod.snd e1⟩
 clear hma e1;rw [show i8 (decide ((0:Int)<0)) (decide ((0:Int)<2))=1 from by decide];clear HMS;gi_wp2;refine ⟨trivial,(c_W (eH none 0 0 [] W8 (cA.none_ (w:=W8) (B:=W8.heap.size)) (by decide))).mono ?_⟩;rintro e W9 ⟨g1,g2,rfl,hg1,hg2,hms,hb⟩;replace Ly:=lyb Ly hb;clear hb;have HMS:=lh hms;clear hms hg1 hg2;gi_wp2;refine ⟨trivial,(c_W ((qP (some ⟨g1,0,none⟩) 3 3 (some ⟨g2,0,none⟩) 5 5 none 0 0 (dB []) 1 5 1 W9 HMS.out).mono fun _ _ h=>nH h)).mono ?_⟩;rintro e W10 ⟨kp,ep,rfl,hma,hb⟩;replace Ly:=lyb Ly hb;clear hb;obtain ⟨rfl,rfl⟩:=jn.same hma xx;clear hma HMS;gi_wp2;refine ⟨trivial,(c_W (eH none 0 0 [] W10 (cA.none_ (w:=W10) (B:=W10.heap.size)) (by decide))).mono ?_⟩;rintro e W11 ⟨g1,g2,rfl,hg1,hg2,hms,hb⟩;replace Ly:=lyb Ly hb;clear hb;have HMS:=lh hms;clear hms hg1 hg2;gi_wp2;refine ⟨trivial,(c_W (ti (some ⟨g1,0,none⟩) 3 3 (some ⟨g2,0,none⟩) 5 5 none 0 0 (dB []) 5 1 W11 HMS.out)).mono ?_⟩;rintro e W12 ⟨lo,hi,ec,rfl,hma,hb⟩;replace Ly:=lyb Ly hb;clear hb;obtain ⟨e1,rfl⟩:=eM.same hma uC
 obtain ⟨rfl,rfl⟩:lo=0∧hi=1:=⟨congrArg Prod.fst e1,congrArg Prod.snd e1⟩
 clear hma e1;clear HMS;gi_upto_region 6 with fail
 obtain ⟨V13,hV⟩:∃ V,(W12.alloc (.cells #[.int .i64 0,.int .i64 1] 54))=V:=⟨_,rfl⟩
 rw [hV];have hb:=cZ hV;have hnew:=da hV;have hge:=Ly.out.bel.size;replace Ly:=lyb Ly hb;replace Ly:=lh (Ly.out.add hge hnew);clear hnew hge hb hV
 obtain ⟨G14,hG⟩:∃ g,W12.heap.size=g:=⟨_,rfl⟩
 rw [hG] at Ly ⊢;clear hG;gi_wp2;refine ⟨trivial,(c_W (eH none 0 0 [] V13 (cA.none_ (w:=V13) (B:=V13.heap.size)) (by decide))).mono ?_⟩;rintro e W15 ⟨g1,g2,rfl,hg1,hg2,hms,hb⟩;replace Ly:=lyb Ly hb;clear hb;have HMS:=lh hms;clear hms hg1 hg2;gi_wp2;refine ⟨trivial,(c_W (vK (some ⟨g1,0,none⟩) 3 3 (some ⟨g2,0,none⟩) 5 5 none 0 0 (dB []) 1 W15 HMS.out)).mono ?_⟩;rintro e W16 ⟨lo,hi,ed,rfl,hma,hb⟩;replace Ly:=lyb Ly hb;clear hb;obtain ⟨e1,rfl⟩:=fY.same hma wW
 obtain ⟨rfl,rfl⟩:lo=0∧hi=1:=⟨congrArg Prod.fst e1,congrArg Prod.snd e1⟩
 clear hma e1;clear HMS;gi_upto_region 7 with fail
 obtain ⟨V17,hV⟩:∃ V,(W16.alloc (.cells #[.int .i64 0,.int .i64 1] 54))=V:=⟨_,rfl⟩
 rw [hV];have hb:=cZ hV;have hnew:=da hV;have hge:=Ly.out.bel.size;replace Ly:=lyb Ly hb;replace Ly:=lh (Ly.out.add hge hnew);clear hnew hge hb hV
 obtain ⟨G18,hG⟩:∃ g,W16.heap.size=g:=⟨_,rfl⟩
 rw [hG] at Ly ⊢;clear hG;gi_wp2;refine ⟨trivial,(c_W (eH none 0 0 [] V17 (cA.none_ (w:=V17) (B:=V17.heap.size)) (by decide))).mono ?_⟩;rintro e W19 ⟨g1,g2,rfl,hg1,hg2,hms,hb⟩;replace Ly:=lyb Ly hb;clear hb;have HMS:=lh hms;clear hms hg1 hg2;gi_wp2;refine ⟨trivial,(c_W (rt (some ⟨g1,0,none⟩) 3 3 (some ⟨g2,0,none⟩) 5 5 none 0 0 (dB []) 3 5 1 2 W19 HMS.out ⟨by decide,by decide⟩)).mono ?_⟩;rintro e W20 ⟨mb,me,rfl,hma,hb⟩;replace Ly:=lyb Ly hb;clear hb;obtain ⟨rfl,rfl⟩:=kj.same hma yg;clear hma;clear HMS;gi_wp2;refine ⟨trivial,(c_W (eH none 0 0 [] W20 (cA.none_ (w:=W20) (B:=W20.heap.size)) (by decide))).mono ?_⟩;rintro e W21 ⟨g1,g2,rfl,hg1,hg2,hms,hb⟩;replace Ly:=lyb Ly hb;clear hb;have HMS:=lh hms;clear hms hg1 hg2;gi_wp2;refine ⟨trivial,(c_W (pv (some ⟨g1,0,none⟩) 3 3 (some ⟨g2,0,none⟩) 5 5 none 0 0 (dB []) 3 5 1 W21 HMS.out ⟨by decide,by decide⟩)).mono ?_⟩;rintro e W22 ⟨pl,pA,pn,pc,pe,rfl,hma,hpi,hp13,hb,hpx⟩;replace Ly:=lyb Ly hb;clear hb;obtain ⟨rfl,rfl⟩:=iQ.same hma xp;have HIP:=lh hpi;have HIP9:=lh hp13;clear hma hpi hp13 hpx;clear HMS;gi_wp2;refine ⟨trivial,(c_W (eH none 0 0 [] W22 (cA.none_ (w:=W22) (B:=W22.heap.size)) (by decide))).mono ?_⟩;rintro e W23 ⟨g1,g2,rfl,hg1,hg2,hms,hb⟩;replace Ly:=lyb Ly hb;replace HIP:=lh ((HIP.out.below hb).more hb.size);clear hb;have HMS:=lh hms;clear hms hg1 hg2;gi_wp2;refine ⟨trivial,(c_W (wD (some ⟨g1,0,none⟩) 3 3 (some ⟨g2,0,none⟩) 5 5 none 0 0 (dB []) 3 5 1 W23 HMS.out ⟨by decide,by decide⟩)).mono ?_⟩;rintro e W24 ⟨wl,wA,wn,wc,we,rfl,hma,hpi,hp13,hb,hpx⟩;replace Ly:=lyb Ly hb;replace HIP:=lh ((HIP.out.below hb).more hb.size);clear hb;obtain ⟨rfl,rfl⟩:=iG.same hma vL;have HIW:=lh hpi;have HIW9:=lh hp13;clear hma hpi hp13 hpx;clear HMS;gi_upto_region 10 with fail
 refine wpIn_flow_old [([true,true,true,true,true,true,true,true,true,true,true,true],12),([false,false,false,false,false,false,false,false,false,false,false,false,false,true,true,true,true,true,true,true,true,true,true,true,true,true,true,true,true,true,true,true,true,true,true,true,true],37),([false,false,false,false,false,false,false,false,false,false,false,false,false,false,false,false,false,false,false,false,false,false,false,false,false,false,false,false,false,false,false,false,false,false,false,false,false,false,true,true,true,true,true,true,true,true],46),([false,false,false,false,false,false,false,false,false,false,false,false,false,false,false,false,false,false,false,false,false,false,false,false,false,false,false,false,false,false,false,false,false,false,false,false,false,false,false,false,false,false,false,false,false,false,false,true,true,true,true,true,true,true,true,true,true,true,true,true,true,true,true],63),([],64),([false,false,false,false,false,false,false,false,false,false,false,false,false,false,false,false,false,false,false,false,false,false,false,false,false,false,false,false,false,false,false,false,false,false,false,false,false,false,false,false,false,false,false,false,false,false,false,false,false,false,false,false,false,false,false,false,false,false,false,false,false,false,false,false,false,true,true,true,true,true,true,true,true],73),([],74)] [false,false,false,false,false,false,false,false,false,false,false,false,false,false,false,false,false,false,false,false,false,false,false,false,false,false,false,false,false,false,false,false,false,false,false,false,false,false,false,false,false,false,false,false,false,false,false,false,false,false,false,false,false,false,false,false,false,false,false,false,false,false,false,false,false,false,false,false,false,false,false,false,false,false,false,true,true] [] (by kernel_rfl) (by kernel_rfl) (by kernel_rfl) (av b_R 1) ?_;refine wpFlow_cons (A:=?AF1) rfl ?hq1 ?_
 case hq1 =>
  rintro σ hσ of hof hcl;have HOF:=lh hof;clear hof hcl;obtain ⟨c0_,c1_⟩:=lyz2 Ly HOF 0 rfl;obtain ⟨c2_,c3_⟩:=lyz2 Ly HOF 1 rfl;obtain ⟨c4_,c5_⟩:=lyz2 Ly HOF 2 rfl;have hfw:=hfT;have hs02:∀ z:World,(Op.equalIn 10000 54 (.agg #[.int .i64 0,.int .i64 2]) (.agg #[.int .i64 0,.int .i64 2])).run Tryz.prog z = .ok true z:=fun z=>dC 0 2 z;have hs01:∀ z:World,(Op.equalIn 10000 54 (.agg #[.int .i64 0,.int .i64 1]) (.agg #[.int .i64 0,.int .i64 1])).run Tryz.prog z = .ok true z:=fun z=>dC 0 1 z;simp only [List.append_eq,List.cons_append,List.nil_append,bu]
  repeat (gi_big_quiet_step (fail))
  refine wpQuietIn_nil ?_;exact rfl
 intro W25 hW;replace Ly:=lyb Ly hW;replace HIP:=lh ((HIP.out.below hW).more hW.size);replace HIW:=lh ((HIW.out.below hW).more hW.size);clear hW;gi_wp2;refine ⟨trivial,(c_W (ke 0 2 W25)).mono ?_⟩;rintro e W26 ⟨rfl,hb⟩;replace Ly:=lyb Ly hb;replace HIP:=lh ((HIP.out.below hb).more hb.size);replace HIW:=lh ((HIW.out.below hb).more hb.size);gi_wp2;refine ⟨trivial,hb,?_⟩;clear hb;refine wpFlow_cons (A:=?AF2) rfl ?hq2 ?_
 case hq2 =>
  rintro σ hσ of hof hcl;have HOF:=lh hof;clear hof hcl;obtain ⟨c0_,c1_⟩:=lyz2 Ly HOF 0 rfl;obtain ⟨c2_,c3_⟩:=lyz2 Ly HOF 1 rfl;obtain ⟨c4_,c5_⟩:=lyz2 Ly HOF 2 rfl;have hfw:=hfT;have hs02:∀ z:World,(Op.equalIn 10000 54 (.agg #[.int .i64 0,.int .i64 2]) (.agg #[.int .i64 0,.int .i64 2])).run Tryz.prog z = .ok true z:=fun z=>dC 0 2 z;have hs01:∀ z:World,(Op.equalIn 10000 54 (.agg #[.int .i64 0,.int .i64 1]) (.agg #[.int .i64 0,.int .i64 1])).run Tryz.prog z = .ok true z:=fun z=>dC 0 1 z;simp only [List.append_eq,List.cons_append,List.nil_append,bu]
  repeat (gi_big_quiet_step (fail))
  refine wpQuietIn_nil ?_;exact rfl
 intro W27 hW;replace Ly:=lyb Ly hW;replace HIP:=lh ((HIP.out.below hW).more hW.size);replace HIW:=lh ((HIW.out.below hW).more hW.size);clear hW;gi_wp2;refine ⟨trivial,(c_W (ke 0 1 W27)).mono ?_⟩;rintro e W28 ⟨rfl,hb⟩;replace Ly:=lyb Ly hb;replace HIP:=lh ((HIP.out.below hb).more hb.size);replace HIW:=lh ((HIW.out.below hb).more hb.size);gi_wp2;refine ⟨trivial,hb,?_⟩;clear hb;refine wpFlow_cons (A:=?AF3) rfl ?hq3 ?_
 case hq3 =>
  rintro σ hσ of hof hcl;have HOF:=lh hof;clear hof hcl;obtain ⟨c0_,c1_⟩:=lyz2 Ly HOF 0 rfl;obtain ⟨c2_,c3_⟩:=lyz2 Ly HOF 1 rfl;obtain ⟨c4_,c5_⟩:=lyz2 Ly HOF 2 rfl;have hfw:=hfT;have hs02:∀ z:World,(Op.equalIn 10000 54 (.agg #[.int .i64 0,.int .i64 2]) (.agg #[.int .i64 0,.int .i64 2])).run Tryz.prog z = .ok true z:=fun z=>dC 0 2 z;have hs01:∀ z:World,(Op.equalIn 10000 54 (.agg #[.int .i64 0,.int .i64 1]) (.agg #[.int .i64 0,.int .i64 1])).run Tryz.prog z = .ok true z:=fun z=>dC 0 1 z;simp only [List.append_eq,List.cons_append,List.nil_append,bu]
  repeat (gi_big_quiet_step (fail))
  refine wpQuietIn_nil ?_;exact rfl
 intro W29 hW;replace Ly:=lyb Ly hW;replace HIP:=lh ((HIP.out.below hW).more hW.size);replace HIW:=lh ((HIW.out.below hW).more hW.size);clear hW;gi_wp2;refine ⟨trivial,(c_W (ke 0 1 W29)).mono ?_⟩;rintro e W30 ⟨rfl,hb⟩;replace Ly:=lyb Ly hb;replace HIP:=lh ((HIP.out.below hb).more hb.size);replace HIW:=lh ((HIW.out.below hb).more hb.size);gi_wp2;refine ⟨trivial,hb,?_⟩;clear hb;refine wpFlow_cons (A:=?AF4) rfl ?hq4 ?_
 case hq4 =>
  rintro σ hσ of hof hcl;have HOF:=lh hof;clear hof hcl;obtain ⟨c0_,c1_⟩:=lyz2 Ly HOF 0 rfl;obtain ⟨c2_,c3_⟩:=lyz2 Ly HOF 1 rfl;obtain ⟨c4_,c5_⟩:=lyz2 Ly HOF 2 rfl;have hfw:=hfT;have hs02:∀ z:World,(Op.equalIn 10000 54 (.agg #[.int .i64 0,.int .i64 2]) (.agg #[.int .i64 0,.int .i64 2])).run Tryz.prog z = .ok true z:=fun z=>dC 0 2 z;have hs01:∀ z:World,(Op.equalIn 10000 54 (.agg #[.int .i64 0,.int .i64 1]) (.agg #[.int .i64 0,.int .i64 1])).run Tryz.prog z = .ok true z:=fun z=>dC 0 1 z;simp only [List.append_eq,List.cons_append,List.nil_append,bu]
  repeat (gi_big_quiet_step (fail))
  refine wpQuietIn_nil ?_;exact rfl
 intro W31 hW;replace Ly:=lyb Ly hW;replace HIP:=lh ((HIP.out.below hW).more hW.size);replace HIW:=lh ((HIW.out.below hW).more hW.size);clear hW;gi_wp2;refine ⟨trivial,b_R.alloc n_R _,?_⟩;have hb:Below W31.heap.size W31 (W31.alloc (.cells #[.int .i64 1,.int .i64 3,.int .i64 4] 3)):=b_R.alloc n_R _;replace Ly:=lyb Ly hb;replace HIP:=lh ((HIP.out.below hb).more hb.size);replace HIW:=lh ((HIW.out.below hb).more hb.size);have HPl:=lh (show cr (W31.alloc (.cells #[.int .i64 1,.int .i64 3,.int .i64 4] 3)) (W31.alloc (.cells #[.int .i64 1,.int .i64 3,.int .i64 4] 3)).heap.size (some ⟨W31.heap.size,0,none⟩) 3 [1,3,4] from cr.new W31 3 [1,3,4] _ (by simp))
 obtain ⟨P33,hP⟩:∃ P,W31.heap.size=P:=⟨_,rfl⟩
 rw [hP] at HPl ⊢;generalize (W31.alloc (.cells #[.int .i64 1,.int .i64 3,.int .i64 4] 3))=V32 at *;clear hb hP;refine wpFlow_cons rfl Quietly.none ?_;intro W34 hW;replace Ly:=lyb Ly hW;replace HIP:=lh ((HIP.out.below hW).more hW.size);replace HIW:=lh ((HIW.out.below hW).more hW.size);replace HPl:=lh ((HPl.out.below hW).more hW.size);clear hW;gi_wp2;refine ⟨trivial,(callsIn_wide.2 (iL pA pn pc [1,3,4] (some ⟨P33,0,none⟩) 3 3 [1,3,4] W34 (by have:=HIP9.out;unfold maxLen;omega) (by decide) HIP.out HPl.out)).mono ?_⟩;rintro e W35 ⟨rfl,hb⟩;replace Ly:=lyb Ly hb;replace HIP:=lh ((HIP.out.below hb).more hb.size);replace HIW:=lh ((HIW.out.below hb).more hb.size);replace HPl:=lh ((HPl.out.below hb).more hb.size);rw [show jl [1,3,4] [1,3,4]=true from by decide];gi_wp2;refine ⟨trivial,hb,?_⟩;clear hb;clear HPl;refine wpFlow_cons (A:=?AF5) rfl ?hq5 ?_
 case hq5 =>
  rintro σ hσ of hof hcl;have HOF:=lh hof;clear hof hcl;obtain ⟨c0_,c1_⟩:=lyz2 Ly HOF 0 rfl;obtain ⟨c2_,c3_⟩:=lyz2 Ly HOF 1 rfl;obtain ⟨c4_,c5_⟩:=lyz2 Ly HOF 2 rfl;have hfw:=hfT;have hs02:∀ z:World,(Op.equalIn 10000 54 (.agg #[.int .i64 0,.int .i64 2]) (.agg #[.int .i64 0,.int .i64 2])).run Tryz.prog z = .ok true z:=fun z=>dC 0 2 z;have hs01:∀ z:World,(Op.equalIn 10000 54 (.agg #[.int .i64 0,.int .i64 1]) (.agg #[.int .i64 0,.int .i64 1])).run Tryz.prog z = .ok true z:=fun z=>dC 0 1 z;simp only [List.append_eq,List.cons_append,List.nil_append,bu]
  repeat (gi_big_quiet_step (fail))
  refine wpQuietIn_nil ?_;exact rfl
 intro W36 hW;replace Ly:=lyb Ly hW;replace HIP:=lh ((HIP.out.below hW).more hW.size);replace HIW:=lh ((HIW.out.below hW).more hW.size);clear hW;gi_wp2;refine ⟨trivial,b_R.alloc n_R _,?_⟩;have hb:Below W36.heap.size W36 (W36.alloc (.cells #[.int .i64 1] 3)):=b_R.alloc n_R _;replace Ly:=lyb Ly hb;replace HIP:=lh ((HIP.out.below hb).more hb.size);replace HIW:=lh ((HIW.out.below hb).more hb.size);have HPl:=lh (show cr (W36.alloc (.cells #[.int .i64 1] 3)) (W36.alloc (.cells #[.int .i64 1] 3)).heap.size (some ⟨W36.heap.size,0,none⟩) 1 [1] from cr.new W36 3 [1] _ (by simp))
 obtain ⟨P38,hP⟩:∃ P,W36.heap.size=P:=⟨_,rfl⟩
 rw [hP] at HPl ⊢;generalize (W36.alloc (.cells #[.int .i64 1] 3))=V37 at *;clear hb hP;refine wpFlow_cons rfl Quietly.none ?_;intro W39 hW;replace Ly:=lyb Ly hW;replace HIP:=lh ((HIP.out.below hW).more hW.size);replace HIW:=lh ((HIW.out.below hW).more hW.size);replace HPl:=lh ((HPl.out.below hW).more hW.size);clear hW;gi_wp2;refine ⟨trivial,(callsIn_wide.2 (iL wA wn wc [1] (some ⟨P38,0,none⟩) 1 1 [1] W39 (by have:=HIW9.out;unfold maxLen;omega) (by decide) HIW.out HPl.out)).mono ?_⟩;rintro e W40 ⟨rfl,hb⟩;replace Ly:=lyb Ly hb;replace HIP:=lh ((HIP.out.below hb).more hb.size);replace HIW:=lh ((HIW.out.below hb).more hb.size);replace HPl:=lh ((HPl.out.below hb).more hb.size);rw [show jl [1] [1]=true from by decide];gi_wp2;refine ⟨trivial,hb,?_⟩;clear hb;clear HPl;refine wpFlow_nil (A:=?AF6) ?hq6 ?_
 case hq6 =>
  rintro σ hσ of hof hcl;have HOF:=lh hof;clear hof hcl;obtain ⟨c0_,c1_⟩:=lyz2 Ly HOF 0 rfl;obtain ⟨c2_,c3_⟩:=lyz2 Ly HOF 1 rfl;obtain ⟨c4_,c5_⟩:=lyz2 Ly HOF 2 rfl;have hfw:=hfT;have hs02:∀ z:World,(Op.equalIn 10000 54 (.agg #[.int .i64 0,.int .i64 2]) (.agg #[.int .i64 0,.int .i64 2])).run Tryz.prog z = .ok true z:=fun z=>dC 0 2 z;have hs01:∀ z:World,(Op.equalIn 10000 54 (.agg #[.int .i64 0,.int .i64 1]) (.agg #[.int .i64 0,.int .i64 1])).run Tryz.prog z = .ok true z:=fun z=>dC 0 1 z;simp only [List.append_eq,List.cons_append,List.nil_append,bu]
  repeat (gi_big_quiet_step (fail))
  refine wpQuietIn_nil ?_;exact rfl
 intro W41 hW;replace Ly:=lyb Ly hW;replace HIP:=lh ((HIP.out.below hW).more hW.size);replace HIW:=lh ((HIW.out.below hW).more hW.size);clear hW;simp only [List.append_eq,List.cons_append,List.nil_append,bu];refine cu ?_;gi_wp2;refine ⟨trivial,(c_W (eH none 0 0 [] W41 (cA.none_ (w:=W41) (B:=W41.heap.size)) (by decide))).mono ?_⟩;rintro e W42 ⟨g1,g2,rfl,hg1,hg2,hms,hb⟩;replace Ly:=lyb Ly hb;replace HIP:=lh ((HIP.out.below hb).more hb.size);replace HIW:=lh ((HIW.out.below hb).more hb.size);clear hb;have HMS:=lh hms;clear hms hg1 hg2;gi_wp2;refine ⟨trivial,(c_W (xO (some ⟨g1,0,none⟩) 3 3 (some ⟨g2,0,none⟩) 5 5 none 0 0 (dB []) 3 1 1 1 W42 HMS.out)).mono ?_⟩;rintro e W43 ⟨k,ee,rfl,hma,hb⟩;replace Ly:=lyb Ly hb;replace HIP:=lh ((HIP.out.below hb).more hb.size);replace HIW:=lh ((HIW.out.below hb).more hb.size);clear hb;obtain ⟨rfl,rfl⟩:=lk.same hma xe;clear hma;clear HMS;gi_wp2;refine ⟨trivial,(c_W (nW 1 2 4 1 2 2 W43)).mono ?_⟩;rintro e W44 ⟨rfl,hb⟩;replace Ly:=lyb Ly hb;replace HIP:=lh ((HIP.out.below hb).more hb.size);replace HIW:=lh ((HIW.out.below hb).more hb.size);clear hb;gi_wp2;have hb:Below W44.heap.size W44 (W44.alloc (.cells #[.int .i64 1,.int .i64 2,.int .i64 4,.int .i64 1,.int .i64 2,.int .i64 2] 69)):=b_R.alloc n_R _;have HTS:=lh (eq W44 69 (k:=6) (n:=1) [.int .i64 1,.int .i64 2,.int .i64 4,.int .i64 1,.int .i64 2,.int .i64 2] rfl);change Hid (cA (W44.alloc (.cells #[.int .i64 1,.int .i64 2,.int .i64 4,.int .i64 1,.int .i64 2,.int .i64 2] 69)) (W44.alloc (.cells #[.int .i64 1,.int .i64 2,.int .i64 4,.int .i64 1,.int .i64 2,.int .i64 2] 69)).heap.size 6 (some ⟨W44.heap.size,0,none⟩) 1 ([alT1].flatMap Tast.vals)) at HTS
 obtain ⟨V0,hV⟩:∃ V,(W44.alloc (.cells #[.int .i64 1,.int .i64 2,.int .i64 4,.int .i64 1,.int .i64 2,.int .i64 2] 69))=V:=⟨_,rfl⟩
 rw [hV] at hb HTS ⊢
 obtain ⟨gt,hgt⟩:∃ g,W44.heap.size=g:=⟨_,rfl⟩
 rw [hgt] at HTS ⊢;replace Ly:=lyb Ly hb;replace HIP:=lh ((HIP.out.below hb).more hb.size);replace HIW:=lh ((HIW.out.below hb).more hb.size);clear hb hV hgt;refine ⟨trivial,(c_W (eH (some ⟨gt,0,none⟩) 1 1 [alT1] V0 HTS.out (by decide))).mono ?_⟩;rintro e W45 ⟨g1,g2,rfl,hg1,hg2,hms,hb⟩;replace Ly:=lyb Ly hb;replace HIP:=lh ((HIP.out.below hb).more hb.size);replace HIW:=lh ((HIW.out.below hb).more hb.size);clear hb;have HMS:=lh hms;clear hms hg1 hg2 HTS;gi_wp2;refine ⟨trivial,(c_W (nW 2 3 5 1 1 2 W45)).mono ?_⟩;rintro e W46 ⟨rfl,hb⟩;replace Ly:=lyb Ly hb;replace HIP:=lh ((HIP.out.below hb).more hb.size);replace HIW:=lh ((HIW.out.below hb).more hb.size);replace HMS:=lh (HMS.out.up hb);clear hb;gi_wp2;refine ⟨trivial,(c_W (yd (some ⟨g1,0,none⟩) 3 3 (some ⟨g2,0,none⟩) 5 5 (some ⟨gt,0,none⟩) 1 1 (dB [alT1]) alT2 W46 HMS.out)).mono ?_⟩;rintro e W47 ⟨A1,n1,c1,A2,n2,c2,A3,n3,c3,rfl,hmo,hn3,hb⟩;replace Ly:=lyb Ly hb;replace HIP:=lh ((HIP.out.below hb).more hb.size);replace HIW:=lh ((HIW.out.below hb).more hb.size);replace HMS:=lh (HMS.out.up hb);clear hb;rw [yj] at hmo ⊢;have HMO:=lh hmo;have HN3:=lh (n6 hmo (by kernel_rfl));clear hmo hn3;clear HMS;gi_upto_region 14 with fail
 obtain ⟨V48,hV⟩:∃ V,(W47.alloc (.cells #[.int .i64 (dB [alT1,alT2]).fountains,.slice A1 n1 c1,.slice A2 n2 c2,.slice A3 n3 c3] 26))=V:=⟨_,rfl⟩
 rw [hV];have hb:=cZ hV;have hnew:=da hV;have hge:=Ly.out.bel.size;replace Ly:=lyb Ly hb;replace HIP:=lh ((HIP.out.below hb).more hb.size);replace HIW:=lh ((HIW.out.below hb).more hb.size);replace HMO:=lh (HMO.out.below hb);replace Ly:=lh (Ly.out.add hge hnew);clear hnew hge hb hV
 obtain ⟨G49,hG⟩:∃ g,W47.heap.size=g:=⟨_,rfl⟩
 rw [hG] at Ly ⊢;clear hG;obtain ⟨x3_0,x3_1,x3_2,x3_3⟩:=lyc4 Ly 3 rfl;have l3_:=Ly.out.lt 3 rfl;gi_wp2;clear x3_0 x3_1 x3_2 x3_3 l3_;refine ⟨trivial,(c_W (sX A1 n1 c1 A2 n2 c2 A3 n3 c3 (dB [alT1,alT2]) V48 (HMO.out.s HN3.out.1 HN3.out.2.1 HN3.out.2.2.1))).mono ?_⟩;rintro e W50 ⟨rl,rA,rn,rc,re,rfl,hma,hpi,hp3,hb,hpx⟩;replace Ly:=lyb Ly hb;replace HIP:=lh ((HIP.out.below hb).more hb.size);replace HIW:=lh ((HIW.out.below hb).more hb.size);replace HMO:=lh (HMO.out.below hb);clear hb;obtain ⟨rfl,rfl⟩:=iI.same hma wK;have HIR:=lh hpi;have HIR9:=lh hp3;clear hma hpi hp3 hpx;gi_wp2;have hb1:Below W50.heap.size W50 (W50.alloc (.cells #[.int .i64 1] 3)):=b_R.alloc n_R _;have HP1:=cr.new W50 3 [1] (W50.alloc (.cells #[.int .i64 1] 3)).heap.size (by simp);refine ⟨trivial,(callsIn_wide.2 (iL rA rn rc [1] (some ⟨W50.heap.size,0,none⟩) 1 1 [1] _ (by have:=HIR9.out;unfold maxLen;omega) (by decide) ((HIR.out.below hb1).more hb1.size) HP1)).mono ?_⟩;rintro e W99 ⟨rfl,hb⟩;have hb9:=Ly.out.1.trans ((hb1.trans (hb.mono hb1.size)).mono Ly.out.1.size);clear hb hb1 HP1;rw [show jl [1] [1]=true from by decide];gi_wp2;refine bodyPost_ret (v:=.bool true) (by simp [results,Tryz.results22,go_sem]) rfl ?_;exact ⟨rfl,hb9⟩
end
section
theorem qm {m:Mix}(h:cG m=true):(∀ v∈m.vessels,ip v=true)∧(∀ x∈m.tastes,dI m x=true)∧risB 0 (m.vessels.map (·.id))=true∧risB 0 (m.tastes.map (·.num))=true:=by
 unfold cG at h;simp only [Bool.and_eq_true,decide_eq_true_eq] at h;obtain ⟨⟨⟨⟨⟨⟨h1,h2⟩,h5⟩,h6⟩,h7⟩,h8⟩,h9⟩:=h;exact ⟨List.all_eq_true.1 h5,List.all_eq_true.1 h6,h8,h9⟩
section
variable {m x:Mix} {v t f g n:Int} {T:Tast} {s s' c d:Int × Int} {e h i j k:Int}
theorem ki (hok:cG m=true)(hv:0≤idxV m.vessels v)(ht:0≤t∧t≤m.acts.length)(h:ei m v t n e):e=0∧∃ A a,allM m m.acts=some A∧A[t.toNat]? =some a∧n=au a (idxV m.vessels v):=by
 have h0:askM m v t []=0:=by unfold askM;rw [if_pos hok,if_neg (by omega),if_pos ⟨ht,by simp⟩]
 rcases h with ⟨h1,_⟩ | ⟨_,h1⟩
 ·exact absurd h0 h1
 ·exact h1
end
end
section
open Go.RowKit
def kP (nv na nt:Nat)(m:Mix):Bool:=!fg nv na nt && cG m
theorem pN {nv na nt:Nat}{m:Mix}(h:kP nv na nt m=true):fg nv na nt=false∧cG m=true:=by unfold kP at h;simpa using h
theorem uI (Av:Option Addr)(nv cv:Nat)(Aa:Option Addr)(na ca:Nat)(At:Option Addr)(nt ct:Nat)(m:Mix)(w:World)(h:dG w w.heap.size Av nv Aa na At nt m) :
  CallsIn Fence.wide 9 Tryz.prog 23 #[.agg #[.int .i64 m.fountains,.slice Av nv cv,.slice Aa na ca,.slice At nt ct]] w (fun e w'=>e = .returned (.bool (kP nv na nt m))∧Below w.heap.size w w'):=by
 have HM:=lh h;clear h;refine callsIn_of_wp Tryz.func23 rfl trivial ?_ rfl;simp only [Tryz.ntmps23,es,Nat.reduceAdd,Nat.reduceSub];gi_upto_region 1 with fail
 have Ly:=lh (Lay.one w 26 #[.int .i64 m.fountains,.slice Av nv cv,.slice Aa na ca,.slice At nt ct]);generalize (w.alloc (.cells #[.int .i64 m.fountains,.slice Av nv cv,.slice Aa na ca,.slice At nt ct] 26))=w0 at *;obtain ⟨x0_0,x0_1,x0_2,x0_3⟩:=lyc4 Ly 0 rfl;have l0_:=Ly.out.lt 0 rfl;gi_wp2;clear x0_0 x0_1 x0_2 x0_3 l0_;refine ⟨trivial,(callsIn_wide.2 (td m.fountains Av nv cv Aa na ca At nt ct w0)).mono ?_⟩;rintro e W1 ⟨rfl,hb⟩;replace Ly:=lyb Ly hb;clear hb
 cases hg:fg nv na nt with
 | true =>
  gi_wp2;refine ⟨trivial,?_⟩;gi_wp2;refine bodyPost_ret (v:=.bool false) (by simp [results,Tryz.results23,go_sem]) rfl ?_;exact ⟨by unfold kP;rw [hg];rfl,Ly.out.1⟩
 | false =>
  have hsm:=ph hg
  have hsx:MixS w Av nv Aa na At nt m:=⟨HM.out,by omega,by omega,by omega⟩
  have HS:=lh hsx;have HG:=lh hg;clear hsm hsx hg;obtain ⟨x0_0,x0_1,x0_2,x0_3⟩:=lyc4 Ly 0 rfl;have l0_:=Ly.out.lt 0 rfl;gi_wp2;clear x0_0 x0_1 x0_2 x0_3 l0_;refine ⟨trivial,(callsIn_wide.2 (vN Av nv cv Aa na ca At nt ct m W1 (HS.out.up Ly.out.1))).mono ?_⟩;rintro e W2 ⟨rfl,hb⟩;replace Ly:=lyb Ly hb;clear hb;gi_wp2;refine bodyPost_ret (v:=.bool (cG m)) (by simp [results,Tryz.results23,go_sem]) rfl ?_;exact ⟨by unfold kP;rw [HG.out];rfl,Ly.out.1⟩
end
section
set_option linter.unusedSectionVars false
abbrev ey:=List (List Int)
def hpAt (H:ey)(i:Int):List Int:=(H[i.toNat]?).getD []
def kc (H:ey)(fr to:Int)(left drops:List Int):ey :=
 let H1:=if 0≤fr then H.set fr.toNat left else H
 if 0≤to then H1.set to.toNat (hpAt H1 to++drops) else H1
def oH (m:Mix)(x:MAct)(H:ey)(drops:List Int)(H':ey):Prop :=
 ∃ left,(x.kind=1→drops=List.replicate x.drops.toNat x.fr)∧(x.kind≠1→(drops++left).Perm (hpAt H (cm m x)))∧(x.kind=4→left=[])∧(x.kind≠4→drops.length=x.drops.toNat)∧H'=kc H (cm m x) (toI m x) left drops
structure Went (m:Mix)(n:Nat)(H:Nat→ey)(Dr:Nat→List Int):Prop where
 zero:H 0=[[],[],[],[]]
 step:∀ {t:Nat} {x:MAct},t<n→m.acts[t]? =some x→oH m x (H t) (Dr t) (H (t+1))
section
variable {m:Mix} {A:List Held} {f:Int} {H:Nat→ey} {Dr:Nat→List Int} {n:Nat}
theorem wi (H:ey)(fr to:Int)(l d:List Int):(kc H fr to l d).length=H.length:=by
 unfold kc;dsimp only
 split<;>split<;>simp
theorem i6 {H:ey}{i j:Int}{l:List Int}(hi:0≤i)(hj:0≤j)(hl:i<H.length):hpAt (H.set i.toNat l) j=if j=i then l else hpAt H j:=by
 unfold hpAt;rw [List.getElem?_set];by_cases e:j=i
 ·subst e
  rw [if_pos rfl,if_pos rfl,if_pos (by omega)];rfl
 ·rw [if_neg (by omega),if_neg e]
theorem oZ {H:ey}{fr to:Int}{l d:List Int}(hH:H.length=4)(hf:fr<4)(ht:to<4)(hne:fr≠to∨fr<0){i:Nat}(hi:i<4) :
  hpAt (kc H fr to l d) i=if (i:Int)=fr then l else if (i:Int)=to then hpAt H i++d else hpAt H i:=by
 unfold kc;dsimp only;by_cases h1:0≤fr
 ·rw [if_pos h1]
  have hne':to≠fr:=by omega
  by_cases h2:0≤to
  ·rw [if_pos h2,i6 h2 (by omega) (by rw [List.length_set];omega),i6 h1 h2 (by omega),i6 h1 (by omega) (by omega),if_neg hne']
   by_cases p:(i:Int)=to
   ·rw [if_pos p,if_neg (by omega),if_pos p,p]
   ·rw [if_neg p]
    by_cases q:(i:Int)=fr
    ·rw [if_pos q,if_pos q]
    ·rw [if_neg q,if_neg q,if_neg p]
  ·rw [if_neg h2,i6 h1 (by omega) (by omega)]
   by_cases q:(i:Int)=fr
   ·rw [if_pos q,if_pos q]
   ·rw [if_neg q,if_neg q,if_neg (by omega)]
 ·rw [if_neg h1]
  by_cases h2:0≤to
  ·rw [if_pos h2,i6 h2 (by omega) (by omega)]
   by_cases p:(i:Int)=to
   ·rw [if_pos p,if_neg (by omega),if_pos p,p]
   ·rw [if_neg p,if_neg (by omega),if_neg p]
  ·rw [if_neg h2,if_neg (by omega),if_neg (by omega)]
theorem gm {all:Held}{x:MAct}(h:ky m all x):cm m x≠toI m x∨cm m x<0:=by
 unfold cm toI;by_cases e1:x.kind=1
 ·right;rw [if_pos e1];decide
 ·by_cases e2:x.kind=2
  ·left
   have:=h.apart e2;simp only [e2];simpa using this
  ·left
   have:=h.from_ e1;rw [if_neg e1,if_neg (by omega)];omega
theorem Went.len (h:Went m n H Dr)(hn:n≤m.acts.length):∀ {t:Nat},t≤n→(H t).length=4
 | 0,_=>by rw [h.zero];rfl
 | t+1,ht=>by
  have hx:m.acts[t]? =some (m.acts[t]'(by omega)):=List.getElem?_eq_getElem (by omega);obtain ⟨left,_,_,_,_,e⟩:=h.step (by omega) hx;rw [e,wi];exact h.len hn (by omega)
theorem Went.holds (hA:allM m m.acts=some A)(hv:m.vessels.length≤4)(h:Went m n H Dr)(hn:n≤m.acts.length):∀ {t:Nat} {a:Held} {i:Nat},t≤n→A[t]? =some a→i<4→((hpAt (H t) i).length:Int)=au a i
 | 0,a,i,_,ha,hi=>by
  rw [gV hA] at ha;cases ha;rw [h.zero]
  match i,hi with
  | 0,_=>rfl
  | 1,_=>rfl
  | 2,_=>rfl
  | 3,_=>rfl
 | t+1,a',i,ht,ha,hi=>by
  have hl:=dJ m m.acts A hA;have hx:m.acts[t]? =some (m.acts[t]'(by omega)):=List.getElem?_eq_getElem (by omega);have h0:A[t]? =some (A[t]'(by omega)):=List.getElem?_eq_getElem (by omega);obtain ⟨hok,hnext⟩:=fy hA hv hx h0;rw [ha] at hnext;have e:=Option.some.inj hnext;rw [e,fz hv _ (im hA hv h0) _ hi];have hih:=fun (j:Nat) (hj:j<4)=>h.holds hA hv hn (i:=j) (Nat.le_of_succ_le ht) h0 hj;obtain ⟨left,k1,k2,k3,k4,k5⟩:=h.step (by omega) hx;rw [k5,oZ (h.len hn (by omega)) (db hv _) (eB hv _) (gm hok) hi];generalize m.acts[t]'(by omega)=x at *;have hsz:=hok.size;by_cases e1:x.kind=1
  ·have hd:=k1 e1
   have hf:cm m x = -1:=by unfold cm;rw [if_pos e1]
   have hs:cH m (A[t]'(by omega)) x=x.drops:=by unfold cH;rw [if_neg (by omega)]
   have h1:=hsz.1 e1;rw [hf,hs,if_neg (by omega)];have h2:=hih i hi;have h3:(Dr t).length=x.drops.toNat:=by rw [hd];simp
   by_cases p:(i:Int)=toI m x
   ·rw [if_pos p,if_pos p.symm,if_neg (by omega),List.length_append]
    omega
   ·rw [if_neg p,if_neg (fun q=>p q.symm),if_neg (by omega)]
    omega
  ·have hp:=(k2 e1).length_eq
   rw [List.length_append] at hp;have hf0:0≤cm m x:=by unfold cm;rw [if_neg e1];exact hok.from_ e1
   have hf4:=db hv x;have hfi:cm m x=((cm m x).toNat:Int):=by omega
   have h4:=hih (cm m x).toNat (by omega);rw [← hfi] at h4;have h2:=hih i hi
   have hsd:((Dr t).length:Int)=cH m (A[t]'(by omega)) x:=by
    unfold cH;by_cases e4:x.kind=4
    ·rw [if_pos e4,← h4]
     rw [k3 e4] at hp;simp at hp;omega
    ·rw [if_neg e4,k4 e4]
     have:=hsz.2 (by have:=hok.kind;omega);omega
   have hap:=gm hok;by_cases q:(i:Int)=cm m x
   ·rw [if_pos q,if_neg (by omega),if_pos q.symm]
    rw [← q] at h4 hp;omega
   ·rw [if_neg q]
    by_cases p:(i:Int)=toI m x
    ·rw [if_pos p,if_pos p.symm,if_neg (fun r=>q r.symm),List.length_append]
     omega
    ·rw [if_neg p,if_neg (fun r=>p r.symm),if_neg (fun r=>q r.symm)]
     omega
def cntH (f:Int)(H:ey):Held:=H.map fun l=>(l.count f:Int)
theorem pf (f:Int)(H:ey)(i:Int):au (cntH f H) i=((hpAt H i).count f:Int):=by
 unfold au cntH hpAt;rw [List.getElem?_map];cases H[i.toNat]?<;>rfl
theorem tT (f g:Int)(k:Nat):(List.replicate k g).count f=if g=f then k else 0:=by
 rw [List.count_replicate];by_cases e:g=f<;>simp [e]
theorem Went.run (hA:allM m m.acts=some A)(hv:m.vessels.length≤4)(h:Went m m.acts.length H Dr)(ht:∀ {t:Nat},t≤m.acts.length→dE m f t (cntH f (H t))=true) :
  Run m f A (fun t=>cntH f (H t)) (fun t=>((Dr t).count f:Int)):=by
 refine ⟨by show cntH f (H 0)=dg;rw [h.zero];rfl,?_,ht⟩;intro t x all hx ha;have htl:=(g_E hx).1;obtain ⟨hok,hnext⟩:=fy hA hv hx ha;obtain ⟨left,k1,k2,k3,k4,k5⟩:=h.step htl hx;have hl4:=h.len n_R (Nat.le_of_lt htl);have hl5:(cntH f (H t)).length=4:=by unfold cntH;rw [List.length_map];exact hl4
 have hap:=gm hok
 have hs3:cntH f (H (t+1))=cC (cntH f (H t)) (cm m x) (toI m x) ((Dr t).count f:Int):=by
  refine vc (by unfold cntH;rw [List.length_map];exact h.len n_R htl) (by rw [nR];exact hl5) fun i hi=>?_;rw [fz hv x hl5 _ hi,pf,pf,k5,oZ hl4 (db hv _) (eB hv _) hap hi];by_cases e1:x.kind=1
  ·have hf:cm m x = -1:=by unfold cm;rw [if_pos e1]
   rw [hf,if_neg (by omega),if_neg (show ¬ ((-1:Int)=(i:Int)) by omega)];by_cases p:(i:Int)=toI m x
   ·rw [if_pos p,if_pos p.symm,List.count_append];omega
   ·rw [if_neg p,if_neg (fun q=>p q.symm)];omega
  ·have hp:=(k2 e1).count_eq f
   rw [List.count_append] at hp;by_cases q:(i:Int)=cm m x
   ·rw [if_pos q,if_neg (by omega),if_pos q.symm]
    rw [← q] at hp;omega
   ·rw [if_neg q]
    by_cases p:(i:Int)=toI m x
    ·rw [if_pos p,if_pos p.symm,if_neg (fun r=>q r.symm),List.count_append];omega
    ·rw [if_neg p,if_neg (fun r=>p r.symm),if_neg (fun r=>q r.symm)];omega
 have hbd:(di m x f all (cntH f (H t))).1≤((Dr t).count f:Int)∧((Dr t).count f:Int)≤(di m x f all (cntH f (H t))).2:=by
  have hcl:(Dr t).count f≤(Dr t).length:=List.count_le_length;unfold di;by_cases e1:x.kind=1
  ·have hf:cm m x = -1:=by unfold cm;rw [if_pos e1]
   have hs:cH m all x=x.drops:=by unfold cH;rw [if_neg (by omega)]
   have h1:=hok.size.1 e1;rw [hf,if_neg (by omega),hs,k1 e1,tT];by_cases e:x.fr=f
   ·rw [if_pos e,if_pos e];dsimp only;omega
   ·rw [if_neg e,if_neg e];dsimp only;omega
  ·have hf0:0≤cm m x:=by unfold cm;rw [if_neg e1];exact hok.from_ e1
   have hf4:=db hv x;have hfi:cm m x=((cm m x).toNat:Int):=by omega
   have hp:=(k2 e1).count_eq f;rw [List.count_append] at hp;have hp':=(k2 e1).length_eq;rw [List.length_append] at hp';have h4:=h.holds hA hv n_R (Nat.le_of_lt htl) ha (i:=(cm m x).toNat) (by omega);rw [← hfi] at h4;have hcl2:left.count f≤left.length:=List.count_le_length
   have hsd:((Dr t).length:Int)=cH m all x:=by
    unfold cH;by_cases e4:x.kind=4
    ·rw [if_pos e4,← h4]
     rw [k3 e4] at hp';simp at hp';omega
    ·rw [if_neg e4,k4 e4]
     have:=hok.size.2 (by have:=hok.kind;omega);omega
   rw [if_pos hf0,pf];dsimp only;omega
 exact ⟨hbd.1,hbd.2,hs3⟩
end
end
section
set_option linter.unusedSectionVars false
theorem w7 {m:Mix}(h:cG m=true){i:Nat}{v:Vess}(hi:m.vessels[i]? =some v):idxV m.vessels v.id=(i:Int):=by
 have hp:=(fC (qm h).2.2.1).1
 have h0:0≤idxV m.vessels v.id:=by
  unfold idxV;rw [if_pos (List.any_eq_true.2 ⟨v,List.mem_of_getElem? hi,by simp⟩)];omega
 obtain ⟨u,h1,h2⟩:=mQ h0;obtain ⟨l1,l2⟩:=g_E h1;obtain ⟨l3,l4⟩:=g_E hi;have e1:(m.vessels.map (·.id))[(idxV m.vessels v.id).toNat]'(by simpa using l1)=u.id:=by simp [l2]
 have e2:(m.vessels.map (·.id))[i]'(by simpa using l3)=v.id:=by simp [l4]
 rw [List.pairwise_iff_getElem] at hp;rcases Nat.lt_trichotomy (idxV m.vessels v.id).toNat i with h | h | h
 ·have:=hp _ _ (by simpa using l1) (by simpa using l3) h
  rw [e1,e2] at this;omega
 ·omega
 ·have:=hp _ _ (by simpa using l3) (by simpa using l1) h
  rw [e1,e2] at this;omega
section
variable {m:Mix} {A:List Held} {f:Int}
end
section
variable {m:Mix} {A:List Held} {f:Int}
end
end
section
set_option linter.unusedSectionVars false
section
variable {m:Mix} {A:List Held} {f:Int}
end
section
variable {m:Mix} {A:List Held} {f:Int}
end
section
variable {m:Mix} {v t f e g:Int} {l path:List Int} {s:Int × Int}
theorem kF {P:List Held→List Int→Prop}{A:List Held}(hok:cG m=true)(hA:allM m m.acts=some A)(hv:0≤idxV m.vessels v)(ht:0≤t∧t≤m.acts.length)(hf:1≤f∧f≤m.fountains)(h:fS m v t f P l e) :
  ((∀ k,¬ dV m A f t.toNat (idxV m.vessels v) k)∧l=[]∧e=6)∨((∃ k,dV m A f t.toNat (idxV m.vessels v) k)∧e=0∧dO (P A) l):=by
 have h0:askM m v t [f]=0:=by unfold askM;rw [if_pos hok,if_neg (by omega),if_pos ⟨ht,by simpa using hf⟩]
 rcases h with ⟨h1,_⟩ | ⟨_,A',hA',h⟩
 ·exact absurd h0 h1
 ·rw [hA] at hA'
  cases hA';exact h
end
end
section
section
variable {m:Mix} {A:List Held} {f f0 f1:Int} {H:Nat→ey} {Dr:Nat→List Int}
def fX (f:Int)(H:ey)(c:Int):Prop:=c = -1∨((0≤c∧c<4)∧f∈hpAt H c)
theorem nG {H H':ey}{fr to:Int}{l d:List Int}(hH:H.length=4)(hf:fr<4)(ht:to<4)(hne:fr≠to∨fr<0)(e:H'=kc H fr to l d){c:Int}(h:fX f H' c) :
  (c = -1∧fX f H (-1))∨(0≤c∧c<4∧((c=fr∧f∈l)∨(c≠fr∧c=to∧f∈d)∨(c≠fr∧f∈hpAt H c))):=by
 rcases h with rfl | ⟨⟨h0,h4⟩,h⟩
 ·exact .inl ⟨rfl,.inl rfl⟩
 ·right
  obtain ⟨i,rfl⟩:∃ i:Nat,c=(i:Int):=⟨c.toNat,by omega⟩
  rw [e,oZ hH hf ht hne (by omega)] at h;refine ⟨h0,h4,?_⟩;by_cases q:(i:Int)=fr
  ·rw [if_pos q] at h;exact .inl ⟨q,h⟩
  ·rw [if_neg q] at h
   by_cases p:(i:Int)=to
   ·rw [if_pos p] at h
    rcases List.mem_append.1 h with h | h
    ·exact .inr (.inr ⟨q,h⟩)
    ·exact .inr (.inl ⟨q,p,h⟩)
   ·rw [if_neg p] at h;exact .inr (.inr ⟨q,h⟩)
theorem uF {a b:Int}{l:List Int}(hne:a≠b)(h1:a∈l)(h2:b∈l):2≤l.length:=by
 match l,h1,h2 with
 | [x],h1,h2=>simp at h1 h2;omega
 | x::y::l,_,_=>simp
theorem pB {a:Int}{l:List Int}(h1:a∈l):1≤l.length:=List.length_pos_of_mem h1
theorem qj (hA:allM m m.acts=some A)(hv:m.vessels.length≤4)(hw:Went m m.acts.length H Dr)(hne:f0≠f1) :
  ∀ {t:Nat} {c0 c1:Int},t≤m.acts.length→fX f0 (H t) c0→fX f1 (H t) c1→NowP m A f0 f1 t (c0,c1)
 | 0,c0,c1,_,h0,h1=>by
  have key:∀ {f c:Int},fX f (H 0) c→c = -1:=by
   intro f c h
   rcases h with h | ⟨⟨q0,q4⟩,h⟩
   ·exact h
   ·rw [hw.zero] at h
    obtain ⟨i,rfl⟩:∃ i:Nat,c=(i:Int):=⟨c.toNat,by omega⟩
    have:hpAt [[],[],[],[]] (i:Int)=[]:=by
     match i,(show i<4 by omega) with
     | 0,_=>rfl
     | 1,_=>rfl
     | 2,_=>rfl
     | 3,_=>rfl
    rw [this] at h;cases h
  show (c0,c1)=(-1,-1)
  rw [key h0,key h1]
 | t+1,c0,c1,ht,h0,h1=>by
  have hl:=dJ m m.acts A hA;have hx:m.acts[t]? =some (m.acts[t]'(by omega)):=List.getElem?_eq_getElem (by omega);have ha:A[t]? =some (A[t]'(by omega)):=List.getElem?_eq_getElem (by omega);obtain ⟨hok,_⟩:=fy hA hv hx ha;obtain ⟨left,k1,k2,k3,k4,k5⟩:=hw.step (by omega) hx;have hl4:=hw.len n_R (Nat.le_of_succ_le ht);have hap:=gm hok;have hf4:=db hv (m.acts[t]'(by omega));have ht4:=eB hv (m.acts[t]'(by omega));have hih:=fun {c0 c1:Int} (q0:fX f0 (H t) c0) (q1:fX f1 (H t) c1)=>qj hA hv hw hne (t:=t) (Nat.le_of_succ_le ht) q0 q1;have hhold:=fun (i:Nat) (hi:i<4)=>hw.holds hA hv n_R (Nat.le_of_succ_le ht) ha (i:=i) hi;generalize m.acts[t]'(by omega)=x at *;generalize A[t]'(by omega)=all at *;by_cases e1:x.kind=1
  ·have hfr:=k7 (m:=m) e1
   have hto:=xo hok e1;have hd:=k1 e1
   have key:∀ {f c:Int},fX f (H (t+1)) c→∃ c',fX f (H t) c'∧∃ g,fK (-1) x.fr f c' g∧c=dm (-1) (toI m x) c' g:=by
    intro f c h
    rcases nG hl4 hf4 ht4 hap k5 h with ⟨rfl,q⟩ | ⟨q0,q4,q⟩
    ·exact ⟨-1,q,false,fun h=>by simp at h,rfl⟩
    ·rcases q with ⟨q,_⟩ | ⟨_,q,hm⟩ | ⟨_,hm⟩
     ·rw [hfr] at q;omega
     ·rw [hd,List.mem_replicate] at hm
      exact ⟨-1,.inl rfl,true,fun _=>by rw [if_pos (by decide)];exact ⟨rfl,hm.2.symm⟩,by unfold dm;rw [if_pos rfl,if_pos (by decide)];exact q⟩
     ·exact ⟨c,.inr ⟨⟨q0,q4⟩,hm⟩,false,fun h=>by simp at h,rfl⟩
   obtain ⟨p0,s0,g0,r0,rfl⟩:=key h0;obtain ⟨p1,s1,g1,r1,rfl⟩:=key h1;refine ⟨(p0,p1),x,all,hih s0 s1,hx,ha,?_⟩;rw [hfr];exact ⟨g0,g1,r0,r1,rfl,fun h=>by omega⟩
  ·have hf0:=gD hok e1
   have hp:=k2 e1;have hpl:=hp.length_eq;rw [List.length_append] at hpl;have hfi:cm m x=((cm m x).toNat:Int):=by omega
   have hhf:=hhold (cm m x).toNat (by omega);rw [← hfi] at hhf
   have hsd:((Dr t).length:Int)=cH m all x:=by
    unfold cH;by_cases e4:x.kind=4
    ·rw [if_pos e4,← hhf]
     rw [k3 e4] at hpl;simp at hpl;omega
    ·rw [if_neg e4,k4 e4]
     have:=hok.size.2 (by have:=hok.kind;omega);omega
   have key:∀ {f c:Int},fX f (H (t+1)) c→∃ c',fX f (H t) c'∧∃ g,fK (cm m x) x.fr f c' g∧c=dm (cm m x) (toI m x) c' g∧(g=true→f∈Dr t)∧(g=false→c'=cm m x→f∈left):=by
    intro f c h
    rcases nG hl4 hf4 ht4 hap k5 h with ⟨rfl,q⟩ | ⟨q0,q4,q⟩
    ·exact ⟨-1,q,false,fun h=>by simp at h,rfl,fun h=>by simp at h,fun _ h=>by omega⟩
    ·rcases q with ⟨q,hm⟩ | ⟨_,q,hm⟩ | ⟨q,hm⟩
     ·refine ⟨c,.inr ⟨⟨q0,q4⟩,?_⟩,false,fun h=>by simp at h,rfl,fun h=>by simp at h,fun _ _=>hm⟩
      rw [q];exact hp.mem_iff.1 (List.mem_append.2 (.inr hm))
     ·refine ⟨cm m x,.inr ⟨⟨hf0,hf4⟩,hp.mem_iff.1 (List.mem_append.2 (.inl hm))⟩,true,fun _=>by rw [if_neg (by omega)],?_,fun _=>hm,fun h=>by simp at h⟩
      unfold dm;rw [if_pos rfl,if_neg (by omega),if_neg (by omega)];exact q
     ·exact ⟨c,.inr ⟨⟨q0,q4⟩,hm⟩,false,fun h=>by simp at h,rfl,fun h=>by simp at h,fun _ h=>absurd h q⟩
   obtain ⟨p0,s0,g0,r0,rfl,u0,v0⟩:=key h0;obtain ⟨p1,s1,g1,r1,rfl,u1,v1⟩:=key h1;refine ⟨(p0,p1),x,all,hih s0 s1,hx,ha,g0,g1,r0,r1,rfl,fun _=>?_⟩;dsimp only;rw [← hsd,← hhf];constructor
   ·cases g0<;>cases g1
    ·simp [b1]
    ·have:=pB (u1 rfl);simp [b1];omega
    ·have:=pB (u0 rfl);simp [b1];omega
    ·have:=uF hne (u0 rfl) (u1 rfl);simp [b1];omega
   ·have h2:(left.length:Int)=(hpAt (H t) (cm m x)).length - (Dr t).length:=by omega
    rw [← h2];by_cases z0:g0=false∧p0=cm m x<;>by_cases z1:g1=false∧p1=cm m x
    ·have:=uF hne (v0 z0.1 z0.2) (v1 z1.1 z1.2);simp [b1,z0.1,z0.2,z1.1,z1.2];omega
    ·have:=pB (v0 z0.1 z0.2)
     have e:(!g1 && decide (p1=cm m x))=false:=by
      cases g1
      ·simp at z1 ⊢;exact z1
      ·rfl
     simp [b1,z0.1,z0.2,e];omega
    ·have:=pB (v1 z1.1 z1.2)
     have e:(!g0 && decide (p0=cm m x))=false:=by
      cases g0
      ·simp at z0 ⊢;exact z0
      ·rfl
     simp [b1,z1.1,z1.2,e];omega
    ·have e:(!g1 && decide (p1=cm m x))=false:=by
      cases g1
      ·simp at z1 ⊢;exact z1
      ·rfl
     have e':(!g0 && decide (p0=cm m x))=false:=by
      cases g0
      ·simp at z0 ⊢;exact z0
      ·rfl
     simp [b1,e,e']
theorem sL (hA:allM m m.acts=some A)(hv:m.vessels.length≤4):∀ {t:Nat} {c:Int × Int},NowP m A f0 f1 t c→(0≤c.1→∃ l,dV m A f0 t c.1 l)∧(0≤c.2→∃ l,dV m A f1 t c.2 l)
 | 0,c,h=>by
  have h':c=(-1,-1):=h;subst h';exact ⟨fun h=>by simp at h,fun h=>by simp at h⟩
 | t+1,d,h=>by
  obtain ⟨c,x,all,hc,hx,ha,g0,g1,r0,r1,rfl,hn⟩:=h;obtain ⟨i0,i1⟩:=sL hA hv hc;obtain ⟨hok,_⟩:=fy hA hv hx ha
  have key:∀ (f c:Int) (g:Bool),(0≤c→∃ l,dV m A f t c l)→fK (cm m x) x.fr f c g→(0≤cm m x→g=false→c=cm m x→cH m all x≠au all c)→0≤dm (cm m x) (toI m x) c g→∃ l,dV m A f (t+1) (dm (cm m x) (toI m x) c g) l:=by
   intro f c g hi hr hs hd
   cases g with
   | false =>
    have e:dm (cm m x) (toI m x) c false=c:=rfl;rw [e] at hd ⊢;obtain ⟨l,hl⟩:=hi hd;refine ⟨l,.stay hl hx ha ?_⟩;by_cases q:cm m x=c
    ·exact .inr (hs (by omega) rfl q.symm)
    ·exact .inl q
   | true =>
    have hr':=hr rfl;unfold dm at hd ⊢;rw [if_pos rfl] at hd ⊢;by_cases q:cm m x<0
    ·rw [if_pos q] at hr' hd ⊢
     have hk:x.kind=1:=Classical.byContradiction fun e=>by have:=gD hok e;omega
     have e:toI m x=idxV m.vessels x.to:=by unfold toI;rw [if_pos (.inl hk)]
     rw [e];exact ⟨_,.enter hx hk hr'.2⟩
    ·rw [if_neg q] at hr' hd ⊢
     by_cases q2:toI m x<0
     ·rw [if_pos q2] at hd;omega
     ·rw [if_neg q2] at hd ⊢
      have hk1:x.kind≠1:=fun e=>by rw [k7 e] at q;omega
      have hk2:x.kind=2:=by
       refine Classical.byContradiction fun e=>?_;unfold toI at q2;rw [if_neg (by omega)] at q2;omega
      have e:toI m x=idxV m.vessels x.to:=by unfold toI;rw [if_pos (.inr hk2)]
      rw [e];obtain ⟨l,hl⟩:=hi (by omega);exact ⟨_,.pour hl hx hk2 (by rw [hr'];unfold cm;rw [if_neg hk1])⟩
  dsimp only at r0 r1 hn ⊢;constructor
  ·refine key f0 c.1 g0 i0 r0 (fun q1 q2 q3=>?_)
   have:=(hn q1).2;have p0:0≤b1 (!g1 && decide (c.2=cm m x)):=by unfold b1;split<;>omega
   rw [q2,q3] at this;simp [b1] at this p0;rw [q3];omega
  ·refine key f1 c.2 g1 i1 r1 (fun q1 q2 q3=>?_)
   have:=(hn q1).2;have p0:0≤b1 (!g0 && decide (c.1=cm m x)):=by unfold b1;split<;>omega
   rw [q2,q3] at this;simp [b1] at this p0;rw [q3];omega
theorem kr (hA:allM m m.acts=some A)(hv:m.vessels.length≤4){t:Nat}{a:Held}(ha:A[t]? =some a)(j:Int):0≤au a j:=by
 have key:∀ {t:Nat} {a:Held} {i:Nat},A[t]? =some a→i<4→0≤au a i:=by
  intro t
  induction t with
  | zero =>
   intro a i ha hi;rw [gV hA] at ha;cases ha
   match i,hi with
   | 0,_=>decide
   | 1,_=>decide
   | 2,_=>decide
   | 3,_=>decide
  | succ t ih =>
   intro a i ha hi;have hl:=dJ m m.acts A hA;have hlt:=(g_E ha).1;have hx:m.acts[t]? =some (m.acts[t]'(by omega)):=List.getElem?_eq_getElem (by omega);have h0:A[t]? =some (A[t]'(by omega)):=List.getElem?_eq_getElem (by omega);obtain ⟨hok,hnext⟩:=fy hA hv hx h0;rw [ha] at hnext;have e:=Option.some.inj hnext;have hf4:=db hv (m.acts[t]'(by omega));rw [e,fz hv _ (im hA hv h0) _ hi];have h1:=ih (i:=i) h0 hi;generalize m.acts[t]'(by omega)=x at *;generalize A[t]'(by omega)=all at *;have hs:=hok.size;have hk:=hok.kind;by_cases e1:x.kind=1
   ·have:=hs.1 e1
    have hz:cH m all x=x.drops:=by unfold cH;rw [if_neg (by omega)]
    rw [k7 e1,hz,if_neg (show ¬ ((-1:Int)=(i:Int)) by omega)]
    split<;>omega
   ·have hf0:=gD hok e1
    have h2:=ih (i:=(cm m x).toNat) h0 (by omega);rw [show (((cm m x).toNat:Nat):Int)=cm m x by omega] at h2
    have hle:0≤cH m all x∧cH m all x≤au all (cm m x):=by
     unfold cH;by_cases e4:x.kind=4
     ·rw [if_pos e4];omega
     ·rw [if_neg e4]
      have:=hs.2 (by omega);unfold cm;rw [if_neg e1];omega
    by_cases z:cm m x=(i:Int)
    ·rw [if_pos z]
     rw [z] at hle
     split<;>omega
    ·rw [if_neg z]
     split<;>omega
 by_cases h4:j<4
 ·rw [mJ]
  exact key ha (by omega)
 ·have hal:=im hA hv ha
  unfold au;rw [List.getElem?_eq_none (by omega)]
  decide
theorem sA (hA:allM m m.acts=some A)(hv:m.vessels.length≤4)(hne:f0≠f1):∀ {t:Nat} {c:Int × Int},NowP m A f0 f1 t c→c.1<4∧c.2<4∧∀ a,A[t]? =some a→(0≤c.1→1≤au a c.1)∧(0≤c.2→1≤au a c.2)∧(0≤c.1→c.1=c.2→2≤au a c.1)
 | 0,c,h=>by
  have h':c=(-1,-1):=h;subst h';exact ⟨by decide,by decide,fun a ha=>⟨fun h=>by simp at h,fun h=>by simp at h,fun h=>by simp at h⟩⟩
 | t+1,d,h=>by
  obtain ⟨c,x,all,hc,hx,ha,g0,g1,r0,r1,rfl,hn⟩:=h;obtain ⟨l0,l1,hi⟩:=sA hA hv hne hc;obtain ⟨j0,j1,j2⟩:=hi all ha;obtain ⟨hok,hnext⟩:=fy hA hv hx ha;have hf4:=db hv x;have ht4:=eB hv x;have hap:=gm hok;have hal:=im hA hv ha
  have hfix:∀ c:Int,0≤c→c<4→au (cC all (cm m x) (toI m x) (cH m all x)) c=au all c+((if toI m x=c then cH m all x else 0) - (if cm m x=c then cH m all x else 0)):=by
   intro c h0 h4;have:=fz hv x hal (cH m all x) (i:=c.toNat) (by omega);rw [show ((c.toNat:Nat):Int)=c by omega] at this;exact this
  have hpos:toI m x≥0→cm m x<0→1≤cH m all x:=by
   intro _ q;have hk:x.kind=1:=Classical.byContradiction fun e=>by have:=gD hok e;omega
   unfold cH;rw [if_neg (by omega)];exact hok.size.1 hk
  have hsz0:0≤cH m all x:=by
   unfold cH;by_cases e4:x.kind=4
   ·rw [if_pos e4]
    have hb:=gD hok (by omega);by_cases q:0≤au all (cm m x)
    ·exact q
    ·exact absurd (kr hA hv ha (cm m x)) (by omega)
   ·rw [if_neg e4]
    have:=hok.size;have:=hok.kind;omega
  have hdl:∀ (c:Int) (g:Bool),c<4→dm (cm m x) (toI m x) c g<4:=by
   intro c g h;unfold dm
   split
   ·split
    ·exact ht4
    ·split<;>omega
   ·exact h
  refine ⟨hdl _ _ l0,hdl _ _ l1,fun a' ha'=>?_⟩;rw [hnext] at ha';have e:=Option.some.inj ha';rw [← e];dsimp only at r0 r1 hn ⊢;by_cases q:cm m x<0
  ·have hcase:∀ (f c:Int) (g:Bool),fK (cm m x) x.fr f c g→(g=true→x.fr=f)∧dm (cm m x) (toI m x) c g=if g then toI m x else c:=by
    intro f c g hr;constructor
    ·intro hg
     have:=hr hg;rw [if_pos q] at this;exact this.2
    ·unfold dm
     rw [if_pos q]
   obtain ⟨w0,e0⟩:=hcase f0 c.1 g0 r0;obtain ⟨w1,e1⟩:=hcase f1 c.2 g1 r1;rw [e0,e1]
   have hone:∀ c:Int,c<4→(0≤c→1≤au all c)→∀ g:Bool,0≤(if g then toI m x else c)→1≤au (cC all (cm m x) (toI m x) (cH m all x)) (if g then toI m x else c):=by
    intro c h4 hc g h0;cases g
    ·simp only [Bool.false_eq_true,if_false] at h0 ⊢
     rw [hfix c h0 h4,if_neg (show ¬ cm m x=c by omega)];have:=hc h0
     split<;>omega
    ·simp only [if_true] at h0 ⊢
     rw [hfix _ h0 ht4,if_pos rfl,if_neg (by omega)];have:=kr hA hv ha (toI m x);have:=hpos h0 q;omega
   refine ⟨hone c.1 l0 j0 g0,hone c.2 l1 j1 g1,fun h0 h1=>?_⟩;cases g0<;>cases g1
   ·simp only [Bool.false_eq_true,if_false] at h0 h1 ⊢
    rw [hfix c.1 h0 l0,if_neg (show ¬ cm m x=c.1 by omega)];have:=j2 h0 h1
    split<;>omega
   ·simp only [Bool.false_eq_true,if_false,if_true] at h0 h1 ⊢
    rw [hfix c.1 h0 l0,if_neg (show ¬ cm m x=c.1 by omega),if_pos h1.symm];have:=j0 h0;have:=hpos (by omega) q;omega
   ·simp only [Bool.false_eq_true,if_false,if_true] at h0 h1 ⊢
    rw [hfix _ h0 ht4,if_pos rfl,if_neg (show ¬ cm m x=toI m x by omega)];have:=j1 (by omega);rw [h1];have:=hpos (by omega) q;omega
   ·exact absurd ((w0 rfl).symm.trans (w1 rfl)) hne
  ·have q0:0≤cm m x:=by omega
   obtain ⟨n1,n2⟩:=hn q0
   have hcase:∀ (f c:Int) (g:Bool),fK (cm m x) x.fr f c g→0≤dm (cm m x) (toI m x) c g→(g=true∧c=cm m x∧0≤toI m x∧dm (cm m x) (toI m x) c g=toI m x)∨(g=false∧dm (cm m x) (toI m x) c g=c):=by
    intro f c g hr h0;cases g
    ·exact .inr ⟨rfl,rfl⟩
    ·have:=hr rfl
     rw [if_neg q] at this;unfold dm at h0 ⊢;rw [if_pos rfl,if_neg q] at h0 ⊢;by_cases p:toI m x<0
     ·rw [if_pos p] at h0;omega
     ·rw [if_neg p];exact .inl ⟨rfl,this,by omega,rfl⟩
   have p0:0≤b1 (!g0 && decide (c.1=cm m x)):=by unfold b1;split<;>omega
   have p1:0≤b1 (!g1 && decide (c.2=cm m x)):=by unfold b1;split<;>omega
   have o0:0≤b1 g0:=by unfold b1;split<;>omega
   have o1:0≤b1 g1:=by unfold b1;split<;>omega
   have st0:g0=false→c.1=cm m x→b1 (!g0 && decide (c.1=cm m x))=1:=by intro a b;rw [a,b];simp [b1]
   have st1:g1=false→c.2=cm m x→b1 (!g1 && decide (c.2=cm m x))=1:=by intro a b;rw [a,b];simp [b1]
   have mv0:g0=true→b1 g0=1:=by intro a;rw [a];rfl
   have mv1:g1=true→b1 g1=1:=by intro a;rw [a];rfl
   have hone:∀ (f c:Int) (g:Bool),fK (cm m x) x.fr f c g→c<4→(0≤c→1≤au all c)→(g=true→1≤cH m all x)→(g=false→c=cm m x→1≤au all (cm m x) - cH m all x)→0≤dm (cm m x) (toI m x) c g→1≤au (cC all (cm m x) (toI m x) (cH m all x)) (dm (cm m x) (toI m x) c g):=by
    intro f c g hr h4 hc hm hs h0
    rcases hcase f c g hr h0 with ⟨e1,e2,e3,e4⟩ | ⟨e1,e2⟩
    ·rw [e4,hfix _ e3 ht4,if_pos rfl,if_neg (by omega)]
     have:=kr hA hv ha (toI m x);have:=hm e1;omega
    ·rw [e2] at h0 ⊢
     rw [hfix c h0 h4];have:=hc h0;by_cases z:cm m x=c
     ·rw [if_pos z,if_neg (by omega)]
      have:=hs e1 z.symm;rw [z] at this;omega
     ·rw [if_neg z]
      split<;>omega
   refine ⟨hone f0 c.1 g0 r0 l0 j0 (fun e=>by have:=mv0 e;omega) (fun e e'=>by have:=st0 e e';omega),hone f1 c.2 g1 r1 l1 j1 (fun e=>by have:=mv1 e;omega) (fun e e'=>by have:=st1 e e';omega),fun h0 h1=>?_⟩
   rcases hcase f0 c.1 g0 r0 h0 with ⟨e1,e2,e3,e4⟩ | ⟨e1,e2⟩<;>rcases hcase f1 c.2 g1 r1 (by omega) with ⟨d1,d2,d3,d4⟩ | ⟨d1,d2⟩
   ·rw [e4,hfix _ e3 ht4,if_pos rfl,if_neg (by omega)]
    have:=kr hA hv ha (toI m x);have:=mv0 e1;have:=mv1 d1;omega
   ·rw [e4,d2] at h1
    rw [e4,hfix _ e3 ht4,if_pos rfl,if_neg (by omega)];have:=j1 (by omega);have:=mv0 e1;rw [h1];omega
   ·rw [e2,d4] at h1
    rw [e2,h1,hfix _ d3 ht4,if_pos rfl,if_neg (by omega)];rw [h1] at j0;have:=j0 d3;have:=mv1 d1;omega
   ·rw [e2] at h0 ⊢
    rw [e2,d2] at h1;rw [hfix _ h0 l0];have:=j2 h0 h1;by_cases z:cm m x=c.1
    ·have a:=st0 e1 z.symm
     have b:=st1 d1 (by omega);rw [a,b] at n2;rw [if_pos z,if_neg (show ¬ toI m x=c.1 by omega),← z];omega
    ·rw [if_neg z]
     split<;>omega
end
end
section
set_option linter.unusedSectionVars false
section
variable {m:Mix} {A:List Held} {f g v t e h k n j:Int} {met back:Bool}
theorem lW {f0 f1:Int}:∀ {t:Nat} {c:Int × Int},NowP m A f0 f1 t c→NowP m A f1 f0 t (c.2,c.1)
 | 0,c,h=>by have h':c=(-1,-1):=h;subst h';rfl
 | t+1,d,h=>by
  obtain ⟨c,x,all,h1,hx,ha,g0,g1,r0,r1,rfl,hn⟩:=h;exact ⟨(c.2,c.1),x,all,lW h1,hx,ha,g1,g0,r1,r0,rfl,fun q=>by have:=hn q;dsimp only;omega⟩
theorem xv (hok:cG m=true)(hA:allM m m.acts=some A)(hv:0≤idxV m.vessels v)(ht:0≤t∧t≤m.acts.length)(hf:1≤f∧f≤m.fountains)(hg:1≤g∧g≤m.fountains)(hne:f≠g)
  (h1:kj m v t f g met e) (h2:kj m v t g f back h) :
  e=0∧h=0∧met=back∧(∀ {H:Nat→ey} {Dr:Nat→List Int},Went m m.acts.length H Dr→met=false→¬ (0<(hpAt (H t.toNat) (idxV m.vessels v)).count f∧0<(hpAt (H t.toNat) (idxV m.vessels v)).count g)) ∧
   (met=true→(∀ l i,iQ m v t f l i→i=0)∧(∀ l i,iQ m v t g l i→i=0)∧∀ n j,ei m v t n j→2≤n)∧(∀ n j,ei m v t n j→j=0):=by
 have hv4:=(cM hok).1;have a1:askM m v t [f,g]=0:=by unfold askM;rw [if_pos hok,if_neg (by omega),if_pos ⟨ht,by simp;omega⟩]
 have a2:askM m v t [g,f]=0:=by unfold askM;rw [if_pos hok,if_neg (by omega),if_pos ⟨ht,by simp;omega⟩]
 have k1:metM m v t f g=0:=by unfold metM;rw [if_pos a1,if_neg hne]
 have k2:metM m v t g f=0:=by unfold metM;rw [if_pos a2,if_neg (fun q=>hne q.symm)]
 rcases h1 with ⟨c,_⟩ | ⟨_,he,A1,hA1,b1⟩
 ·exact absurd k1 c
 rcases h2 with ⟨c,_⟩ | ⟨_,hh,A2,hA2,b2⟩
 ·exact absurd k2 c
 rw [hA] at hA1 hA2;cases hA1;cases hA2;have hi4:=d6 (id:=v) hv4;refine ⟨he,hh,?_,fun {H} {Dr} hw hm hc=>?_,fun hm=>?_,fun n j hh=>(ki hok hv ht hh).1⟩
 ·have:met=true↔back=true:=by
   rw [b1,b2];exact ⟨fun q=>lW q,fun q=>lW q⟩
  cases met<;>cases back<;>simp_all
 ·have:=qj hA hv4 hw hne (t:=t.toNat) (c0:=idxV m.vessels v) (c1:=idxV m.vessels v) (by omega) (.inr ⟨⟨hv,hi4⟩,List.count_pos_iff.1 hc.1⟩) (.inr ⟨⟨hv,hi4⟩,List.count_pos_iff.1 hc.2⟩)
  rw [b1.2 this] at hm;cases hm
 ·have hN:=b1.1 hm
  obtain ⟨w1,w2⟩:=sL hA hv4 hN;have w3:=(sA hA hv4 hne hN).2.2;refine ⟨fun l i hp=>?_,fun l i hp=>?_,fun n j hh=>?_⟩
  ·rcases kF hok hA hv ht hf hp with ⟨d1,_⟩ | ⟨_,d2,_⟩
   ·obtain ⟨q,hq⟩:=w1 hv;exact absurd hq (d1 q)
   ·exact d2
  ·rcases kF hok hA hv ht hg hp with ⟨d1,_⟩ | ⟨_,d2,_⟩
   ·obtain ⟨q,hq⟩:=w2 hv;exact absurd hq (d1 q)
   ·exact d2
  ·obtain ⟨_,A1,a,hA1,ha,rfl⟩:=ki hok hv ht hh
   rw [hA] at hA1;cases hA1;exact (w3 a ha).2.2 hv rfl
end
section
variable {m:Mix} {A:List Held} {f v t e h k n j p:Int} {H:Nat→ey} {Dr:Nat→List Int}
end
section
variable {m:Mix} {l o:List Int} {e:Int}
end
end
section
open Go.ChangeShapes Go.WideShapes Go.RowKit Go.Deep Go.Joins
set_option maxRecDepth 100000
theorem ft {α:Type}{vals:α→List Value}{sz:Nat}(hk:∀ x,(vals x).length=sz):∀ l:List α,(l.flatMap vals).length=l.length * sz
 | []=>by simp
 | x::l=>by rw [List.flatMap_cons,List.length_append,hk,ft hk l,List.length_cons,Nat.succ_mul];omega
theorem kx {α:Type}{vals:α→List Value}{sz:Nat}(hk:∀ x,(vals x).length=sz):∀ {l:List α} {i j:Nat} {x:α},l[i]? =some x→j<sz→(l.flatMap vals)[i * sz+j]? =(vals x)[j]?
 | [],i,j,x,h,_=>by simp at h
 | y::l,0,j,x,h,hj=>by
  have:y=x:=by simpa using h
  subst this;rw [List.flatMap_cons,Nat.zero_mul,Nat.zero_add,List.getElem?_append_left (by rw [hk];exact hj)]
 | y::l,i+1,j,x,h,hj=>by
  rw [List.flatMap_cons,List.getElem?_append_right (by rw [hk,Nat.succ_mul];omega),hk,show (i+1) * sz+j - sz=i * sz+j by rw [Nat.succ_mul];omega];exact kx hk (by simpa using h) hj
section
variable {H:Type} {enc:TypeId × Value→H} {w:World}
theorem dQ:Tryz.prog.cellsOf 3=1:=by kernel_rfl
theorem tv:Tryz.prog.cellsOf 26=4:=by kernel_rfl
theorem xG:∃ f0 f1,Tryz.prog.underlying 50=some (.struct #[f0,f1])∧f0.type=3∧f1.type=3∧f0.offset=0∧f1.offset=1 :=
 ⟨_,_,Tryz.underlying50,rfl,rfl,rfl,rfl⟩
theorem tP:Tryz.prog.cellsOf 50=2:=by kernel_rfl
theorem sm {fuel:Nat}{cs:List Value}{x:DataW H × List MemPlace}(h:DataW.trod enc Tryz.prog w 0 (fun _=>true) true fuel 50 cs=some x)(hl:cs.length=2):∃ l:Vess,cs=l.vals:=by
 obtain ⟨f0,f1,hu,t0,t1,z0,z1⟩:=xG;obtain ⟨xs,n,_,_,_,hlen,hg⟩:=DataW.trod_struct hu h
 match cs,hl,xs,hlen with
 | [c0,c1],_,[y0,y1],_ =>
  have h0:DataW.trod enc Tryz.prog w 0 (fun _=>true) true n 3 [c0]=some y0:=by simpa [t0,z0,dQ] using hg 0 f0 rfl
  have h1:DataW.trod enc Tryz.prog w 0 (fun _=>true) true n 3 [c1]=some y1:=by simpa [t1,z1,dQ] using hg 1 f1 rfl
  obtain ⟨n0,e0,_,_⟩:=DataW.trod_int Tryz.underlying3 h0;obtain ⟨n1,e1,_,_⟩:=DataW.trod_int Tryz.underlying3 h1;simp only [List.cons.injEq,and_true] at e0 e1;subst e0 e1;exact ⟨⟨n0,n1⟩,rfl⟩
theorem rK {v:Value}{fuel:Nat}{x:DataW H × List MemPlace}(h:DataW.trod enc Tryz.prog w 0 (fun _=>true) true fuel 22 [v]=some x) :
  ∃ A n c,∃ l:List Vess,v = .slice A n c∧n≤c∧n≤maxLen∧c≤maxLen∧cA w w.heap.size 2 A n (l.flatMap Vess.vals):=by
 rcases open_slice Tryz.underlying22 h with ⟨e,_⟩ | ⟨a,len,cap,m,k,D,Pl,e,_,hl,hm,hmm,_,hx⟩
 ·simp only [List.cons.injEq,and_true] at e
  exact ⟨none,0,0,[],e,n_R,Nat.zero_le _,Nat.zero_le _,cA.none_⟩
 ·simp only [List.cons.injEq,and_true] at e
  have hmc:m=cap:=by simpa using hmm
  subst hmc
  have hn:∀ i,i<m→∃ z:Vess,∀ j,j<2→w.cell? (a.add (i * 2+j))=z.vals[j]? :=fun i hi=>by
   obtain ⟨cs',h1,h2⟩:=hx i hi;rw [tP] at h1;obtain ⟨_,hcl,hat⟩:=World.cells?_some h1;obtain ⟨z,rfl⟩:=sm h2 hcl;exact ⟨z,fun j hj=>by rw [← Go.Deep.add_add,hat j hj]⟩
  letI:Inhabited Vess:=⟨⟨0,0⟩⟩
  obtain ⟨Z,hZ⟩:=choose_lt hn;refine ⟨some a,len,m,(List.range len).map Z,e,hl,by omega,hm,by rw [ft iD];simp,fun h0=>⟨a,rfl,?_,fun j u hu=>?_⟩⟩
  ·have:=World.block_lt_of_cell? w _ (hZ 0 (by omega) 0 (by omega))
   rwa [dN] at this
  ·have hj:j<len * 2:=by
    rcases Nat.lt_or_ge j (len * 2) with h' | h'
    ·exact h'
    ·rw [List.getElem?_eq_none (by rw [ft iD];simpa using h')] at hu;cases hu
   have hz:=hZ (j / 2) (by omega) (j % 2) (by omega);have ha:((List.range len).map Z)[j / 2]? =some (Z (j / 2)):=by rw [List.getElem?_map,List.getElem?_range (by omega)];rfl
   have hf:=kx iD ha (show j % 2<2 by omega);rw [show j / 2 * 2+j % 2=j by omega] at hf hz;rw [hz,← hf,hu]
theorem xz:∃ f0 f1 f2 f3,Tryz.prog.underlying 62=some (.struct #[f0,f1,f2,f3])∧f0.type=3∧f1.type=3∧f2.type=3∧f3.type=3∧f0.offset=0∧f1.offset=1∧f2.offset=2∧f3.offset=3 :=
 ⟨_,_,_,_,Tryz.underlying62,rfl,rfl,rfl,rfl,rfl,rfl,rfl,rfl⟩
theorem tS:Tryz.prog.cellsOf 62=4:=by kernel_rfl
theorem rq {fuel:Nat}{cs:List Value}{x:DataW H × List MemPlace}(h:DataW.trod enc Tryz.prog w 0 (fun _=>true) true fuel 62 cs=some x)(hl:cs.length=4):∃ l:MAct,cs=l.vals:=by
 obtain ⟨f0,f1,f2,f3,hu,t0,t1,t2,t3,z0,z1,z2,z3⟩:=xz;obtain ⟨xs,n,_,_,_,hlen,hg⟩:=DataW.trod_struct hu h
 match cs,hl,xs,hlen with
 | [c0,c1,c2,c3],_,[y0,y1,y2,y3],_ =>
  have h0:DataW.trod enc Tryz.prog w 0 (fun _=>true) true n 3 [c0]=some y0:=by simpa [t0,z0,dQ] using hg 0 f0 rfl
  have h1:DataW.trod enc Tryz.prog w 0 (fun _=>true) true n 3 [c1]=some y1:=by simpa [t1,z1,dQ] using hg 1 f1 rfl
  have h2:DataW.trod enc Tryz.prog w 0 (fun _=>true) true n 3 [c2]=some y2:=by simpa [t2,z2,dQ] using hg 2 f2 rfl
  have h3:DataW.trod enc Tryz.prog w 0 (fun _=>true) true n 3 [c3]=some y3:=by simpa [t3,z3,dQ] using hg 3 f3 rfl
  obtain ⟨n0,e0,_,_⟩:=DataW.trod_int Tryz.underlying3 h0;obtain ⟨n1,e1,_,_⟩:=DataW.trod_int Tryz.underlying3 h1;obtain ⟨n2,e2,_,_⟩:=DataW.trod_int Tryz.underlying3 h2;obtain ⟨n3,e3,_,_⟩:=DataW.trod_int Tryz.underlying3 h3;simp only [List.cons.injEq,and_true] at e0 e1 e2 e3;subst e0 e1 e2 e3;exact ⟨⟨n0,n1,n2,n3⟩,rfl⟩
theorem rQ {v:Value}{fuel:Nat}{x:DataW H × List MemPlace}(h:DataW.trod enc Tryz.prog w 0 (fun _=>true) true fuel 23 [v]=some x) :
  ∃ A n c,∃ l:List MAct,v = .slice A n c∧n≤c∧n≤maxLen∧c≤maxLen∧cA w w.heap.size 4 A n (l.flatMap MAct.vals):=by
 rcases open_slice Tryz.underlying23 h with ⟨e,_⟩ | ⟨a,len,cap,m,k,D,Pl,e,_,hl,hm,hmm,_,hx⟩
 ·simp only [List.cons.injEq,and_true] at e
  exact ⟨none,0,0,[],e,n_R,Nat.zero_le _,Nat.zero_le _,cA.none_⟩
 ·simp only [List.cons.injEq,and_true] at e
  have hmc:m=cap:=by simpa using hmm
  subst hmc
  have hn:∀ i,i<m→∃ z:MAct,∀ j,j<4→w.cell? (a.add (i * 4+j))=z.vals[j]? :=fun i hi=>by
   obtain ⟨cs',h1,h2⟩:=hx i hi;rw [tS] at h1;obtain ⟨_,hcl,hat⟩:=World.cells?_some h1;obtain ⟨z,rfl⟩:=rq h2 hcl;exact ⟨z,fun j hj=>by rw [← Go.Deep.add_add,hat j hj]⟩
  letI:Inhabited MAct:=⟨⟨0,0,0,0⟩⟩
  obtain ⟨Z,hZ⟩:=choose_lt hn;refine ⟨some a,len,m,(List.range len).map Z,e,hl,by omega,hm,by rw [ft jQ];simp,fun h0=>⟨a,rfl,?_,fun j u hu=>?_⟩⟩
  ·have:=World.block_lt_of_cell? w _ (hZ 0 (by omega) 0 (by omega))
   rwa [dN] at this
  ·have hj:j<len * 4:=by
    rcases Nat.lt_or_ge j (len * 4) with h' | h'
    ·exact h'
    ·rw [List.getElem?_eq_none (by rw [ft jQ];simpa using h')] at hu;cases hu
   have hz:=hZ (j / 4) (by omega) (j % 4) (by omega);have ha:((List.range len).map Z)[j / 4]? =some (Z (j / 4)):=by rw [List.getElem?_map,List.getElem?_range (by omega)];rfl
   have hf:=kx jQ ha (show j % 4<4 by omega);rw [show j / 4 * 4+j % 4=j by omega] at hf hz;rw [hz,← hf,hu]
theorem xK:∃ f0 f1 f2 f3 f4,Tryz.prog.underlying 69=some (.struct #[f0,f1,f2,f3,f4])∧f0.type=3∧f1.type=3∧f2.type=3∧f3.type=3∧f4.type=54∧f0.offset=0∧f1.offset=1∧f2.offset=2∧f3.offset=3∧f4.offset=4 :=
 ⟨_,_,_,_,_,Tryz.underlying69,rfl,rfl,rfl,rfl,rfl,rfl,rfl,rfl,rfl,rfl⟩
theorem xu:∃ f0 f1,Tryz.prog.underlying 54=some (.struct #[f0,f1])∧f0.type=3∧f1.type=3∧f0.offset=0∧f1.offset=1 :=
 ⟨_,_,Tryz.underlying54,rfl,rfl,rfl,rfl⟩
theorem uc:Tryz.prog.cellsOf 69=6:=by kernel_rfl
theorem ue:Tryz.prog.cellsOf 54=2:=by kernel_rfl
theorem rC {fuel:Nat}{cs:List Value}{x:DataW H × List MemPlace}(h:DataW.trod enc Tryz.prog w 0 (fun _=>true) true fuel 69 cs=some x)(hl:cs.length=6):∃ l:Tast,cs=l.vals:=by
 obtain ⟨f0,f1,f2,f3,f4,hu,t0,t1,t2,t3,t4,z0,z1,z2,z3,z4⟩:=xK;obtain ⟨g0,g1,hu2,s0,s1,o0,o1⟩:=xu;obtain ⟨xs,n,_,_,_,hlen,hg⟩:=DataW.trod_struct hu h
 match cs,hl,xs,hlen with
 | [c0,c1,c2,c3,c4,c5],_,[y0,y1,y2,y3,y4],_ =>
  have h0:DataW.trod enc Tryz.prog w 0 (fun _=>true) true n 3 [c0]=some y0:=by simpa [t0,z0,dQ] using hg 0 f0 rfl
  have h1:DataW.trod enc Tryz.prog w 0 (fun _=>true) true n 3 [c1]=some y1:=by simpa [t1,z1,dQ] using hg 1 f1 rfl
  have h2:DataW.trod enc Tryz.prog w 0 (fun _=>true) true n 3 [c2]=some y2:=by simpa [t2,z2,dQ] using hg 2 f2 rfl
  have h3:DataW.trod enc Tryz.prog w 0 (fun _=>true) true n 3 [c3]=some y3:=by simpa [t3,z3,dQ] using hg 3 f3 rfl
  have h4:DataW.trod enc Tryz.prog w 0 (fun _=>true) true n 54 [c4,c5]=some y4:=by simpa [t4,z4,ue] using hg 4 f4 rfl
  obtain ⟨xs',n',_,_,_,hlen',hg'⟩:=DataW.trod_struct hu2 h4
  match xs',hlen' with
  | [u0,u1],_ =>
   have k0:DataW.trod enc Tryz.prog w 0 (fun _=>true) true n' 3 [c4]=some u0:=by simpa [s0,o0,dQ] using hg' 0 g0 rfl
   have k1:DataW.trod enc Tryz.prog w 0 (fun _=>true) true n' 3 [c5]=some u1:=by simpa [s1,o1,dQ] using hg' 1 g1 rfl
   obtain ⟨n0,e0,_,_⟩:=DataW.trod_int Tryz.underlying3 h0;obtain ⟨n1,e1,_,_⟩:=DataW.trod_int Tryz.underlying3 h1;obtain ⟨n2,e2,_,_⟩:=DataW.trod_int Tryz.underlying3 h2;obtain ⟨n3,e3,_,_⟩:=DataW.trod_int Tryz.underlying3 h3;obtain ⟨n4,e4,_,_⟩:=DataW.trod_int Tryz.underlying3 k0;obtain ⟨n5,e5,_,_⟩:=DataW.trod_int Tryz.underlying3 k1;simp only [List.cons.injEq,and_true] at e0 e1 e2 e3 e4 e5;subst e0 e1 e2 e3 e4 e5;exact ⟨⟨n0,n1,n2,n3,n4,n5⟩,rfl⟩
theorem sc {v:Value}{fuel:Nat}{x:DataW H × List MemPlace}(h:DataW.trod enc Tryz.prog w 0 (fun _=>true) true fuel 24 [v]=some x) :
  ∃ A n c,∃ l:List Tast,v = .slice A n c∧n≤c∧n≤maxLen∧c≤maxLen∧cA w w.heap.size 6 A n (l.flatMap Tast.vals):=by
 rcases open_slice Tryz.underlying24 h with ⟨e,_⟩ | ⟨a,len,cap,m,k,D,Pl,e,_,hl,hm,hmm,_,hx⟩
 ·simp only [List.cons.injEq,and_true] at e
  exact ⟨none,0,0,[],e,n_R,Nat.zero_le _,Nat.zero_le _,cA.none_⟩
 ·simp only [List.cons.injEq,and_true] at e
  have hmc:m=cap:=by simpa using hmm
  subst hmc
  have hn:∀ i,i<m→∃ z:Tast,∀ j,j<6→w.cell? (a.add (i * 6+j))=z.vals[j]? :=fun i hi=>by
   obtain ⟨cs',h1,h2⟩:=hx i hi;rw [uc] at h1;obtain ⟨_,hcl,hat⟩:=World.cells?_some h1;obtain ⟨z,rfl⟩:=rC h2 hcl;exact ⟨z,fun j hj=>by rw [← Go.Deep.add_add,hat j hj]⟩
  letI:Inhabited Tast:=⟨⟨0,0,0,0,0,0⟩⟩
  obtain ⟨Z,hZ⟩:=choose_lt hn;refine ⟨some a,len,m,(List.range len).map Z,e,hl,by omega,hm,by rw [ft eO];simp,fun h0=>⟨a,rfl,?_,fun j u hu=>?_⟩⟩
  ·have:=World.block_lt_of_cell? w _ (hZ 0 (by omega) 0 (by omega))
   rwa [dN] at this
  ·have hj:j<len * 6:=by
    rcases Nat.lt_or_ge j (len * 6) with h' | h'
    ·exact h'
    ·rw [List.getElem?_eq_none (by rw [ft eO];simpa using h')] at hu;cases hu
   have hz:=hZ (j / 6) (by omega) (j % 6) (by omega);have ha:((List.range len).map Z)[j / 6]? =some (Z (j / 6)):=by rw [List.getElem?_map,List.getElem?_range (by omega)];rfl
   have hf:=kx eO ha (show j % 6<6 by omega);rw [show j / 6 * 6+j % 6=j by omega] at hf hz;rw [hz,← hf,hu]
theorem yi:∃ f0 f1 f2 f3,Tryz.prog.underlying 26=some (.struct #[f0,f1,f2,f3])∧(f0.type=3∧f1.type=22∧f2.type=23∧f3.type=24)∧(f0.offset=0∧f1.offset=1∧f2.offset=2∧f3.offset=3) :=
 ⟨_,_,_,_,Tryz.underlying26,⟨rfl,rfl,rfl,rfl⟩,rfl,rfl,rfl,rfl⟩
theorem uE:Tryz.prog.cellsOf 22=1:=by kernel_rfl
theorem wt:Tryz.prog.cellsOf 23=1:=by kernel_rfl
theorem vZ:Tryz.prog.cellsOf 24=1:=by kernel_rfl
theorem wP {r:Reach}{b0:Nat}{v:Value}{d:DataW H}{p:List MemPlace}(hv:Value.okWide Tryz.prog w r b0 26 v)(h:DataW.Trod enc Tryz.prog w 0 (fun _=>true) true 26 v d p) :
  ∃ Av nv cv Aa na ca At nt ct m,v = .agg #[.int .i64 m.fountains,.slice Av nv cv,.slice Aa na ca,.slice At nt ct]∧(na≤ca∧ca≤maxLen)∧(nt≤ct∧ct≤maxLen)∧dG w w.heap.size Av nv Aa na At nt m:=by
 obtain ⟨f0,f1,f2,f3,hu,⟨t0,t1,t2,t3⟩,z0,z1,z2,z3⟩:=yi;obtain ⟨cs,rfl,hsz⟩:=okWide_struct hu hv;obtain ⟨fuel,hf⟩:=h;obtain ⟨xs,n,_,_,_,hlen,hg⟩:=DataW.trod_struct hu hf;obtain ⟨l⟩:=cs
 match l,hsz.trans tv,xs,hlen with
 | [c0,c1,c2,c3],_,[y0,y1,y2,y3],_ =>
  have h0:DataW.trod enc Tryz.prog w 0 (fun _=>true) true n 3 [c0]=some y0:=by simpa [t0,z0,dQ,Value.cells] using hg 0 f0 rfl
  have h1:DataW.trod enc Tryz.prog w 0 (fun _=>true) true n 22 [c1]=some y1:=by simpa [t1,z1,uE,Value.cells] using hg 1 f1 rfl
  have h2:DataW.trod enc Tryz.prog w 0 (fun _=>true) true n 23 [c2]=some y2:=by simpa [t2,z2,wt,Value.cells] using hg 2 f2 rfl
  have h3:DataW.trod enc Tryz.prog w 0 (fun _=>true) true n 24 [c3]=some y3:=by simpa [t3,z3,vZ,Value.cells] using hg 3 f3 rfl
  obtain ⟨f,e0,_,_⟩:=DataW.trod_int Tryz.underlying3 h0;simp only [List.cons.injEq,and_true] at e0;obtain ⟨Av,nv,cv,lv,rfl,_,_,_,hv1⟩:=rK h1;obtain ⟨Aa,na,ca,la,rfl,ha1,_,ha2,hv2⟩:=rQ h2;obtain ⟨At,nt,ct,lt,rfl,ht1,_,ht2,hv3⟩:=sc h3;subst e0;exact ⟨Av,nv,cv,Aa,na,ca,At,nt,ct,⟨f,lv,la,lt⟩,rfl,⟨ha1,ha2⟩,⟨ht1,ht2⟩,⟨hv1,hv2,hv3⟩⟩
end
end
section
open Go.ChangeShapes Go.WideShapes Go.RowKit Go.Deep Go.Joins
set_option maxRecDepth 100000
def jI (w:World)(B:Nat)(A:Option Addr)(n:Nat)(l:List Nat):Prop:=cA w B 1 A n (l.map fun b=>.int .u8 (b:Nat))∧∀ b∈l,b≤255
section
variable {H:Type} {enc:TypeId × Value→H} {w:World}
theorem xR {z:Int}(h:(Lit.int .u8 z).wf=true):0≤z∧z≤255:=by
 simp [Lit.wf] at h;have h1:IntKind.u8.min=0:=rfl;have h2:IntKind.u8.max=255:=rfl;omega
theorem lN {v:Value}{d:DataW H}{p:List MemPlace}(h:DataW.Trod enc Tryz.prog w 0 (fun _=>true) true 5 v d p)(hv:∃ z:Int,v = .int .u8 z):∃ x:Nat,v = .int .u8 (x:Nat)∧x≤255:=by
 obtain ⟨z,rfl⟩:=hv;obtain ⟨fuel,hf⟩:=h;obtain ⟨n,e,_,hw⟩:=DataW.trod_int Tryz.underlying5 hf;have e':n=z:=by simpa [Value.cells] using e.symm
 subst e';have hb:=xR hw;obtain ⟨k,rfl⟩:=Int.eq_ofNat_of_zero_le hb.1;exact ⟨k,rfl,by omega⟩
theorem vm:Tryz.prog.cellsOf 5=1:=by kernel_rfl
theorem sf {v:Value}{fuel:Nat}{x:DataW H × List MemPlace}(h:DataW.trod enc Tryz.prog w 0 (fun _=>true) true fuel 42 [v]=some x) :
  ∃ A n c l,v = .slice A n c∧n≤c∧n≤maxLen∧c≤maxLen∧jI w w.heap.size A n l:=by
 rcases open_slice1 Tryz.underlying42 vm h with ⟨e,_⟩ | ⟨a,len,cap,m,k,V,D,Pl,e,_,hl,hm,hmm,_,hx⟩
 ·simp only [List.cons.injEq,and_true] at e
  exact ⟨none,0,0,[],e,n_R,Nat.zero_le _,Nat.zero_le _,cA.none_,by simp⟩
 ·simp only [List.cons.injEq,and_true] at e
  have hmc:m=cap:=by simpa using hmm
  subst hmc
  have hn:∀ i,i<m→∃ z:Nat,V i = .int .u8 (z:Nat)∧z≤255:=fun i hi=>by
   obtain ⟨z,f0,_,hw⟩:=DataW.trod_int Tryz.underlying5 (hx i hi).2;simp only [List.cons.injEq,and_true] at f0;have hb:=xR hw;obtain ⟨k,rfl⟩:=Int.eq_ofNat_of_zero_le hb.1;exact ⟨k,f0,by omega⟩
  obtain ⟨Z,hZ⟩:=choose_lt hn;refine ⟨some a,len,m,(List.range len).map Z,e,hl,by omega,hm,⟨by simp,fun h0=>⟨a,rfl,?_,fun j u hu=>?_⟩⟩,fun b hb=>?_⟩
  ·have:=World.block_lt_of_cell? w _ (hx 0 (by omega)).1
   rwa [dN] at this
  ·simp only [List.getElem?_map,Option.map_map] at hu
   have hj:j<len:=by
    rcases Nat.lt_or_ge j len with h' | h'
    ·exact h'
    ·rw [List.getElem?_eq_none (by simpa using h')] at hu;cases hu
   rw [List.getElem?_range hj] at hu;simp only [Option.map_some,Option.some.injEq,Function.comp] at hu;rw [(hx j (by omega)).1,(hZ j (by omega)).1,← hu]
  ·obtain ⟨j,hj,rfl⟩:=List.mem_map.1 hb
   exact (hZ j (by have:=List.mem_range.1 hj;omega)).2
end
end
end Go.Proofs.YthofngceiecniaaGreat
