/- Part 14 of the texts of this claim, joined. -/
import Derived.Sort.CutIn
import Derived.Lib.SmallJoins
import Derived.LaidHandle
import Derived.ChangeArms
import Derived.ChangeSame
import Derived.Test.YthofngceiecniaaGreatZxB13
set_option linter.unusedVariables false
/- The answer's Mix, and Check. -/
namespace Go.Proofs.YthofngceiecniaaGreat
set_option maxHeartbeats 32000000
set_option maxRecDepth 100000
section
open Go.RowKit
theorem xW {m:Mix}(h:risB 0 (m.vessels.map (·.id))=false):dT m=false:=by unfold dT;rw [h];simp
theorem wD {m:Mix}(h:risB 0 (m.tastes.map (·.num))=false):dT m=false:=by unfold dT;rw [h];simp
theorem vH {α:Type}{f:α→Int}{l:List α}{k:Nat}{x:α}(hx:l[k]? =some x)(h:risB 0 ((l.take k).map f)=true):risB 0 ((l.take (k+1)).map f)=wiB (f x) (((l.take k).map f).getLast?.getD 0+1) 9999:=by
 obtain ⟨hk,rfl⟩:=g_E hx;rw [List.take_succ_eq_append_getElem hk,List.map_append,List.map_cons,List.map_nil,lX,h,Bool.true_and];rfl
theorem s8 {α:Type}{f:α→Int}{l:List α}{k:Nat}{x:α}(hx:l[k]? =some x):((l.take (k+1)).map f).getLast?.getD 0=f x:=by
 obtain ⟨hk,rfl⟩:=g_E hx;rw [List.take_succ_eq_append_getElem hk,List.map_append,List.map_cons,List.map_nil,List.getLast?_concat];rfl
theorem rY {α:Type}{f:α→Int}{l:List α}{k:Nat}(h:risB 0 ((l.take k).map f)=false):risB 0 (l.map f)=false:=by
 cases h0:risB 0 (l.map f) with
 | false=>rfl
 | true =>
  have:=pO (k:=k) h0;rw [← List.map_take] at this;rw [this] at h;cases h
theorem xh {α:Type}{p:α→Bool}{l:List α}{k:Nat}(h:(l.take k).all p=false):l.all p=false:=by
 cases h0:l.all p with
 | false=>rfl
 | true=>exact absurd ((tu (k:=k) h0).symm.trans h) (by decide)
theorem vJ (Av:Option Addr)(nv cv:Nat)(Aa:Option Addr)(na ca:Nat)(At:Option Addr)(nt ct:Nat)(m:Mix)(w:World)(h:MixS w Av nv Aa na At nt m) :
  Calls Tryz.prog 49 #[.agg #[.int .i64 m.fountains,.slice Av nv cv,.slice Aa na ca,.slice At nt ct]] w fun e w'=>e = .returned (.bool (dT m))∧Below w.heap.size w w':=by
 have HM:=lh h;have HLV:=lh h.at_.lenV;have HLA:=lh h.at_.lenA;have HLT:=lh h.at_.lenT;have hnv:=h.hv;have hna:=h.ha;have hnt:=h.ht;clear h
 go_enter Tryz.func49,Tryz.ntmps49
 go_upto_region 1 with fail
 have Ly:=lh (Lay.one w 26 #[.int .i64 m.fountains,.slice Av nv cv,.slice Aa na ca,.slice At nt ct]);generalize (w.alloc (.cells #[.int .i64 m.fountains,.slice Av nv cv,.slice Aa na ca,.slice At nt ct] 26))=w0 at *;obtain ⟨x0,x1,x2,x3⟩:=lyc4 Ly 0 rfl;have xl:=Ly.out.lt 0 rfl
 go_wp2_with fail
 refine (ek m.fountains 1 4 w0).mono ?_;rintro e W1 ⟨rfl,rfl⟩;by_cases hG:(1≤m.fountains∧m.fountains≤4)∧m.vessels.length≤4∧m.acts.length≤12∧m.tastes.length≤8
 ·have HG:=lh hG
  have hi:wiB m.fountains 1 4=true:=decide_eq_true hG.1;have hn4:nv≤4:=by have:=HLV.out;omega
  have hn12:na≤12:=by have:=HLA.out;omega
  have hn8:nt≤8:=by have:=HLT.out;omega
  have d1:(nv:Int)≤4:=by omega
  have d2:(na:Int)≤12:=by omega
  have d3:(nt:Int)≤8:=by omega
  rw [hi];clear hi hG
  go_wp2_with fail
  clear d1 d2 d3 x0 x1 x2 x3 xl
  go_loopw [3,35] (fun v3 i wr=>∃ k:Nat,k≤nv∧i = .int .i64 k∧v3 = .int .i64 (((m.vessels.take k).map (·.id)).getLast?.getD 0)∧Hid (Lay w wr [(w.heap.size,26,#[.int .i64 m.fountains,.slice Av nv cv,.slice Aa na ca,.slice At nt ct])]∧(m.vessels.take k).all jh=true∧risB 0 ((m.vessels.take k).map (·.id))=true))
   (fun _ i _=>nv - (intOf i).toNat)
  case atStart=>exact ⟨0,by omega,rfl,rfl,lh ⟨Ly.out,rfl,rfl⟩⟩
  case round =>
   clear Ly;obtain ⟨k,hk,rfl,rfl,HS⟩:=hrel;obtain ⟨hl0,hl1⟩:=nO HS.out.2.2
   obtain ⟨p,hp⟩:∃ p,((m.vessels.take k).map (·.id)).getLast?.getD 0=p:=⟨_,rfl⟩
   have Ly:=lh HS.out.1;rw [hp] at hl0 hl1 ⊢;have HP:=lh hp;clear hp;have x1:=lyc Ly 0 rfl 1;have x3:=lyc Ly 0 rfl 3;have xl:=Ly.out.lt 0 rfl;by_cases hlt:k<nv
   ·clear x1 x3 xl
    obtain ⟨b,off,x,rfl,hbB,hx,hc0,hc1⟩:=(HM.out.at_.below Ly.out.1).vess hlt;have HX:=lh hx;clear hx
    go_upto_region 7 with fail
    have hb1:Below wr.heap.size wr (wr.alloc (.cells #[.int .i64 x.id,.int .i64 x.size] 50)):=b_R.alloc n_R _;have HN:=lh (Blk.new wr 50 #[.int .i64 x.id,.int .i64 x.size])
    obtain ⟨g8,hg8⟩:∃ g,wr.heap.size=g:=⟨_,rfl⟩
    generalize wr.alloc (.cells #[.int .i64 x.id,.int .i64 x.size] 50)=wa at *;have HB1:=lh hb1;rw [hg8] at HN ⊢;have y0:=HN.out.cell 0;have y1:=HN.out.cell 1;have yl:=HN.out.lt;clear hb1 hc0 hc1;have HRS:=lh (vH (f:=(·.id)) HX.out HS.out.2.2);have HAS:=lh (lu HX.out HS.out.2.1);have HLST:=lh (s8 (f:=fun v:Vess=>v.id) HX.out);rw [HP.out] at HRS
    go_wp2_with fail
    refine (ek x.id (p+1) 9999 wa).mono ?_;rintro e W ⟨rfl,rfl⟩
    cases hi:wiB x.id (p+1) 9999 with
    | false =>
     rw [hi] at HRS;clear hi
     go_wp2_with fail
     go_ret
     exact ⟨eq (xW (rY HRS.out)).symm,Ly.out.1.trans (HB1.out.mono Ly.out.1.size)⟩
    | true =>
     rw [hi] at HRS;clear hi
     go_wp2_with fail
     refine (ek x.size 1 12 wa).mono ?_;rintro e W ⟨rfl,rfl⟩;have hvs:jh x=wiB x.size 1 12:=rfl;rw [hvs] at HAS;clear hvs
     cases hi:wiB x.size 1 12 with
     | false =>
      rw [hi] at HAS;clear hi
      go_wp2_with fail
      go_ret
      exact ⟨eq (qF (xh HAS.out)).symm,Ly.out.1.trans (HB1.out.mono Ly.out.1.size)⟩
     | true =>
      rw [hi] at HAS;clear hi
      go_wp2_with fail
      go_roundw
      case rel=>exact ⟨k+1,by omega,by go_num,by rw [HLST.out],lh ⟨Ly.out.below HB1.out,HAS.out,HRS.out⟩⟩
      case measure=>simp [intOf];omega
   ·obtain rfl:nv=k:=by omega
    have hz:m.vessels.all jh=true:=by
     have:=HS.out.2.1
     rwa [List.take_of_length_le (by have:=HLV.out;omega)] at this
    have hr:risB 0 (m.vessels.map (·.id))=true:=by
     have:=HS.out.2.2
     rwa [List.take_of_length_le (by have:=HLV.out;omega)] at this
    have HZ:=lh hz;have HRI:=lh hr;clear hz hr
    go_wp2_with fail
    clear x1 x3 xl HP hl0 hl1
    obtain ⟨wo,rfl⟩:∃ wo,wo=wr:=⟨_,rfl⟩
    go_loopw [3,57] (fun v3 i wr=>∃ k:Nat,k≤nt∧i = .int .i64 k∧v3 = .int .i64 (((m.tastes.take k).map (·.num)).getLast?.getD 0)∧Hid (Lay w wr [(w.heap.size,26,#[.int .i64 m.fountains,.slice Av nv cv,.slice Aa na ca,.slice At nt ct])]∧(m.tastes.take k).all (eS m)=true∧risB 0 ((m.tastes.take k).map (·.num))=true))
     (fun _ i _=>nt - (intOf i).toNat)
    case atStart=>exact ⟨0,by omega,rfl,rfl,lh ⟨Ly.out,rfl,rfl⟩⟩
    case round =>
     clear Ly HS;obtain ⟨k,hk2,rfl,rfl,HS⟩:=hrel;obtain ⟨hl0,hl1⟩:=nO HS.out.2.2
     obtain ⟨p,hp⟩:∃ p,((m.tastes.take k).map (·.num)).getLast?.getD 0=p:=⟨_,rfl⟩
     have Ly:=lh HS.out.1;rw [hp] at hl0 hl1 ⊢;have HP:=lh hp;clear hp;obtain ⟨x0,x1,x2,x3⟩:=lyc4 Ly 0 rfl;have xl:=Ly.out.lt 0 rfl;by_cases hlt:k<nt
     ·clear x0 x1 x2 x3 xl
      obtain ⟨b,off,x,rfl,hbB,hx,hc0,hc1,hc2,hc3,hc4,hc5⟩:=(HM.out.at_.below Ly.out.1).tast hlt;have HX:=lh hx;clear hx
      go_upto_region 15 with fail
      have hb1:Below wr.heap.size wr (wr.alloc (.cells #[.int .i64 x.num,.int .i64 x.vessel,.int .i64 x.after,.int .i64 x.fountain,.int .i64 x.lo,.int .i64 x.hi] 69)):=b_R.alloc n_R _;have HN:=lh (Blk.new wr 69 #[.int .i64 x.num,.int .i64 x.vessel,.int .i64 x.after,.int .i64 x.fountain,.int .i64 x.lo,.int .i64 x.hi])
      obtain ⟨g8,hg8⟩:∃ g,wr.heap.size=g:=⟨_,rfl⟩
      generalize wr.alloc (.cells #[.int .i64 x.num,.int .i64 x.vessel,.int .i64 x.after,.int .i64 x.fountain,.int .i64 x.lo,.int .i64 x.hi] 69)=wa at *;have HB1:=lh hb1;rw [hg8] at HN ⊢;have y0:=HN.out.cell 0;have y1:=HN.out.cell 1;have yl:=HN.out.lt;have HLA1:=lh (Ly.out.below HB1.out);have x0:=(HLA1.out.blk 0 rfl).cell 0;have x1:=(HLA1.out.blk 0 rfl).cell 1;have x2:=(HLA1.out.blk 0 rfl).cell 2;have x3:=(HLA1.out.blk 0 rfl).cell 3;have xl:=HLA1.out.lt 0 rfl;clear hb1 hc0 hc1 hc2 hc3 hc4 hc5;have HRS:=lh (vH (f:=(·.num)) HX.out HS.out.2.2);have HAS:=lh (lu HX.out HS.out.2.1);have HLST:=lh (s8 (f:=fun v:Tast=>v.num) HX.out);rw [HP.out] at HRS
      go_wp2_with fail
      refine (ek x.num (p+1) 9999 wa).mono ?_;rintro e W ⟨rfl,rfl⟩
      cases hi:wiB x.num (p+1) 9999 with
      | false =>
       rw [hi] at HRS;clear hi
       go_wp2_with fail
       go_ret
       exact ⟨eq (wD (rY HRS.out)).symm,Ly.out.1.trans (HB1.out.mono Ly.out.1.size)⟩
      | true =>
       rw [hi] at HRS;clear hi
       go_wp2_with fail
       refine (fp Av nv cv Aa na ca (some ⟨b,off,none⟩) nt ct m x.vessel wa (HM.out.up HLA1.out.1)).mono ?_;rintro e W ⟨rfl,hb⟩;have HB:=lh (HB1.out.trans (hb.mono HB1.out.size));have HN2:=lh (HN.out.below hb HN.out.lt);have HLA2:=lh (HLA1.out.below hb);clear hb y0 y1 yl x0 x1 x2 x3 xl HN HLA1 HB1;have y2:=HN2.out.cell 2;have y3:=HN2.out.cell 3;have y4:=HN2.out.cell 4;have y5:=HN2.out.cell 5;have yl:=HN2.out.lt;have x0:=(HLA2.out.blk 0 rfl).cell 0;have x2:=(HLA2.out.blk 0 rfl).cell 2;have xl:=HLA2.out.lt 0 rfl;by_cases hj:idxV m.vessels x.vessel<0
       ·have HTB:Hid (eS m x=false):=lh (by unfold eS;exact decide_eq_false (by omega))
        go_wp2_with fail
        go_ret
        exact ⟨eq (gC (ii HX.out HTB.out)).symm,Ly.out.1.trans (HB.out.mono Ly.out.1.size)⟩
       ·have hj2:0≤idxV m.vessels x.vessel:=by omega
        go_wp2_with fail
        refine (ek x.after 0 na W).mono ?_;rintro e W2 ⟨rfl,rfl⟩
        cases hi:wiB x.after 0 na with
        | false =>
         have HI:=lh (of_decide_eq_false hi);have HTB:Hid (eS m x=false):=lh (by unfold eS;have:=HLA.out;have:=HI.out;exact decide_eq_false (by omega));clear hi
         go_wp2_with fail
         go_ret
         exact ⟨eq (gC (ii HX.out HTB.out)).symm,Ly.out.1.trans (HB.out.mono Ly.out.1.size)⟩
        | true =>
         have HI:=lh (of_decide_eq_true hi);clear hi
         go_wp2_with fail
         refine (ek x.fountain 1 m.fountains W).mono ?_;rintro e W2 ⟨rfl,rfl⟩
         cases hi:wiB x.fountain 1 m.fountains with
         | false =>
          have HJ:=lh (of_decide_eq_false hi);have HTB:Hid (eS m x=false):=lh (by unfold eS;have:=HJ.out;exact decide_eq_false (by omega));clear hi
          go_wp2_with fail
          go_ret
          exact ⟨eq (gC (ii HX.out HTB.out)).symm,Ly.out.1.trans (HB.out.mono Ly.out.1.size)⟩
         | true =>
          have HJ:=lh (of_decide_eq_true hi);clear hi
          go_wp2_with fail
          refine (ek x.lo 0 x.hi W).mono ?_;rintro e W2 ⟨rfl,rfl⟩
          cases hi:wiB x.lo 0 x.hi with
          | false =>
           have HK:=lh (of_decide_eq_false hi);have HTB:Hid (eS m x=false):=lh (by unfold eS;have:=HK.out;exact decide_eq_false (by omega));clear hi
           go_wp2_with fail
           go_ret
           exact ⟨eq (gC (ii HX.out HTB.out)).symm,Ly.out.1.trans (HB.out.mono Ly.out.1.size)⟩
          | true =>
           have HK:=lh (of_decide_eq_true hi);have HTB:Hid (eS m x=true):=lh (by unfold eS;have:=HK.out;have:=HJ.out;have:=HI.out;have:=HLA.out;exact decide_eq_true (by omega));clear hi x0 x2 xl;have y0:=HN2.out.cell 0;rw [HTB.out] at HAS
           go_wp2_with fail
           go_roundw
           case rel=>exact ⟨k+1,by omega,by go_num,by rw [HLST.out],lh ⟨HLA2.out,HAS.out,HRS.out⟩⟩
           case measure=>simp [intOf];omega
     ·obtain rfl:nt=k:=by omega
      have hz:m.tastes.all (eS m)=true:=by
       have:=HS.out.2.1
       rwa [List.take_of_length_le (by have:=HLT.out;omega)] at this
      have hr:risB 0 (m.tastes.map (·.num))=true:=by
       have:=HS.out.2.2
       rwa [List.take_of_length_le (by have:=HLT.out;omega)] at this
      have HZT:=lh hz;have HRN:=lh hr;clear hz hr
      go_wp2_with fail
      refine (callsIn_wide.1 (nb Av nv cv Aa na ca At nt ct m wr (HM.out.up Ly.out.1) (m6 HZ.out) hn4 hna)).mono ?_;rintro e W ⟨hb,A4,n4,c4,bb,L,rfl,hd⟩;have HB:=lh (Ly.out.1.trans (hb.mono Ly.out.1.size));have HD:=lh hd;clear hb hd x0 x1 x2 x3 xl
      go_wp2_with fail
      go_ret
      refine ⟨eq ?_,HB.out⟩
      rcases HD.out with ⟨rfl,h1,_⟩ | ⟨rfl,_,h1⟩
      ·rw [pX HG.out HZ.out HZT.out h1,HRI.out,HRN.out];rfl
      ·exact (rD h1).symm
 ·have HB:=lh (ni hG)
  cases hi:wiB m.fountains 1 4 with
  | false =>
   clear hi
   go_wp2_with fail
   go_ret
   exact ⟨eq HB.out.symm,Ly.out.1⟩
  | true =>
   have h2:¬ (nv≤4∧na≤12∧nt≤8):=by
    have:=of_decide_eq_true hi;rw [← HLV.out,← HLA.out,← HLT.out];exact fun h2=>hG ⟨this,h2⟩
   clear hi hG;by_cases q1:nv≤4
   ·have d1:(nv:Int)≤4:=by omega
    by_cases q2:na≤12
    ·have d2:(na:Int)≤12:=by omega
     have d3:¬ (nt:Int)≤8:=by omega
     clear h2
     go_wp2_with fail
     go_ret
     exact ⟨eq HB.out.symm,Ly.out.1⟩
    ·have d2:¬ (na:Int)≤12:=by omega
     clear h2
     go_wp2_with fail
     go_ret
     exact ⟨eq HB.out.symm,Ly.out.1⟩
   ·have d1:¬ (nv:Int)≤4:=by omega
    clear h2
    go_wp2_with fail
    go_ret
    exact ⟨eq HB.out.symm,Ly.out.1⟩
end
section
open Go.RowKit
theorem oV {α:Type}{vals:α→List Value}{sz:Nat}(hk:∀ x,(vals x).length=sz):∀ (l:List α) (k:Nat),(l.take k).flatMap vals=(l.flatMap vals).take (k * sz)
 | [],k=>by simp
 | x::l,0=>by simp
 | x::l,k+1=>by
  rw [List.take_succ_cons,List.flatMap_cons,List.flatMap_cons,oV hk l k,List.take_append,hk,List.take_of_length_le (l:=vals x) (by rw [hk,Nat.succ_mul];exact Nat.le_add_left _ _),Nat.succ_mul,Nat.add_sub_cancel]
theorem Own.short {w:World}{base n cap size k:Nat}{e:TypeId}{A:Option Addr}{xs:List Value}(h:Own w base e size A n cap xs)(hk:k≤n)(hA:A≠none∨k=0∧n=0):Own w base e size A k cap (xs.take (k * size)):=by
 rcases h.form with ⟨rfl,rfl,rfl,rfl⟩ | ⟨g,cur,rfl,hb,hg,h1,h2,h3,h4,h5⟩
 ·obtain rfl:k=0:=by omega
  simpa using Own.none_ w base e size
 ·have hle:k * size≤n * size:=Nat.mul_le_mul_right _ hk
  refine ⟨by rw [List.length_take,h5,Nat.min_eq_left hle],.inr ⟨g,cap,cur,rfl,hb,hg,Nat.le_trans hk h1,h2,h3,?_⟩⟩;rw [← h4,List.take_take,Nat.min_eq_left hle]
theorem eD.fewer {W:World}{base:Nat}{A1 A2 A3:Option Addr}{nv c1 k c2 nt c3:Nat}{m:Mix}(h:eD W base A1 nv c1 A2 (k+1) c2 A3 nt c3 m)(hl:m.acts.length=k+1):eD W base A1 nv c1 A2 k c2 A3 nt c3 (iJ m (m.acts.take (m.acts.length - 1))):=by
 refine ⟨h.v,?_,h.t,h.va,h.vt,h.at_⟩
 show Own W base _ 4 A2 k c2 ((m.acts.take (m.acts.length - 1)).flatMap MAct.vals)
 rw [hl,Nat.add_sub_cancel,oV kN];refine h.a.short (Nat.le_succ k) (.inl fun e=>?_)
 rcases h.a.form with ⟨_,h0,_⟩ | ⟨g,cur,e2,_⟩
 ·omega
 ·rw [e] at e2;cases e2
end
section
open Go.RowKit
section
variable {w W W':World} {base:Nat} {A1 A2 A3:Option Addr} {nv c1 na c2 nt c3:Nat} {m:Mix}
theorem fG.below (h:fG W base A1 nv c1 A2 na c2 A3 nt c3 m)(hb:Below W.heap.size W W'):fG W' base A1 nv c1 A2 na c2 A3 nt c3 m:=⟨h.v.below hb n_R,h.a.below hb n_R,h.t.below hb n_R⟩
theorem fG.mono {b':Nat}(h:fG W base A1 nv c1 A2 na c2 A3 nt c3 m)(hb:b'≤base):fG W b' A1 nv c1 A2 na c2 A3 nt c3 m:=⟨h.v.mono hb,h.a.mono hb,h.t.mono hb⟩
theorem fG.off {g:Nat}(h:fG W base A1 nv c1 A2 na c2 A3 nt c3 m)(hg:W.grownBy W' (some g))(hlt:g<base):fG W' base A1 nv c1 A2 na c2 A3 nt c3 m:=⟨kl h.v hg hlt,kl h.a hg hlt,kl h.t hg hlt⟩
theorem fG.s (h:fG W base A1 nv c1 A2 na c2 A3 nt c3 m)(hv:nv≤1000)(ha:na≤1000)(ht:nt≤1000):MixS W A1 nv A2 na A3 nt m:=⟨⟨h.v.reads n_R,h.a.reads n_R,h.t.reads n_R⟩,hv,ha,ht⟩
theorem fG.acts {A9:Option Addr}{n9 c9 b9:Nat}{l:List MAct}(h:fG W base A1 nv c1 A2 na c2 A3 nt c3 m)(hb:Below W.heap.size W W')(ho:Own W' b9 62 4 A9 n9 c9 (l.flatMap MAct.vals))(h9:base≤b9):fG W' base A1 nv c1 A9 n9 c9 A3 nt c3 (iJ m l):=⟨(h.below hb).v,ho.mono h9,(h.below hb).t⟩
theorem fG.tasts {A9:Option Addr}{n9 c9 b9:Nat}{l:List Tast}(h:fG W base A1 nv c1 A2 na c2 A3 nt c3 m)(hb:Below W.heap.size W W')(ho:Own W' b9 69 6 A9 n9 c9 (l.flatMap Tast.vals))(h9:base≤b9):fG W' base A1 nv c1 A2 na c2 A9 n9 c9 (gm m l):=⟨(h.below hb).v,(h.below hb).a,ho.mono h9⟩
theorem MixS.nothing (W:World):MixS W none 0 none 0 none 0 fu:=⟨⟨dO.none_,dO.none_,dO.none_⟩,by omega,by omega,by omega⟩
end
end
section
open Go.RowKit
theorem qj {nv na nt:Nat}(h:gG nv na nt=false):nv≤8∧na≤24∧nt≤16:=by
 unfold gG at h;simp at h;omega
def wj (w:World)(e:Ending)(w':World):Prop:=e = .returned (.bool true)∧Below w.heap.size w w'
end
section
open Go.RowKit Go.Shelf
attribute [local go_sem] Oper.semAt_some
theorem yf (d:Nat)(a b:Int)(w:World):(Op.equalIn (d+1) 3 (.int .i64 a) (.int .i64 b)).run Tryz.prog w = .ok (a==b) w:=by
 simp [Op.equalIn,run_underlying Tryz.underlying3]
theorem eL (a0 a1:Int)(w:World):(Op.equalIn 10000 54 (.agg #[.int .i64 a0,.int .i64 a1]) (.agg #[.int .i64 a0,.int .i64 a1])).run Tryz.prog w = .ok true w:=by
 rw [Op.equalIn];simp [go_sem,run_underlying Tryz.underlying54,yf,Std.Legacy.Range.forIn_eq_forIn_range',part]
theorem vP (w:World):CallsIn Fence.wide 9 Tryz.prog 22 #[] w (wj w):=by
 refine callsIn_of_wp Tryz.func22 rfl trivial ?_ rfl;simp only [Tryz.ntmps22,es,Nat.reduceSub];gi_upto_region 1 with fail
 have Ly:=lh (Lay.nil w);gi_wp2;refine ⟨trivial,(c_W (fH none 0 0 [] w (dO.none_ (w:=w) (B:=w.heap.size)) (by decide))).mono ?_⟩;rintro e W1 ⟨g1,g2,rfl,hg1,hg2,hms,hb⟩;replace Ly:=lyb Ly hb;clear hb;have HMS:=lh hms;clear hms hg1 hg2;gi_wp2;refine ⟨trivial,(c_W (vY (some ⟨g1,0,none⟩) 3 3 (some ⟨g2,0,none⟩) 5 5 none 0 0 (eJ []) 2 3 W1 HMS.out)).mono ?_⟩;rintro e W2 ⟨n,en,rfl,hma,hb⟩;replace Ly:=lyb Ly hb;clear hb;obtain ⟨rfl,rfl⟩:=fK.same hma al_holds;clear hma;clear HMS;gi_wp2;refine ⟨trivial,(c_W (fH none 0 0 [] W2 (dO.none_ (w:=W2) (B:=W2.heap.size)) (by decide))).mono ?_⟩;rintro e W3 ⟨g1,g2,rfl,hg1,hg2,hms,hb⟩;replace Ly:=lyb Ly hb;clear hb;have HMS:=lh hms;clear hms hg1 hg2;gi_wp2;refine ⟨trivial,(c_W (xp (some ⟨g1,0,none⟩) 3 3 (some ⟨g2,0,none⟩) 5 5 none 0 0 (eJ []) 3 4 1 W3 HMS.out)).mono ?_⟩;rintro e W4 ⟨lo,hi,ea,rfl,hma,hb⟩;replace Ly:=lyb Ly hb;clear hb;obtain ⟨e1,rfl⟩:=OfIs.same hma al_of
 obtain ⟨rfl,rfl⟩:lo=0∧hi=2:=⟨congrArg Prod.fst e1,congrArg Prod.snd e1⟩
 clear hma e1;clear HMS;gi_upto_region 3 with fail
 obtain ⟨V5,hV⟩:∃ V,(W4.alloc (.cells #[.int .i64 0,.int .i64 2] 54))=V:=⟨_,rfl⟩
 rw [hV];have hb:=et hV;have hnew:=ez hV;have hge:=Ly.out.bel.size;replace Ly:=lyb Ly hb;replace Ly:=lh (Ly.out.add hge hnew);clear hnew hge hb hV
 obtain ⟨G6,hG⟩:∃ g,W4.heap.size=g:=⟨_,rfl⟩
 rw [hG] at Ly ⊢;clear hG;gi_wp2;refine ⟨trivial,(c_W (fH none 0 0 [] V5 (dO.none_ (w:=V5) (B:=V5.heap.size)) (by decide))).mono ?_⟩;rintro e W7 ⟨g1,g2,rfl,hg1,hg2,hms,hb⟩;replace Ly:=lyb Ly hb;clear hb;have HMS:=lh hms;clear hms hg1 hg2;gi_wp2;refine ⟨trivial,(c_W (t7 (some ⟨g1,0,none⟩) 3 3 (some ⟨g2,0,none⟩) 5 5 none 0 0 (eJ []) 3 5 1 W7 HMS.out)).mono ?_⟩;rintro e W8 ⟨lo,hi,eb,rfl,hma,hb⟩;replace Ly:=lyb Ly hb;clear hb;obtain ⟨e1,rfl⟩:=OfIs.same hma vW
 obtain ⟨rfl,rfl⟩:lo=0∧hi=2:=⟨congrArg Prod.fst e1,congrArg Prod.snd e1⟩
 clear hma e1;rw [show kb (decide ((0:Int)<0)) (decide ((0:Int)<2))=1 from by decide];clear HMS;gi_wp2;refine ⟨trivial,(c_W (fH none 0 0 [] W8 (dO.none_ (w:=W8) (B:=W8.heap.size)) (by decide))).mono ?_⟩;rintro e W9 ⟨g1,g2,rfl,hg1,hg2,hms,hb⟩;replace Ly:=lyb Ly hb;clear hb;have HMS:=lh hms;clear hms hg1 hg2;gi_wp2;refine ⟨trivial,(c_W ((r7 (some ⟨g1,0,none⟩) 3 3 (some ⟨g2,0,none⟩) 5 5 none 0 0 (eJ []) 1 5 1 W9 HMS.out).mono fun _ _ h=>oU h)).mono ?_⟩;rintro e W10 ⟨kp,ep,rfl,hma,hb⟩;replace Ly:=lyb Ly hb;clear hb;obtain ⟨rfl,rfl⟩:=j7.same hma xK;clear hma HMS;gi_wp2;refine ⟨trivial,(c_W (fH none 0 0 [] W10 (dO.none_ (w:=W10) (B:=W10.heap.size)) (by decide))).mono ?_⟩;rintro e W11 ⟨g1,g2,rfl,hg1,hg2,hms,hb⟩;replace Ly:=lyb Ly hb;clear hb;have HMS:=lh hms;clear hms hg1 hg2;gi_wp2;refine ⟨trivial,(c_W (uL (some ⟨g1,0,none⟩) 3 3 (some ⟨g2,0,none⟩) 5 5 none 0 0 (eJ []) 5 1 W11 HMS.out)).mono ?_⟩;rintro e W12 ⟨lo,hi,ec,rfl,hma,hb⟩;replace Ly:=lyb Ly hb;clear hb;obtain ⟨e1,rfl⟩:=fL.same hma wH
 obtain ⟨rfl,rfl⟩:lo=0∧hi=1:=⟨congrArg Prod.fst e1,congrArg Prod.snd e1⟩
 clear hma e1;clear HMS;gi_upto_region 6 with fail
 obtain ⟨V13,hV⟩:∃ V,(W12.alloc (.cells #[.int .i64 0,.int .i64 1] 54))=V:=⟨_,rfl⟩
 rw [hV];have hb:=et hV;have hnew:=ez hV;have hge:=Ly.out.bel.size;replace Ly:=lyb Ly hb;replace Ly:=lh (Ly.out.add hge hnew);clear hnew hge hb hV
 obtain ⟨G14,hG⟩:∃ g,W12.heap.size=g:=⟨_,rfl⟩
 rw [hG] at Ly ⊢;clear hG;gi_wp2;refine ⟨trivial,(c_W (fH none 0 0 [] V13 (dO.none_ (w:=V13) (B:=V13.heap.size)) (by decide))).mono ?_⟩;rintro e W15 ⟨g1,g2,rfl,hg1,hg2,hms,hb⟩;replace Ly:=lyb Ly hb;clear hb;have HMS:=lh hms;clear hms hg1 hg2;gi_wp2;refine ⟨trivial,(c_W (vl (some ⟨g1,0,none⟩) 3 3 (some ⟨g2,0,none⟩) 5 5 none 0 0 (eJ []) 1 W15 HMS.out)).mono ?_⟩;rintro e W16 ⟨lo,hi,ed,rfl,hma,hb⟩;replace Ly:=lyb Ly hb;clear hb;obtain ⟨e1,rfl⟩:=iG.same hma xP
 obtain ⟨rfl,rfl⟩:lo=0∧hi=1:=⟨congrArg Prod.fst e1,congrArg Prod.snd e1⟩
 clear hma e1;clear HMS;gi_upto_region 7 with fail
 obtain ⟨V17,hV⟩:∃ V,(W16.alloc (.cells #[.int .i64 0,.int .i64 1] 54))=V:=⟨_,rfl⟩
 rw [hV];have hb:=et hV;have hnew:=ez hV;have hge:=Ly.out.bel.size;replace Ly:=lyb Ly hb;replace Ly:=lh (Ly.out.add hge hnew);clear hnew hge hb hV
 obtain ⟨G18,hG⟩:∃ g,W16.heap.size=g:=⟨_,rfl⟩
 rw [hG] at Ly ⊢;clear hG;gi_wp2;refine ⟨trivial,(c_W (fH none 0 0 [] V17 (dO.none_ (w:=V17) (B:=V17.heap.size)) (by decide))).mono ?_⟩;rintro e W19 ⟨g1,g2,rfl,hg1,hg2,hms,hb⟩;replace Ly:=lyb Ly hb;clear hb;have HMS:=lh hms;clear hms hg1 hg2;gi_wp2;refine ⟨trivial,(c_W (yI (some ⟨g1,0,none⟩) 3 3 (some ⟨g2,0,none⟩) 5 5 none 0 0 (eJ []) 3 5 1 2 W19 HMS.out ⟨by decide,by decide⟩)).mono ?_⟩;rintro e W20 ⟨mb,me,rfl,hma,hb⟩;replace Ly:=lyb Ly hb;clear hb;obtain ⟨rfl,rfl⟩:=og.same hma yU;clear hma;clear HMS;gi_wp2;refine ⟨trivial,(c_W (fH none 0 0 [] W20 (dO.none_ (w:=W20) (B:=W20.heap.size)) (by decide))).mono ?_⟩;rintro e W21 ⟨g1,g2,rfl,hg1,hg2,hms,hb⟩;replace Ly:=lyb Ly hb;clear hb;have HMS:=lh hms;clear hms hg1 hg2;gi_wp2;refine ⟨trivial,(c_W (tr (some ⟨g1,0,none⟩) 3 3 (some ⟨g2,0,none⟩) 5 5 none 0 0 (eJ []) 3 5 1 W21 HMS.out ⟨by decide,by decide⟩)).mono ?_⟩;rintro e W22 ⟨pl,pA,pn,pc,pe,rfl,hma,hpi,hp13,hb,hpx⟩;replace Ly:=lyb Ly hb;clear hb;obtain ⟨rfl,rfl⟩:=kc.same hma yq;have HIP:=lh hpi;have HIP9:=lh hp13;clear hma hpi hp13 hpx;clear HMS;gi_wp2;refine ⟨trivial,(c_W (fH none 0 0 [] W22 (dO.none_ (w:=W22) (B:=W22.heap.size)) (by decide))).mono ?_⟩;rintro e W23 ⟨g1,g2,rfl,hg1,hg2,hms,hb⟩;replace Ly:=lyb Ly hb;replace HIP:=lh ((HIP.out.below hb).more hb.size);clear hb;have HMS:=lh hms;clear hms hg1 hg2;gi_wp2;refine ⟨trivial,(c_W (qQ (some ⟨g1,0,none⟩) 3 3 (some ⟨g2,0,none⟩) 5 5 none 0 0 (eJ []) 3 5 1 W23 HMS.out ⟨by decide,by decide⟩)).mono ?_⟩;rintro e W24 ⟨wl,wA,wn,wc,we,rfl,hma,hpi,hp13,hb,hpx⟩;replace Ly:=lyb Ly hb;replace HIP:=lh ((HIP.out.below hb).more hb.size);clear hb;obtain ⟨rfl,rfl⟩:=iK.same hma ve;have HIW:=lh hpi;have HIW9:=lh hp13;clear hma hpi hp13 hpx;clear HMS;gi_upto_region 10 with fail
 refine wpIn_flow_old [([true,true,true,true,true,true,true,true,true,true,true,true],12),([false,false,false,false,false,false,false,false,false,false,false,false,false,true,true,true,true,true,true,true,true,true,true,true,true,true,true,true,true,true,true,true,true,true,true,true,true],37),([false,false,false,false,false,false,false,false,false,false,false,false,false,false,false,false,false,false,false,false,false,false,false,false,false,false,false,false,false,false,false,false,false,false,false,false,false,false,true,true,true,true,true,true,true,true],46),([false,false,false,false,false,false,false,false,false,false,false,false,false,false,false,false,false,false,false,false,false,false,false,false,false,false,false,false,false,false,false,false,false,false,false,false,false,false,false,false,false,false,false,false,false,false,false,true,true,true,true,true,true,true,true,true,true,true,true,true,true,true,true],63),([],64),([false,false,false,false,false,false,false,false,false,false,false,false,false,false,false,false,false,false,false,false,false,false,false,false,false,false,false,false,false,false,false,false,false,false,false,false,false,false,false,false,false,false,false,false,false,false,false,false,false,false,false,false,false,false,false,false,false,false,false,false,false,false,false,false,false,true,true,true,true,true,true,true,true],73),([],74)] [false,false,false,false,false,false,false,false,false,false,false,false,false,false,false,false,false,false,false,false,false,false,false,false,false,false,false,false,false,false,false,false,false,false,false,false,false,false,false,false,false,false,false,false,false,false,false,false,false,false,false,false,false,false,false,false,false,false,false,false,false,false,false,false,false,false,false,false,false,false,false,false,false,false,false,true,true] [] (by kernel_rfl) (by kernel_rfl) (by kernel_rfl) (av b_R 1) ?_;refine wpFlow_cons (A:=?AF1) rfl ?hq1 ?_
 case hq1 =>
  rintro σ hσ of hof hcl;have HOF:=lh hof;clear hof hcl;obtain ⟨c0_,c1_⟩:=lyz2 Ly HOF 0 rfl;obtain ⟨c2_,c3_⟩:=lyz2 Ly HOF 1 rfl;obtain ⟨c4_,c5_⟩:=lyz2 Ly HOF 2 rfl;have hfw:=hfT;have hs02:∀ z:World,(Op.equalIn 10000 54 (.agg #[.int .i64 0,.int .i64 2]) (.agg #[.int .i64 0,.int .i64 2])).run Tryz.prog z = .ok true z:=fun z=>eL 0 2 z;have hs01:∀ z:World,(Op.equalIn 10000 54 (.agg #[.int .i64 0,.int .i64 1]) (.agg #[.int .i64 0,.int .i64 1])).run Tryz.prog z = .ok true z:=fun z=>eL 0 1 z;simp only [List.append_eq,List.cons_append,List.nil_append,bu]
  repeat (gi_big_quiet_step (fail))
  refine wpQuietIn_nil ?_;exact rfl
 intro W25 hW;replace Ly:=lyb Ly hW;replace HIP:=lh ((HIP.out.below hW).more hW.size);replace HIW:=lh ((HIW.out.below hW).more hW.size);clear hW;gi_wp2;refine ⟨trivial,(c_W (ly 0 2 W25)).mono ?_⟩;rintro e W26 ⟨rfl,hb⟩;replace Ly:=lyb Ly hb;replace HIP:=lh ((HIP.out.below hb).more hb.size);replace HIW:=lh ((HIW.out.below hb).more hb.size);gi_wp2;refine ⟨trivial,hb,?_⟩;clear hb;refine wpFlow_cons (A:=?AF2) rfl ?hq2 ?_
 case hq2 =>
  rintro σ hσ of hof hcl;have HOF:=lh hof;clear hof hcl;obtain ⟨c0_,c1_⟩:=lyz2 Ly HOF 0 rfl;obtain ⟨c2_,c3_⟩:=lyz2 Ly HOF 1 rfl;obtain ⟨c4_,c5_⟩:=lyz2 Ly HOF 2 rfl;have hfw:=hfT;have hs02:∀ z:World,(Op.equalIn 10000 54 (.agg #[.int .i64 0,.int .i64 2]) (.agg #[.int .i64 0,.int .i64 2])).run Tryz.prog z = .ok true z:=fun z=>eL 0 2 z;have hs01:∀ z:World,(Op.equalIn 10000 54 (.agg #[.int .i64 0,.int .i64 1]) (.agg #[.int .i64 0,.int .i64 1])).run Tryz.prog z = .ok true z:=fun z=>eL 0 1 z;simp only [List.append_eq,List.cons_append,List.nil_append,bu]
  repeat (gi_big_quiet_step (fail))
  refine wpQuietIn_nil ?_;exact rfl
 intro W27 hW;replace Ly:=lyb Ly hW;replace HIP:=lh ((HIP.out.below hW).more hW.size);replace HIW:=lh ((HIW.out.below hW).more hW.size);clear hW;gi_wp2;refine ⟨trivial,(c_W (ly 0 1 W27)).mono ?_⟩;rintro e W28 ⟨rfl,hb⟩;replace Ly:=lyb Ly hb;replace HIP:=lh ((HIP.out.below hb).more hb.size);replace HIW:=lh ((HIW.out.below hb).more hb.size);gi_wp2;refine ⟨trivial,hb,?_⟩;clear hb;refine wpFlow_cons (A:=?AF3) rfl ?hq3 ?_
 case hq3 =>
  rintro σ hσ of hof hcl;have HOF:=lh hof;clear hof hcl;obtain ⟨c0_,c1_⟩:=lyz2 Ly HOF 0 rfl;obtain ⟨c2_,c3_⟩:=lyz2 Ly HOF 1 rfl;obtain ⟨c4_,c5_⟩:=lyz2 Ly HOF 2 rfl;have hfw:=hfT;have hs02:∀ z:World,(Op.equalIn 10000 54 (.agg #[.int .i64 0,.int .i64 2]) (.agg #[.int .i64 0,.int .i64 2])).run Tryz.prog z = .ok true z:=fun z=>eL 0 2 z;have hs01:∀ z:World,(Op.equalIn 10000 54 (.agg #[.int .i64 0,.int .i64 1]) (.agg #[.int .i64 0,.int .i64 1])).run Tryz.prog z = .ok true z:=fun z=>eL 0 1 z;simp only [List.append_eq,List.cons_append,List.nil_append,bu]
  repeat (gi_big_quiet_step (fail))
  refine wpQuietIn_nil ?_;exact rfl
 intro W29 hW;replace Ly:=lyb Ly hW;replace HIP:=lh ((HIP.out.below hW).more hW.size);replace HIW:=lh ((HIW.out.below hW).more hW.size);clear hW;gi_wp2;refine ⟨trivial,(c_W (ly 0 1 W29)).mono ?_⟩;rintro e W30 ⟨rfl,hb⟩;replace Ly:=lyb Ly hb;replace HIP:=lh ((HIP.out.below hb).more hb.size);replace HIW:=lh ((HIW.out.below hb).more hb.size);gi_wp2;refine ⟨trivial,hb,?_⟩;clear hb;refine wpFlow_cons (A:=?AF4) rfl ?hq4 ?_
 case hq4 =>
  rintro σ hσ of hof hcl;have HOF:=lh hof;clear hof hcl;obtain ⟨c0_,c1_⟩:=lyz2 Ly HOF 0 rfl;obtain ⟨c2_,c3_⟩:=lyz2 Ly HOF 1 rfl;obtain ⟨c4_,c5_⟩:=lyz2 Ly HOF 2 rfl;have hfw:=hfT;have hs02:∀ z:World,(Op.equalIn 10000 54 (.agg #[.int .i64 0,.int .i64 2]) (.agg #[.int .i64 0,.int .i64 2])).run Tryz.prog z = .ok true z:=fun z=>eL 0 2 z;have hs01:∀ z:World,(Op.equalIn 10000 54 (.agg #[.int .i64 0,.int .i64 1]) (.agg #[.int .i64 0,.int .i64 1])).run Tryz.prog z = .ok true z:=fun z=>eL 0 1 z;simp only [List.append_eq,List.cons_append,List.nil_append,bu]
  repeat (gi_big_quiet_step (fail))
  refine wpQuietIn_nil ?_;exact rfl
 intro W31 hW;replace Ly:=lyb Ly hW;replace HIP:=lh ((HIP.out.below hW).more hW.size);replace HIW:=lh ((HIW.out.below hW).more hW.size);clear hW;gi_wp2;refine ⟨trivial,b_R.alloc n_R _,?_⟩;have hb:Below W31.heap.size W31 (W31.alloc (.cells #[.int .i64 1,.int .i64 3,.int .i64 4] 3)):=b_R.alloc n_R _;replace Ly:=lyb Ly hb;replace HIP:=lh ((HIP.out.below hb).more hb.size);replace HIW:=lh ((HIW.out.below hb).more hb.size);have HPl:=lh (show du (W31.alloc (.cells #[.int .i64 1,.int .i64 3,.int .i64 4] 3)) (W31.alloc (.cells #[.int .i64 1,.int .i64 3,.int .i64 4] 3)).heap.size (some ⟨W31.heap.size,0,none⟩) 3 [1,3,4] from du.new W31 3 [1,3,4] _ (by simp))
 obtain ⟨P33,hP⟩:∃ P,W31.heap.size=P:=⟨_,rfl⟩
 rw [hP] at HPl ⊢;generalize (W31.alloc (.cells #[.int .i64 1,.int .i64 3,.int .i64 4] 3))=V32 at *;clear hb hP;refine wpFlow_cons rfl Quietly.none ?_;intro W34 hW;replace Ly:=lyb Ly hW;replace HIP:=lh ((HIP.out.below hW).more hW.size);replace HIW:=lh ((HIW.out.below hW).more hW.size);replace HPl:=lh ((HPl.out.below hW).more hW.size);clear hW;gi_wp2;refine ⟨trivial,(callsIn_wide.2 (jp pA pn pc [1,3,4] (some ⟨P33,0,none⟩) 3 3 [1,3,4] W34 (by have:=HIP9.out;unfold maxLen;omega) (by decide) HIP.out HPl.out)).mono ?_⟩;rintro e W35 ⟨rfl,hb⟩;replace Ly:=lyb Ly hb;replace HIP:=lh ((HIP.out.below hb).more hb.size);replace HIW:=lh ((HIW.out.below hb).more hb.size);replace HPl:=lh ((HPl.out.below hb).more hb.size);rw [show j0 [1,3,4] [1,3,4]=true from by decide];gi_wp2;refine ⟨trivial,hb,?_⟩;clear hb;clear HPl;refine wpFlow_cons (A:=?AF5) rfl ?hq5 ?_
 case hq5 =>
  rintro σ hσ of hof hcl;have HOF:=lh hof;clear hof hcl;obtain ⟨c0_,c1_⟩:=lyz2 Ly HOF 0 rfl;obtain ⟨c2_,c3_⟩:=lyz2 Ly HOF 1 rfl;obtain ⟨c4_,c5_⟩:=lyz2 Ly HOF 2 rfl;have hfw:=hfT;have hs02:∀ z:World,(Op.equalIn 10000 54 (.agg #[.int .i64 0,.int .i64 2]) (.agg #[.int .i64 0,.int .i64 2])).run Tryz.prog z = .ok true z:=fun z=>eL 0 2 z;have hs01:∀ z:World,(Op.equalIn 10000 54 (.agg #[.int .i64 0,.int .i64 1]) (.agg #[.int .i64 0,.int .i64 1])).run Tryz.prog z = .ok true z:=fun z=>eL 0 1 z;simp only [List.append_eq,List.cons_append,List.nil_append,bu]
  repeat (gi_big_quiet_step (fail))
  refine wpQuietIn_nil ?_;exact rfl
 intro W36 hW;replace Ly:=lyb Ly hW;replace HIP:=lh ((HIP.out.below hW).more hW.size);replace HIW:=lh ((HIW.out.below hW).more hW.size);clear hW;gi_wp2;refine ⟨trivial,b_R.alloc n_R _,?_⟩;have hb:Below W36.heap.size W36 (W36.alloc (.cells #[.int .i64 1] 3)):=b_R.alloc n_R _;replace Ly:=lyb Ly hb;replace HIP:=lh ((HIP.out.below hb).more hb.size);replace HIW:=lh ((HIW.out.below hb).more hb.size);have HPl:=lh (show du (W36.alloc (.cells #[.int .i64 1] 3)) (W36.alloc (.cells #[.int .i64 1] 3)).heap.size (some ⟨W36.heap.size,0,none⟩) 1 [1] from du.new W36 3 [1] _ (by simp))
 obtain ⟨P38,hP⟩:∃ P,W36.heap.size=P:=⟨_,rfl⟩
 rw [hP] at HPl ⊢;generalize (W36.alloc (.cells #[.int .i64 1] 3))=V37 at *;clear hb hP;refine wpFlow_cons rfl Quietly.none ?_;intro W39 hW;replace Ly:=lyb Ly hW;replace HIP:=lh ((HIP.out.below hW).more hW.size);replace HIW:=lh ((HIW.out.below hW).more hW.size);replace HPl:=lh ((HPl.out.below hW).more hW.size);clear hW;gi_wp2;refine ⟨trivial,(callsIn_wide.2 (jp wA wn wc [1] (some ⟨P38,0,none⟩) 1 1 [1] W39 (by have:=HIW9.out;unfold maxLen;omega) (by decide) HIW.out HPl.out)).mono ?_⟩;rintro e W40 ⟨rfl,hb⟩;replace Ly:=lyb Ly hb;replace HIP:=lh ((HIP.out.below hb).more hb.size);replace HIW:=lh ((HIW.out.below hb).more hb.size);replace HPl:=lh ((HPl.out.below hb).more hb.size);rw [show j0 [1] [1]=true from by decide];gi_wp2;refine ⟨trivial,hb,?_⟩;clear hb;clear HPl;refine wpFlow_nil (A:=?AF6) ?hq6 ?_
 case hq6 =>
  rintro σ hσ of hof hcl;have HOF:=lh hof;clear hof hcl;obtain ⟨c0_,c1_⟩:=lyz2 Ly HOF 0 rfl;obtain ⟨c2_,c3_⟩:=lyz2 Ly HOF 1 rfl;obtain ⟨c4_,c5_⟩:=lyz2 Ly HOF 2 rfl;have hfw:=hfT;have hs02:∀ z:World,(Op.equalIn 10000 54 (.agg #[.int .i64 0,.int .i64 2]) (.agg #[.int .i64 0,.int .i64 2])).run Tryz.prog z = .ok true z:=fun z=>eL 0 2 z;have hs01:∀ z:World,(Op.equalIn 10000 54 (.agg #[.int .i64 0,.int .i64 1]) (.agg #[.int .i64 0,.int .i64 1])).run Tryz.prog z = .ok true z:=fun z=>eL 0 1 z;simp only [List.append_eq,List.cons_append,List.nil_append,bu]
  repeat (gi_big_quiet_step (fail))
  refine wpQuietIn_nil ?_;exact rfl
 intro W41 hW;replace Ly:=lyb Ly hW;replace HIP:=lh ((HIP.out.below hW).more hW.size);replace HIW:=lh ((HIW.out.below hW).more hW.size);clear hW;simp only [List.append_eq,List.cons_append,List.nil_append,bu];refine dv ?_;gi_wp2;refine ⟨trivial,(c_W (fH none 0 0 [] W41 (dO.none_ (w:=W41) (B:=W41.heap.size)) (by decide))).mono ?_⟩;rintro e W42 ⟨g1,g2,rfl,hg1,hg2,hms,hb⟩;replace Ly:=lyb Ly hb;replace HIP:=lh ((HIP.out.below hb).more hb.size);replace HIW:=lh ((HIW.out.below hb).more hb.size);clear hb;have HMS:=lh hms;clear hms hg1 hg2;gi_wp2;refine ⟨trivial,(c_W (xV (some ⟨g1,0,none⟩) 3 3 (some ⟨g2,0,none⟩) 5 5 none 0 0 (eJ []) 3 1 1 1 W42 HMS.out)).mono ?_⟩;rintro e W43 ⟨k,ee,rfl,hma,hb⟩;replace Ly:=lyb Ly hb;replace HIP:=lh ((HIP.out.below hb).more hb.size);replace HIW:=lh ((HIW.out.below hb).more hb.size);clear hb;obtain ⟨rfl,rfl⟩:=mq.same hma xM;clear hma;clear HMS;gi_wp2;refine ⟨trivial,(c_W (pG 1 2 4 1 2 2 W43)).mono ?_⟩;rintro e W44 ⟨rfl,hb⟩;replace Ly:=lyb Ly hb;replace HIP:=lh ((HIP.out.below hb).more hb.size);replace HIW:=lh ((HIW.out.below hb).more hb.size);clear hb;gi_wp2;have hb:Below W44.heap.size W44 (W44.alloc (.cells #[.int .i64 1,.int .i64 2,.int .i64 4,.int .i64 1,.int .i64 2,.int .i64 2] 69)):=b_R.alloc n_R _;have HTS:=lh (gu W44 69 (k:=6) (n:=1) [.int .i64 1,.int .i64 2,.int .i64 4,.int .i64 1,.int .i64 2,.int .i64 2] rfl);change Hid (dO (W44.alloc (.cells #[.int .i64 1,.int .i64 2,.int .i64 4,.int .i64 1,.int .i64 2,.int .i64 2] 69)) (W44.alloc (.cells #[.int .i64 1,.int .i64 2,.int .i64 4,.int .i64 1,.int .i64 2,.int .i64 2] 69)).heap.size 6 (some ⟨W44.heap.size,0,none⟩) 1 ([alT1].flatMap Tast.vals)) at HTS
 obtain ⟨V0,hV⟩:∃ V,(W44.alloc (.cells #[.int .i64 1,.int .i64 2,.int .i64 4,.int .i64 1,.int .i64 2,.int .i64 2] 69))=V:=⟨_,rfl⟩
 rw [hV] at hb HTS ⊢
 obtain ⟨gt,hgt⟩:∃ g,W44.heap.size=g:=⟨_,rfl⟩
 rw [hgt] at HTS ⊢;replace Ly:=lyb Ly hb;replace HIP:=lh ((HIP.out.below hb).more hb.size);replace HIW:=lh ((HIW.out.below hb).more hb.size);clear hb hV hgt;refine ⟨trivial,(c_W (fH (some ⟨gt,0,none⟩) 1 1 [alT1] V0 HTS.out (by decide))).mono ?_⟩;rintro e W45 ⟨g1,g2,rfl,hg1,hg2,hms,hb⟩;replace Ly:=lyb Ly hb;replace HIP:=lh ((HIP.out.below hb).more hb.size);replace HIW:=lh ((HIW.out.below hb).more hb.size);clear hb;have HMS:=lh hms;clear hms hg1 hg2 HTS;gi_wp2;refine ⟨trivial,(c_W (pG 2 3 5 1 1 2 W45)).mono ?_⟩;rintro e W46 ⟨rfl,hb⟩;replace Ly:=lyb Ly hb;replace HIP:=lh ((HIP.out.below hb).more hb.size);replace HIW:=lh ((HIW.out.below hb).more hb.size);replace HMS:=lh (HMS.out.up hb);clear hb;gi_wp2;refine ⟨trivial,(c_W (yS (some ⟨g1,0,none⟩) 3 3 (some ⟨g2,0,none⟩) 5 5 (some ⟨gt,0,none⟩) 1 1 (eJ [alT1]) alT2 W46 HMS.out)).mono ?_⟩;rintro e W47 ⟨A1,n1,c1,A2,n2,c2,A3,n3,c3,rfl,hmo,hn3,hb⟩;replace Ly:=lyb Ly hb;replace HIP:=lh ((HIP.out.below hb).more hb.size);replace HIW:=lh ((HIW.out.below hb).more hb.size);replace HMS:=lh (HMS.out.up hb);clear hb;rw [yQ] at hmo ⊢;have HMO:=lh hmo;have HN3:=lh (oQ hmo (by kernel_rfl));clear hmo hn3;clear HMS;gi_upto_region 14 with fail
 obtain ⟨V48,hV⟩:∃ V,(W47.alloc (.cells #[.int .i64 (eJ [alT1,alT2]).fountains,.slice A1 n1 c1,.slice A2 n2 c2,.slice A3 n3 c3] 26))=V:=⟨_,rfl⟩
 rw [hV];have hb:=et hV;have hnew:=ez hV;have hge:=Ly.out.bel.size;replace Ly:=lyb Ly hb;replace HIP:=lh ((HIP.out.below hb).more hb.size);replace HIW:=lh ((HIW.out.below hb).more hb.size);replace HMO:=lh (HMO.out.below hb);replace Ly:=lh (Ly.out.add hge hnew);clear hnew hge hb hV
 obtain ⟨G49,hG⟩:∃ g,W47.heap.size=g:=⟨_,rfl⟩
 rw [hG] at Ly ⊢;clear hG;obtain ⟨x3_0,x3_1,x3_2,x3_3⟩:=lyc4 Ly 3 rfl;have l3_:=Ly.out.lt 3 rfl;gi_wp2;clear x3_0 x3_1 x3_2 x3_3 l3_;refine ⟨trivial,(c_W (uc A1 n1 c1 A2 n2 c2 A3 n3 c3 (eJ [alT1,alT2]) V48 (HMO.out.s HN3.out.1 HN3.out.2.1 HN3.out.2.2.1))).mono ?_⟩;rintro e W50 ⟨rl,rA,rn,rc,re,rfl,hma,hpi,hp3,hb,hpx⟩;replace Ly:=lyb Ly hb;replace HIP:=lh ((HIP.out.below hb).more hb.size);replace HIW:=lh ((HIW.out.below hb).more hb.size);replace HMO:=lh (HMO.out.below hb);clear hb;obtain ⟨rfl,rfl⟩:=jy.same hma xq;have HIR:=lh hpi;have HIR9:=lh hp3;clear hma hpi hp3 hpx;gi_wp2;have hb1:Below W50.heap.size W50 (W50.alloc (.cells #[.int .i64 1] 3)):=b_R.alloc n_R _;have HP1:=du.new W50 3 [1] (W50.alloc (.cells #[.int .i64 1] 3)).heap.size (by simp);refine ⟨trivial,(callsIn_wide.2 (jp rA rn rc [1] (some ⟨W50.heap.size,0,none⟩) 1 1 [1] _ (by have:=HIR9.out;unfold maxLen;omega) (by decide) ((HIR.out.below hb1).more hb1.size) HP1)).mono ?_⟩;rintro e W99 ⟨rfl,hb⟩;have hb9:=Ly.out.1.trans ((hb1.trans (hb.mono hb1.size)).mono Ly.out.1.size);clear hb hb1 HP1;rw [show j0 [1] [1]=true from by decide];gi_wp2;refine bodyPost_ret (v:=.bool true) (by simp [results,Tryz.results22,go_sem]) rfl ?_;exact ⟨rfl,hb9⟩
end
section
theorem rI {m:Mix}(h:dT m=true):(∀ v∈m.vessels,jh v=true)∧(∀ x∈m.tastes,eS m x=true)∧risB 0 (m.vessels.map (·.id))=true∧risB 0 (m.tastes.map (·.num))=true:=by
 unfold dT at h;simp only [Bool.and_eq_true,decide_eq_true_eq] at h;obtain ⟨⟨⟨⟨⟨⟨h1,h2⟩,h5⟩,h6⟩,h7⟩,h8⟩,h9⟩:=h;exact ⟨List.all_eq_true.1 h5,List.all_eq_true.1 h6,h8,h9⟩
section
variable {m x:Mix} {v t f g n:Int} {T:Tast} {s s' c d:Int × Int} {e h i j k:Int}
end
end
section
open Go.RowKit
def mw (nv na nt:Nat)(m:Mix):Bool:=!gG nv na nt && dT m
theorem rS {nv na nt:Nat}{m:Mix}(h:mw nv na nt m=true):gG nv na nt=false∧dT m=true:=by unfold mw at h;simpa using h
theorem xt (Av:Option Addr)(nv cv:Nat)(Aa:Option Addr)(na ca:Nat)(At:Option Addr)(nt ct:Nat)(m:Mix)(w:World)(h:eQ w w.heap.size Av nv Aa na At nt m) :
  CallsIn Fence.wide 9 Tryz.prog 23 #[.agg #[.int .i64 m.fountains,.slice Av nv cv,.slice Aa na ca,.slice At nt ct]] w (fun e w'=>e = .returned (.bool (mw nv na nt m))∧Below w.heap.size w w'):=by
 have HM:=lh h;clear h;refine callsIn_of_wp Tryz.func23 rfl trivial ?_ rfl;simp only [Tryz.ntmps23,es,Nat.reduceAdd,Nat.reduceSub];gi_upto_region 1 with fail
 have Ly:=lh (Lay.one w 26 #[.int .i64 m.fountains,.slice Av nv cv,.slice Aa na ca,.slice At nt ct]);generalize (w.alloc (.cells #[.int .i64 m.fountains,.slice Av nv cv,.slice Aa na ca,.slice At nt ct] 26))=w0 at *;obtain ⟨x0_0,x0_1,x0_2,x0_3⟩:=lyc4 Ly 0 rfl;have l0_:=Ly.out.lt 0 rfl;gi_wp2;clear x0_0 x0_1 x0_2 x0_3 l0_;refine ⟨trivial,(callsIn_wide.2 (t5 m.fountains Av nv cv Aa na ca At nt ct w0)).mono ?_⟩;rintro e W1 ⟨rfl,hb⟩;replace Ly:=lyb Ly hb;clear hb
 cases hg:gG nv na nt with
 | true =>
  gi_wp2;refine ⟨trivial,?_⟩;gi_wp2;refine bodyPost_ret (v:=.bool false) (by simp [results,Tryz.results23,go_sem]) rfl ?_;exact ⟨by unfold mw;rw [hg];rfl,Ly.out.1⟩
 | false =>
  have hsm:=qj hg
  have hsx:MixS w Av nv Aa na At nt m:=⟨HM.out,by omega,by omega,by omega⟩
  have HS:=lh hsx;have HG:=lh hg;clear hsm hsx hg;obtain ⟨x0_0,x0_1,x0_2,x0_3⟩:=lyc4 Ly 0 rfl;have l0_:=Ly.out.lt 0 rfl;gi_wp2;clear x0_0 x0_1 x0_2 x0_3 l0_;refine ⟨trivial,(callsIn_wide.2 (vJ Av nv cv Aa na ca At nt ct m W1 (HS.out.up Ly.out.1))).mono ?_⟩;rintro e W2 ⟨rfl,hb⟩;replace Ly:=lyb Ly hb;clear hb;gi_wp2;refine bodyPost_ret (v:=.bool (dT m)) (by simp [results,Tryz.results23,go_sem]) rfl ?_;exact ⟨by unfold mw;rw [HG.out];rfl,Ly.out.1⟩
end
section
set_option linter.unusedSectionVars false
abbrev jJ:=List (List Int)
def hpAt (H:jJ)(i:Int):List Int:=(H[i.toNat]?).getD []
def rF (H:jJ)(fr to:Int)(left drops:List Int):jJ :=
 let H1:=if 0≤fr then H.set fr.toNat left else H
 if 0≤to then H1.set to.toNat (hpAt H1 to++drops) else H1
def SentP (m:Mix)(x:MAct)(H:jJ)(drops:List Int)(H':jJ):Prop :=
 ∃ left,(x.kind=1→drops=List.replicate x.drops.toNat x.fr)∧(x.kind≠1→(drops++left).Perm (hpAt H (cu m x)))∧(x.kind=4→left=[])∧(x.kind≠4→drops.length=x.drops.toNat)∧H'=rF H (cu m x) (toI m x) left drops
structure Went (m:Mix)(n:Nat)(H:Nat→jJ)(Dr:Nat→List Int):Prop where
 zero:H 0=[[],[],[],[]]
 step:∀ {t:Nat} {x:MAct},t<n→m.acts[t]? =some x→SentP m x (H t) (Dr t) (H (t+1))
section
variable {m:Mix} {A:List Held} {f:Int} {H:Nat→jJ} {Dr:Nat→List Int} {n:Nat}
theorem vI (H:jJ)(fr to:Int)(l d:List Int):(rF H fr to l d).length=H.length:=by
 unfold rF;dsimp only
 split<;>split<;>simp
theorem kd {H:jJ}{i j:Int}{l:List Int}(hi:0≤i)(hj:0≤j)(hl:i<H.length):hpAt (H.set i.toNat l) j=if j=i then l else hpAt H j:=by
 unfold hpAt;rw [List.getElem?_set];by_cases e:j=i
 ·subst e
  rw [if_pos rfl,if_pos rfl,if_pos (by omega)];rfl
 ·rw [if_neg (by omega),if_neg e]
theorem td {H:jJ}{fr to:Int}{l d:List Int}(hH:H.length=4)(hf:fr<4)(ht:to<4)(hne:fr≠to∨fr<0){i:Nat}(hi:i<4) :
  hpAt (rF H fr to l d) i=if (i:Int)=fr then l else if (i:Int)=to then hpAt H i++d else hpAt H i:=by
 unfold rF;dsimp only;by_cases h1:0≤fr
 ·rw [if_pos h1]
  have hne':to≠fr:=by omega
  by_cases h2:0≤to
  ·rw [if_pos h2,kd h2 (by omega) (by rw [List.length_set];omega),kd h1 h2 (by omega),kd h1 (by omega) (by omega),if_neg hne']
   by_cases p:(i:Int)=to
   ·rw [if_pos p,if_neg (by omega),if_pos p,p]
   ·rw [if_neg p]
    by_cases q:(i:Int)=fr
    ·rw [if_pos q,if_pos q]
    ·rw [if_neg q,if_neg q,if_neg p]
  ·rw [if_neg h2,kd h1 (by omega) (by omega)]
   by_cases q:(i:Int)=fr
   ·rw [if_pos q,if_pos q]
   ·rw [if_neg q,if_neg q,if_neg (by omega)]
 ·rw [if_neg h1]
  by_cases h2:0≤to
  ·rw [if_pos h2,kd h2 (by omega) (by omega)]
   by_cases p:(i:Int)=to
   ·rw [if_pos p,if_neg (by omega),if_pos p,p]
   ·rw [if_neg p,if_neg (by omega),if_neg p]
  ·rw [if_neg h2,if_neg (by omega),if_neg (by omega)]
theorem kZ {all:Held}{x:MAct}(h:rx m all x):cu m x≠toI m x∨cu m x<0:=by
 unfold cu toI;by_cases e1:x.kind=1
 ·right;rw [if_pos e1];decide
 ·by_cases e2:x.kind=2
  ·left
   have:=h.apart e2;simp only [e2];simpa using this
  ·left
   have:=h.from_ e1;rw [if_neg e1,if_neg (by omega)];omega
theorem Went.len (h:Went m n H Dr)(hn:n≤m.acts.length):∀ {t:Nat},t≤n→(H t).length=4
 | 0,_=>by rw [h.zero];rfl
 | t+1,ht=>by
  have hx:m.acts[t]? =some (m.acts[t]'(by omega)):=List.getElem?_eq_getElem (by omega);obtain ⟨left,_,_,_,_,e⟩:=h.step (by omega) hx;rw [e,vI];exact h.len hn (by omega)
theorem Went.holds (hA:allM m m.acts=some A)(hv:m.vessels.length≤4)(h:Went m n H Dr)(hn:n≤m.acts.length):∀ {t:Nat} {a:Held} {i:Nat},t≤n→A[t]? =some a→i<4→((hpAt (H t) i).length:Int)=au a i
 | 0,a,i,_,ha,hi=>by
  rw [kD hA] at ha;cases ha;rw [h.zero]
  match i,hi with
  | 0,_=>rfl
  | 1,_=>rfl
  | 2,_=>rfl
  | 3,_=>rfl
 | t+1,a',i,ht,ha,hi=>by
  have hl:=fw m m.acts A hA;have hx:m.acts[t]? =some (m.acts[t]'(by omega)):=List.getElem?_eq_getElem (by omega);have h0:A[t]? =some (A[t]'(by omega)):=List.getElem?_eq_getElem (by omega);obtain ⟨hok,hnext⟩:=iq hA hv hx h0;rw [ha] at hnext;have e:=Option.some.inj hnext;rw [e,km hv _ (px hA hv h0) _ hi];have hih:=fun (j:Nat) (hj:j<4)=>h.holds hA hv hn (i:=j) (Nat.le_of_succ_le ht) h0 hj;obtain ⟨left,k1,k2,k3,k4,k5⟩:=h.step (by omega) hx;rw [k5,td (h.len hn (by omega)) (eG hv _) (gp hv _) (kZ hok) hi];generalize m.acts[t]'(by omega)=x at *;have hsz:=hok.size;by_cases e1:x.kind=1
  ·have hd:=k1 e1
   have hf:cu m x = -1:=by unfold cu;rw [if_pos e1]
   have hs:dZ m (A[t]'(by omega)) x=x.drops:=by unfold dZ;rw [if_neg (by omega)]
   have h1:=hsz.1 e1;rw [hf,hs,if_neg (by omega)];have h2:=hih i hi;have h3:(Dr t).length=x.drops.toNat:=by rw [hd];simp
   by_cases p:(i:Int)=toI m x
   ·rw [if_pos p,if_pos p.symm,if_neg (by omega),List.length_append]
    omega
   ·rw [if_neg p,if_neg (fun q=>p q.symm),if_neg (by omega)]
    omega
  ·have hp:=(k2 e1).length_eq
   rw [List.length_append] at hp;have hf0:0≤cu m x:=by unfold cu;rw [if_neg e1];exact hok.from_ e1
   have hf4:=eG hv x;have hfi:cu m x=((cu m x).toNat:Int):=by omega
   have h4:=hih (cu m x).toNat (by omega);rw [← hfi] at h4;have h2:=hih i hi
   have hsd:((Dr t).length:Int)=dZ m (A[t]'(by omega)) x:=by
    unfold dZ;by_cases e4:x.kind=4
    ·rw [if_pos e4,← h4]
     rw [k3 e4] at hp;simp at hp;omega
    ·rw [if_neg e4,k4 e4]
     have:=hsz.2 (by have:=hok.kind;omega);omega
   have hap:=kZ hok;by_cases q:(i:Int)=cu m x
   ·rw [if_pos q,if_neg (by omega),if_pos q.symm]
    rw [← q] at h4 hp;omega
   ·rw [if_neg q]
    by_cases p:(i:Int)=toI m x
    ·rw [if_pos p,if_pos p.symm,if_neg (fun r=>q r.symm),List.length_append]
     omega
    ·rw [if_neg p,if_neg (fun r=>p r.symm),if_neg (fun r=>q r.symm)]
     omega
def cntH (f:Int)(H:jJ):Held:=H.map fun l=>(l.count f:Int)
theorem pP (f:Int)(H:jJ)(i:Int):au (cntH f H) i=((hpAt H i).count f:Int):=by
 unfold au cntH hpAt;rw [List.getElem?_map];cases H[i.toNat]?<;>rfl
theorem ua (f g:Int)(k:Nat):(List.replicate k g).count f=if g=f then k else 0:=by
 rw [List.count_replicate];by_cases e:g=f<;>simp [e]
theorem Went.run (hA:allM m m.acts=some A)(hv:m.vessels.length≤4)(h:Went m m.acts.length H Dr)(ht:∀ {t:Nat},t≤m.acts.length→eO m f t (cntH f (H t))=true) :
  Run m f A (fun t=>cntH f (H t)) (fun t=>((Dr t).count f:Int)):=by
 refine ⟨by show cntH f (H 0)=ev;rw [h.zero];rfl,?_,ht⟩;intro t x all hx ha;have htl:=(g_E hx).1;obtain ⟨hok,hnext⟩:=iq hA hv hx ha;obtain ⟨left,k1,k2,k3,k4,k5⟩:=h.step htl hx;have hl4:=h.len n_R (Nat.le_of_lt htl);have hl5:(cntH f (H t)).length=4:=by unfold cntH;rw [List.length_map];exact hl4
 have hap:=kZ hok
 have hs3:cntH f (H (t+1))=dQ (cntH f (H t)) (cu m x) (toI m x) ((Dr t).count f:Int):=by
  refine vd (by unfold cntH;rw [List.length_map];exact h.len n_R htl) (by rw [pk];exact hl5) fun i hi=>?_;rw [km hv x hl5 _ hi,pP,pP,k5,td hl4 (eG hv _) (gp hv _) hap hi];by_cases e1:x.kind=1
  ·have hf:cu m x = -1:=by unfold cu;rw [if_pos e1]
   rw [hf,if_neg (by omega),if_neg (show ¬ ((-1:Int)=(i:Int)) by omega)];by_cases p:(i:Int)=toI m x
   ·rw [if_pos p,if_pos p.symm,List.count_append];omega
   ·rw [if_neg p,if_neg (fun q=>p q.symm)];omega
  ·have hp:=(k2 e1).count_eq f
   rw [List.count_append] at hp;by_cases q:(i:Int)=cu m x
   ·rw [if_pos q,if_neg (by omega),if_pos q.symm]
    rw [← q] at hp;omega
   ·rw [if_neg q]
    by_cases p:(i:Int)=toI m x
    ·rw [if_pos p,if_pos p.symm,if_neg (fun r=>q r.symm),List.count_append];omega
    ·rw [if_neg p,if_neg (fun r=>p r.symm),if_neg (fun r=>q r.symm)];omega
 have hbd:(eB m x f all (cntH f (H t))).1≤((Dr t).count f:Int)∧((Dr t).count f:Int)≤(eB m x f all (cntH f (H t))).2:=by
  have hcl:(Dr t).count f≤(Dr t).length:=List.count_le_length;unfold eB;by_cases e1:x.kind=1
  ·have hf:cu m x = -1:=by unfold cu;rw [if_pos e1]
   have hs:dZ m all x=x.drops:=by unfold dZ;rw [if_neg (by omega)]
   have h1:=hok.size.1 e1;rw [hf,if_neg (by omega),hs,k1 e1,ua];by_cases e:x.fr=f
   ·rw [if_pos e,if_pos e];dsimp only;omega
   ·rw [if_neg e,if_neg e];dsimp only;omega
  ·have hf0:0≤cu m x:=by unfold cu;rw [if_neg e1];exact hok.from_ e1
   have hf4:=eG hv x;have hfi:cu m x=((cu m x).toNat:Int):=by omega
   have hp:=(k2 e1).count_eq f;rw [List.count_append] at hp;have hp':=(k2 e1).length_eq;rw [List.length_append] at hp';have h4:=h.holds hA hv n_R (Nat.le_of_lt htl) ha (i:=(cu m x).toNat) (by omega);rw [← hfi] at h4;have hcl2:left.count f≤left.length:=List.count_le_length
   have hsd:((Dr t).length:Int)=dZ m all x:=by
    unfold dZ;by_cases e4:x.kind=4
    ·rw [if_pos e4,← h4]
     rw [k3 e4] at hp';simp at hp';omega
    ·rw [if_neg e4,k4 e4]
     have:=hok.size.2 (by have:=hok.kind;omega);omega
   rw [if_pos hf0,pP];dsimp only;omega
 exact ⟨hbd.1,hbd.2,hs3⟩
end
end
section
set_option linter.unusedSectionVars false
theorem xS {m:Mix}(h:dT m=true){i:Nat}{v:Vess}(hi:m.vessels[i]? =some v):idxV m.vessels v.id=(i:Int):=by
 have hp:=(gJ (rI h).2.2.1).1
 have h0:0≤idxV m.vessels v.id:=by
  unfold idxV;rw [if_pos (List.any_eq_true.2 ⟨v,List.mem_of_getElem? hi,by simp⟩)];omega
 obtain ⟨u,h1,h2⟩:=nG h0;obtain ⟨l1,l2⟩:=g_E h1;obtain ⟨l3,l4⟩:=g_E hi;have e1:(m.vessels.map (·.id))[(idxV m.vessels v.id).toNat]'(by simpa using l1)=u.id:=by simp [l2]
 have e2:(m.vessels.map (·.id))[i]'(by simpa using l3)=v.id:=by simp [l4]
 rw [List.pairwise_iff_getElem] at hp;rcases Nat.lt_trichotomy (idxV m.vessels v.id).toNat i with h | h | h
 ·have:=hp _ _ (by simpa using l1) (by simpa using l3) h
  rw [e1,e2] at this;omega
 ·omega
 ·have:=hp _ _ (by simpa using l3) (by simpa using l1) h
  rw [e1,e2] at this;omega
section
variable {m:Mix} {A:List Held} {f:Int}
end
section
variable {m:Mix} {A:List Held} {f:Int}
end
end
section
set_option linter.unusedSectionVars false
section
variable {m:Mix} {A:List Held} {f:Int}
def j3 (m:Mix)(f:Int)(l:List Int)(t:Nat)(x:MAct)(all:Held)(q:Int × Nat):Option (Int × Nat) :=
 if q.2<l.length∧l[q.2]? =some ((t:Int)+1) then
  (if (q.2=0∧x.kind=1∧x.fr=f)∨(q.2≠0∧x.kind=2∧idxV m.vessels x.fr=q.1) then some (idxV m.vessels x.to,q.2+1) else none)
 else if 0≤q.1∧x.kind≠1∧idxV m.vessels x.fr=q.1∧(x.kind=4∨x.drops=au all q.1) then none else some q
def ia (m:Mix)(A:List Held)(f:Int)(l:List Int):Nat→Option (Int × Nat)
 | 0=>some (-1,0)
 | t+1=>match m.acts[t]?,A[t]? with
  | some x,some all=>(ia m A f l t).bind (j3 m f l t x all)
  | _,_=>none
def eM (m:Mix)(A:List Held)(f:Int)(t:Nat)(v:Int)(l:List Int):Bool :=
 !l.isEmpty && decide (1≤l.head?.getD 0) && decide (l.getLast?.getD 0≤(t:Int)) && decide (ia m A f l t=some (v,l.length))
theorem pC {x:MAct}{all:Held}{v:Int}(h0:0≤v):(cu m x≠v∨dZ m all x≠au all v)↔¬ (0≤v∧x.kind≠1∧idxV m.vessels x.fr=v∧(x.kind=4∨x.drops=au all v)):=by
 unfold cu dZ;by_cases e1:x.kind=1
 ·simp only [e1];simp;omega
 ·simp only [if_neg e1]
  by_cases e4:x.kind=4
  ·simp only [if_pos e4]
   constructor
   ·rintro (h | h) ⟨_,_,h2,_⟩
    ·exact h h2
    ·apply h;unfold cu;rw [if_neg e1,h2]
   ·intro h
    by_cases h2:idxV m.vessels x.fr=v
    ·exact absurd ⟨h0,e1,h2,.inl e4⟩ h
    ·exact .inl h2
  ·simp only [if_neg e4]
   constructor
   ·rintro (h | h) ⟨_,_,h2,h3⟩
    ·exact h h2
    ·rcases h3 with h3 | h3
     ·exact e4 h3
     ·exact h h3
   ·intro h
    by_cases h2:idxV m.vessels x.fr=v
    ·by_cases h3:x.drops=au all v
     ·exact absurd ⟨h0,e1,h2,.inr h3⟩ h
     ·exact .inr h3
    ·exact .inl h2
theorem gM {l:List Int}{t:Nat}{x:MAct}{all:Held}(hx:m.acts[t]? =some x)(ha:A[t]? =some all):ia m A f l (t+1)=(ia m A f l t).bind (j3 m f l t x all):=by
 rw [ia,hx,ha]
theorem mI (hA:allM m m.acts=some A)(hv:m.vessels.length≤4){l:List Int}:∀ {t:Nat} {v:Int} {p:Nat},t≤m.acts.length→ia m A f l t=some (v,p)→(p=0∧v = -1)∨(0<p∧p≤l.length∧0≤v∧eK m A f t v (l.take p))
 | 0,v,p,_,h=>by cases h;exact .inl ⟨rfl,rfl⟩
 | t+1,v,p,ht,h=>by
  obtain ⟨x,hx⟩:∃ x,m.acts[t]? =some x:=⟨_,List.getElem?_eq_getElem (by omega)⟩
  obtain ⟨all,_,ha,_,_⟩:=eU hA hx;have hok:=(iq hA hv hx ha).1;rw [gM hx ha] at h
  cases hq:ia m A f l t with
  | none=>rw [hq] at h;cases h
  | some q =>
   obtain ⟨v0,p0⟩:=q;rw [hq] at h;have ih:=mI hA hv (by omega) hq;simp only [Option.bind_some,j3] at h;by_cases hl:p0<l.length∧l[p0]? =some ((t:Int)+1)
   ·rw [if_pos hl] at h
    have htk:l.take (p0+1)=l.take p0++[(t:Int)+1]:=by
     obtain ⟨h1,h2⟩:=g_E hl.2;rw [List.take_succ_eq_append_getElem h1,h2]
    split at h
    ·rename_i hc
     cases h;rw [htk]
     rcases hc with ⟨h0,hk,hf⟩ | ⟨h0,hk,hf⟩
     ·subst h0
      exact .inr ⟨by omega,hl.1,hok.to_ (.inl hk),by simpa using eK.enter hx hk hf⟩
     ·rcases ih with ⟨h,_⟩ | ⟨_,_,_,hw⟩
      ·exact absurd h h0
      ·exact .inr ⟨by omega,hl.1,hok.to_ (.inr hk),.pour hw hx hk hf⟩
    ·cases h
   ·rw [if_neg hl] at h
    split at h
    ·cases h
    ·rename_i hc
     cases h
     rcases ih with h | ⟨h1,h2,h3,hw⟩
     ·exact .inl h
     ·exact .inr ⟨h1,h2,h3,.stay hw hx ha ((pC h3).2 hc)⟩
theorem mD (hA:allM m m.acts=some A){l:List Int}:∀ {t:Nat},t≤m.acts.length→(∀ n∈l,(t:Int)<n)→ia m A f l t=some (-1,0)
 | 0,_,_=>rfl
 | t+1,ht,h=>by
  obtain ⟨x,hx⟩:∃ x,m.acts[t]? =some x:=⟨_,List.getElem?_eq_getElem (by omega)⟩
  obtain ⟨all,_,ha,_,_⟩:=eU hA hx;rw [gM hx ha,mD hA (by omega) fun n hn=>by have:=h n hn;omega];simp only [Option.bind_some,j3];rw [if_neg,if_neg]
  ·intro h;have:=h.1;omega
  ·rintro ⟨_,h2⟩
   have:=h _ (List.mem_of_getElem? h2);omega
theorem sU (hA:allM m m.acts=some A)(hv:m.vessels.length≤4){l:List Int}:∀ {t:Nat} {v:Int} {w:List Int},eK m A f t v w→t≤m.acts.length→w <+: l→(∀ n∈l.drop w.length,(t:Int)<n)→ia m A f l t=some (v,w.length):=by
 intro t v w h
 induction h with
 | @enter t x hx hk hf =>
  intro ht hp hl;obtain ⟨all,_,ha,_,_⟩:=eU hA hx;obtain ⟨r,rfl⟩:=hp
  rw [gM hx ha,mD hA (by omega) fun n hn=>by
   rcases List.mem_append.1 hn with hn | hn
   ·simp at hn;omega
   ·have:=hl n (by simpa using hn);omega]
  simp only [Option.bind_some,j3];rw [if_pos ⟨by simp,by simp⟩,if_pos (.inl ⟨by first | rfl | trivial,hk,hf⟩)];rfl
 | @pour t x v l' h hx hk hf ih =>
  intro ht hp hl;obtain ⟨all,_,ha,_,_⟩:=eU hA hx;obtain ⟨r,rfl⟩:=hp
  rw [gM hx ha,ih (by omega) ⟨[(t:Int)+1]++r,by simp⟩ fun n hn=>by
   rw [List.append_assoc,List.drop_left] at hn;rcases List.mem_append.1 hn with hn | hn
   ·simp at hn;omega
   ·have:=hl n (by simpa using hn);omega]
  simp only [Option.bind_some,j3];have hne:=h.ne;have h0:l'.length≠0:=fun e=>hne (List.length_eq_zero_iff.1 e);rw [if_pos ⟨by simp,by simp⟩,if_pos (.inr ⟨h0,hk,hf⟩)];simp
 | @stay t x v w all h hx ha hs ih =>
  intro ht hp hl
  have hv0:0≤v:=by
   have key:∀ {t:Nat} {v:Int} {w:List Int},eK m A f t v w→0≤v:=by
    intro t v w h
    induction h with
    | enter hx hk hf =>
     obtain ⟨all,_,ha,_,_⟩:=eU hA hx;exact (iq hA hv hx ha).1.to_ (.inl hk)
    | pour _ hx hk _ _ =>
     obtain ⟨all,_,ha,_,_⟩:=eU hA hx;exact (iq hA hv hx ha).1.to_ (.inr hk)
    | stay _ _ _ _ ih=>exact ih
   exact key h
  rw [gM hx ha,ih (by omega) hp fun n hn=>by have:=hl n hn;omega];simp only [Option.bind_some,j3];rw [if_neg,if_neg ((pC hv0).1 hs)];rintro ⟨h1,h2⟩
  have:((t:Int)+1)∈l.drop w.length:=by
   obtain ⟨h3,h4⟩:=g_E h2;rw [List.mem_iff_getElem];exact ⟨0,by simp;omega,by simp [h4]⟩
  have:=hl _ this;omega
theorem kS (hA:allM m m.acts=some A)(hv:m.vessels.length≤4){l:List Int}{t:Nat}{v:Int}(ht:t≤m.acts.length):eM m A f t v l=true↔eK m A f t v l:=by
 unfold eM;simp only [Bool.and_eq_true,decide_eq_true_eq,Bool.not_eq_true',List.isEmpty_eq_false_iff];constructor
 ·rintro ⟨⟨⟨h1,_⟩,_⟩,h4⟩
  rcases mI hA hv ht h4 with ⟨h5,_⟩ | ⟨_,_,_,h5⟩
  ·exact absurd (List.length_eq_zero_iff.1 h5) h1
  ·rwa [List.take_length] at h5
 ·intro h
  have h4:=sU hA hv h ht (List.prefix_refl l) (fun n hn=>by simp at hn);refine ⟨⟨⟨h.ne,?_⟩,?_⟩,h4⟩
  ·cases l with
   | nil=>exact absurd rfl h.ne
   | cons n r=>exact (h.le n (by simp)).1
  ·rw [List.getLast?_eq_some_getLast h.ne]
   exact (h.le _ (List.getLast_mem h.ne)).2
end
section
variable {m:Mix} {A:List Held} {f:Int}
end
section
variable {m:Mix} {v t f e g:Int} {l path:List Int} {s:Int × Int}
theorem lO {P:List Held→List Int→Prop}{A:List Held}(hok:dT m=true)(hA:allM m m.acts=some A)(hv:0≤idxV m.vessels v)(ht:0≤t∧t≤m.acts.length)(hf:1≤f∧f≤m.fountains)(h:ie m v t f P l e) :
  ((∀ k,¬ eK m A f t.toNat (idxV m.vessels v) k)∧l=[]∧e=6)∨((∃ k,eK m A f t.toNat (idxV m.vessels v) k)∧e=0∧eZ (P A) l):=by
 have h0:askM m v t [f]=0:=by unfold askM;rw [if_pos hok,if_neg (by omega),if_pos ⟨ht,by simpa using hf⟩]
 rcases h with ⟨h1,_⟩ | ⟨_,A',hA',h⟩
 ·exact absurd h0 h1
 ·rw [hA] at hA'
  cases hA';exact h
theorem sc {a b:List Int}(h:cmpS b a≤0):¬ cmpS a b<0:=fun h2=>by
 have:=kM h (by omega);subst this;rw [ku] at h2;omega
theorem uI {A:List Held}{t:Nat}{v:Int}{w:List Int}(h:eK m A f t v w):∀ n∈w,∃ (k:Nat) (x:MAct),n=(k:Int)+1∧m.acts[k]? =some x∧(x.kind=1∨x.kind=2):=by
 induction h with
 | @enter t x hx hk hf=>intro n hn;exact ⟨t,x,by simpa using hn,hx,.inl hk⟩
 | @pour t x v l h hx hk hf ih =>
  intro n hn;rcases List.mem_append.1 hn with hn | hn
  ·exact ih n hn
  ·exact ⟨t,x,by simpa using hn,hx,.inr hk⟩
 | stay _ _ _ _ ih=>exact ih
theorem uq {A:List Held}(hok:dT m=true)(hA:allM m m.acts=some A)(hv:0≤idxV m.vessels v)(ht:0≤t∧t≤m.acts.length)(hf:1≤f∧f≤m.fountains)(h1:iK m v t f l e)(h2:kc m v t f path g) :
  e=g∧(e=0∨(e=6∧l=[]))∧(e=0→UpTo t.toNat l∧(∀ n∈l,∃ (k:Nat) (x:MAct),n=(k:Int)+1∧m.acts[k]? =some x∧(x.kind=1∨x.kind=2))∧(∀ w,eK m A f t.toNat (idxV m.vessels v) w→∃ n∈w,n∈l) ∧
   (∀ n∈l,∃ w,eK m A f t.toNat (idxV m.vessels v) w∧n∈w∧∀ k∈w,k∈l→k=n)∧(∃ n∈path,n∈l)∧∀ o,UpTo t.toNat o→cmpS o l<0→∃ w,eK m A f t.toNat (idxV m.vessels v) w∧∀ n∈w,n∉o):=by
 rcases lO hok hA hv ht hf h1 with ⟨c1,c2,c3⟩ | ⟨c1,c2,c3⟩<;>rcases lO hok hA hv ht hf h2 with ⟨d1,d2,d3⟩ | ⟨d1,d2,d3⟩
 ·exact ⟨by omega,.inr ⟨c3,c2⟩,fun h=>by omega⟩
 ·obtain ⟨k,hk⟩:=d1;exact absurd hk (c1 k)
 ·obtain ⟨k,hk⟩:=c1;exact absurd hk (d1 k)
 ·refine ⟨by omega,.inl c2,fun _=>?_⟩
  obtain ⟨⟨p1,p2⟩,p3⟩:=c3
  have alone:∀ n∈l,∃ w,eK m A f t.toNat (idxV m.vessels v) w∧n∈w∧∀ k∈w,k∈l→k=n:=by
   intro n hn;refine Classical.byContradiction fun hno=>?_
   have hall:∀ w,eK m A f t.toNat (idxV m.vessels v) w→∃ k∈w,k∈l.filter (fun k=>decide (k≠n)):=by
    intro w hw;obtain ⟨k,hk,hkl⟩:=p2 w hw;refine Classical.byContradiction fun h=>?_;have hkn:∀ k∈w,k∈l→k=n:=fun k hk hkl=>Classical.byContradiction fun e=>h ⟨k,hk,List.mem_filter.2 ⟨hkl,by simpa using e⟩⟩;exact hno ⟨w,hw,by rw [← hkn k hk hkl];exact hk,hkn⟩
   have hc:=p3 _ ⟨⟨p1.1.sublist List.filter_sublist,fun k hk=>p1.2 k (List.mem_filter.1 hk).1⟩,hall⟩
   have hlt:(l.filter (fun k=>decide (k≠n))).length<l.length:=by
    refine Nat.lt_of_le_of_ne (List.length_filter_le _ _) fun e=>?_;have:=List.length_filter_eq_length_iff.1 e n hn;simp at this
   unfold cmpS at hc;rw [if_neg (by omega),if_pos hlt] at hc;omega
  refine ⟨p1,fun n hn=>?_,p2,alone,p2 path d3.1,fun o ho hc=>?_⟩
  ·obtain ⟨w,hw,hnw,_⟩:=alone n hn
   exact uI hw n hnw
  ·refine Classical.byContradiction fun hno=>?_
   have hall:∀ w,eK m A f t.toNat (idxV m.vessels v) w→∃ n∈w,n∈o:=fun w hw=>Classical.byContradiction fun h=>hno ⟨w,hw,fun n hn hno'=>h ⟨n,hn,hno'⟩⟩;exact sc (p3 o ⟨ho,hall⟩) hc
end
end
section
open Go.ChangeShapes Go.WideShapes Go.RowKit Go.Deep Go.Joins
set_option maxRecDepth 100000
theorem gO {α:Type}{vals:α→List Value}{sz:Nat}(hk:∀ x,(vals x).length=sz):∀ l:List α,(l.flatMap vals).length=l.length * sz
 | []=>by simp
 | x::l=>by rw [List.flatMap_cons,List.length_append,hk,gO hk l,List.length_cons,Nat.succ_mul];omega
theorem lG {α:Type}{vals:α→List Value}{sz:Nat}(hk:∀ x,(vals x).length=sz):∀ {l:List α} {i j:Nat} {x:α},l[i]? =some x→j<sz→(l.flatMap vals)[i * sz+j]? =(vals x)[j]?
 | [],i,j,x,h,_=>by simp at h
 | y::l,0,j,x,h,hj=>by
  have:y=x:=by simpa using h
  subst this;rw [List.flatMap_cons,Nat.zero_mul,Nat.zero_add,List.getElem?_append_left (by rw [hk];exact hj)]
 | y::l,i+1,j,x,h,hj=>by
  rw [List.flatMap_cons,List.getElem?_append_right (by rw [hk,Nat.succ_mul];omega),hk,show (i+1) * sz+j - sz=i * sz+j by rw [Nat.succ_mul];omega];exact lG hk (by simpa using h) hj
section
variable {H:Type} {enc:TypeId × Value→H} {w:World}
theorem fa:Tryz.prog.cellsOf 3=1:=by kernel_rfl
theorem tP:Tryz.prog.cellsOf 26=4:=by kernel_rfl
theorem xZ:∃ f0 f1,Tryz.prog.underlying 50=some (.struct #[f0,f1])∧f0.type=3∧f1.type=3∧f0.offset=0∧f1.offset=1 :=
 ⟨_,_,Tryz.underlying50,rfl,rfl,rfl,rfl⟩
theorem uD:Tryz.prog.cellsOf 50=2:=by kernel_rfl
theorem s5 {fuel:Nat}{cs:List Value}{x:DataW H × List MemPlace}(h:DataW.trod enc Tryz.prog w 0 (fun _=>true) true fuel 50 cs=some x)(hl:cs.length=2):∃ l:Vess,cs=l.vals:=by
 obtain ⟨f0,f1,hu,t0,t1,z0,z1⟩:=xZ;obtain ⟨xs,n,_,_,_,hlen,hg⟩:=DataW.trod_struct hu h
 match cs,hl,xs,hlen with
 | [c0,c1],_,[y0,y1],_ =>
  have h0:DataW.trod enc Tryz.prog w 0 (fun _=>true) true n 3 [c0]=some y0:=by simpa [t0,z0,fa] using hg 0 f0 rfl
  have h1:DataW.trod enc Tryz.prog w 0 (fun _=>true) true n 3 [c1]=some y1:=by simpa [t1,z1,fa] using hg 1 f1 rfl
  obtain ⟨n0,e0,_,_⟩:=DataW.trod_int Tryz.underlying3 h0;obtain ⟨n1,e1,_,_⟩:=DataW.trod_int Tryz.underlying3 h1;simp only [List.cons.injEq,and_true] at e0 e1;subst e0 e1;exact ⟨⟨n0,n1⟩,rfl⟩
theorem sL {v:Value}{fuel:Nat}{x:DataW H × List MemPlace}(h:DataW.trod enc Tryz.prog w 0 (fun _=>true) true fuel 22 [v]=some x) :
  ∃ A n c,∃ l:List Vess,v = .slice A n c∧n≤c∧n≤maxLen∧c≤maxLen∧dO w w.heap.size 2 A n (l.flatMap Vess.vals):=by
 rcases open_slice Tryz.underlying22 h with ⟨e,_⟩ | ⟨a,len,cap,m,k,D,Pl,e,_,hl,hm,hmm,_,hx⟩
 ·simp only [List.cons.injEq,and_true] at e
  exact ⟨none,0,0,[],e,n_R,Nat.zero_le _,Nat.zero_le _,dO.none_⟩
 ·simp only [List.cons.injEq,and_true] at e
  have hmc:m=cap:=by simpa using hmm
  subst hmc
  have hn:∀ i,i<m→∃ z:Vess,∀ j,j<2→w.cell? (a.add (i * 2+j))=z.vals[j]? :=fun i hi=>by
   obtain ⟨cs',h1,h2⟩:=hx i hi;rw [uD] at h1;obtain ⟨_,hcl,hat⟩:=World.cells?_some h1;obtain ⟨z,rfl⟩:=s5 h2 hcl;exact ⟨z,fun j hj=>by rw [← Go.Deep.add_add,hat j hj]⟩
  letI:Inhabited Vess:=⟨⟨0,0⟩⟩
  obtain ⟨Z,hZ⟩:=choose_lt hn;refine ⟨some a,len,m,(List.range len).map Z,e,hl,by omega,hm,by rw [gO jo];simp,fun h0=>⟨a,rfl,?_,fun j u hu=>?_⟩⟩
  ·have:=World.block_lt_of_cell? w _ (hZ 0 (by omega) 0 (by omega))
   rwa [fj] at this
  ·have hj:j<len * 2:=by
    rcases Nat.lt_or_ge j (len * 2) with h' | h'
    ·exact h'
    ·rw [List.getElem?_eq_none (by rw [gO jo];simpa using h')] at hu;cases hu
   have hz:=hZ (j / 2) (by omega) (j % 2) (by omega);have ha:((List.range len).map Z)[j / 2]? =some (Z (j / 2)):=by rw [List.getElem?_map,List.getElem?_range (by omega)];rfl
   have hf:=lG jo ha (show j % 2<2 by omega);rw [show j / 2 * 2+j % 2=j by omega] at hf hz;rw [hz,← hf,hu]
theorem xF:∃ f0 f1 f2 f3,Tryz.prog.underlying 62=some (.struct #[f0,f1,f2,f3])∧f0.type=3∧f1.type=3∧f2.type=3∧f3.type=3∧f0.offset=0∧f1.offset=1∧f2.offset=2∧f3.offset=3 :=
 ⟨_,_,_,_,Tryz.underlying62,rfl,rfl,rfl,rfl,rfl,rfl,rfl,rfl⟩
theorem tM:Tryz.prog.cellsOf 62=4:=by kernel_rfl
theorem sY {fuel:Nat}{cs:List Value}{x:DataW H × List MemPlace}(h:DataW.trod enc Tryz.prog w 0 (fun _=>true) true fuel 62 cs=some x)(hl:cs.length=4):∃ l:MAct,cs=l.vals:=by
 obtain ⟨f0,f1,f2,f3,hu,t0,t1,t2,t3,z0,z1,z2,z3⟩:=xF;obtain ⟨xs,n,_,_,_,hlen,hg⟩:=DataW.trod_struct hu h
 match cs,hl,xs,hlen with
 | [c0,c1,c2,c3],_,[y0,y1,y2,y3],_ =>
  have h0:DataW.trod enc Tryz.prog w 0 (fun _=>true) true n 3 [c0]=some y0:=by simpa [t0,z0,fa] using hg 0 f0 rfl
  have h1:DataW.trod enc Tryz.prog w 0 (fun _=>true) true n 3 [c1]=some y1:=by simpa [t1,z1,fa] using hg 1 f1 rfl
  have h2:DataW.trod enc Tryz.prog w 0 (fun _=>true) true n 3 [c2]=some y2:=by simpa [t2,z2,fa] using hg 2 f2 rfl
  have h3:DataW.trod enc Tryz.prog w 0 (fun _=>true) true n 3 [c3]=some y3:=by simpa [t3,z3,fa] using hg 3 f3 rfl
  obtain ⟨n0,e0,_,_⟩:=DataW.trod_int Tryz.underlying3 h0;obtain ⟨n1,e1,_,_⟩:=DataW.trod_int Tryz.underlying3 h1;obtain ⟨n2,e2,_,_⟩:=DataW.trod_int Tryz.underlying3 h2;obtain ⟨n3,e3,_,_⟩:=DataW.trod_int Tryz.underlying3 h3;simp only [List.cons.injEq,and_true] at e0 e1 e2 e3;subst e0 e1 e2 e3;exact ⟨⟨n0,n1,n2,n3⟩,rfl⟩
theorem sj {v:Value}{fuel:Nat}{x:DataW H × List MemPlace}(h:DataW.trod enc Tryz.prog w 0 (fun _=>true) true fuel 23 [v]=some x) :
  ∃ A n c,∃ l:List MAct,v = .slice A n c∧n≤c∧n≤maxLen∧c≤maxLen∧dO w w.heap.size 4 A n (l.flatMap MAct.vals):=by
 rcases open_slice Tryz.underlying23 h with ⟨e,_⟩ | ⟨a,len,cap,m,k,D,Pl,e,_,hl,hm,hmm,_,hx⟩
 ·simp only [List.cons.injEq,and_true] at e
  exact ⟨none,0,0,[],e,n_R,Nat.zero_le _,Nat.zero_le _,dO.none_⟩
 ·simp only [List.cons.injEq,and_true] at e
  have hmc:m=cap:=by simpa using hmm
  subst hmc
  have hn:∀ i,i<m→∃ z:MAct,∀ j,j<4→w.cell? (a.add (i * 4+j))=z.vals[j]? :=fun i hi=>by
   obtain ⟨cs',h1,h2⟩:=hx i hi;rw [tM] at h1;obtain ⟨_,hcl,hat⟩:=World.cells?_some h1;obtain ⟨z,rfl⟩:=sY h2 hcl;exact ⟨z,fun j hj=>by rw [← Go.Deep.add_add,hat j hj]⟩
  letI:Inhabited MAct:=⟨⟨0,0,0,0⟩⟩
  obtain ⟨Z,hZ⟩:=choose_lt hn;refine ⟨some a,len,m,(List.range len).map Z,e,hl,by omega,hm,by rw [gO kN];simp,fun h0=>⟨a,rfl,?_,fun j u hu=>?_⟩⟩
  ·have:=World.block_lt_of_cell? w _ (hZ 0 (by omega) 0 (by omega))
   rwa [fj] at this
  ·have hj:j<len * 4:=by
    rcases Nat.lt_or_ge j (len * 4) with h' | h'
    ·exact h'
    ·rw [List.getElem?_eq_none (by rw [gO kN];simpa using h')] at hu;cases hu
   have hz:=hZ (j / 4) (by omega) (j % 4) (by omega);have ha:((List.range len).map Z)[j / 4]? =some (Z (j / 4)):=by rw [List.getElem?_map,List.getElem?_range (by omega)];rfl
   have hf:=lG kN ha (show j % 4<4 by omega);rw [show j / 4 * 4+j % 4=j by omega] at hf hz;rw [hz,← hf,hu]
theorem yo:∃ f0 f1 f2 f3 f4,Tryz.prog.underlying 69=some (.struct #[f0,f1,f2,f3,f4])∧f0.type=3∧f1.type=3∧f2.type=3∧f3.type=3∧f4.type=54∧f0.offset=0∧f1.offset=1∧f2.offset=2∧f3.offset=3∧f4.offset=4 :=
 ⟨_,_,_,_,_,Tryz.underlying69,rfl,rfl,rfl,rfl,rfl,rfl,rfl,rfl,rfl,rfl⟩
theorem xL:∃ f0 f1,Tryz.prog.underlying 54=some (.struct #[f0,f1])∧f0.type=3∧f1.type=3∧f0.offset=0∧f1.offset=1 :=
 ⟨_,_,Tryz.underlying54,rfl,rfl,rfl,rfl⟩
theorem uA:Tryz.prog.cellsOf 69=6:=by kernel_rfl
theorem tL:Tryz.prog.cellsOf 54=2:=by kernel_rfl
theorem sP {fuel:Nat}{cs:List Value}{x:DataW H × List MemPlace}(h:DataW.trod enc Tryz.prog w 0 (fun _=>true) true fuel 69 cs=some x)(hl:cs.length=6):∃ l:Tast,cs=l.vals:=by
 obtain ⟨f0,f1,f2,f3,f4,hu,t0,t1,t2,t3,t4,z0,z1,z2,z3,z4⟩:=yo;obtain ⟨g0,g1,hu2,s0,s1,o0,o1⟩:=xL;obtain ⟨xs,n,_,_,_,hlen,hg⟩:=DataW.trod_struct hu h
 match cs,hl,xs,hlen with
 | [c0,c1,c2,c3,c4,c5],_,[y0,y1,y2,y3,y4],_ =>
  have h0:DataW.trod enc Tryz.prog w 0 (fun _=>true) true n 3 [c0]=some y0:=by simpa [t0,z0,fa] using hg 0 f0 rfl
  have h1:DataW.trod enc Tryz.prog w 0 (fun _=>true) true n 3 [c1]=some y1:=by simpa [t1,z1,fa] using hg 1 f1 rfl
  have h2:DataW.trod enc Tryz.prog w 0 (fun _=>true) true n 3 [c2]=some y2:=by simpa [t2,z2,fa] using hg 2 f2 rfl
  have h3:DataW.trod enc Tryz.prog w 0 (fun _=>true) true n 3 [c3]=some y3:=by simpa [t3,z3,fa] using hg 3 f3 rfl
  have h4:DataW.trod enc Tryz.prog w 0 (fun _=>true) true n 54 [c4,c5]=some y4:=by simpa [t4,z4,tL] using hg 4 f4 rfl
  obtain ⟨xs',n',_,_,_,hlen',hg'⟩:=DataW.trod_struct hu2 h4
  match xs',hlen' with
  | [u0,u1],_ =>
   have k0:DataW.trod enc Tryz.prog w 0 (fun _=>true) true n' 3 [c4]=some u0:=by simpa [s0,o0,fa] using hg' 0 g0 rfl
   have k1:DataW.trod enc Tryz.prog w 0 (fun _=>true) true n' 3 [c5]=some u1:=by simpa [s1,o1,fa] using hg' 1 g1 rfl
   obtain ⟨n0,e0,_,_⟩:=DataW.trod_int Tryz.underlying3 h0;obtain ⟨n1,e1,_,_⟩:=DataW.trod_int Tryz.underlying3 h1;obtain ⟨n2,e2,_,_⟩:=DataW.trod_int Tryz.underlying3 h2;obtain ⟨n3,e3,_,_⟩:=DataW.trod_int Tryz.underlying3 h3;obtain ⟨n4,e4,_,_⟩:=DataW.trod_int Tryz.underlying3 k0;obtain ⟨n5,e5,_,_⟩:=DataW.trod_int Tryz.underlying3 k1;simp only [List.cons.injEq,and_true] at e0 e1 e2 e3 e4 e5;subst e0 e1 e2 e3 e4 e5;exact ⟨⟨n0,n1,n2,n3,n4,n5⟩,rfl⟩
theorem sa {v:Value}{fuel:Nat}{x:DataW H × List MemPlace}(h:DataW.trod enc Tryz.prog w 0 (fun _=>true) true fuel 24 [v]=some x) :
  ∃ A n c,∃ l:List Tast,v = .slice A n c∧n≤c∧n≤maxLen∧c≤maxLen∧dO w w.heap.size 6 A n (l.flatMap Tast.vals):=by
 rcases open_slice Tryz.underlying24 h with ⟨e,_⟩ | ⟨a,len,cap,m,k,D,Pl,e,_,hl,hm,hmm,_,hx⟩
 ·simp only [List.cons.injEq,and_true] at e
  exact ⟨none,0,0,[],e,n_R,Nat.zero_le _,Nat.zero_le _,dO.none_⟩
 ·simp only [List.cons.injEq,and_true] at e
  have hmc:m=cap:=by simpa using hmm
  subst hmc
  have hn:∀ i,i<m→∃ z:Tast,∀ j,j<6→w.cell? (a.add (i * 6+j))=z.vals[j]? :=fun i hi=>by
   obtain ⟨cs',h1,h2⟩:=hx i hi;rw [uA] at h1;obtain ⟨_,hcl,hat⟩:=World.cells?_some h1;obtain ⟨z,rfl⟩:=sP h2 hcl;exact ⟨z,fun j hj=>by rw [← Go.Deep.add_add,hat j hj]⟩
  letI:Inhabited Tast:=⟨⟨0,0,0,0,0,0⟩⟩
  obtain ⟨Z,hZ⟩:=choose_lt hn;refine ⟨some a,len,m,(List.range len).map Z,e,hl,by omega,hm,by rw [gO fQ];simp,fun h0=>⟨a,rfl,?_,fun j u hu=>?_⟩⟩
  ·have:=World.block_lt_of_cell? w _ (hZ 0 (by omega) 0 (by omega))
   rwa [fj] at this
  ·have hj:j<len * 6:=by
    rcases Nat.lt_or_ge j (len * 6) with h' | h'
    ·exact h'
    ·rw [List.getElem?_eq_none (by rw [gO fQ];simpa using h')] at hu;cases hu
   have hz:=hZ (j / 6) (by omega) (j % 6) (by omega);have ha:((List.range len).map Z)[j / 6]? =some (Z (j / 6)):=by rw [List.getElem?_map,List.getElem?_range (by omega)];rfl
   have hf:=lG fQ ha (show j % 6<6 by omega);rw [show j / 6 * 6+j % 6=j by omega] at hf hz;rw [hz,← hf,hu]
theorem yW:∃ f0 f1 f2 f3,Tryz.prog.underlying 26=some (.struct #[f0,f1,f2,f3])∧(f0.type=3∧f1.type=22∧f2.type=23∧f3.type=24)∧(f0.offset=0∧f1.offset=1∧f2.offset=2∧f3.offset=3) :=
 ⟨_,_,_,_,Tryz.underlying26,⟨rfl,rfl,rfl,rfl⟩,rfl,rfl,rfl,rfl⟩
theorem wQ:Tryz.prog.cellsOf 22=1:=by kernel_rfl
theorem vM:Tryz.prog.cellsOf 23=1:=by kernel_rfl
theorem wU:Tryz.prog.cellsOf 24=1:=by kernel_rfl
theorem vC {r:Reach}{b0:Nat}{v:Value}{d:DataW H}{p:List MemPlace}(hv:Value.okWide Tryz.prog w r b0 26 v)(h:DataW.Trod enc Tryz.prog w 0 (fun _=>true) true 26 v d p) :
  ∃ Av nv cv Aa na ca At nt ct m,v = .agg #[.int .i64 m.fountains,.slice Av nv cv,.slice Aa na ca,.slice At nt ct]∧(na≤ca∧ca≤maxLen)∧(nt≤ct∧ct≤maxLen)∧eQ w w.heap.size Av nv Aa na At nt m:=by
 obtain ⟨f0,f1,f2,f3,hu,⟨t0,t1,t2,t3⟩,z0,z1,z2,z3⟩:=yW;obtain ⟨cs,rfl,hsz⟩:=okWide_struct hu hv;obtain ⟨fuel,hf⟩:=h;obtain ⟨xs,n,_,_,_,hlen,hg⟩:=DataW.trod_struct hu hf;obtain ⟨l⟩:=cs
 match l,hsz.trans tP,xs,hlen with
 | [c0,c1,c2,c3],_,[y0,y1,y2,y3],_ =>
  have h0:DataW.trod enc Tryz.prog w 0 (fun _=>true) true n 3 [c0]=some y0:=by simpa [t0,z0,fa,Value.cells] using hg 0 f0 rfl
  have h1:DataW.trod enc Tryz.prog w 0 (fun _=>true) true n 22 [c1]=some y1:=by simpa [t1,z1,wQ,Value.cells] using hg 1 f1 rfl
  have h2:DataW.trod enc Tryz.prog w 0 (fun _=>true) true n 23 [c2]=some y2:=by simpa [t2,z2,vM,Value.cells] using hg 2 f2 rfl
  have h3:DataW.trod enc Tryz.prog w 0 (fun _=>true) true n 24 [c3]=some y3:=by simpa [t3,z3,wU,Value.cells] using hg 3 f3 rfl
  obtain ⟨f,e0,_,_⟩:=DataW.trod_int Tryz.underlying3 h0;simp only [List.cons.injEq,and_true] at e0;obtain ⟨Av,nv,cv,lv,rfl,_,_,_,hv1⟩:=sL h1;obtain ⟨Aa,na,ca,la,rfl,ha1,_,ha2,hv2⟩:=sj h2;obtain ⟨At,nt,ct,lt,rfl,ht1,_,ht2,hv3⟩:=sa h3;subst e0;exact ⟨Av,nv,cv,Aa,na,ca,At,nt,ct,⟨f,lv,la,lt⟩,rfl,⟨ha1,ha2⟩,⟨ht1,ht2⟩,⟨hv1,hv2,hv3⟩⟩
end
end
section
open Go.ChangeShapes Go.WideShapes Go.RowKit Go.Deep Go.Joins
set_option maxRecDepth 100000
section
variable {H:Type} {enc:TypeId × Value→H} {w:World}
theorem u8_wf {z:Int}(h:(Lit.int .u8 z).wf=true):0≤z∧z≤255:=by
 simp [Lit.wf] at h;have h1:IntKind.u8.min=0:=rfl;have h2:IntKind.u8.max=255:=rfl;omega
theorem yN {z:Int}(h:(Lit.int .u16 z).wf=true):0≤z∧z≤65535:=by
 simp [Lit.wf] at h;have h1:IntKind.u16.min=0:=rfl;have h2:IntKind.u16.max=65535:=rfl;omega
theorem pQ {v:Value}{d:DataW H}{p:List MemPlace}(h:DataW.Trod enc Tryz.prog w 0 (fun _=>true) true 5 v d p)(hv:∃ z:Int,v = .int .u8 z):∃ x:Nat,v = .int .u8 (x:Nat)∧x≤255:=by
 obtain ⟨z,rfl⟩:=hv;obtain ⟨fuel,hf⟩:=h;obtain ⟨n,e,_,hw⟩:=DataW.trod_int Tryz.underlying5 hf;have e':n=z:=by simpa [Value.cells] using e.symm
 subst e';have hb:=u8_wf hw;obtain ⟨k,rfl⟩:=Int.eq_ofNat_of_zero_le hb.1;exact ⟨k,rfl,by omega⟩
theorem uU {v:Value}{d:DataW H}{p:List MemPlace}(h:DataW.Trod enc Tryz.prog w 0 (fun _=>true) true 77 v d p)(hv:∃ z:Int,v = .int .u16 z):∃ x:Nat,v = .int .u16 (x:Nat)∧x≤65535:=by
 obtain ⟨z,rfl⟩:=hv;obtain ⟨fuel,hf⟩:=h;obtain ⟨n,e,_,hw⟩:=DataW.trod_int Tryz.underlying77 hf;have e':n=z:=by simpa [Value.cells] using e.symm
 subst e';have hb:=yN hw;obtain ⟨k,rfl⟩:=Int.eq_ofNat_of_zero_le hb.1;exact ⟨k,rfl,by omega⟩
end
end
end Go.Proofs.YthofngceiecniaaGreat
