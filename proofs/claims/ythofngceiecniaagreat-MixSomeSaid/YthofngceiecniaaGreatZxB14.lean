/- Part 14 of the texts of this claim, joined. -/
import Derived.Sort.CutIn
import Derived.Lib.SmallJoins
import Derived.LaidHandle
import Derived.ChangeArms
import Derived.ChangeSame
import Derived.Test.YthofngceiecniaaGreatZxB13
set_option linter.unusedVariables false
/- The answer's Mix, and Check. -/
namespace Go.Proofs.YthofngceiecniaaGreat
set_option maxHeartbeats 32000000
set_option maxRecDepth 100000
section
open Go.RowKit
theorem yw {m:Mix}(h:risB 0 (m.vessels.map (·.id))=false):dm m=false:=by unfold dm;rw [h];simp
theorem vT {m:Mix}(h:risB 0 (m.tastes.map (·.num))=false):dm m=false:=by unfold dm;rw [h];simp
theorem wZ {α:Type}{f:α→Int}{l:List α}{k:Nat}{x:α}(hx:l[k]? =some x)(h:risB 0 ((l.take k).map f)=true):risB 0 ((l.take (k+1)).map f)=wiB (f x) (((l.take k).map f).getLast?.getD 0+1) 9999:=by
 obtain ⟨hk,rfl⟩:=g_E hx;rw [List.take_succ_eq_append_getElem hk,List.map_append,List.map_cons,List.map_nil,lE,h,Bool.true_and];rfl
theorem tD {α:Type}{f:α→Int}{l:List α}{k:Nat}{x:α}(hx:l[k]? =some x):((l.take (k+1)).map f).getLast?.getD 0=f x:=by
 obtain ⟨hk,rfl⟩:=g_E hx;rw [List.take_succ_eq_append_getElem hk,List.map_append,List.map_cons,List.map_nil,List.getLast?_concat];rfl
theorem rG {α:Type}{f:α→Int}{l:List α}{k:Nat}(h:risB 0 ((l.take k).map f)=false):risB 0 (l.map f)=false:=by
 cases h0:risB 0 (l.map f) with
 | false=>rfl
 | true =>
  have:=pT (k:=k) h0;rw [← List.map_take] at this;rw [this] at h;cases h
theorem vQ {α:Type}{p:α→Bool}{l:List α}{k:Nat}(h:(l.take k).all p=false):l.all p=false:=by
 cases h0:l.all p with
 | false=>rfl
 | true=>exact absurd ((s7 (k:=k) h0).symm.trans h) (by decide)
theorem vV (Av:Option Addr)(nv cv:Nat)(Aa:Option Addr)(na ca:Nat)(At:Option Addr)(nt ct:Nat)(m:Mix)(w:World)(h:MixS w Av nv Aa na At nt m) :
  Calls Tryz.prog 49 #[.agg #[.int .i64 m.fountains,.slice Av nv cv,.slice Aa na ca,.slice At nt ct]] w fun e w'=>e = .returned (.bool (dm m))∧Below w.heap.size w w':=by
 have HM:=lh h;have HLV:=lh h.at_.lenV;have HLA:=lh h.at_.lenA;have HLT:=lh h.at_.lenT;have hnv:=h.hv;have hna:=h.ha;have hnt:=h.ht;clear h
 go_enter Tryz.func49,Tryz.ntmps49
 go_upto_region 1 with fail
 have Ly:=lh (Lay.one w 26 #[.int .i64 m.fountains,.slice Av nv cv,.slice Aa na ca,.slice At nt ct]);generalize (w.alloc (.cells #[.int .i64 m.fountains,.slice Av nv cv,.slice Aa na ca,.slice At nt ct] 26))=w0 at *;obtain ⟨x0,x1,x2,x3⟩:=lyc4 Ly 0 rfl;have xl:=Ly.out.lt 0 rfl
 go_wp2_with fail
 refine (dN m.fountains 1 4 w0).mono ?_;rintro e W1 ⟨rfl,rfl⟩;by_cases hG:(1≤m.fountains∧m.fountains≤4)∧m.vessels.length≤4∧m.acts.length≤12∧m.tastes.length≤8
 ·have HG:=lh hG
  have hi:wiB m.fountains 1 4=true:=decide_eq_true hG.1;have hn4:nv≤4:=by have:=HLV.out;omega
  have hn12:na≤12:=by have:=HLA.out;omega
  have hn8:nt≤8:=by have:=HLT.out;omega
  have d1:(nv:Int)≤4:=by omega
  have d2:(na:Int)≤12:=by omega
  have d3:(nt:Int)≤8:=by omega
  rw [hi];clear hi hG
  go_wp2_with fail
  clear d1 d2 d3 x0 x1 x2 x3 xl
  go_loopw [3,35] (fun v3 i wr=>∃ k:Nat,k≤nv∧i = .int .i64 k∧v3 = .int .i64 (((m.vessels.take k).map (·.id)).getLast?.getD 0)∧Hid (Lay w wr [(w.heap.size,26,#[.int .i64 m.fountains,.slice Av nv cv,.slice Aa na ca,.slice At nt ct])]∧(m.vessels.take k).all iS=true∧risB 0 ((m.vessels.take k).map (·.id))=true))
   (fun _ i _=>nv - (intOf i).toNat)
  case atStart=>exact ⟨0,by omega,rfl,rfl,lh ⟨Ly.out,rfl,rfl⟩⟩
  case round =>
   clear Ly;obtain ⟨k,hk,rfl,rfl,HS⟩:=hrel;obtain ⟨hl0,hl1⟩:=nh HS.out.2.2
   obtain ⟨p,hp⟩:∃ p,((m.vessels.take k).map (·.id)).getLast?.getD 0=p:=⟨_,rfl⟩
   have Ly:=lh HS.out.1;rw [hp] at hl0 hl1 ⊢;have HP:=lh hp;clear hp;have x1:=lyc Ly 0 rfl 1;have x3:=lyc Ly 0 rfl 3;have xl:=Ly.out.lt 0 rfl;by_cases hlt:k<nv
   ·clear x1 x3 xl
    obtain ⟨b,off,x,rfl,hbB,hx,hc0,hc1⟩:=(HM.out.at_.below Ly.out.1).vess hlt;have HX:=lh hx;clear hx
    go_upto_region 7 with fail
    have hb1:Below wr.heap.size wr (wr.alloc (.cells #[.int .i64 x.id,.int .i64 x.size] 50)):=b_R.alloc n_R _;have HN:=lh (Blk.new wr 50 #[.int .i64 x.id,.int .i64 x.size])
    obtain ⟨g8,hg8⟩:∃ g,wr.heap.size=g:=⟨_,rfl⟩
    generalize wr.alloc (.cells #[.int .i64 x.id,.int .i64 x.size] 50)=wa at *;have HB1:=lh hb1;rw [hg8] at HN ⊢;have y0:=HN.out.cell 0;have y1:=HN.out.cell 1;have yl:=HN.out.lt;clear hb1 hc0 hc1;have HRS:=lh (wZ (f:=(·.id)) HX.out HS.out.2.2);have HAS:=lh (lr HX.out HS.out.2.1);have HLST:=lh (tD (f:=fun v:Vess=>v.id) HX.out);rw [HP.out] at HRS
    go_wp2_with fail
    refine (dN x.id (p+1) 9999 wa).mono ?_;rintro e W ⟨rfl,rfl⟩
    cases hi:wiB x.id (p+1) 9999 with
    | false =>
     rw [hi] at HRS;clear hi
     go_wp2_with fail
     go_ret
     exact ⟨dO (yw (rG HRS.out)).symm,Ly.out.1.trans (HB1.out.mono Ly.out.1.size)⟩
    | true =>
     rw [hi] at HRS;clear hi
     go_wp2_with fail
     refine (dN x.size 1 12 wa).mono ?_;rintro e W ⟨rfl,rfl⟩;have hvs:iS x=wiB x.size 1 12:=rfl;rw [hvs] at HAS;clear hvs
     cases hi:wiB x.size 1 12 with
     | false =>
      rw [hi] at HAS;clear hi
      go_wp2_with fail
      go_ret
      exact ⟨dO (rD (vQ HAS.out)).symm,Ly.out.1.trans (HB1.out.mono Ly.out.1.size)⟩
     | true =>
      rw [hi] at HAS;clear hi
      go_wp2_with fail
      go_roundw
      case rel=>exact ⟨k+1,by omega,by go_num,by rw [HLST.out],lh ⟨Ly.out.below HB1.out,HAS.out,HRS.out⟩⟩
      case measure=>simp [intOf];omega
   ·obtain rfl:nv=k:=by omega
    have hz:m.vessels.all iS=true:=by
     have:=HS.out.2.1
     rwa [List.take_of_length_le (by have:=HLV.out;omega)] at this
    have hr:risB 0 (m.vessels.map (·.id))=true:=by
     have:=HS.out.2.2
     rwa [List.take_of_length_le (by have:=HLV.out;omega)] at this
    have HZ:=lh hz;have HRI:=lh hr;clear hz hr
    go_wp2_with fail
    clear x1 x3 xl HP hl0 hl1
    obtain ⟨wo,rfl⟩:∃ wo,wo=wr:=⟨_,rfl⟩
    go_loopw [3,57] (fun v3 i wr=>∃ k:Nat,k≤nt∧i = .int .i64 k∧v3 = .int .i64 (((m.tastes.take k).map (·.num)).getLast?.getD 0)∧Hid (Lay w wr [(w.heap.size,26,#[.int .i64 m.fountains,.slice Av nv cv,.slice Aa na ca,.slice At nt ct])]∧(m.tastes.take k).all (eo m)=true∧risB 0 ((m.tastes.take k).map (·.num))=true))
     (fun _ i _=>nt - (intOf i).toNat)
    case atStart=>exact ⟨0,by omega,rfl,rfl,lh ⟨Ly.out,rfl,rfl⟩⟩
    case round =>
     clear Ly HS;obtain ⟨k,hk2,rfl,rfl,HS⟩:=hrel;obtain ⟨hl0,hl1⟩:=nh HS.out.2.2
     obtain ⟨p,hp⟩:∃ p,((m.tastes.take k).map (·.num)).getLast?.getD 0=p:=⟨_,rfl⟩
     have Ly:=lh HS.out.1;rw [hp] at hl0 hl1 ⊢;have HP:=lh hp;clear hp;obtain ⟨x0,x1,x2,x3⟩:=lyc4 Ly 0 rfl;have xl:=Ly.out.lt 0 rfl;by_cases hlt:k<nt
     ·clear x0 x1 x2 x3 xl
      obtain ⟨b,off,x,rfl,hbB,hx,hc0,hc1,hc2,hc3,hc4,hc5⟩:=(HM.out.at_.below Ly.out.1).tast hlt;have HX:=lh hx;clear hx
      go_upto_region 15 with fail
      have hb1:Below wr.heap.size wr (wr.alloc (.cells #[.int .i64 x.num,.int .i64 x.vessel,.int .i64 x.after,.int .i64 x.fountain,.int .i64 x.lo,.int .i64 x.hi] 69)):=b_R.alloc n_R _;have HN:=lh (Blk.new wr 69 #[.int .i64 x.num,.int .i64 x.vessel,.int .i64 x.after,.int .i64 x.fountain,.int .i64 x.lo,.int .i64 x.hi])
      obtain ⟨g8,hg8⟩:∃ g,wr.heap.size=g:=⟨_,rfl⟩
      generalize wr.alloc (.cells #[.int .i64 x.num,.int .i64 x.vessel,.int .i64 x.after,.int .i64 x.fountain,.int .i64 x.lo,.int .i64 x.hi] 69)=wa at *;have HB1:=lh hb1;rw [hg8] at HN ⊢;have y0:=HN.out.cell 0;have y1:=HN.out.cell 1;have yl:=HN.out.lt;have HLA1:=lh (Ly.out.below HB1.out);have x0:=(HLA1.out.blk 0 rfl).cell 0;have x1:=(HLA1.out.blk 0 rfl).cell 1;have x2:=(HLA1.out.blk 0 rfl).cell 2;have x3:=(HLA1.out.blk 0 rfl).cell 3;have xl:=HLA1.out.lt 0 rfl;clear hb1 hc0 hc1 hc2 hc3 hc4 hc5;have HRS:=lh (wZ (f:=(·.num)) HX.out HS.out.2.2);have HAS:=lh (lr HX.out HS.out.2.1);have HLST:=lh (tD (f:=fun v:Tast=>v.num) HX.out);rw [HP.out] at HRS
      go_wp2_with fail
      refine (dN x.num (p+1) 9999 wa).mono ?_;rintro e W ⟨rfl,rfl⟩
      cases hi:wiB x.num (p+1) 9999 with
      | false =>
       rw [hi] at HRS;clear hi
       go_wp2_with fail
       go_ret
       exact ⟨dO (vT (rG HRS.out)).symm,Ly.out.1.trans (HB1.out.mono Ly.out.1.size)⟩
      | true =>
       rw [hi] at HRS;clear hi
       go_wp2_with fail
       refine (gp Av nv cv Aa na ca (some ⟨b,off,none⟩) nt ct m x.vessel wa (HM.out.up HLA1.out.1)).mono ?_;rintro e W ⟨rfl,hb⟩;have HB:=lh (HB1.out.trans (hb.mono HB1.out.size));have HN2:=lh (HN.out.below hb HN.out.lt);have HLA2:=lh (HLA1.out.below hb);clear hb y0 y1 yl x0 x1 x2 x3 xl HN HLA1 HB1;have y2:=HN2.out.cell 2;have y3:=HN2.out.cell 3;have y4:=HN2.out.cell 4;have y5:=HN2.out.cell 5;have yl:=HN2.out.lt;have x0:=(HLA2.out.blk 0 rfl).cell 0;have x2:=(HLA2.out.blk 0 rfl).cell 2;have xl:=HLA2.out.lt 0 rfl;by_cases hj:idxV m.vessels x.vessel<0
       ·have HTB:Hid (eo m x=false):=lh (by unfold eo;exact decide_eq_false (by omega))
        go_wp2_with fail
        go_ret
        exact ⟨dO (fZ (gP HX.out HTB.out)).symm,Ly.out.1.trans (HB.out.mono Ly.out.1.size)⟩
       ·have hj2:0≤idxV m.vessels x.vessel:=by omega
        go_wp2_with fail
        refine (dN x.after 0 na W).mono ?_;rintro e W2 ⟨rfl,rfl⟩
        cases hi:wiB x.after 0 na with
        | false =>
         have HI:=lh (of_decide_eq_false hi);have HTB:Hid (eo m x=false):=lh (by unfold eo;have:=HLA.out;have:=HI.out;exact decide_eq_false (by omega));clear hi
         go_wp2_with fail
         go_ret
         exact ⟨dO (fZ (gP HX.out HTB.out)).symm,Ly.out.1.trans (HB.out.mono Ly.out.1.size)⟩
        | true =>
         have HI:=lh (of_decide_eq_true hi);clear hi
         go_wp2_with fail
         refine (dN x.fountain 1 m.fountains W).mono ?_;rintro e W2 ⟨rfl,rfl⟩
         cases hi:wiB x.fountain 1 m.fountains with
         | false =>
          have HJ:=lh (of_decide_eq_false hi);have HTB:Hid (eo m x=false):=lh (by unfold eo;have:=HJ.out;exact decide_eq_false (by omega));clear hi
          go_wp2_with fail
          go_ret
          exact ⟨dO (fZ (gP HX.out HTB.out)).symm,Ly.out.1.trans (HB.out.mono Ly.out.1.size)⟩
         | true =>
          have HJ:=lh (of_decide_eq_true hi);clear hi
          go_wp2_with fail
          refine (dN x.lo 0 x.hi W).mono ?_;rintro e W2 ⟨rfl,rfl⟩
          cases hi:wiB x.lo 0 x.hi with
          | false =>
           have HK:=lh (of_decide_eq_false hi);have HTB:Hid (eo m x=false):=lh (by unfold eo;have:=HK.out;exact decide_eq_false (by omega));clear hi
           go_wp2_with fail
           go_ret
           exact ⟨dO (fZ (gP HX.out HTB.out)).symm,Ly.out.1.trans (HB.out.mono Ly.out.1.size)⟩
          | true =>
           have HK:=lh (of_decide_eq_true hi);have HTB:Hid (eo m x=true):=lh (by unfold eo;have:=HK.out;have:=HJ.out;have:=HI.out;have:=HLA.out;exact decide_eq_true (by omega));clear hi x0 x2 xl;have y0:=HN2.out.cell 0;rw [HTB.out] at HAS
           go_wp2_with fail
           go_roundw
           case rel=>exact ⟨k+1,by omega,by go_num,by rw [HLST.out],lh ⟨HLA2.out,HAS.out,HRS.out⟩⟩
           case measure=>simp [intOf];omega
     ·obtain rfl:nt=k:=by omega
      have hz:m.tastes.all (eo m)=true:=by
       have:=HS.out.2.1
       rwa [List.take_of_length_le (by have:=HLT.out;omega)] at this
      have hr:risB 0 (m.tastes.map (·.num))=true:=by
       have:=HS.out.2.2
       rwa [List.take_of_length_le (by have:=HLT.out;omega)] at this
      have HZT:=lh hz;have HRN:=lh hr;clear hz hr
      go_wp2_with fail
      refine (callsIn_wide.1 (rX Av nv cv Aa na ca At nt ct m wr (HM.out.up Ly.out.1) (nz HZ.out) hn4 hna)).mono ?_;rintro e W ⟨hb,A4,n4,c4,bb,L,rfl,hd⟩;have HB:=lh (Ly.out.1.trans (hb.mono Ly.out.1.size));have HD:=lh hd;clear hb hd x0 x1 x2 x3 xl
      go_wp2_with fail
      go_ret
      refine ⟨dO ?_,HB.out⟩
      rcases HD.out with ⟨rfl,h1,_⟩ | ⟨rfl,_,h1⟩
      ·rw [pY HG.out HZ.out HZT.out h1,HRI.out,HRN.out];rfl
      ·exact (qJ h1).symm
 ·have HB:=lh (nk hG)
  cases hi:wiB m.fountains 1 4 with
  | false =>
   clear hi
   go_wp2_with fail
   go_ret
   exact ⟨dO HB.out.symm,Ly.out.1⟩
  | true =>
   have h2:¬ (nv≤4∧na≤12∧nt≤8):=by
    have:=of_decide_eq_true hi;rw [← HLV.out,← HLA.out,← HLT.out];exact fun h2=>hG ⟨this,h2⟩
   clear hi hG;by_cases q1:nv≤4
   ·have d1:(nv:Int)≤4:=by omega
    by_cases q2:na≤12
    ·have d2:(na:Int)≤12:=by omega
     have d3:¬ (nt:Int)≤8:=by omega
     clear h2
     go_wp2_with fail
     go_ret
     exact ⟨dO HB.out.symm,Ly.out.1⟩
    ·have d2:¬ (na:Int)≤12:=by omega
     clear h2
     go_wp2_with fail
     go_ret
     exact ⟨dO HB.out.symm,Ly.out.1⟩
   ·have d1:¬ (nv:Int)≤4:=by omega
    clear h2
    go_wp2_with fail
    go_ret
    exact ⟨dO HB.out.symm,Ly.out.1⟩
end
section
open Go.RowKit
theorem o6 {α:Type}{vals:α→List Value}{sz:Nat}(hk:∀ x,(vals x).length=sz):∀ (l:List α) (k:Nat),(l.take k).flatMap vals=(l.flatMap vals).take (k * sz)
 | [],k=>by simp
 | x::l,0=>by simp
 | x::l,k+1=>by
  rw [List.take_succ_cons,List.flatMap_cons,List.flatMap_cons,o6 hk l k,List.take_append,hk,List.take_of_length_le (l:=vals x) (by rw [hk,Nat.succ_mul];exact Nat.le_add_left _ _),Nat.succ_mul,Nat.add_sub_cancel]
theorem Own.short {w:World}{base n cap size k:Nat}{e:TypeId}{A:Option Addr}{xs:List Value}(h:Own w base e size A n cap xs)(hk:k≤n)(hA:A≠none∨k=0∧n=0):Own w base e size A k cap (xs.take (k * size)):=by
 rcases h.form with ⟨rfl,rfl,rfl,rfl⟩ | ⟨g,cur,rfl,hb,hg,h1,h2,h3,h4,h5⟩
 ·obtain rfl:k=0:=by omega
  simpa using Own.none_ w base e size
 ·have hle:k * size≤n * size:=Nat.mul_le_mul_right _ hk
  refine ⟨by rw [List.length_take,h5,Nat.min_eq_left hle],.inr ⟨g,cap,cur,rfl,hb,hg,Nat.le_trans hk h1,h2,h3,?_⟩⟩;rw [← h4,List.take_take,Nat.min_eq_left hle]
theorem dV.fewer {W:World}{base:Nat}{A1 A2 A3:Option Addr}{nv c1 k c2 nt c3:Nat}{m:Mix}(h:dV W base A1 nv c1 A2 (k+1) c2 A3 nt c3 m)(hl:m.acts.length=k+1):dV W base A1 nv c1 A2 k c2 A3 nt c3 (ip m (m.acts.take (m.acts.length - 1))):=by
 refine ⟨h.v,?_,h.t,h.va,h.vt,h.at_⟩
 show Own W base _ 4 A2 k c2 ((m.acts.take (m.acts.length - 1)).flatMap MAct.vals)
 rw [hl,Nat.add_sub_cancel,o6 ki];refine h.a.short (Nat.le_succ k) (.inl fun e=>?_)
 rcases h.a.form with ⟨_,h0,_⟩ | ⟨g,cur,e2,_⟩
 ·omega
 ·rw [e] at e2;cases e2
end
section
open Go.RowKit
section
variable {w W W':World} {base:Nat} {A1 A2 A3:Option Addr} {nv c1 na c2 nt c3:Nat} {m:Mix}
theorem fo.below (h:fo W base A1 nv c1 A2 na c2 A3 nt c3 m)(hb:Below W.heap.size W W'):fo W' base A1 nv c1 A2 na c2 A3 nt c3 m:=⟨h.v.below hb n_R,h.a.below hb n_R,h.t.below hb n_R⟩
theorem fo.mono {b':Nat}(h:fo W base A1 nv c1 A2 na c2 A3 nt c3 m)(hb:b'≤base):fo W b' A1 nv c1 A2 na c2 A3 nt c3 m:=⟨h.v.mono hb,h.a.mono hb,h.t.mono hb⟩
theorem fo.off {g:Nat}(h:fo W base A1 nv c1 A2 na c2 A3 nt c3 m)(hg:W.grownBy W' (some g))(hlt:g<base):fo W' base A1 nv c1 A2 na c2 A3 nt c3 m:=⟨j5 h.v hg hlt,j5 h.a hg hlt,j5 h.t hg hlt⟩
theorem fo.s (h:fo W base A1 nv c1 A2 na c2 A3 nt c3 m)(hv:nv≤1000)(ha:na≤1000)(ht:nt≤1000):MixS W A1 nv A2 na A3 nt m:=⟨⟨h.v.reads n_R,h.a.reads n_R,h.t.reads n_R⟩,hv,ha,ht⟩
theorem fo.acts {A9:Option Addr}{n9 c9 b9:Nat}{l:List MAct}(h:fo W base A1 nv c1 A2 na c2 A3 nt c3 m)(hb:Below W.heap.size W W')(ho:Own W' b9 62 4 A9 n9 c9 (l.flatMap MAct.vals))(h9:base≤b9):fo W' base A1 nv c1 A9 n9 c9 A3 nt c3 (ip m l):=⟨(h.below hb).v,ho.mono h9,(h.below hb).t⟩
theorem fo.tasts {A9:Option Addr}{n9 c9 b9:Nat}{l:List Tast}(h:fo W base A1 nv c1 A2 na c2 A3 nt c3 m)(hb:Below W.heap.size W W')(ho:Own W' b9 69 6 A9 n9 c9 (l.flatMap Tast.vals))(h9:base≤b9):fo W' base A1 nv c1 A2 na c2 A9 n9 c9 (fS m l):=⟨(h.below hb).v,(h.below hb).a,ho.mono h9⟩
theorem oR {e t:TypeId}{size n cap size' n' cap':Nat}{A B:Option Addr}{xs ys:List Value}(h:Own W base e size A n cap xs)(h':Own W base t size' B n' cap' ys)(ht:e≠t):∀ a,A=some a→some a.block≠B.map (·.block):=by
 intro a ha e'
 rcases h.form with ⟨h0,_⟩ | ⟨g,cur,h1,_,hb,_⟩
 ·rw [h0] at ha;cases ha
 ·rcases h'.form with ⟨h0,_⟩ | ⟨g',cur',h1',_,hb',_⟩
  ·rw [h0] at e';cases e'
  ·rw [h1] at ha
   cases ha;rw [h1'] at e';exact jP hb hb' ht (Option.some.inj e')
theorem MixS.nothing (W:World):MixS W none 0 none 0 none 0 eS:=⟨⟨df.none_,df.none_,df.none_⟩,by omega,by omega,by omega⟩
end
end
section
open Go.RowKit
theorem qh {nv na nt:Nat}(h:fW nv na nt=false):nv≤8∧na≤24∧nt≤16:=by
 unfold fW at h;simp at h;omega
def vx (w:World)(e:Ending)(w':World):Prop:=e = .returned (.bool true)∧Below w.heap.size w w'
end
section
open Go.RowKit Go.Shelf
attribute [local go_sem] Oper.semAt_some
theorem yg (d:Nat)(a b:Int)(w:World):(Op.equalIn (d+1) 3 (.int .i64 a) (.int .i64 b)).run Tryz.prog w = .ok (a==b) w:=by
 simp [Op.equalIn,run_underlying Tryz.underlying3]
theorem d9 (a0 a1:Int)(w:World):(Op.equalIn 10000 54 (.agg #[.int .i64 a0,.int .i64 a1]) (.agg #[.int .i64 a0,.int .i64 a1])).run Tryz.prog w = .ok true w:=by
 rw [Op.equalIn];simp [go_sem,run_underlying Tryz.underlying54,yg,Std.Legacy.Range.forIn_eq_forIn_range',part]
theorem vc (w:World):CallsIn Fence.wide 9 Tryz.prog 22 #[] w (vx w):=by
 refine callsIn_of_wp Tryz.func22 rfl trivial ?_ rfl;simp only [Tryz.ntmps22,es,Nat.reduceSub];gi_upto_region 1 with fail
 have Ly:=lh (Lay.nil w);gi_wp2;refine ⟨trivial,(c_W (fm none 0 0 [] w (df.none_ (w:=w) (B:=w.heap.size)) (by decide))).mono ?_⟩;rintro e W1 ⟨g1,g2,rfl,hg1,hg2,hms,hb⟩;replace Ly:=lyb Ly hb;clear hb;have HMS:=lh hms;clear hms hg1 hg2;gi_wp2;refine ⟨trivial,(c_W (qy (some ⟨g1,0,none⟩) 3 3 (some ⟨g2,0,none⟩) 5 5 none 0 0 (d8 []) 2 3 W1 HMS.out)).mono ?_⟩;rintro e W2 ⟨n,en,rfl,hma,hb⟩;replace Ly:=lyb Ly hb;clear hb;obtain ⟨rfl,rfl⟩:=eY.same hma al_holds;clear hma;clear HMS;gi_wp2;refine ⟨trivial,(c_W (fm none 0 0 [] W2 (df.none_ (w:=W2) (B:=W2.heap.size)) (by decide))).mono ?_⟩;rintro e W3 ⟨g1,g2,rfl,hg1,hg2,hms,hb⟩;replace Ly:=lyb Ly hb;clear hb;have HMS:=lh hms;clear hms hg1 hg2;gi_wp2;refine ⟨trivial,(c_W (sJ (some ⟨g1,0,none⟩) 3 3 (some ⟨g2,0,none⟩) 5 5 none 0 0 (d8 []) 3 4 1 W3 HMS.out)).mono ?_⟩;rintro e W4 ⟨lo,hi,ea,rfl,hma,hb⟩;replace Ly:=lyb Ly hb;clear hb;obtain ⟨e1,rfl⟩:=OfIs.same hma al_of
 obtain ⟨rfl,rfl⟩:lo=0∧hi=2:=⟨congrArg Prod.fst e1,congrArg Prod.snd e1⟩
 clear hma e1;clear HMS;gi_upto_region 3 with fail
 obtain ⟨V5,hV⟩:∃ V,(W4.alloc (.cells #[.int .i64 0,.int .i64 2] 54))=V:=⟨_,rfl⟩
 rw [hV];have hb:=dB hV;have hnew:=dE hV;have hge:=Ly.out.bel.size;replace Ly:=lyb Ly hb;replace Ly:=lh (Ly.out.add hge hnew);clear hnew hge hb hV
 obtain ⟨G6,hG⟩:∃ g,W4.heap.size=g:=⟨_,rfl⟩
 rw [hG] at Ly ⊢;clear hG;gi_wp2;refine ⟨trivial,(c_W (fm none 0 0 [] V5 (df.none_ (w:=V5) (B:=V5.heap.size)) (by decide))).mono ?_⟩;rintro e W7 ⟨g1,g2,rfl,hg1,hg2,hms,hb⟩;replace Ly:=lyb Ly hb;clear hb;have HMS:=lh hms;clear hms hg1 hg2;gi_wp2;refine ⟨trivial,(c_W (oQ (some ⟨g1,0,none⟩) 3 3 (some ⟨g2,0,none⟩) 5 5 none 0 0 (d8 []) 3 5 1 W7 HMS.out)).mono ?_⟩;rintro e W8 ⟨lo,hi,eb,rfl,hma,hb⟩;replace Ly:=lyb Ly hb;clear hb;obtain ⟨e1,rfl⟩:=OfIs.same hma vk
 obtain ⟨rfl,rfl⟩:lo=0∧hi=2:=⟨congrArg Prod.fst e1,congrArg Prod.snd e1⟩
 clear hma e1;rw [show fK (decide ((0:Int)<0)) (decide ((0:Int)<2))=1 from by decide];clear HMS;gi_wp2;refine ⟨trivial,(c_W (fm none 0 0 [] W8 (df.none_ (w:=W8) (B:=W8.heap.size)) (by decide))).mono ?_⟩;rintro e W9 ⟨g1,g2,rfl,hg1,hg2,hms,hb⟩;replace Ly:=lyb Ly hb;clear hb;have HMS:=lh hms;clear hms hg1 hg2;gi_wp2;refine ⟨trivial,(c_W ((nG (some ⟨g1,0,none⟩) 3 3 (some ⟨g2,0,none⟩) 5 5 none 0 0 (d8 []) 1 5 1 W9 HMS.out).mono fun _ _ h=>lH h)).mono ?_⟩;rintro e W10 ⟨kp,ep,rfl,hma,hb⟩;replace Ly:=lyb Ly hb;clear hb;obtain ⟨rfl,rfl⟩:=iE.same hma xT;clear hma HMS;gi_wp2;refine ⟨trivial,(c_W (fm none 0 0 [] W10 (df.none_ (w:=W10) (B:=W10.heap.size)) (by decide))).mono ?_⟩;rintro e W11 ⟨g1,g2,rfl,hg1,hg2,hms,hb⟩;replace Ly:=lyb Ly hb;clear hb;have HMS:=lh hms;clear hms hg1 hg2;gi_wp2;refine ⟨trivial,(c_W (pv (some ⟨g1,0,none⟩) 3 3 (some ⟨g2,0,none⟩) 5 5 none 0 0 (d8 []) 5 1 W11 HMS.out)).mono ?_⟩;rintro e W12 ⟨lo,hi,ec,rfl,hma,hb⟩;replace Ly:=lyb Ly hb;clear hb;obtain ⟨e1,rfl⟩:=fg.same hma wX
 obtain ⟨rfl,rfl⟩:lo=0∧hi=1:=⟨congrArg Prod.fst e1,congrArg Prod.snd e1⟩
 clear hma e1;clear HMS;gi_upto_region 6 with fail
 obtain ⟨V13,hV⟩:∃ V,(W12.alloc (.cells #[.int .i64 0,.int .i64 1] 54))=V:=⟨_,rfl⟩
 rw [hV];have hb:=dB hV;have hnew:=dE hV;have hge:=Ly.out.bel.size;replace Ly:=lyb Ly hb;replace Ly:=lh (Ly.out.add hge hnew);clear hnew hge hb hV
 obtain ⟨G14,hG⟩:∃ g,W12.heap.size=g:=⟨_,rfl⟩
 rw [hG] at Ly ⊢;clear hG;gi_wp2;refine ⟨trivial,(c_W (fm none 0 0 [] V13 (df.none_ (w:=V13) (B:=V13.heap.size)) (by decide))).mono ?_⟩;rintro e W15 ⟨g1,g2,rfl,hg1,hg2,hms,hb⟩;replace Ly:=lyb Ly hb;clear hb;have HMS:=lh hms;clear hms hg1 hg2;gi_wp2;refine ⟨trivial,(c_W (qq (some ⟨g1,0,none⟩) 3 3 (some ⟨g2,0,none⟩) 5 5 none 0 0 (d8 []) 1 W15 HMS.out)).mono ?_⟩;rintro e W16 ⟨lo,hi,ed,rfl,hma,hb⟩;replace Ly:=lyb Ly hb;clear hb;obtain ⟨e1,rfl⟩:=gj.same hma xQ
 obtain ⟨rfl,rfl⟩:lo=0∧hi=1:=⟨congrArg Prod.fst e1,congrArg Prod.snd e1⟩
 clear hma e1;clear HMS;gi_upto_region 7 with fail
 obtain ⟨V17,hV⟩:∃ V,(W16.alloc (.cells #[.int .i64 0,.int .i64 1] 54))=V:=⟨_,rfl⟩
 rw [hV];have hb:=dB hV;have hnew:=dE hV;have hge:=Ly.out.bel.size;replace Ly:=lyb Ly hb;replace Ly:=lh (Ly.out.add hge hnew);clear hnew hge hb hV
 obtain ⟨G18,hG⟩:∃ g,W16.heap.size=g:=⟨_,rfl⟩
 rw [hG] at Ly ⊢;clear hG;gi_wp2;refine ⟨trivial,(c_W (fm none 0 0 [] V17 (df.none_ (w:=V17) (B:=V17.heap.size)) (by decide))).mono ?_⟩;rintro e W19 ⟨g1,g2,rfl,hg1,hg2,hms,hb⟩;replace Ly:=lyb Ly hb;clear hb;have HMS:=lh hms;clear hms hg1 hg2;gi_wp2;refine ⟨trivial,(c_W (yO (some ⟨g1,0,none⟩) 3 3 (some ⟨g2,0,none⟩) 5 5 none 0 0 (d8 []) 3 5 1 2 W19 HMS.out ⟨by decide,by decide⟩)).mono ?_⟩;rintro e W20 ⟨mb,me,rfl,hma,hb⟩;replace Ly:=lyb Ly hb;clear hb;obtain ⟨rfl,rfl⟩:=m7.same hma yT;clear hma;clear HMS;gi_wp2;refine ⟨trivial,(c_W (fm none 0 0 [] W20 (df.none_ (w:=W20) (B:=W20.heap.size)) (by decide))).mono ?_⟩;rintro e W21 ⟨g1,g2,rfl,hg1,hg2,hms,hb⟩;replace Ly:=lyb Ly hb;clear hb;have HMS:=lh hms;clear hms hg1 hg2;gi_wp2;refine ⟨trivial,(c_W (yu (some ⟨g1,0,none⟩) 3 3 (some ⟨g2,0,none⟩) 5 5 none 0 0 (d8 []) 3 5 1 W21 HMS.out ⟨by decide,by decide⟩)).mono ?_⟩;rintro e W22 ⟨pl,pA,pn,pc,pe,rfl,hma,hpi,hp13,hb,hpx⟩;replace Ly:=lyb Ly hb;clear hb;obtain ⟨rfl,rfl⟩:=kr.same hma xP;have HIP:=lh hpi;have HIP9:=lh hp13;clear hma hpi hp13 hpx;clear HMS;gi_wp2;refine ⟨trivial,(c_W (fm none 0 0 [] W22 (df.none_ (w:=W22) (B:=W22.heap.size)) (by decide))).mono ?_⟩;rintro e W23 ⟨g1,g2,rfl,hg1,hg2,hms,hb⟩;replace Ly:=lyb Ly hb;replace HIP:=lh ((HIP.out.below hb).more hb.size);clear hb;have HMS:=lh hms;clear hms hg1 hg2;gi_wp2;refine ⟨trivial,(c_W (xq (some ⟨g1,0,none⟩) 3 3 (some ⟨g2,0,none⟩) 5 5 none 0 0 (d8 []) 3 5 1 W23 HMS.out ⟨by decide,by decide⟩)).mono ?_⟩;rintro e W24 ⟨wl,wA,wn,wc,we,rfl,hma,hpi,hp13,hb,hpx⟩;replace Ly:=lyb Ly hb;replace HIP:=lh ((HIP.out.below hb).more hb.size);clear hb;obtain ⟨rfl,rfl⟩:=i8.same hma vP;have HIW:=lh hpi;have HIW9:=lh hp13;clear hma hpi hp13 hpx;clear HMS;gi_upto_region 10 with fail
 refine wpIn_flow_old [([true,true,true,true,true,true,true,true,true,true,true,true],12),([false,false,false,false,false,false,false,false,false,false,false,false,false,true,true,true,true,true,true,true,true,true,true,true,true,true,true,true,true,true,true,true,true,true,true,true,true],37),([false,false,false,false,false,false,false,false,false,false,false,false,false,false,false,false,false,false,false,false,false,false,false,false,false,false,false,false,false,false,false,false,false,false,false,false,false,false,true,true,true,true,true,true,true,true],46),([false,false,false,false,false,false,false,false,false,false,false,false,false,false,false,false,false,false,false,false,false,false,false,false,false,false,false,false,false,false,false,false,false,false,false,false,false,false,false,false,false,false,false,false,false,false,false,true,true,true,true,true,true,true,true,true,true,true,true,true,true,true,true],63),([],64),([false,false,false,false,false,false,false,false,false,false,false,false,false,false,false,false,false,false,false,false,false,false,false,false,false,false,false,false,false,false,false,false,false,false,false,false,false,false,false,false,false,false,false,false,false,false,false,false,false,false,false,false,false,false,false,false,false,false,false,false,false,false,false,false,false,true,true,true,true,true,true,true,true],73),([],74)] [false,false,false,false,false,false,false,false,false,false,false,false,false,false,false,false,false,false,false,false,false,false,false,false,false,false,false,false,false,false,false,false,false,false,false,false,false,false,false,false,false,false,false,false,false,false,false,false,false,false,false,false,false,false,false,false,false,false,false,false,false,false,false,false,false,false,false,false,false,false,false,false,false,false,false,true,true] [] (by kernel_rfl) (by kernel_rfl) (by kernel_rfl) (av b_R 1) ?_;refine wpFlow_cons (A:=?AF1) rfl ?hq1 ?_
 case hq1 =>
  rintro σ hσ of hof hcl;have HOF:=lh hof;clear hof hcl;obtain ⟨c0_,c1_⟩:=lyz2 Ly HOF 0 rfl;obtain ⟨c2_,c3_⟩:=lyz2 Ly HOF 1 rfl;obtain ⟨c4_,c5_⟩:=lyz2 Ly HOF 2 rfl;have hfw:=hfT;have hs02:∀ z:World,(Op.equalIn 10000 54 (.agg #[.int .i64 0,.int .i64 2]) (.agg #[.int .i64 0,.int .i64 2])).run Tryz.prog z = .ok true z:=fun z=>d9 0 2 z;have hs01:∀ z:World,(Op.equalIn 10000 54 (.agg #[.int .i64 0,.int .i64 1]) (.agg #[.int .i64 0,.int .i64 1])).run Tryz.prog z = .ok true z:=fun z=>d9 0 1 z;simp only [List.append_eq,List.cons_append,List.nil_append,bu]
  repeat (gi_big_quiet_step (fail))
  refine wpQuietIn_nil ?_;exact rfl
 intro W25 hW;replace Ly:=lyb Ly hW;replace HIP:=lh ((HIP.out.below hW).more hW.size);replace HIW:=lh ((HIW.out.below hW).more hW.size);clear hW;gi_wp2;refine ⟨trivial,(c_W (kT 0 2 W25)).mono ?_⟩;rintro e W26 ⟨rfl,hb⟩;replace Ly:=lyb Ly hb;replace HIP:=lh ((HIP.out.below hb).more hb.size);replace HIW:=lh ((HIW.out.below hb).more hb.size);gi_wp2;refine ⟨trivial,hb,?_⟩;clear hb;refine wpFlow_cons (A:=?AF2) rfl ?hq2 ?_
 case hq2 =>
  rintro σ hσ of hof hcl;have HOF:=lh hof;clear hof hcl;obtain ⟨c0_,c1_⟩:=lyz2 Ly HOF 0 rfl;obtain ⟨c2_,c3_⟩:=lyz2 Ly HOF 1 rfl;obtain ⟨c4_,c5_⟩:=lyz2 Ly HOF 2 rfl;have hfw:=hfT;have hs02:∀ z:World,(Op.equalIn 10000 54 (.agg #[.int .i64 0,.int .i64 2]) (.agg #[.int .i64 0,.int .i64 2])).run Tryz.prog z = .ok true z:=fun z=>d9 0 2 z;have hs01:∀ z:World,(Op.equalIn 10000 54 (.agg #[.int .i64 0,.int .i64 1]) (.agg #[.int .i64 0,.int .i64 1])).run Tryz.prog z = .ok true z:=fun z=>d9 0 1 z;simp only [List.append_eq,List.cons_append,List.nil_append,bu]
  repeat (gi_big_quiet_step (fail))
  refine wpQuietIn_nil ?_;exact rfl
 intro W27 hW;replace Ly:=lyb Ly hW;replace HIP:=lh ((HIP.out.below hW).more hW.size);replace HIW:=lh ((HIW.out.below hW).more hW.size);clear hW;gi_wp2;refine ⟨trivial,(c_W (kT 0 1 W27)).mono ?_⟩;rintro e W28 ⟨rfl,hb⟩;replace Ly:=lyb Ly hb;replace HIP:=lh ((HIP.out.below hb).more hb.size);replace HIW:=lh ((HIW.out.below hb).more hb.size);gi_wp2;refine ⟨trivial,hb,?_⟩;clear hb;refine wpFlow_cons (A:=?AF3) rfl ?hq3 ?_
 case hq3 =>
  rintro σ hσ of hof hcl;have HOF:=lh hof;clear hof hcl;obtain ⟨c0_,c1_⟩:=lyz2 Ly HOF 0 rfl;obtain ⟨c2_,c3_⟩:=lyz2 Ly HOF 1 rfl;obtain ⟨c4_,c5_⟩:=lyz2 Ly HOF 2 rfl;have hfw:=hfT;have hs02:∀ z:World,(Op.equalIn 10000 54 (.agg #[.int .i64 0,.int .i64 2]) (.agg #[.int .i64 0,.int .i64 2])).run Tryz.prog z = .ok true z:=fun z=>d9 0 2 z;have hs01:∀ z:World,(Op.equalIn 10000 54 (.agg #[.int .i64 0,.int .i64 1]) (.agg #[.int .i64 0,.int .i64 1])).run Tryz.prog z = .ok true z:=fun z=>d9 0 1 z;simp only [List.append_eq,List.cons_append,List.nil_append,bu]
  repeat (gi_big_quiet_step (fail))
  refine wpQuietIn_nil ?_;exact rfl
 intro W29 hW;replace Ly:=lyb Ly hW;replace HIP:=lh ((HIP.out.below hW).more hW.size);replace HIW:=lh ((HIW.out.below hW).more hW.size);clear hW;gi_wp2;refine ⟨trivial,(c_W (kT 0 1 W29)).mono ?_⟩;rintro e W30 ⟨rfl,hb⟩;replace Ly:=lyb Ly hb;replace HIP:=lh ((HIP.out.below hb).more hb.size);replace HIW:=lh ((HIW.out.below hb).more hb.size);gi_wp2;refine ⟨trivial,hb,?_⟩;clear hb;refine wpFlow_cons (A:=?AF4) rfl ?hq4 ?_
 case hq4 =>
  rintro σ hσ of hof hcl;have HOF:=lh hof;clear hof hcl;obtain ⟨c0_,c1_⟩:=lyz2 Ly HOF 0 rfl;obtain ⟨c2_,c3_⟩:=lyz2 Ly HOF 1 rfl;obtain ⟨c4_,c5_⟩:=lyz2 Ly HOF 2 rfl;have hfw:=hfT;have hs02:∀ z:World,(Op.equalIn 10000 54 (.agg #[.int .i64 0,.int .i64 2]) (.agg #[.int .i64 0,.int .i64 2])).run Tryz.prog z = .ok true z:=fun z=>d9 0 2 z;have hs01:∀ z:World,(Op.equalIn 10000 54 (.agg #[.int .i64 0,.int .i64 1]) (.agg #[.int .i64 0,.int .i64 1])).run Tryz.prog z = .ok true z:=fun z=>d9 0 1 z;simp only [List.append_eq,List.cons_append,List.nil_append,bu]
  repeat (gi_big_quiet_step (fail))
  refine wpQuietIn_nil ?_;exact rfl
 intro W31 hW;replace Ly:=lyb Ly hW;replace HIP:=lh ((HIP.out.below hW).more hW.size);replace HIW:=lh ((HIW.out.below hW).more hW.size);clear hW;gi_wp2;refine ⟨trivial,b_R.alloc n_R _,?_⟩;have hb:Below W31.heap.size W31 (W31.alloc (.cells #[.int .i64 1,.int .i64 3,.int .i64 4] 3)):=b_R.alloc n_R _;replace Ly:=lyb Ly hb;replace HIP:=lh ((HIP.out.below hb).more hb.size);replace HIW:=lh ((HIW.out.below hb).more hb.size);have HPl:=lh (show db (W31.alloc (.cells #[.int .i64 1,.int .i64 3,.int .i64 4] 3)) (W31.alloc (.cells #[.int .i64 1,.int .i64 3,.int .i64 4] 3)).heap.size (some ⟨W31.heap.size,0,none⟩) 3 [1,3,4] from db.new W31 3 [1,3,4] _ (by simp))
 obtain ⟨P33,hP⟩:∃ P,W31.heap.size=P:=⟨_,rfl⟩
 rw [hP] at HPl ⊢;generalize (W31.alloc (.cells #[.int .i64 1,.int .i64 3,.int .i64 4] 3))=V32 at *;clear hb hP;refine wpFlow_cons rfl Quietly.none ?_;intro W34 hW;replace Ly:=lyb Ly hW;replace HIP:=lh ((HIP.out.below hW).more hW.size);replace HIW:=lh ((HIW.out.below hW).more hW.size);replace HPl:=lh ((HPl.out.below hW).more hW.size);clear hW;gi_wp2;refine ⟨trivial,(callsIn_wide.2 (jc pA pn pc [1,3,4] (some ⟨P33,0,none⟩) 3 3 [1,3,4] W34 (by have:=HIP9.out;unfold maxLen;omega) (by decide) HIP.out HPl.out)).mono ?_⟩;rintro e W35 ⟨rfl,hb⟩;replace Ly:=lyb Ly hb;replace HIP:=lh ((HIP.out.below hb).more hb.size);replace HIW:=lh ((HIW.out.below hb).more hb.size);replace HPl:=lh ((HPl.out.below hb).more hb.size);rw [show jG [1,3,4] [1,3,4]=true from by decide];gi_wp2;refine ⟨trivial,hb,?_⟩;clear hb;clear HPl;refine wpFlow_cons (A:=?AF5) rfl ?hq5 ?_
 case hq5 =>
  rintro σ hσ of hof hcl;have HOF:=lh hof;clear hof hcl;obtain ⟨c0_,c1_⟩:=lyz2 Ly HOF 0 rfl;obtain ⟨c2_,c3_⟩:=lyz2 Ly HOF 1 rfl;obtain ⟨c4_,c5_⟩:=lyz2 Ly HOF 2 rfl;have hfw:=hfT;have hs02:∀ z:World,(Op.equalIn 10000 54 (.agg #[.int .i64 0,.int .i64 2]) (.agg #[.int .i64 0,.int .i64 2])).run Tryz.prog z = .ok true z:=fun z=>d9 0 2 z;have hs01:∀ z:World,(Op.equalIn 10000 54 (.agg #[.int .i64 0,.int .i64 1]) (.agg #[.int .i64 0,.int .i64 1])).run Tryz.prog z = .ok true z:=fun z=>d9 0 1 z;simp only [List.append_eq,List.cons_append,List.nil_append,bu]
  repeat (gi_big_quiet_step (fail))
  refine wpQuietIn_nil ?_;exact rfl
 intro W36 hW;replace Ly:=lyb Ly hW;replace HIP:=lh ((HIP.out.below hW).more hW.size);replace HIW:=lh ((HIW.out.below hW).more hW.size);clear hW;gi_wp2;refine ⟨trivial,b_R.alloc n_R _,?_⟩;have hb:Below W36.heap.size W36 (W36.alloc (.cells #[.int .i64 1] 3)):=b_R.alloc n_R _;replace Ly:=lyb Ly hb;replace HIP:=lh ((HIP.out.below hb).more hb.size);replace HIW:=lh ((HIW.out.below hb).more hb.size);have HPl:=lh (show db (W36.alloc (.cells #[.int .i64 1] 3)) (W36.alloc (.cells #[.int .i64 1] 3)).heap.size (some ⟨W36.heap.size,0,none⟩) 1 [1] from db.new W36 3 [1] _ (by simp))
 obtain ⟨P38,hP⟩:∃ P,W36.heap.size=P:=⟨_,rfl⟩
 rw [hP] at HPl ⊢;generalize (W36.alloc (.cells #[.int .i64 1] 3))=V37 at *;clear hb hP;refine wpFlow_cons rfl Quietly.none ?_;intro W39 hW;replace Ly:=lyb Ly hW;replace HIP:=lh ((HIP.out.below hW).more hW.size);replace HIW:=lh ((HIW.out.below hW).more hW.size);replace HPl:=lh ((HPl.out.below hW).more hW.size);clear hW;gi_wp2;refine ⟨trivial,(callsIn_wide.2 (jc wA wn wc [1] (some ⟨P38,0,none⟩) 1 1 [1] W39 (by have:=HIW9.out;unfold maxLen;omega) (by decide) HIW.out HPl.out)).mono ?_⟩;rintro e W40 ⟨rfl,hb⟩;replace Ly:=lyb Ly hb;replace HIP:=lh ((HIP.out.below hb).more hb.size);replace HIW:=lh ((HIW.out.below hb).more hb.size);replace HPl:=lh ((HPl.out.below hb).more hb.size);rw [show jG [1] [1]=true from by decide];gi_wp2;refine ⟨trivial,hb,?_⟩;clear hb;clear HPl;refine wpFlow_nil (A:=?AF6) ?hq6 ?_
 case hq6 =>
  rintro σ hσ of hof hcl;have HOF:=lh hof;clear hof hcl;obtain ⟨c0_,c1_⟩:=lyz2 Ly HOF 0 rfl;obtain ⟨c2_,c3_⟩:=lyz2 Ly HOF 1 rfl;obtain ⟨c4_,c5_⟩:=lyz2 Ly HOF 2 rfl;have hfw:=hfT;have hs02:∀ z:World,(Op.equalIn 10000 54 (.agg #[.int .i64 0,.int .i64 2]) (.agg #[.int .i64 0,.int .i64 2])).run Tryz.prog z = .ok true z:=fun z=>d9 0 2 z;have hs01:∀ z:World,(Op.equalIn 10000 54 (.agg #[.int .i64 0,.int .i64 1]) (.agg #[.int .i64 0,.int .i64 1])).run Tryz.prog z = .ok true z:=fun z=>d9 0 1 z;simp only [List.append_eq,List.cons_append,List.nil_append,bu]
  repeat (gi_big_quiet_step (fail))
  refine wpQuietIn_nil ?_;exact rfl
 intro W41 hW;replace Ly:=lyb Ly hW;replace HIP:=lh ((HIP.out.below hW).more hW.size);replace HIW:=lh ((HIW.out.below hW).more hW.size);clear hW;simp only [List.append_eq,List.cons_append,List.nil_append,bu];refine de ?_;gi_wp2;refine ⟨trivial,(c_W (fm none 0 0 [] W41 (df.none_ (w:=W41) (B:=W41.heap.size)) (by decide))).mono ?_⟩;rintro e W42 ⟨g1,g2,rfl,hg1,hg2,hms,hb⟩;replace Ly:=lyb Ly hb;replace HIP:=lh ((HIP.out.below hb).more hb.size);replace HIW:=lh ((HIW.out.below hb).more hb.size);clear hb;have HMS:=lh hms;clear hms hg1 hg2;gi_wp2;refine ⟨trivial,(c_W (xI (some ⟨g1,0,none⟩) 3 3 (some ⟨g2,0,none⟩) 5 5 none 0 0 (d8 []) 3 1 1 1 W42 HMS.out)).mono ?_⟩;rintro e W43 ⟨k,ee,rfl,hma,hb⟩;replace Ly:=lyb Ly hb;replace HIP:=lh ((HIP.out.below hb).more hb.size);replace HIW:=lh ((HIW.out.below hb).more hb.size);clear hb;obtain ⟨rfl,rfl⟩:=lG.same hma xM;clear hma;clear HMS;gi_wp2;refine ⟨trivial,(c_W (oi 1 2 4 1 2 2 W43)).mono ?_⟩;rintro e W44 ⟨rfl,hb⟩;replace Ly:=lyb Ly hb;replace HIP:=lh ((HIP.out.below hb).more hb.size);replace HIW:=lh ((HIW.out.below hb).more hb.size);clear hb;gi_wp2;have hb:Below W44.heap.size W44 (W44.alloc (.cells #[.int .i64 1,.int .i64 2,.int .i64 4,.int .i64 1,.int .i64 2,.int .i64 2] 69)):=b_R.alloc n_R _;have HTS:=lh (eT W44 69 (k:=6) (n:=1) [.int .i64 1,.int .i64 2,.int .i64 4,.int .i64 1,.int .i64 2,.int .i64 2] rfl);change Hid (df (W44.alloc (.cells #[.int .i64 1,.int .i64 2,.int .i64 4,.int .i64 1,.int .i64 2,.int .i64 2] 69)) (W44.alloc (.cells #[.int .i64 1,.int .i64 2,.int .i64 4,.int .i64 1,.int .i64 2,.int .i64 2] 69)).heap.size 6 (some ⟨W44.heap.size,0,none⟩) 1 ([alT1].flatMap Tast.vals)) at HTS
 obtain ⟨V0,hV⟩:∃ V,(W44.alloc (.cells #[.int .i64 1,.int .i64 2,.int .i64 4,.int .i64 1,.int .i64 2,.int .i64 2] 69))=V:=⟨_,rfl⟩
 rw [hV] at hb HTS ⊢
 obtain ⟨gt,hgt⟩:∃ g,W44.heap.size=g:=⟨_,rfl⟩
 rw [hgt] at HTS ⊢;replace Ly:=lyb Ly hb;replace HIP:=lh ((HIP.out.below hb).more hb.size);replace HIW:=lh ((HIW.out.below hb).more hb.size);clear hb hV hgt;refine ⟨trivial,(c_W (fm (some ⟨gt,0,none⟩) 1 1 [alT1] V0 HTS.out (by decide))).mono ?_⟩;rintro e W45 ⟨g1,g2,rfl,hg1,hg2,hms,hb⟩;replace Ly:=lyb Ly hb;replace HIP:=lh ((HIP.out.below hb).more hb.size);replace HIW:=lh ((HIW.out.below hb).more hb.size);clear hb;have HMS:=lh hms;clear hms hg1 hg2 HTS;gi_wp2;refine ⟨trivial,(c_W (oi 2 3 5 1 1 2 W45)).mono ?_⟩;rintro e W46 ⟨rfl,hb⟩;replace Ly:=lyb Ly hb;replace HIP:=lh ((HIP.out.below hb).more hb.size);replace HIW:=lh ((HIW.out.below hb).more hb.size);replace HMS:=lh (HMS.out.up hb);clear hb;gi_wp2;refine ⟨trivial,(c_W (yW (some ⟨g1,0,none⟩) 3 3 (some ⟨g2,0,none⟩) 5 5 (some ⟨gt,0,none⟩) 1 1 (d8 [alT1]) alT2 W46 HMS.out)).mono ?_⟩;rintro e W47 ⟨A1,n1,c1,A2,n2,c2,A3,n3,c3,rfl,hmo,hn3,hb⟩;replace Ly:=lyb Ly hb;replace HIP:=lh ((HIP.out.below hb).more hb.size);replace HIW:=lh ((HIW.out.below hb).more hb.size);replace HMS:=lh (HMS.out.up hb);clear hb;rw [yM] at hmo ⊢;have HMO:=lh hmo;have HN3:=lh (pa hmo (by kernel_rfl));clear hmo hn3;clear HMS;gi_upto_region 14 with fail
 obtain ⟨V48,hV⟩:∃ V,(W47.alloc (.cells #[.int .i64 (d8 [alT1,alT2]).fountains,.slice A1 n1 c1,.slice A2 n2 c2,.slice A3 n3 c3] 26))=V:=⟨_,rfl⟩
 rw [hV];have hb:=dB hV;have hnew:=dE hV;have hge:=Ly.out.bel.size;replace Ly:=lyb Ly hb;replace HIP:=lh ((HIP.out.below hb).more hb.size);replace HIW:=lh ((HIW.out.below hb).more hb.size);replace HMO:=lh (HMO.out.below hb);replace Ly:=lh (Ly.out.add hge hnew);clear hnew hge hb hV
 obtain ⟨G49,hG⟩:∃ g,W47.heap.size=g:=⟨_,rfl⟩
 rw [hG] at Ly ⊢;clear hG;obtain ⟨x3_0,x3_1,x3_2,x3_3⟩:=lyc4 Ly 3 rfl;have l3_:=Ly.out.lt 3 rfl;gi_wp2;clear x3_0 x3_1 x3_2 x3_3 l3_;refine ⟨trivial,(c_W (ux A1 n1 c1 A2 n2 c2 A3 n3 c3 (d8 [alT1,alT2]) V48 (HMO.out.s HN3.out.1 HN3.out.2.1 HN3.out.2.2.1))).mono ?_⟩;rintro e W50 ⟨rl,rA,rn,rc,re,rfl,hma,hpi,hp3,hb,hpx⟩;replace Ly:=lyb Ly hb;replace HIP:=lh ((HIP.out.below hb).more hb.size);replace HIW:=lh ((HIW.out.below hb).more hb.size);replace HMO:=lh (HMO.out.below hb);clear hb;obtain ⟨rfl,rfl⟩:=jn.same hma vG;have HIR:=lh hpi;have HIR9:=lh hp3;clear hma hpi hp3 hpx;gi_wp2;have hb1:Below W50.heap.size W50 (W50.alloc (.cells #[.int .i64 1] 3)):=b_R.alloc n_R _;have HP1:=db.new W50 3 [1] (W50.alloc (.cells #[.int .i64 1] 3)).heap.size (by simp);refine ⟨trivial,(callsIn_wide.2 (jc rA rn rc [1] (some ⟨W50.heap.size,0,none⟩) 1 1 [1] _ (by have:=HIR9.out;unfold maxLen;omega) (by decide) ((HIR.out.below hb1).more hb1.size) HP1)).mono ?_⟩;rintro e W99 ⟨rfl,hb⟩;have hb9:=Ly.out.1.trans ((hb1.trans (hb.mono hb1.size)).mono Ly.out.1.size);clear hb hb1 HP1;rw [show jG [1] [1]=true from by decide];gi_wp2;refine bodyPost_ret (v:=.bool true) (by simp [results,Tryz.results22,go_sem]) rfl ?_;exact ⟨rfl,hb9⟩
end
section
section
variable {m m':Mix} {A:List Held} {f:Int} {T:Tast}
theorem sb {t:Nat}{s:Held}:d7 m f t s=true↔∀ x∈m.tastes,x.fountain=f→x.after=(t:Int)→x.lo≤au s (idxV m.vessels x.vessel)∧au s (idxV m.vessels x.vessel)≤x.hi:=by
 unfold d7;rw [List.all_eq_true];constructor
 ·intro h x hx e1 e2
  have:=h x hx;simpa [e1,e2] using this
 ·intro h x hx
  by_cases e1:x.fountain=f
  ·by_cases e2:x.after=(t:Int)
   ·have:=h x hx e1 e2
    simp [e1,e2,this.1,this.2]
   ·simp [e2]
  ·simp [e1]
end
end
section
theorem qT {m:Mix}(h:dm m=true):(∀ v∈m.vessels,iS v=true)∧(∀ x∈m.tastes,eo m x=true)∧risB 0 (m.vessels.map (·.id))=true∧risB 0 (m.tastes.map (·.num))=true:=by
 unfold dm at h;simp only [Bool.and_eq_true,decide_eq_true_eq] at h;obtain ⟨⟨⟨⟨⟨⟨h1,h2⟩,h5⟩,h6⟩,h7⟩,h8⟩,h9⟩:=h;exact ⟨List.all_eq_true.1 h5,List.all_eq_true.1 h6,h8,h9⟩
section
variable {m x:Mix} {v t f g n:Int} {T:Tast} {s s' c d:Int × Int} {e h i j k:Int}
theorem gW (hok:dm m=true)(hv:0≤idxV m.vessels v)(ht:0≤t∧t≤m.acts.length)(hf:1≤f∧f≤m.fountains)(h:OfIs m v t f s e):fX m f (OfP m v t f) s e:=by
 have h0:askM m v t [f]=0:=by unfold askM;rw [if_pos hok,if_neg (by omega),if_pos ⟨ht,by simpa using hf⟩]
 rcases h with ⟨h1,_⟩ | ⟨_,h1⟩
 ·exact absurd h0 h1
 ·exact h1
theorem rx (hok:dm m=true)(hf:1≤f∧f≤m.fountains)(h:gj m f s e):fX m f (rJ m f) s e:=by
 have h0:ke m f=0:=by unfold ke;rw [if_pos hok,if_pos hf]
 rcases h with ⟨h1,_⟩ | ⟨_,h1⟩
 ·exact absurd h0 h1
 ·exact h1
theorem ld (hok:dm m=true)(hv:0≤idxV m.vessels v)(ht:0≤t∧t≤m.acts.length)(h:eY m v t n e):e=0∧∃ A a,allM m m.acts=some A∧A[t.toNat]? =some a∧n=au a (idxV m.vessels v):=by
 have h0:askM m v t []=0:=by unfold askM;rw [if_pos hok,if_neg (by omega),if_pos ⟨ht,by simp⟩]
 rcases h with ⟨h1,_⟩ | ⟨_,h1⟩
 ·exact absurd h0 h1
 ·exact h1
theorem gX {P Q:List Held→Int→Prop}{A:List Held}(hA:allM m m.acts=some A)(h1:fX m f P s e)(h2:fX m f Q c k):e=k∧((e=0∧dq m f A 0 dM∧fA (P A) s∧fA (Q A) c)∨(e=8∧¬ dq m f A 0 dM∧s=(0,0)∧c=(0,0))):=by
 obtain ⟨A1,e1,h1⟩:=h1;obtain ⟨A2,e2,h2⟩:=h2;rw [hA] at e1 e2;cases e1;cases e2
 rcases h1 with ⟨a,b,c⟩ | ⟨a,b,c⟩<;>rcases h2 with ⟨a',b',c'⟩ | ⟨a',b',c'⟩
 ·exact ⟨by omega,.inr ⟨c,a,b,b'⟩⟩
 ·exact absurd a' a
 ·exact absurd a a'
 ·exact ⟨by omega,.inl ⟨b,a,c,c'⟩⟩
end
end
section
open Go.RowKit
def lM (nv na nt:Nat)(m:Mix):Bool:=!fW nv na nt && dm m
theorem rh {nv na nt:Nat}{m:Mix}(h:lM nv na nt m=true):fW nv na nt=false∧dm m=true:=by unfold lM at h;simpa using h
theorem vp (Av:Option Addr)(nv cv:Nat)(Aa:Option Addr)(na ca:Nat)(At:Option Addr)(nt ct:Nat)(m:Mix)(w:World)(h:ej w w.heap.size Av nv Aa na At nt m) :
  CallsIn Fence.wide 9 Tryz.prog 23 #[.agg #[.int .i64 m.fountains,.slice Av nv cv,.slice Aa na ca,.slice At nt ct]] w (fun e w'=>e = .returned (.bool (lM nv na nt m))∧Below w.heap.size w w'):=by
 have HM:=lh h;clear h;refine callsIn_of_wp Tryz.func23 rfl trivial ?_ rfl;simp only [Tryz.ntmps23,es,Nat.reduceAdd,Nat.reduceSub];gi_upto_region 1 with fail
 have Ly:=lh (Lay.one w 26 #[.int .i64 m.fountains,.slice Av nv cv,.slice Aa na ca,.slice At nt ct]);generalize (w.alloc (.cells #[.int .i64 m.fountains,.slice Av nv cv,.slice Aa na ca,.slice At nt ct] 26))=w0 at *;obtain ⟨x0_0,x0_1,x0_2,x0_3⟩:=lyc4 Ly 0 rfl;have l0_:=Ly.out.lt 0 rfl;gi_wp2;clear x0_0 x0_1 x0_2 x0_3 l0_;refine ⟨trivial,(callsIn_wide.2 (uh m.fountains Av nv cv Aa na ca At nt ct w0)).mono ?_⟩;rintro e W1 ⟨rfl,hb⟩;replace Ly:=lyb Ly hb;clear hb
 cases hg:fW nv na nt with
 | true =>
  gi_wp2;refine ⟨trivial,?_⟩;gi_wp2;refine bodyPost_ret (v:=.bool false) (by simp [results,Tryz.results23,go_sem]) rfl ?_;exact ⟨by unfold lM;rw [hg];rfl,Ly.out.1⟩
 | false =>
  have hsm:=qh hg
  have hsx:MixS w Av nv Aa na At nt m:=⟨HM.out,by omega,by omega,by omega⟩
  have HS:=lh hsx;have HG:=lh hg;clear hsm hsx hg;obtain ⟨x0_0,x0_1,x0_2,x0_3⟩:=lyc4 Ly 0 rfl;have l0_:=Ly.out.lt 0 rfl;gi_wp2;clear x0_0 x0_1 x0_2 x0_3 l0_;refine ⟨trivial,(callsIn_wide.2 (vV Av nv cv Aa na ca At nt ct m W1 (HS.out.up Ly.out.1))).mono ?_⟩;rintro e W2 ⟨rfl,hb⟩;replace Ly:=lyb Ly hb;clear hb;gi_wp2;refine bodyPost_ret (v:=.bool (dm m)) (by simp [results,Tryz.results23,go_sem]) rfl ?_;exact ⟨by unfold lM;rw [HG.out];rfl,Ly.out.1⟩
theorem lO (lo hi n:Int)(w:World) :
  CallsIn Fence.wide 9 Tryz.prog 31 #[.agg #[.int .i64 lo,.int .i64 hi],.int .i64 n] w (fun e w'=>e = .returned (.bool (decide (lo≤n∧n≤hi)))∧Below w.heap.size w w'):=by
 refine callsIn_of_wp Tryz.func31 rfl trivial ?_ rfl;simp only [Tryz.ntmps31,es,Nat.reduceAdd,Nat.reduceSub];gi_upto_region 1 with fail
 have Ly:=lh (Lay.one w 54 #[.int .i64 lo,.int .i64 hi]);generalize (w.alloc (.cells #[.int .i64 lo,.int .i64 hi] 54))=w0 at *;by_cases h0:lo≤n
 ·by_cases h1:n≤hi
  ·
   obtain ⟨x0_0,x0_1⟩:=lyc2 Ly 0 rfl;have l0_:=Ly.out.lt 0 rfl;gi_wp2;clear x0_0 x0_1 l0_;refine bodyPost_ret (v:=.bool true) (by simp [results,Tryz.results31,go_sem]) rfl ?_;exact ⟨by simp [h0,h1],Ly.out.1⟩
  ·
   obtain ⟨x0_0,x0_1⟩:=lyc2 Ly 0 rfl;have l0_:=Ly.out.lt 0 rfl;gi_wp2;clear x0_0 x0_1 l0_;refine bodyPost_ret (v:=.bool false) (by simp [results,Tryz.results31,go_sem]) rfl ?_;exact ⟨by simp [h1],Ly.out.1⟩
 ·
  obtain ⟨x0_0,x0_1⟩:=lyc2 Ly 0 rfl;have l0_:=Ly.out.lt 0 rfl;gi_wp2;clear x0_0 x0_1 l0_;refine bodyPost_ret (v:=.bool false) (by simp [results,Tryz.results31,go_sem]) rfl ?_;exact ⟨by simp;omega,Ly.out.1⟩
end
section
set_option linter.unusedSectionVars false
abbrev fc:=List (List Int)
def hpAt (H:fc)(i:Int):List Int:=(H[i.toNat]?).getD []
def l5 (H:fc)(fr to:Int)(left drops:List Int):fc :=
 let H1:=if 0≤fr then H.set fr.toNat left else H
 if 0≤to then H1.set to.toNat (hpAt H1 to++drops) else H1
def oM (m:Mix)(x:MAct)(H:fc)(drops:List Int)(H':fc):Prop :=
 ∃ left,(x.kind=1→drops=List.replicate x.drops.toNat x.fr)∧(x.kind≠1→(drops++left).Perm (hpAt H (cu m x)))∧(x.kind=4→left=[])∧(x.kind≠4→drops.length=x.drops.toNat)∧H'=l5 H (cu m x) (toI m x) left drops
structure Went (m:Mix)(n:Nat)(H:Nat→fc)(Dr:Nat→List Int):Prop where
 zero:H 0=[[],[],[],[]]
 step:∀ {t:Nat} {x:MAct},t<n→m.acts[t]? =some x→oM m x (H t) (Dr t) (H (t+1))
section
variable {m:Mix} {A:List Held} {f:Int} {H:Nat→fc} {Dr:Nat→List Int} {n:Nat}
theorem vH (H:fc)(fr to:Int)(l d:List Int):(l5 H fr to l d).length=H.length:=by
 unfold l5;dsimp only
 split<;>split<;>simp
theorem jA {H:fc}{i j:Int}{l:List Int}(hi:0≤i)(hj:0≤j)(hl:i<H.length):hpAt (H.set i.toNat l) j=if j=i then l else hpAt H j:=by
 unfold hpAt;rw [List.getElem?_set];by_cases e:j=i
 ·subst e
  rw [if_pos rfl,if_pos rfl,if_pos (by omega)];rfl
 ·rw [if_neg (by omega),if_neg e]
theorem tu {H:fc}{fr to:Int}{l d:List Int}(hH:H.length=4)(hf:fr<4)(ht:to<4)(hne:fr≠to∨fr<0){i:Nat}(hi:i<4) :
  hpAt (l5 H fr to l d) i=if (i:Int)=fr then l else if (i:Int)=to then hpAt H i++d else hpAt H i:=by
 unfold l5;dsimp only;by_cases h1:0≤fr
 ·rw [if_pos h1]
  have hne':to≠fr:=by omega
  by_cases h2:0≤to
  ·rw [if_pos h2,jA h2 (by omega) (by rw [List.length_set];omega),jA h1 h2 (by omega),jA h1 (by omega) (by omega),if_neg hne']
   by_cases p:(i:Int)=to
   ·rw [if_pos p,if_neg (by omega),if_pos p,p]
   ·rw [if_neg p]
    by_cases q:(i:Int)=fr
    ·rw [if_pos q,if_pos q]
    ·rw [if_neg q,if_neg q,if_neg p]
  ·rw [if_neg h2,jA h1 (by omega) (by omega)]
   by_cases q:(i:Int)=fr
   ·rw [if_pos q,if_pos q]
   ·rw [if_neg q,if_neg q,if_neg (by omega)]
 ·rw [if_neg h1]
  by_cases h2:0≤to
  ·rw [if_pos h2,jA h2 (by omega) (by omega)]
   by_cases p:(i:Int)=to
   ·rw [if_pos p,if_neg (by omega),if_pos p,p]
   ·rw [if_neg p,if_neg (by omega),if_neg p]
  ·rw [if_neg h2,if_neg (by omega),if_neg (by omega)]
theorem ky {all:Held}{x:MAct}(h:kY m all x):cu m x≠toI m x∨cu m x<0:=by
 unfold cu toI;by_cases e1:x.kind=1
 ·right;rw [if_pos e1];decide
 ·by_cases e2:x.kind=2
  ·left
   have:=h.apart e2;simp only [e2];simpa using this
  ·left
   have:=h.from_ e1;rw [if_neg e1,if_neg (by omega)];omega
theorem Went.len (h:Went m n H Dr)(hn:n≤m.acts.length):∀ {t:Nat},t≤n→(H t).length=4
 | 0,_=>by rw [h.zero];rfl
 | t+1,ht=>by
  have hx:m.acts[t]? =some (m.acts[t]'(by omega)):=List.getElem?_eq_getElem (by omega);obtain ⟨left,_,_,_,_,e⟩:=h.step (by omega) hx;rw [e,vH];exact h.len hn (by omega)
theorem Went.holds (hA:allM m m.acts=some A)(hv:m.vessels.length≤4)(h:Went m n H Dr)(hn:n≤m.acts.length):∀ {t:Nat} {a:Held} {i:Nat},t≤n→A[t]? =some a→i<4→((hpAt (H t) i).length:Int)=au a i
 | 0,a,i,_,ha,hi=>by
  rw [j3 hA] at ha;cases ha;rw [h.zero]
  match i,hi with
  | 0,_=>rfl
  | 1,_=>rfl
  | 2,_=>rfl
  | 3,_=>rfl
 | t+1,a',i,ht,ha,hi=>by
  have hl:=eH m m.acts A hA;have hx:m.acts[t]? =some (m.acts[t]'(by omega)):=List.getElem?_eq_getElem (by omega);have h0:A[t]? =some (A[t]'(by omega)):=List.getElem?_eq_getElem (by omega);obtain ⟨hok,hnext⟩:=iz hA hv hx h0;rw [ha] at hnext;have e:=Option.some.inj hnext;rw [e,fx hv _ (pb hA hv h0) _ hi];have hih:=fun (j:Nat) (hj:j<4)=>h.holds hA hv hn (i:=j) (Nat.le_of_succ_le ht) h0 hj;obtain ⟨left,k1,k2,k3,k4,k5⟩:=h.step (by omega) hx;rw [k5,tu (h.len hn (by omega)) (dT hv _) (fu hv _) (ky hok) hi];generalize m.acts[t]'(by omega)=x at *;have hsz:=hok.size;by_cases e1:x.kind=1
  ·have hd:=k1 e1
   have hf:cu m x = -1:=by unfold cu;rw [if_pos e1]
   have hs:dw m (A[t]'(by omega)) x=x.drops:=by unfold dw;rw [if_neg (by omega)]
   have h1:=hsz.1 e1;rw [hf,hs,if_neg (by omega)];have h2:=hih i hi;have h3:(Dr t).length=x.drops.toNat:=by rw [hd];simp
   by_cases p:(i:Int)=toI m x
   ·rw [if_pos p,if_pos p.symm,if_neg (by omega),List.length_append]
    omega
   ·rw [if_neg p,if_neg (fun q=>p q.symm),if_neg (by omega)]
    omega
  ·have hp:=(k2 e1).length_eq
   rw [List.length_append] at hp;have hf0:0≤cu m x:=by unfold cu;rw [if_neg e1];exact hok.from_ e1
   have hf4:=dT hv x;have hfi:cu m x=((cu m x).toNat:Int):=by omega
   have h4:=hih (cu m x).toNat (by omega);rw [← hfi] at h4;have h2:=hih i hi
   have hsd:((Dr t).length:Int)=dw m (A[t]'(by omega)) x:=by
    unfold dw;by_cases e4:x.kind=4
    ·rw [if_pos e4,← h4]
     rw [k3 e4] at hp;simp at hp;omega
    ·rw [if_neg e4,k4 e4]
     have:=hsz.2 (by have:=hok.kind;omega);omega
   have hap:=ky hok;by_cases q:(i:Int)=cu m x
   ·rw [if_pos q,if_neg (by omega),if_pos q.symm]
    rw [← q] at h4 hp;omega
   ·rw [if_neg q]
    by_cases p:(i:Int)=toI m x
    ·rw [if_pos p,if_pos p.symm,if_neg (fun r=>q r.symm),List.length_append]
     omega
    ·rw [if_neg p,if_neg (fun r=>p r.symm),if_neg (fun r=>q r.symm)]
     omega
def cntH (f:Int)(H:fc):Held:=H.map fun l=>(l.count f:Int)
theorem k7 (f:Int)(H:fc)(i:Int):au (cntH f H) i=((hpAt H i).count f:Int):=by
 unfold au cntH hpAt;rw [List.getElem?_map];cases H[i.toNat]?<;>rfl
theorem uI (f g:Int)(k:Nat):(List.replicate k g).count f=if g=f then k else 0:=by
 rw [List.count_replicate];by_cases e:g=f<;>simp [e]
theorem Went.run (hA:allM m m.acts=some A)(hv:m.vessels.length≤4)(h:Went m m.acts.length H Dr)(ht:∀ {t:Nat},t≤m.acts.length→d7 m f t (cntH f (H t))=true) :
  Run m f A (fun t=>cntH f (H t)) (fun t=>((Dr t).count f:Int)):=by
 refine ⟨by show cntH f (H 0)=dM;rw [h.zero];rfl,?_,ht⟩;intro t x all hx ha;have htl:=(g_E hx).1;obtain ⟨hok,hnext⟩:=iz hA hv hx ha;obtain ⟨left,k1,k2,k3,k4,k5⟩:=h.step htl hx;have hl4:=h.len n_R (Nat.le_of_lt htl);have hl5:(cntH f (H t)).length=4:=by unfold cntH;rw [List.length_map];exact hl4
 have hap:=ky hok
 have hs3:cntH f (H (t+1))=dh (cntH f (H t)) (cu m x) (toI m x) ((Dr t).count f:Int):=by
  refine xd (by unfold cntH;rw [List.length_map];exact h.len n_R htl) (by rw [po];exact hl5) fun i hi=>?_;rw [fx hv x hl5 _ hi,k7,k7,k5,tu hl4 (dT hv _) (fu hv _) hap hi];by_cases e1:x.kind=1
  ·have hf:cu m x = -1:=by unfold cu;rw [if_pos e1]
   rw [hf,if_neg (by omega),if_neg (show ¬ ((-1:Int)=(i:Int)) by omega)];by_cases p:(i:Int)=toI m x
   ·rw [if_pos p,if_pos p.symm,List.count_append];omega
   ·rw [if_neg p,if_neg (fun q=>p q.symm)];omega
  ·have hp:=(k2 e1).count_eq f
   rw [List.count_append] at hp;by_cases q:(i:Int)=cu m x
   ·rw [if_pos q,if_neg (by omega),if_pos q.symm]
    rw [← q] at hp;omega
   ·rw [if_neg q]
    by_cases p:(i:Int)=toI m x
    ·rw [if_pos p,if_pos p.symm,if_neg (fun r=>q r.symm),List.count_append];omega
    ·rw [if_neg p,if_neg (fun r=>p r.symm),if_neg (fun r=>q r.symm)];omega
 have hbd:(dQ m x f all (cntH f (H t))).1≤((Dr t).count f:Int)∧((Dr t).count f:Int)≤(dQ m x f all (cntH f (H t))).2:=by
  have hcl:(Dr t).count f≤(Dr t).length:=List.count_le_length;unfold dQ;by_cases e1:x.kind=1
  ·have hf:cu m x = -1:=by unfold cu;rw [if_pos e1]
   have hs:dw m all x=x.drops:=by unfold dw;rw [if_neg (by omega)]
   have h1:=hok.size.1 e1;rw [hf,if_neg (by omega),hs,k1 e1,uI];by_cases e:x.fr=f
   ·rw [if_pos e,if_pos e];dsimp only;omega
   ·rw [if_neg e,if_neg e];dsimp only;omega
  ·have hf0:0≤cu m x:=by unfold cu;rw [if_neg e1];exact hok.from_ e1
   have hf4:=dT hv x;have hfi:cu m x=((cu m x).toNat:Int):=by omega
   have hp:=(k2 e1).count_eq f;rw [List.count_append] at hp;have hp':=(k2 e1).length_eq;rw [List.length_append] at hp';have h4:=h.holds hA hv n_R (Nat.le_of_lt htl) ha (i:=(cu m x).toNat) (by omega);rw [← hfi] at h4;have hcl2:left.count f≤left.length:=List.count_le_length
   have hsd:((Dr t).length:Int)=dw m all x:=by
    unfold dw;by_cases e4:x.kind=4
    ·rw [if_pos e4,← h4]
     rw [k3 e4] at hp';simp at hp';omega
    ·rw [if_neg e4,k4 e4]
     have:=hok.size.2 (by have:=hok.kind;omega);omega
   rw [if_pos hf0,k7];dsimp only;omega
 exact ⟨hbd.1,hbd.2,hs3⟩
end
end
section
set_option linter.unusedSectionVars false
section
variable {m:Mix} {A:List Held} {f:Int} {x z:MAct} {all has:Held}
end
section
variable {m:Mix} {A A':List Held} {f:Int} {z:MAct} {a':Held}
end
theorem rm {m:Mix}{v t f k e:Int}{A:List Held}(hok:dm m=true)(hA:allM m m.acts=some A)(hv:0≤idxV m.vessels v)(ht:0≤t∧t≤m.acts.length)(hf:1≤f∧f≤m.fountains)(h:iE m v t f k e) :
  (e=8∧k=0∧¬ dq m f A 0 dM)∨(e=0∧dq m f A 0 dM∧∃ s a,fA (OfP m v t f A) s∧A[t.toNat]? =some a∧k=fK (decide (s.1=au a (idxV m.vessels v))) (decide (s.2=au a (idxV m.vessels v)))):=by
 rcases h with ⟨h0,rfl,h1⟩ | ⟨rfl,lo,hi,n,rfl,h1,h2⟩
 ·have o:=gX hA (gW hok hv ht hf h1) (gW hok hv ht hf h1)
  rcases o.2 with ⟨c1,_⟩ | ⟨c1,c2,_⟩
  ·exact absurd c1 h0
  ·exact .inl ⟨c1,rfl,c2⟩
 ·have o:=gX hA (gW hok hv ht hf h1) (gW hok hv ht hf h1)
  rcases o.2 with ⟨c1,c2,c3,_⟩ | ⟨c1,_⟩
  ·obtain ⟨_,A1,a,hA1,ha,rfl⟩:=ld hok hv ht h2
   rw [hA] at hA1;cases hA1;exact .inr ⟨rfl,c2,(lo,hi),a,c3,ha,rfl⟩
  ·omega
theorem oJ {p q:Prop}[Decidable p][Decidable q]:fK (decide p) (decide q)=2↔p:=by
 unfold fK;by_cases hp:p<;>by_cases hq:q<;>simp [hp,hq]
theorem mQ {p q:Prop}[Decidable p][Decidable q]:fK (decide p) (decide q)=0↔¬ p∧¬ q:=by
 unfold fK;by_cases hp:p<;>by_cases hq:q<;>simp [hp,hq]
end
section
set_option linter.unusedSectionVars false
theorem yb {m:Mix}(h:dm m=true){i:Nat}{v:Vess}(hi:m.vessels[i]? =some v):idxV m.vessels v.id=(i:Int):=by
 have hp:=(gm (qT h).2.2.1).1
 have h0:0≤idxV m.vessels v.id:=by
  unfold idxV;rw [if_pos (List.any_eq_true.2 ⟨v,List.mem_of_getElem? hi,by simp⟩)];omega
 obtain ⟨u,h1,h2⟩:=nM h0;obtain ⟨l1,l2⟩:=g_E h1;obtain ⟨l3,l4⟩:=g_E hi;have e1:(m.vessels.map (·.id))[(idxV m.vessels v.id).toNat]'(by simpa using l1)=u.id:=by simp [l2]
 have e2:(m.vessels.map (·.id))[i]'(by simpa using l3)=v.id:=by simp [l4]
 rw [List.pairwise_iff_getElem] at hp;rcases Nat.lt_trichotomy (idxV m.vessels v.id).toNat i with h | h | h
 ·have:=hp _ _ (by simpa using l1) (by simpa using l3) h
  rw [e1,e2] at this;omega
 ·omega
 ·have:=hp _ _ (by simpa using l3) (by simpa using l1) h
  rw [e1,e2] at this;omega
section
variable {m:Mix} {A:List Held} {f:Int}
end
section
variable {m:Mix} {A:List Held} {f:Int}
theorem tS (hv:m.vessels.length≤4)(x:MAct){s:Held}(hs:s.length=4)(k:Int)(hf : -1≤cu m x)(ht : -1≤toI m x) :
  sumH (dh s (cu m x) (toI m x) k)=sumH s+((if 0≤toI m x then k else 0) - (if 0≤cu m x then k else 0)):=by
 have h0:=fx hv x hs k (i:=0) (by decide);have h1:=fx hv x hs k (i:=1) (by decide);have h2:=fx hv x hs k (i:=2) (by decide);have h3:=fx hv x hs k (i:=3) (by decide);have f4:=dT hv x;have t4:=fu hv x;unfold sumH;generalize cu m x=a at *;generalize toI m x=b at *;have ha:a = -1∨a=0∨a=1∨a=2∨a=3:=by omega
 have hb:b = -1∨b=0∨b=1∨b=2∨b=3:=by omega
 rcases ha with rfl | rfl | rfl | rfl | rfl<;>rcases hb with rfl | rfl | rfl | rfl | rfl<;>simp at h0 h1 h2 h3 ⊢<;>omega
def filT (f:Int)(l:List MAct):Int:=l.foldl (fun n x=>if x.kind=1∧x.fr=f then n+x.drops else n) 0
theorem uG (f:Int)(l:List MAct)(x:MAct):filT f (l++[x])=if x.kind=1∧x.fr=f then filT f l+x.drops else filT f l:=by unfold filT;rw [List.foldl_append];rfl
end
end
section
set_option linter.unusedSectionVars false
section
variable {m:Mix} {A:List Held} {f g v t e h k n j:Int} {met back:Bool}
end
section
variable {m:Mix} {A:List Held} {f v t e h k n j p:Int} {H:Nat→fc} {Dr:Nat→List Int}
def lk (m:Mix)(f:Int)(Dr:Nat→List Int):Nat→Int
 | 0=>0
 | t+1=>lk m f Dr t+(match m.acts[t]? with | some x=>if 2<x.kind then ((Dr t).count f:Int) else 0 | none=>0)
theorem tE (hA:allM m m.acts=some A)(hv:m.vessels.length≤4)(hr:Run m f A (fun t=>cntH f (H t)) (fun t=>((Dr t).count f:Int))):∀ {t:Nat},t≤m.acts.length→sumH (cntH f (H t))=filT f (m.acts.take t) - lk m f Dr t
 | 0,_=>by rw [show cntH f (H 0)=dM from hr.zero];rfl
 | t+1,ht=>by
  obtain ⟨x,hx⟩:∃ x,m.acts[t]? =some x:=⟨_,List.getElem?_eq_getElem (by omega)⟩
  obtain ⟨all,_,ha,_,_⟩:=ft hA hx;have hok:=(iz hA hv hx ha).1;obtain ⟨k1,k2,k3⟩:=hr.step hx ha;have ih:=tE hA hv hr (t:=t) (by omega);have hft:=hr.fits hA hv (t:=t) (by omega) ha;have htl:=g_E hx;have hf1 : -1≤cu m x:=by unfold cu;split;omega;unfold idxV;split<;>omega
  try dsimp only at k1 k2 k3 hft
  rw [k3,tS hv x hft.lh _ hf1 tf,List.take_succ_eq_append_getElem htl.1,htl.2,uG,lk,hx];dsimp only;by_cases e1:x.kind=1
  ·have ht0:=x6 hok e1
   unfold dQ at k1 k2;have hz:dw m all x=x.drops:=by unfold dw;rw [if_neg (by omega)]
   rw [pu e1,if_neg (by omega),hz] at k1 k2;rw [if_pos ht0,pu e1,if_neg (show ¬ ((0:Int)≤-1) by omega),if_neg (show ¬ (2<x.kind) by omega)];by_cases e2:x.fr=f
   ·rw [if_pos e2] at k1 k2
    rw [if_pos (show x.kind=1∧x.fr=f from ⟨e1,e2⟩)];dsimp only at k1 k2;omega
   ·rw [if_neg e2] at k1 k2
    rw [if_neg (show ¬ (x.kind=1∧x.fr=f) from fun q=>e2 q.2)];dsimp only at k1 k2;omega
  ·have hf0:=su hok e1
   rw [if_neg (show ¬ (x.kind=1∧x.fr=f) from fun q=>e1 q.1),if_pos hf0];by_cases e2:x.kind=2
   ·have ht0:0≤toI m x:=by unfold toI;rw [if_pos (.inr e2)];exact hok.to_ (.inr e2)
    rw [if_pos ht0,if_neg (show ¬ (2<x.kind) by omega)];omega
   ·have ht0:toI m x = -1:=by unfold toI;rw [if_neg (by omega)]
    have:=hok.kind;rw [ht0,if_neg (show ¬ ((0:Int)≤-1) by omega),if_pos (show 2<x.kind by omega)];omega
theorem sr {s s':Int × Int}{all kk pp i g:Int}(hok:dm m=true)(hA:allM m m.acts=some A)(hr:Run m f A (fun t=>cntH f (H t)) (fun t=>((Dr t).count f:Int)))(hw:Went m m.acts.length H Dr)(hv:0≤idxV m.vessels v)(ht:0≤t∧t≤m.acts.length)(hf:1≤f∧f≤m.fountains)
  (hn:n=((hpAt (H t.toNat) (idxV m.vessels v)).count f:Int)) (h1:OfIs m v t f s e) (h2:OfIs m v t f s' g) (hk:g=0→kk=fK (decide (0<s'.1)) (decide (0<s'.2))) (h3:iE m v t f pp h) (h4:eY m v t all j) :
  e=0∧g=0∧h=0∧j=0∧all=((hpAt (H t.toNat) (idxV m.vessels v)).length:Int)∧s.1≤n∧n≤s.2∧¬ (kk=2∧n=0)∧¬ (kk=0∧0<n)∧¬ (pp=2∧n<all)∧¬ (pp=0∧n=all):=by
 have hv4:=(dv hok).1;have hi4:=eN (id:=v) hv4;have htl:t.toNat≤m.acts.length:=by omega
 have htr:=hr.truth hA htl;have hT:=hr.truth hA (Nat.zero_le _);rw [hr.zero] at hT;obtain ⟨hj,A1,a,hA1,ha,rfl⟩:=ld hok hv ht h4;rw [hA] at hA1;cases hA1;have hlen:=hw.holds hA hv4 n_R htl ha (i:=(idxV m.vessels v).toNat) (by omega);rw [show (((idxV m.vessels v).toNat:Nat):Int)=idxV m.vessels v by omega] at hlen;have hof:=gW hok hv ht hf h1;have hof2:=gW hok hv ht hf h2
 have hP:OfP m v t f A n:=⟨_,htr,by rw [k7,hn]⟩
 have hcl:(hpAt (H t.toNat) (idxV m.vessels v)).count f≤(hpAt (H t.toNat) (idxV m.vessels v)).length:=List.count_le_length
 rcases (gX hA hof hof2).2 with ⟨c1,_,c3,c4⟩ | ⟨_,c2,_⟩
 rotate_left
 ·exact absurd hT c2
 have b1:=(gX hA hof hof2).1;have b3:=c3.2.2 n hP;have b4:=c4.2.2 n hP;have hkk:=hk (by omega)
 rcases rm hok hA hv ht hf h3 with ⟨_,_,d⟩ | ⟨d1,_,s5,a5,d4,d5,d6⟩
 ·exact absurd hT d
 rw [ha] at d5;cases d5;have b5:=d4.2.2 n hP;refine ⟨c1,by omega,d1,hj,hlen.symm,b3.1,b3.2,fun q=>?_,fun q=>?_,fun q=>?_,fun q=>?_⟩
 ·rw [hkk,oJ] at q;omega
 ·rw [hkk,mQ] at q;omega
 ·rw [d6,oJ] at q;omega
 ·rw [d6,mQ] at q
  obtain ⟨y,hy,ey⟩:=d4.2.1;have hft:=(hy.fits hA hv4 ha).le (idxV m.vessels v).toNat (by omega);rw [show (((idxV m.vessels v).toNat:Nat):Int)=idxV m.vessels v by omega,ey] at hft;omega
theorem r6 {s:Int × Int}{t:Nat}(hok:dm m=true)(hA:allM m m.acts=some A)(hr:Run m f A (fun t=>cntH f (H t)) (fun t=>((Dr t).count f:Int)))(ht:t<m.acts.length)(hf:1≤f∧f≤m.fountains)
  (h1:fg m ((t:Int)+1) f s e):e=0∧s.1≤((Dr t).count f:Int)∧((Dr t).count f:Int)≤s.2:=by
 have hT:=hr.truth hA (Nat.zero_le _);rw [hr.zero] at hT;have h0:actM m ((t:Int)+1) f=0:=by unfold actM;rw [if_pos hok,if_pos ⟨by omega,hf⟩]
 rcases h1 with ⟨c,_⟩ | ⟨_,h1⟩
 ·exact absurd h0 c
 rcases (gX hA h1 h1).2 with ⟨c1,_,c3,_⟩ | ⟨_,c2,_⟩
 ·obtain ⟨x,hx⟩:∃ x,m.acts[t]? =some x:=⟨_,List.getElem?_eq_getElem ht⟩
  obtain ⟨all,_,ha,_,_⟩:=ft hA hx;obtain ⟨k1,k2,k3⟩:=hr.step hx ha;have e1:((t:Int)+1).toNat=t+1:=by omega
  have q1:=hr.truth hA (t:=t) (by omega);have q2:=hr.truth hA (t:=t+1) ht;rw [k3] at q2;refine ⟨c1,c3.2.2 _ ⟨x,all,_,?_,?_,?_,k1,k2,?_⟩⟩
  ·rw [e1];exact hx
  ·rw [e1];exact ha
  ·rw [e1];exact q1
  ·rw [e1];exact q2
 ·exact absurd hT c2
theorem tZ {s:Int × Int}(hok:dm m=true)(hA:allM m m.acts=some A)(hr:Run m f A (fun t=>cntH f (H t)) (fun t=>((Dr t).count f:Int)))(hf:1≤f∧f≤m.fountains)
  (h1:gj m f s e):e=0∧s.1≤lk m f Dr m.acts.length∧lk m f Dr m.acts.length≤s.2:=by
 have hT:=hr.truth hA (Nat.zero_le _);rw [hr.zero] at hT;have h2:=rx hok hf h1
 rcases (gX hA h2 h2).2 with ⟨c1,_,c3,_⟩ | ⟨_,c2,_⟩
 ·have q:=tE hA (dv hok).1 hr n_R
  rw [List.take_length] at q;have hfe:filT f m.acts=fG m f:=rfl;rw [hfe] at q;exact ⟨c1,c3.2.2 _ ⟨_,hr.truth hA n_R,by omega⟩⟩
 ·exact absurd hT c2
def oy (m:Mix)(f:Int)(H:Nat→fc):Bool:=m.tastes.all fun x=>!(decide (x.fountain=f) && (decide (((hpAt (H x.after.toNat) (idxV m.vessels x.vessel)).count x.fountain:Int)<x.lo) || decide (x.hi<((hpAt (H x.after.toNat) (idxV m.vessels x.vessel)).count x.fountain:Int))))
theorem uO (hok:dm m=true)(hA:allM m m.acts=some A)(hw:Went m m.acts.length H Dr)(h:oy m f H=true):Run m f A (fun t=>cntH f (H t)) (fun t=>((Dr t).count f:Int)):=by
 refine hw.run hA (dv hok).1 fun {t} ht=>?_;rw [sb];intro x hx ef et;unfold oy at h;have:=List.all_eq_true.1 h x hx;rw [k7];rw [et,Int.toNat_natCast,ef] at this;simp only [decide_true,Bool.true_and,Bool.not_eq_true',Bool.or_eq_false_iff,decide_eq_false_iff_not] at this;omega
end
section
variable {m:Mix} {l o:List Int} {e:Int}
end
end
section
open Go.ChangeShapes Go.WideShapes Go.RowKit Go.Deep Go.Joins
set_option maxRecDepth 100000
theorem gr {α:Type}{vals:α→List Value}{sz:Nat}(hk:∀ x,(vals x).length=sz):∀ l:List α,(l.flatMap vals).length=l.length * sz
 | []=>by simp
 | x::l=>by rw [List.flatMap_cons,List.length_append,hk,gr hk l,List.length_cons,Nat.succ_mul];omega
theorem lj {α:Type}{vals:α→List Value}{sz:Nat}(hk:∀ x,(vals x).length=sz):∀ {l:List α} {i j:Nat} {x:α},l[i]? =some x→j<sz→(l.flatMap vals)[i * sz+j]? =(vals x)[j]?
 | [],i,j,x,h,_=>by simp at h
 | y::l,0,j,x,h,hj=>by
  have:y=x:=by simpa using h
  subst this;rw [List.flatMap_cons,Nat.zero_mul,Nat.zero_add,List.getElem?_append_left (by rw [hk];exact hj)]
 | y::l,i+1,j,x,h,hj=>by
  rw [List.flatMap_cons,List.getElem?_append_right (by rw [hk,Nat.succ_mul];omega),hk,show (i+1) * sz+j - sz=i * sz+j by rw [Nat.succ_mul];omega];exact lj hk (by simpa using h) hj
section
variable {H:Type} {enc:TypeId × Value→H} {w:World}
theorem eB:Tryz.prog.cellsOf 3=1:=by kernel_rfl
theorem uQ:Tryz.prog.cellsOf 26=4:=by kernel_rfl
theorem xE:∃ f0 f1,Tryz.prog.underlying 50=some (.struct #[f0,f1])∧f0.type=3∧f1.type=3∧f0.offset=0∧f1.offset=1 :=
 ⟨_,_,Tryz.underlying50,rfl,rfl,rfl,rfl⟩
theorem tP:Tryz.prog.cellsOf 50=2:=by kernel_rfl
theorem sP {fuel:Nat}{cs:List Value}{x:DataW H × List MemPlace}(h:DataW.trod enc Tryz.prog w 0 (fun _=>true) true fuel 50 cs=some x)(hl:cs.length=2):∃ l:Vess,cs=l.vals:=by
 obtain ⟨f0,f1,hu,t0,t1,z0,z1⟩:=xE;obtain ⟨xs,n,_,_,_,hlen,hg⟩:=DataW.trod_struct hu h
 match cs,hl,xs,hlen with
 | [c0,c1],_,[y0,y1],_ =>
  have h0:DataW.trod enc Tryz.prog w 0 (fun _=>true) true n 3 [c0]=some y0:=by simpa [t0,z0,eB] using hg 0 f0 rfl
  have h1:DataW.trod enc Tryz.prog w 0 (fun _=>true) true n 3 [c1]=some y1:=by simpa [t1,z1,eB] using hg 1 f1 rfl
  obtain ⟨n0,e0,_,_⟩:=DataW.trod_int Tryz.underlying3 h0;obtain ⟨n1,e1,_,_⟩:=DataW.trod_int Tryz.underlying3 h1;simp only [List.cons.injEq,and_true] at e0 e1;subst e0 e1;exact ⟨⟨n0,n1⟩,rfl⟩
theorem sm {v:Value}{fuel:Nat}{x:DataW H × List MemPlace}(h:DataW.trod enc Tryz.prog w 0 (fun _=>true) true fuel 22 [v]=some x) :
  ∃ A n c,∃ l:List Vess,v = .slice A n c∧n≤c∧n≤maxLen∧c≤maxLen∧df w w.heap.size 2 A n (l.flatMap Vess.vals):=by
 rcases open_slice Tryz.underlying22 h with ⟨e,_⟩ | ⟨a,len,cap,m,k,D,Pl,e,_,hl,hm,hmm,_,hx⟩
 ·simp only [List.cons.injEq,and_true] at e
  exact ⟨none,0,0,[],e,n_R,Nat.zero_le _,Nat.zero_le _,df.none_⟩
 ·simp only [List.cons.injEq,and_true] at e
  have hmc:m=cap:=by simpa using hmm
  subst hmc
  have hn:∀ i,i<m→∃ z:Vess,∀ j,j<2→w.cell? (a.add (i * 2+j))=z.vals[j]? :=fun i hi=>by
   obtain ⟨cs',h1,h2⟩:=hx i hi;rw [tP] at h1;obtain ⟨_,hcl,hat⟩:=World.cells?_some h1;obtain ⟨z,rfl⟩:=sP h2 hcl;exact ⟨z,fun j hj=>by rw [← Go.Deep.add_add,hat j hj]⟩
  letI:Inhabited Vess:=⟨⟨0,0⟩⟩
  obtain ⟨Z,hZ⟩:=choose_lt hn;refine ⟨some a,len,m,(List.range len).map Z,e,hl,by omega,hm,by rw [gr iZ];simp,fun h0=>⟨a,rfl,?_,fun j u hu=>?_⟩⟩
  ·have:=World.block_lt_of_cell? w _ (hZ 0 (by omega) 0 (by omega))
   rwa [ew] at this
  ·have hj:j<len * 2:=by
    rcases Nat.lt_or_ge j (len * 2) with h' | h'
    ·exact h'
    ·rw [List.getElem?_eq_none (by rw [gr iZ];simpa using h')] at hu;cases hu
   have hz:=hZ (j / 2) (by omega) (j % 2) (by omega);have ha:((List.range len).map Z)[j / 2]? =some (Z (j / 2)):=by rw [List.getElem?_map,List.getElem?_range (by omega)];rfl
   have hf:=lj iZ ha (show j % 2<2 by omega);rw [show j / 2 * 2+j % 2=j by omega] at hf hz;rw [hz,← hf,hu]
theorem yv:∃ f0 f1 f2 f3,Tryz.prog.underlying 62=some (.struct #[f0,f1,f2,f3])∧f0.type=3∧f1.type=3∧f2.type=3∧f3.type=3∧f0.offset=0∧f1.offset=1∧f2.offset=2∧f3.offset=3 :=
 ⟨_,_,_,_,Tryz.underlying62,rfl,rfl,rfl,rfl,rfl,rfl,rfl,rfl⟩
theorem tN:Tryz.prog.cellsOf 62=4:=by kernel_rfl
theorem sj {fuel:Nat}{cs:List Value}{x:DataW H × List MemPlace}(h:DataW.trod enc Tryz.prog w 0 (fun _=>true) true fuel 62 cs=some x)(hl:cs.length=4):∃ l:MAct,cs=l.vals:=by
 obtain ⟨f0,f1,f2,f3,hu,t0,t1,t2,t3,z0,z1,z2,z3⟩:=yv;obtain ⟨xs,n,_,_,_,hlen,hg⟩:=DataW.trod_struct hu h
 match cs,hl,xs,hlen with
 | [c0,c1,c2,c3],_,[y0,y1,y2,y3],_ =>
  have h0:DataW.trod enc Tryz.prog w 0 (fun _=>true) true n 3 [c0]=some y0:=by simpa [t0,z0,eB] using hg 0 f0 rfl
  have h1:DataW.trod enc Tryz.prog w 0 (fun _=>true) true n 3 [c1]=some y1:=by simpa [t1,z1,eB] using hg 1 f1 rfl
  have h2:DataW.trod enc Tryz.prog w 0 (fun _=>true) true n 3 [c2]=some y2:=by simpa [t2,z2,eB] using hg 2 f2 rfl
  have h3:DataW.trod enc Tryz.prog w 0 (fun _=>true) true n 3 [c3]=some y3:=by simpa [t3,z3,eB] using hg 3 f3 rfl
  obtain ⟨n0,e0,_,_⟩:=DataW.trod_int Tryz.underlying3 h0;obtain ⟨n1,e1,_,_⟩:=DataW.trod_int Tryz.underlying3 h1;obtain ⟨n2,e2,_,_⟩:=DataW.trod_int Tryz.underlying3 h2;obtain ⟨n3,e3,_,_⟩:=DataW.trod_int Tryz.underlying3 h3;simp only [List.cons.injEq,and_true] at e0 e1 e2 e3;subst e0 e1 e2 e3;exact ⟨⟨n0,n1,n2,n3⟩,rfl⟩
theorem sR {v:Value}{fuel:Nat}{x:DataW H × List MemPlace}(h:DataW.trod enc Tryz.prog w 0 (fun _=>true) true fuel 23 [v]=some x) :
  ∃ A n c,∃ l:List MAct,v = .slice A n c∧n≤c∧n≤maxLen∧c≤maxLen∧df w w.heap.size 4 A n (l.flatMap MAct.vals):=by
 rcases open_slice Tryz.underlying23 h with ⟨e,_⟩ | ⟨a,len,cap,m,k,D,Pl,e,_,hl,hm,hmm,_,hx⟩
 ·simp only [List.cons.injEq,and_true] at e
  exact ⟨none,0,0,[],e,n_R,Nat.zero_le _,Nat.zero_le _,df.none_⟩
 ·simp only [List.cons.injEq,and_true] at e
  have hmc:m=cap:=by simpa using hmm
  subst hmc
  have hn:∀ i,i<m→∃ z:MAct,∀ j,j<4→w.cell? (a.add (i * 4+j))=z.vals[j]? :=fun i hi=>by
   obtain ⟨cs',h1,h2⟩:=hx i hi;rw [tN] at h1;obtain ⟨_,hcl,hat⟩:=World.cells?_some h1;obtain ⟨z,rfl⟩:=sj h2 hcl;exact ⟨z,fun j hj=>by rw [← Go.Deep.add_add,hat j hj]⟩
  letI:Inhabited MAct:=⟨⟨0,0,0,0⟩⟩
  obtain ⟨Z,hZ⟩:=choose_lt hn;refine ⟨some a,len,m,(List.range len).map Z,e,hl,by omega,hm,by rw [gr ki];simp,fun h0=>⟨a,rfl,?_,fun j u hu=>?_⟩⟩
  ·have:=World.block_lt_of_cell? w _ (hZ 0 (by omega) 0 (by omega))
   rwa [ew] at this
  ·have hj:j<len * 4:=by
    rcases Nat.lt_or_ge j (len * 4) with h' | h'
    ·exact h'
    ·rw [List.getElem?_eq_none (by rw [gr ki];simpa using h')] at hu;cases hu
   have hz:=hZ (j / 4) (by omega) (j % 4) (by omega);have ha:((List.range len).map Z)[j / 4]? =some (Z (j / 4)):=by rw [List.getElem?_map,List.getElem?_range (by omega)];rfl
   have hf:=lj ki ha (show j % 4<4 by omega);rw [show j / 4 * 4+j % 4=j by omega] at hf hz;rw [hz,← hf,hu]
theorem yr:∃ f0 f1 f2 f3 f4,Tryz.prog.underlying 69=some (.struct #[f0,f1,f2,f3,f4])∧f0.type=3∧f1.type=3∧f2.type=3∧f3.type=3∧f4.type=54∧f0.offset=0∧f1.offset=1∧f2.offset=2∧f3.offset=3∧f4.offset=4 :=
 ⟨_,_,_,_,_,Tryz.underlying69,rfl,rfl,rfl,rfl,rfl,rfl,rfl,rfl,rfl,rfl⟩
theorem xR:∃ f0 f1,Tryz.prog.underlying 54=some (.struct #[f0,f1])∧f0.type=3∧f1.type=3∧f0.offset=0∧f1.offset=1 :=
 ⟨_,_,Tryz.underlying54,rfl,rfl,rfl,rfl⟩
theorem uv:Tryz.prog.cellsOf 69=6:=by kernel_rfl
theorem tL:Tryz.prog.cellsOf 54=2:=by kernel_rfl
theorem sX {fuel:Nat}{cs:List Value}{x:DataW H × List MemPlace}(h:DataW.trod enc Tryz.prog w 0 (fun _=>true) true fuel 69 cs=some x)(hl:cs.length=6):∃ l:Tast,cs=l.vals:=by
 obtain ⟨f0,f1,f2,f3,f4,hu,t0,t1,t2,t3,t4,z0,z1,z2,z3,z4⟩:=yr;obtain ⟨g0,g1,hu2,s0,s1,o0,o1⟩:=xR;obtain ⟨xs,n,_,_,_,hlen,hg⟩:=DataW.trod_struct hu h
 match cs,hl,xs,hlen with
 | [c0,c1,c2,c3,c4,c5],_,[y0,y1,y2,y3,y4],_ =>
  have h0:DataW.trod enc Tryz.prog w 0 (fun _=>true) true n 3 [c0]=some y0:=by simpa [t0,z0,eB] using hg 0 f0 rfl
  have h1:DataW.trod enc Tryz.prog w 0 (fun _=>true) true n 3 [c1]=some y1:=by simpa [t1,z1,eB] using hg 1 f1 rfl
  have h2:DataW.trod enc Tryz.prog w 0 (fun _=>true) true n 3 [c2]=some y2:=by simpa [t2,z2,eB] using hg 2 f2 rfl
  have h3:DataW.trod enc Tryz.prog w 0 (fun _=>true) true n 3 [c3]=some y3:=by simpa [t3,z3,eB] using hg 3 f3 rfl
  have h4:DataW.trod enc Tryz.prog w 0 (fun _=>true) true n 54 [c4,c5]=some y4:=by simpa [t4,z4,tL] using hg 4 f4 rfl
  obtain ⟨xs',n',_,_,_,hlen',hg'⟩:=DataW.trod_struct hu2 h4
  match xs',hlen' with
  | [u0,u1],_ =>
   have k0:DataW.trod enc Tryz.prog w 0 (fun _=>true) true n' 3 [c4]=some u0:=by simpa [s0,o0,eB] using hg' 0 g0 rfl
   have k1:DataW.trod enc Tryz.prog w 0 (fun _=>true) true n' 3 [c5]=some u1:=by simpa [s1,o1,eB] using hg' 1 g1 rfl
   obtain ⟨n0,e0,_,_⟩:=DataW.trod_int Tryz.underlying3 h0;obtain ⟨n1,e1,_,_⟩:=DataW.trod_int Tryz.underlying3 h1;obtain ⟨n2,e2,_,_⟩:=DataW.trod_int Tryz.underlying3 h2;obtain ⟨n3,e3,_,_⟩:=DataW.trod_int Tryz.underlying3 h3;obtain ⟨n4,e4,_,_⟩:=DataW.trod_int Tryz.underlying3 k0;obtain ⟨n5,e5,_,_⟩:=DataW.trod_int Tryz.underlying3 k1;simp only [List.cons.injEq,and_true] at e0 e1 e2 e3 e4 e5;subst e0 e1 e2 e3 e4 e5;exact ⟨⟨n0,n1,n2,n3,n4,n5⟩,rfl⟩
theorem sS {v:Value}{fuel:Nat}{x:DataW H × List MemPlace}(h:DataW.trod enc Tryz.prog w 0 (fun _=>true) true fuel 24 [v]=some x) :
  ∃ A n c,∃ l:List Tast,v = .slice A n c∧n≤c∧n≤maxLen∧c≤maxLen∧df w w.heap.size 6 A n (l.flatMap Tast.vals):=by
 rcases open_slice Tryz.underlying24 h with ⟨e,_⟩ | ⟨a,len,cap,m,k,D,Pl,e,_,hl,hm,hmm,_,hx⟩
 ·simp only [List.cons.injEq,and_true] at e
  exact ⟨none,0,0,[],e,n_R,Nat.zero_le _,Nat.zero_le _,df.none_⟩
 ·simp only [List.cons.injEq,and_true] at e
  have hmc:m=cap:=by simpa using hmm
  subst hmc
  have hn:∀ i,i<m→∃ z:Tast,∀ j,j<6→w.cell? (a.add (i * 6+j))=z.vals[j]? :=fun i hi=>by
   obtain ⟨cs',h1,h2⟩:=hx i hi;rw [uv] at h1;obtain ⟨_,hcl,hat⟩:=World.cells?_some h1;obtain ⟨z,rfl⟩:=sX h2 hcl;exact ⟨z,fun j hj=>by rw [← Go.Deep.add_add,hat j hj]⟩
  letI:Inhabited Tast:=⟨⟨0,0,0,0,0,0⟩⟩
  obtain ⟨Z,hZ⟩:=choose_lt hn;refine ⟨some a,len,m,(List.range len).map Z,e,hl,by omega,hm,by rw [gr fB];simp,fun h0=>⟨a,rfl,?_,fun j u hu=>?_⟩⟩
  ·have:=World.block_lt_of_cell? w _ (hZ 0 (by omega) 0 (by omega))
   rwa [ew] at this
  ·have hj:j<len * 6:=by
    rcases Nat.lt_or_ge j (len * 6) with h' | h'
    ·exact h'
    ·rw [List.getElem?_eq_none (by rw [gr fB];simpa using h')] at hu;cases hu
   have hz:=hZ (j / 6) (by omega) (j % 6) (by omega);have ha:((List.range len).map Z)[j / 6]? =some (Z (j / 6)):=by rw [List.getElem?_map,List.getElem?_range (by omega)];rfl
   have hf:=lj fB ha (show j % 6<6 by omega);rw [show j / 6 * 6+j % 6=j by omega] at hf hz;rw [hz,← hf,hu]
theorem yN:∃ f0 f1 f2 f3,Tryz.prog.underlying 26=some (.struct #[f0,f1,f2,f3])∧(f0.type=3∧f1.type=22∧f2.type=23∧f3.type=24)∧(f0.offset=0∧f1.offset=1∧f2.offset=2∧f3.offset=3) :=
 ⟨_,_,_,_,Tryz.underlying26,⟨rfl,rfl,rfl,rfl⟩,rfl,rfl,rfl,rfl⟩
theorem xx:Tryz.prog.cellsOf 22=1:=by kernel_rfl
theorem vS:Tryz.prog.cellsOf 23=1:=by kernel_rfl
theorem xD:Tryz.prog.cellsOf 24=1:=by kernel_rfl
theorem vU {r:Reach}{b0:Nat}{v:Value}{d:DataW H}{p:List MemPlace}(hv:Value.okWide Tryz.prog w r b0 26 v)(h:DataW.Trod enc Tryz.prog w 0 (fun _=>true) true 26 v d p) :
  ∃ Av nv cv Aa na ca At nt ct m,v = .agg #[.int .i64 m.fountains,.slice Av nv cv,.slice Aa na ca,.slice At nt ct]∧(na≤ca∧ca≤maxLen)∧(nt≤ct∧ct≤maxLen)∧ej w w.heap.size Av nv Aa na At nt m:=by
 obtain ⟨f0,f1,f2,f3,hu,⟨t0,t1,t2,t3⟩,z0,z1,z2,z3⟩:=yN;obtain ⟨cs,rfl,hsz⟩:=okWide_struct hu hv;obtain ⟨fuel,hf⟩:=h;obtain ⟨xs,n,_,_,_,hlen,hg⟩:=DataW.trod_struct hu hf;obtain ⟨l⟩:=cs
 match l,hsz.trans uQ,xs,hlen with
 | [c0,c1,c2,c3],_,[y0,y1,y2,y3],_ =>
  have h0:DataW.trod enc Tryz.prog w 0 (fun _=>true) true n 3 [c0]=some y0:=by simpa [t0,z0,eB,Value.cells] using hg 0 f0 rfl
  have h1:DataW.trod enc Tryz.prog w 0 (fun _=>true) true n 22 [c1]=some y1:=by simpa [t1,z1,xx,Value.cells] using hg 1 f1 rfl
  have h2:DataW.trod enc Tryz.prog w 0 (fun _=>true) true n 23 [c2]=some y2:=by simpa [t2,z2,vS,Value.cells] using hg 2 f2 rfl
  have h3:DataW.trod enc Tryz.prog w 0 (fun _=>true) true n 24 [c3]=some y3:=by simpa [t3,z3,xD,Value.cells] using hg 3 f3 rfl
  obtain ⟨f,e0,_,_⟩:=DataW.trod_int Tryz.underlying3 h0;simp only [List.cons.injEq,and_true] at e0;obtain ⟨Av,nv,cv,lv,rfl,_,_,_,hv1⟩:=sm h1;obtain ⟨Aa,na,ca,la,rfl,ha1,_,ha2,hv2⟩:=sR h2;obtain ⟨At,nt,ct,lt,rfl,ht1,_,ht2,hv3⟩:=sS h3;subst e0;exact ⟨Av,nv,cv,Aa,na,ca,At,nt,ct,⟨f,lv,la,lt⟩,rfl,⟨ha1,ha2⟩,⟨ht1,ht2⟩,⟨hv1,hv2,hv3⟩⟩
end
end
section
open Go.ChangeShapes Go.WideShapes Go.RowKit Go.Deep Go.Joins
set_option maxRecDepth 100000
def j9 (w:World)(B:Nat)(A:Option Addr)(n:Nat)(l:List Nat):Prop:=df w B 1 A n (l.map fun b=>.int .u8 (b:Nat))∧∀ b∈l,b≤255
section
variable {H:Type} {enc:TypeId × Value→H} {w:World}
theorem yy {z:Int}(h:(Lit.int .u8 z).wf=true):0≤z∧z≤255:=by
 simp [Lit.wf] at h;have h1:IntKind.u8.min=0:=rfl;have h2:IntKind.u8.max=255:=rfl;omega
theorem xH {v:Value}{d:DataW H}{p:List MemPlace}(h:DataW.Trod enc Tryz.prog w 0 (fun _=>true) true 5 v d p)(hv:∃ z:Int,v = .int .u8 z):∃ x:Nat,v = .int .u8 (x:Nat)∧x≤255:=by
 obtain ⟨z,rfl⟩:=hv;obtain ⟨fuel,hf⟩:=h;obtain ⟨n,e,_,hw⟩:=DataW.trod_int Tryz.underlying5 hf;have e':n=z:=by simpa [Value.cells] using e.symm
 subst e';have hb:=yy hw;obtain ⟨k,rfl⟩:=Int.eq_ofNat_of_zero_le hb.1;exact ⟨k,rfl,by omega⟩
theorem xa:Tryz.prog.cellsOf 5=1:=by kernel_rfl
theorem sA {v:Value}{fuel:Nat}{x:DataW H × List MemPlace}(h:DataW.trod enc Tryz.prog w 0 (fun _=>true) true fuel 42 [v]=some x) :
  ∃ A n c l,v = .slice A n c∧n≤c∧n≤maxLen∧c≤maxLen∧j9 w w.heap.size A n l:=by
 rcases open_slice1 Tryz.underlying42 xa h with ⟨e,_⟩ | ⟨a,len,cap,m,k,V,D,Pl,e,_,hl,hm,hmm,_,hx⟩
 ·simp only [List.cons.injEq,and_true] at e
  exact ⟨none,0,0,[],e,n_R,Nat.zero_le _,Nat.zero_le _,df.none_,by simp⟩
 ·simp only [List.cons.injEq,and_true] at e
  have hmc:m=cap:=by simpa using hmm
  subst hmc
  have hn:∀ i,i<m→∃ z:Nat,V i = .int .u8 (z:Nat)∧z≤255:=fun i hi=>by
   obtain ⟨z,f0,_,hw⟩:=DataW.trod_int Tryz.underlying5 (hx i hi).2;simp only [List.cons.injEq,and_true] at f0;have hb:=yy hw;obtain ⟨k,rfl⟩:=Int.eq_ofNat_of_zero_le hb.1;exact ⟨k,f0,by omega⟩
  obtain ⟨Z,hZ⟩:=choose_lt hn;refine ⟨some a,len,m,(List.range len).map Z,e,hl,by omega,hm,⟨by simp,fun h0=>⟨a,rfl,?_,fun j u hu=>?_⟩⟩,fun b hb=>?_⟩
  ·have:=World.block_lt_of_cell? w _ (hx 0 (by omega)).1
   rwa [ew] at this
  ·simp only [List.getElem?_map,Option.map_map] at hu
   have hj:j<len:=by
    rcases Nat.lt_or_ge j len with h' | h'
    ·exact h'
    ·rw [List.getElem?_eq_none (by simpa using h')] at hu;cases hu
   rw [List.getElem?_range hj] at hu;simp only [Option.map_some,Option.some.injEq,Function.comp] at hu;rw [(hx j (by omega)).1,(hZ j (by omega)).1,← hu]
  ·obtain ⟨j,hj,rfl⟩:=List.mem_map.1 hb
   exact (hZ j (by have:=List.mem_range.1 hj;omega)).2
end
end
end Go.Proofs.YthofngceiecniaaGreat
