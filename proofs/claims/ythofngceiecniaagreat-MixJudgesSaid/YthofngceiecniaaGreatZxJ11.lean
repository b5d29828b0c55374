/- Part 11 of the texts of this claim, joined. -/
import Derived.Sort.CutIn
import Derived.Sort.WalkA
import Derived.IntWalk
import Derived.Test.YthofngceiecniaaGreatZxJ10
set_option linter.unusedVariables false
/- The answer's Mix, and Check. -/
namespace Go.Proofs.YthofngceiecniaaGreat
set_option maxHeartbeats 16000000
set_option maxRecDepth 100000
section
open Go.RowKit
theorem sy {m:Mix}(h:risB 0 (m.vessels.map (·.id))=false):cu m=false:=by unfold cu;rw [h];simp
theorem sq {m:Mix}(h:risB 0 (m.tastes.map (·.num))=false):cu m=false:=by unfold cu;rw [h];simp
theorem sn {α:Type}{f:α→Int}{l:List α}{k:Nat}{x:α}(hx:l[k]? =some x)(h:risB 0 ((l.take k).map f)=true):risB 0 ((l.take (k+1)).map f)=wiB (f x) (((l.take k).map f).getLast?.getD 0+1) 9999:=by
 obtain ⟨hk,rfl⟩:=g_E hx;rw [List.take_succ_eq_append_getElem hk,List.map_append,List.map_cons,List.map_nil,jl,h,Bool.true_and];rfl
theorem pq {α:Type}{f:α→Int}{l:List α}{k:Nat}{x:α}(hx:l[k]? =some x):((l.take (k+1)).map f).getLast?.getD 0=f x:=by
 obtain ⟨hk,rfl⟩:=g_E hx;rw [List.take_succ_eq_append_getElem hk,List.map_append,List.map_cons,List.map_nil,List.getLast?_concat];rfl
theorem m4 {α:Type}{f:α→Int}{l:List α}{k:Nat}(h:risB 0 ((l.take k).map f)=false):risB 0 (l.map f)=false:=by
 cases h0:risB 0 (l.map f) with
 | false=>rfl
 | true =>
  have:=mq (k:=k) h0;rw [← List.map_take] at this;rw [this] at h;cases h
theorem qX {α:Type}{p:α→Bool}{l:List α}{k:Nat}(h:(l.take k).all p=false):l.all p=false:=by
 cases h0:l.all p with
 | false=>rfl
 | true=>exact absurd ((po (k:=k) h0).symm.trans h) (by decide)
theorem gM (Av:Option Addr)(nv cv:Nat)(Aa:Option Addr)(na ca:Nat)(At:Option Addr)(nt ct:Nat)(m:Mix)(w:World)(h:MixS w Av nv Aa na At nt m) :
  Calls Tryz.prog 49 #[.agg #[.int .i64 m.fountains,.slice Av nv cv,.slice Aa na ca,.slice At nt ct]] w fun e w'=>e = .returned (.bool (cu m))∧Below w.heap.size w w':=by
 have HM:=lh h;have HLV:=lh h.at_.lenV;have HLA:=lh h.at_.lenA;have HLT:=lh h.at_.lenT;have hnv:=h.hv;have hna:=h.ha;have hnt:=h.ht;clear h
 go_enter Tryz.func49,Tryz.ntmps49
 go_upto_region 1 with fail
 have Ly:=lh (Lay.one w 26 #[.int .i64 m.fountains,.slice Av nv cv,.slice Aa na ca,.slice At nt ct]);generalize (w.alloc (.cells #[.int .i64 m.fountains,.slice Av nv cv,.slice Aa na ca,.slice At nt ct] 26))=w0 at *;obtain ⟨x0,x1,x2,x3⟩:=lyc4 Ly 0 rfl;have xl:=Ly.out.lt 0 rfl
 go_wp2_with fail
 refine (cK m.fountains 1 4 w0).mono ?_;rintro e W1 ⟨rfl,rfl⟩;by_cases hG:(1≤m.fountains∧m.fountains≤4)∧m.vessels.length≤4∧m.acts.length≤12∧m.tastes.length≤8
 ·have HG:=lh hG
  have hi:wiB m.fountains 1 4=true:=decide_eq_true hG.1;have hn4:nv≤4:=by have:=HLV.out;omega
  have hn12:na≤12:=by have:=HLA.out;omega
  have hn8:nt≤8:=by have:=HLT.out;omega
  have d1:(nv:Int)≤4:=by omega
  have d2:(na:Int)≤12:=by omega
  have d3:(nt:Int)≤8:=by omega
  rw [hi];clear hi hG
  go_wp2_with fail
  clear d1 d2 d3 x0 x1 x2 x3 xl
  go_loopw [3,35] (fun v3 i wr=>∃ k:Nat,k≤nv∧i = .int .i64 k∧v3 = .int .i64 (((m.vessels.take k).map (·.id)).getLast?.getD 0)∧Hid (Lay w wr [(w.heap.size,26,#[.int .i64 m.fountains,.slice Av nv cv,.slice Aa na ca,.slice At nt ct])]∧(m.vessels.take k).all gw=true∧risB 0 ((m.vessels.take k).map (·.id))=true))
   (fun _ i _=>nv - (intOf i).toNat)
  case atStart=>exact ⟨0,by omega,rfl,rfl,lh ⟨Ly.out,rfl,rfl⟩⟩
  case round =>
   clear Ly;obtain ⟨k,hk,rfl,rfl,HS⟩:=hrel;obtain ⟨hl0,hl1⟩:=j1 HS.out.2.2
   obtain ⟨p,hp⟩:∃ p,((m.vessels.take k).map (·.id)).getLast?.getD 0=p:=⟨_,rfl⟩
   have Ly:=lh HS.out.1;rw [hp] at hl0 hl1 ⊢;have HP:=lh hp;clear hp;have x1:=lyc Ly 0 rfl 1;have x3:=lyc Ly 0 rfl 3;have xl:=Ly.out.lt 0 rfl;by_cases hlt:k<nv
   ·clear x1 x3 xl
    obtain ⟨b,off,x,rfl,hbB,hx,hc0,hc1⟩:=(HM.out.at_.below Ly.out.1).vess hlt;have HX:=lh hx;clear hx
    go_upto_region 7 with fail
    have hb1:Below wr.heap.size wr (wr.alloc (.cells #[.int .i64 x.id,.int .i64 x.size] 50)):=b_R.alloc n_R _;have HN:=lh (Blk.new wr 50 #[.int .i64 x.id,.int .i64 x.size])
    obtain ⟨g8,hg8⟩:∃ g,wr.heap.size=g:=⟨_,rfl⟩
    generalize wr.alloc (.cells #[.int .i64 x.id,.int .i64 x.size] 50)=wa at *;have HB1:=lh hb1;rw [hg8] at HN ⊢;have y0:=HN.out.cell 0;have y1:=HN.out.cell 1;have yl:=HN.out.lt;clear hb1 hc0 hc1;have HRS:=lh (sn (f:=(·.id)) HX.out HS.out.2.2);have HAS:=lh (iO HX.out HS.out.2.1);have HLST:=lh (pq (f:=fun v:Vess=>v.id) HX.out);rw [HP.out] at HRS
    go_wp2_with fail
    refine (cK x.id (p+1) 9999 wa).mono ?_;rintro e W ⟨rfl,rfl⟩
    cases hi:wiB x.id (p+1) 9999 with
    | false =>
     rw [hi] at HRS;clear hi
     go_wp2_with fail
     go_ret
     exact ⟨cU (sy (m4 HRS.out)).symm,Ly.out.1.trans (HB1.out.mono Ly.out.1.size)⟩
    | true =>
     rw [hi] at HRS;clear hi
     go_wp2_with fail
     refine (cK x.size 1 12 wa).mono ?_;rintro e W ⟨rfl,rfl⟩;have hvs:gw x=wiB x.size 1 12:=rfl;rw [hvs] at HAS;clear hvs
     cases hi:wiB x.size 1 12 with
     | false =>
      rw [hi] at HAS;clear hi
      go_wp2_with fail
      go_ret
      exact ⟨cU (nd (qX HAS.out)).symm,Ly.out.1.trans (HB1.out.mono Ly.out.1.size)⟩
     | true =>
      rw [hi] at HAS;clear hi
      go_wp2_with fail
      go_roundw
      case rel=>exact ⟨k+1,by omega,by go_num,by rw [HLST.out],lh ⟨Ly.out.below HB1.out,HAS.out,HRS.out⟩⟩
      case measure=>simp [intOf];omega
   ·obtain rfl:nv=k:=by omega
    have hz:m.vessels.all gw=true:=by
     have:=HS.out.2.1
     rwa [List.take_of_length_le (by have:=HLV.out;omega)] at this
    have hr:risB 0 (m.vessels.map (·.id))=true:=by
     have:=HS.out.2.2
     rwa [List.take_of_length_le (by have:=HLV.out;omega)] at this
    have HZ:=lh hz;have HRI:=lh hr;clear hz hr
    go_wp2_with fail
    clear x1 x3 xl HP hl0 hl1
    obtain ⟨wo,rfl⟩:∃ wo,wo=wr:=⟨_,rfl⟩
    go_loopw [3,57] (fun v3 i wr=>∃ k:Nat,k≤nt∧i = .int .i64 k∧v3 = .int .i64 (((m.tastes.take k).map (·.num)).getLast?.getD 0)∧Hid (Lay w wr [(w.heap.size,26,#[.int .i64 m.fountains,.slice Av nv cv,.slice Aa na ca,.slice At nt ct])]∧(m.tastes.take k).all (dz m)=true∧risB 0 ((m.tastes.take k).map (·.num))=true))
     (fun _ i _=>nt - (intOf i).toNat)
    case atStart=>exact ⟨0,by omega,rfl,rfl,lh ⟨Ly.out,rfl,rfl⟩⟩
    case round =>
     clear Ly HS;obtain ⟨k,hk2,rfl,rfl,HS⟩:=hrel;obtain ⟨hl0,hl1⟩:=j1 HS.out.2.2
     obtain ⟨p,hp⟩:∃ p,((m.tastes.take k).map (·.num)).getLast?.getD 0=p:=⟨_,rfl⟩
     have Ly:=lh HS.out.1;rw [hp] at hl0 hl1 ⊢;have HP:=lh hp;clear hp;obtain ⟨x0,x1,x2,x3⟩:=lyc4 Ly 0 rfl;have xl:=Ly.out.lt 0 rfl;by_cases hlt:k<nt
     ·clear x0 x1 x2 x3 xl
      obtain ⟨b,off,x,rfl,hbB,hx,hc0,hc1,hc2,hc3,hc4,hc5⟩:=(HM.out.at_.below Ly.out.1).tast hlt;have HX:=lh hx;clear hx
      go_upto_region 15 with fail
      have hb1:Below wr.heap.size wr (wr.alloc (.cells #[.int .i64 x.num,.int .i64 x.vessel,.int .i64 x.after,.int .i64 x.fountain,.int .i64 x.lo,.int .i64 x.hi] 69)):=b_R.alloc n_R _;have HN:=lh (Blk.new wr 69 #[.int .i64 x.num,.int .i64 x.vessel,.int .i64 x.after,.int .i64 x.fountain,.int .i64 x.lo,.int .i64 x.hi])
      obtain ⟨g8,hg8⟩:∃ g,wr.heap.size=g:=⟨_,rfl⟩
      generalize wr.alloc (.cells #[.int .i64 x.num,.int .i64 x.vessel,.int .i64 x.after,.int .i64 x.fountain,.int .i64 x.lo,.int .i64 x.hi] 69)=wa at *;have HB1:=lh hb1;rw [hg8] at HN ⊢;have y0:=HN.out.cell 0;have y1:=HN.out.cell 1;have yl:=HN.out.lt;have HLA1:=lh (Ly.out.below HB1.out);have x0:=(HLA1.out.blk 0 rfl).cell 0;have x1:=(HLA1.out.blk 0 rfl).cell 1;have x2:=(HLA1.out.blk 0 rfl).cell 2;have x3:=(HLA1.out.blk 0 rfl).cell 3;have xl:=HLA1.out.lt 0 rfl;clear hb1 hc0 hc1 hc2 hc3 hc4 hc5;have HRS:=lh (sn (f:=(·.num)) HX.out HS.out.2.2);have HAS:=lh (iO HX.out HS.out.2.1);have HLST:=lh (pq (f:=fun v:Tast=>v.num) HX.out);rw [HP.out] at HRS
      go_wp2_with fail
      refine (cK x.num (p+1) 9999 wa).mono ?_;rintro e W ⟨rfl,rfl⟩
      cases hi:wiB x.num (p+1) 9999 with
      | false =>
       rw [hi] at HRS;clear hi
       go_wp2_with fail
       go_ret
       exact ⟨cU (sq (m4 HRS.out)).symm,Ly.out.1.trans (HB1.out.mono Ly.out.1.size)⟩
      | true =>
       rw [hi] at HRS;clear hi
       go_wp2_with fail
       refine (dm Av nv cv Aa na ca (some ⟨b,off,none⟩) nt ct m x.vessel wa (HM.out.up HLA1.out.1)).mono ?_;rintro e W ⟨rfl,hb⟩;have HB:=lh (HB1.out.trans (hb.mono HB1.out.size));have HN2:=lh (HN.out.below hb HN.out.lt);have HLA2:=lh (HLA1.out.below hb);clear hb y0 y1 yl x0 x1 x2 x3 xl HN HLA1 HB1;have y2:=HN2.out.cell 2;have y3:=HN2.out.cell 3;have y4:=HN2.out.cell 4;have y5:=HN2.out.cell 5;have yl:=HN2.out.lt;have x0:=(HLA2.out.blk 0 rfl).cell 0;have x2:=(HLA2.out.blk 0 rfl).cell 2;have xl:=HLA2.out.lt 0 rfl;by_cases hj:idxV m.vessels x.vessel<0
       ·have HTB:Hid (dz m x=false):=lh (by unfold dz;exact decide_eq_false (by omega))
        go_wp2_with fail
        go_ret
        exact ⟨cU (eL (fd HX.out HTB.out)).symm,Ly.out.1.trans (HB.out.mono Ly.out.1.size)⟩
       ·have hj2:0≤idxV m.vessels x.vessel:=by omega
        go_wp2_with fail
        refine (cK x.after 0 na W).mono ?_;rintro e W2 ⟨rfl,rfl⟩
        cases hi:wiB x.after 0 na with
        | false =>
         have HI:=lh (of_decide_eq_false hi);have HTB:Hid (dz m x=false):=lh (by unfold dz;have:=HLA.out;have:=HI.out;exact decide_eq_false (by omega));clear hi
         go_wp2_with fail
         go_ret
         exact ⟨cU (eL (fd HX.out HTB.out)).symm,Ly.out.1.trans (HB.out.mono Ly.out.1.size)⟩
        | true =>
         have HI:=lh (of_decide_eq_true hi);clear hi
         go_wp2_with fail
         refine (cK x.fountain 1 m.fountains W).mono ?_;rintro e W2 ⟨rfl,rfl⟩
         cases hi:wiB x.fountain 1 m.fountains with
         | false =>
          have HJ:=lh (of_decide_eq_false hi);have HTB:Hid (dz m x=false):=lh (by unfold dz;have:=HJ.out;exact decide_eq_false (by omega));clear hi
          go_wp2_with fail
          go_ret
          exact ⟨cU (eL (fd HX.out HTB.out)).symm,Ly.out.1.trans (HB.out.mono Ly.out.1.size)⟩
         | true =>
          have HJ:=lh (of_decide_eq_true hi);clear hi
          go_wp2_with fail
          refine (cK x.lo 0 x.hi W).mono ?_;rintro e W2 ⟨rfl,rfl⟩
          cases hi:wiB x.lo 0 x.hi with
          | false =>
           have HK:=lh (of_decide_eq_false hi);have HTB:Hid (dz m x=false):=lh (by unfold dz;have:=HK.out;exact decide_eq_false (by omega));clear hi
           go_wp2_with fail
           go_ret
           exact ⟨cU (eL (fd HX.out HTB.out)).symm,Ly.out.1.trans (HB.out.mono Ly.out.1.size)⟩
          | true =>
           have HK:=lh (of_decide_eq_true hi);have HTB:Hid (dz m x=true):=lh (by unfold dz;have:=HK.out;have:=HJ.out;have:=HI.out;have:=HLA.out;exact decide_eq_true (by omega));clear hi x0 x2 xl;have y0:=HN2.out.cell 0;rw [HTB.out] at HAS
           go_wp2_with fail
           go_roundw
           case rel=>exact ⟨k+1,by omega,by go_num,by rw [HLST.out],lh ⟨HLA2.out,HAS.out,HRS.out⟩⟩
           case measure=>simp [intOf];omega
     ·obtain rfl:nt=k:=by omega
      have hz:m.tastes.all (dz m)=true:=by
       have:=HS.out.2.1
       rwa [List.take_of_length_le (by have:=HLT.out;omega)] at this
      have hr:risB 0 (m.tastes.map (·.num))=true:=by
       have:=HS.out.2.2
       rwa [List.take_of_length_le (by have:=HLT.out;omega)] at this
      have HZT:=lh hz;have HRN:=lh hr;clear hz hr
      go_wp2_with fail
      refine (callsIn_wide.1 (iE Av nv cv Aa na ca At nt ct m wr (HM.out.up Ly.out.1) (ke HZ.out) hn4 hna)).mono ?_;rintro e W ⟨hb,A4,n4,c4,bb,L,rfl,hd⟩;have HB:=lh (Ly.out.1.trans (hb.mono Ly.out.1.size));have HD:=lh hd;clear hb hd x0 x1 x2 x3 xl
      go_wp2_with fail
      go_ret
      refine ⟨cU ?_,HB.out⟩
      rcases HD.out with ⟨rfl,h1,_⟩ | ⟨rfl,_,h1⟩
      ·rw [my HG.out HZ.out HZT.out h1,HRI.out,HRN.out];rfl
      ·exact (nr h1).symm
 ·have HB:=lh (jU hG)
  cases hi:wiB m.fountains 1 4 with
  | false =>
   clear hi
   go_wp2_with fail
   go_ret
   exact ⟨cU HB.out.symm,Ly.out.1⟩
  | true =>
   have h2:¬ (nv≤4∧na≤12∧nt≤8):=by
    have:=of_decide_eq_true hi;rw [← HLV.out,← HLA.out,← HLT.out];exact fun h2=>hG ⟨this,h2⟩
   clear hi hG;by_cases q1:nv≤4
   ·have d1:(nv:Int)≤4:=by omega
    by_cases q2:na≤12
    ·have d2:(na:Int)≤12:=by omega
     have d3:¬ (nt:Int)≤8:=by omega
     clear h2
     go_wp2_with fail
     go_ret
     exact ⟨cU HB.out.symm,Ly.out.1⟩
    ·have d2:¬ (na:Int)≤12:=by omega
     clear h2
     go_wp2_with fail
     go_ret
     exact ⟨cU HB.out.symm,Ly.out.1⟩
   ·have d1:¬ (nv:Int)≤4:=by omega
    clear h2
    go_wp2_with fail
    go_ret
    exact ⟨cU HB.out.symm,Ly.out.1⟩
end
section
open Go.RowKit
theorem lp {α:Type}{vals:α→List Value}{sz:Nat}(hk:∀ x,(vals x).length=sz):∀ (l:List α) (k:Nat),(l.take k).flatMap vals=(l.flatMap vals).take (k * sz)
 | [],k=>by simp
 | x::l,0=>by simp
 | x::l,k+1=>by
  rw [List.take_succ_cons,List.flatMap_cons,List.flatMap_cons,lp hk l k,List.take_append,hk,List.take_of_length_le (l:=vals x) (by rw [hk,Nat.succ_mul];exact Nat.le_add_left _ _),Nat.succ_mul,Nat.add_sub_cancel]
theorem Own.short {w:World}{base n cap size k:Nat}{e:TypeId}{A:Option Addr}{xs:List Value}(h:Own w base e size A n cap xs)(hk:k≤n)(hA:A≠none∨k=0∧n=0):Own w base e size A k cap (xs.take (k * size)):=by
 rcases h.form with ⟨rfl,rfl,rfl,rfl⟩ | ⟨g,cur,rfl,hb,hg,h1,h2,h3,h4,h5⟩
 ·obtain rfl:k=0:=by omega
  simpa using Own.none_ w base e size
 ·have hle:k * size≤n * size:=Nat.mul_le_mul_right _ hk
  refine ⟨by rw [List.length_take,h5,Nat.min_eq_left hle],.inr ⟨g,cap,cur,rfl,hb,hg,Nat.le_trans hk h1,h2,h3,?_⟩⟩;rw [← h4,List.take_take,Nat.min_eq_left hle]
theorem di.fewer {W:World}{base:Nat}{A1 A2 A3:Option Addr}{nv c1 k c2 nt c3:Nat}{m:Mix}(h:di W base A1 nv c1 A2 (k+1) c2 A3 nt c3 m)(hl:m.acts.length=k+1):di W base A1 nv c1 A2 k c2 A3 nt c3 (ey m (m.acts.take (m.acts.length - 1))):=by
 refine ⟨h.v,?_,h.t,h.va,h.vt,h.at_⟩
 show Own W base _ 4 A2 k c2 ((m.acts.take (m.acts.length - 1)).flatMap MAct.vals)
 rw [hl,Nat.add_sub_cancel,lp jw];refine h.a.short (Nat.le_succ k) (.inl fun e=>?_)
 rcases h.a.form with ⟨_,h0,_⟩ | ⟨g,cur,e2,_⟩
 ·omega
 ·rw [e] at e2;cases e2
end
section
open Go.RowKit
instance:Inhabited Tast:=⟨⟨0,0,0,0,0,0⟩⟩
end
section
open Go.RowKit
theorem oB {m:Mix}(h:cu m=true):m.tastes.Pairwise (fun a b=>a.num<b.num):=by
 unfold cu at h;simp only [Bool.and_eq_true] at h;exact List.pairwise_map.1 (fh h.2).1
end
section
open Go.RowKit
section
variable {w W W':World} {base:Nat} {A1 A2 A3:Option Addr} {nv c1 na c2 nt c3:Nat} {m:Mix}
theorem du.below (h:du W base A1 nv c1 A2 na c2 A3 nt c3 m)(hb:Below W.heap.size W W'):du W' base A1 nv c1 A2 na c2 A3 nt c3 m:=⟨h.v.below hb n_R,h.a.below hb n_R,h.t.below hb n_R⟩
theorem du.mono {b':Nat}(h:du W base A1 nv c1 A2 na c2 A3 nt c3 m)(hb:b'≤base):du W b' A1 nv c1 A2 na c2 A3 nt c3 m:=⟨h.v.mono hb,h.a.mono hb,h.t.mono hb⟩
theorem du.off {g:Nat}(h:du W base A1 nv c1 A2 na c2 A3 nt c3 m)(hg:W.grownBy W' (some g))(hlt:g<base):du W' base A1 nv c1 A2 na c2 A3 nt c3 m:=⟨ig h.v hg hlt,ig h.a hg hlt,ig h.t hg hlt⟩
theorem du.s (h:du W base A1 nv c1 A2 na c2 A3 nt c3 m)(hv:nv≤1000)(ha:na≤1000)(ht:nt≤1000):MixS W A1 nv A2 na A3 nt m:=⟨⟨h.v.reads n_R,h.a.reads n_R,h.t.reads n_R⟩,hv,ha,ht⟩
theorem du.acts {A9:Option Addr}{n9 c9 b9:Nat}{l:List MAct}(h:du W base A1 nv c1 A2 na c2 A3 nt c3 m)(hb:Below W.heap.size W W')(ho:Own W' b9 62 4 A9 n9 c9 (l.flatMap MAct.vals))(h9:base≤b9):du W' base A1 nv c1 A9 n9 c9 A3 nt c3 (ey m l):=⟨(h.below hb).v,ho.mono h9,(h.below hb).t⟩
theorem du.tasts {A9:Option Addr}{n9 c9 b9:Nat}{l:List Tast}(h:du W base A1 nv c1 A2 na c2 A3 nt c3 m)(hb:Below W.heap.size W W')(ho:Own W' b9 69 6 A9 n9 c9 (l.flatMap Tast.vals))(h9:base≤b9):du W' base A1 nv c1 A2 na c2 A9 n9 c9 (fo m l):=⟨(h.below hb).v,(h.below hb).a,ho.mono h9⟩
theorem kP {e t:TypeId}{size n cap g:Nat}{A:Option Addr}{xs:List Value}{cs:Array Value}(h:Own W base e size A n cap xs)(hB:Blk W g t cs)(ht:t≠e)(hg:W.grownBy W' (some g)):Own W' base e size A n cap xs:=by
 refine h.grown hg (fun a ha e'=>?_)
 rcases h.form with ⟨h0,_⟩ | ⟨g',cur,h1,_,hb,_⟩
 ·rw [h0] at ha;cases ha
 ·rw [h1] at ha
  cases ha;exact fx hB hb ht (Option.some.inj e').symm
theorem du.offB {g:Nat}{cs:Array Value}(h:du W base A1 nv c1 A2 na c2 A3 nt c3 m)(hB:Blk W g 26 cs)(hg:W.grownBy W' (some g)):du W' base A1 nv c1 A2 na c2 A3 nt c3 m:=⟨kP h.v hB (by decide) hg,kP h.a hB (by decide) hg,kP h.t hB (by decide) hg⟩
theorem lH {e t:TypeId}{size n cap size' n' cap':Nat}{A B:Option Addr}{xs ys:List Value}(h:Own W base e size A n cap xs)(h':Own W base t size' B n' cap' ys)(ht:e≠t):∀ a,A=some a→some a.block≠B.map (·.block):=by
 intro a ha e'
 rcases h.form with ⟨h0,_⟩ | ⟨g,cur,h1,_,hb,_⟩
 ·rw [h0] at ha;cases ha
 ·rcases h'.form with ⟨h0,_⟩ | ⟨g',cur',h1',_,hb',_⟩
  ·rw [h0] at e';cases e'
  ·rw [h1] at ha
   cases ha;rw [h1'] at e';exact fx hb hb' ht (Option.some.inj e')
theorem du.growT {A9:Option Addr}{n9 c9:Nat}{l:List Tast}(h:du W base A1 nv c1 A2 na c2 A3 nt c3 m)(hg:W.grownBy W' (A3.map (·.block)))(ho:Own W' base 69 6 A9 n9 c9 (l.flatMap Tast.vals)):du W' base A1 nv c1 A2 na c2 A9 n9 c9 (fo m l) :=
 ⟨h.v.grown hg (lH h.v h.t (by decide)),h.a.grown hg (lH h.a h.t (by decide)),ho⟩
theorem mI {base' size n cap g:Nat}{e t:TypeId}{A:Option Addr}{xs:List Value}{cs:Array Value}(hB:Blk W g t cs)(h:Own W base' e size A n cap xs)(ht:t≠e):∀ r,A.map (·.block)=some r→g≠r:=by
 intro r hr
 rcases h.form with ⟨h0,_⟩ | ⟨g',cur',h1',_,hb',_⟩
 ·rw [h0] at hr;cases hr
 ·rw [h1'] at hr
  have:g'=r:=Option.some.inj hr;rw [← this];exact fx hB hb' ht
theorem MixS.nothing (W:World):MixS W none 0 none 0 none 0 dS:=⟨⟨cB.none_,cB.none_,cB.none_⟩,by omega,by omega,by omega⟩
end
theorem sW {m:Mix}{x:MAct}(h:cu m=false):doM m x=(dS,40):=by unfold doM;rw [h];rfl
theorem ru {m:Mix}{x:MAct}(h:cu m=true):doM m x=if m.acts.length=12 then (dS,9) else if cu (ey m (m.acts++[x]))=true then (ey m (m.acts++[x]),0) else (dS,41):=by unfold doM;rw [if_pos h]
structure RdGh where
 e1:Nat
 e2:Nat
 A1:Option Addr
 k1:Nat
 A9:Option Addr
 k9:Nat
def tq (w:World)(r:Mix × Int)(e:Ending)(w':World):Prop :=
 ∃ A1 n1 c1 A2 n2 c2 A3 n3 c3,e = .returned (.tuple #[.agg #[.int .i64 r.1.fountains,.slice A1 n1 c1,.slice A2 n2 c2,.slice A3 n3 c3],.int .i64 r.2])∧MixS w' A1 n1 A2 n2 A3 n3 r.1∧Below w.heap.size w w'
end
section
open Go.RowKit
theorem tu (Av:Option Addr)(nv cv:Nat)(Aa:Option Addr)(na ca:Nat)(At:Option Addr)(nt ct:Nat)(m:Mix)(x:MAct)(w:World)(h:MixS w Av nv Aa na At nt m) :
  CallsIn Fence.wide 9 Tryz.prog 57 #[.agg #[.int .i64 m.fountains,.slice Av nv cv,.slice Aa na ca,.slice At nt ct],.agg #[.int .i64 x.kind,.int .i64 x.fr,.int .i64 x.to,.int .i64 x.drops]] w (tq w (doM m x)):=by
 have HM:=lh h;have HLV:=lh h.at_.lenV;have HLA:=lh h.at_.lenA;have HLT:=lh h.at_.lenT;have hnv:=h.hv;have hna:=h.ha;have hnt:=h.ht;clear h;refine callsIn_of_wp Tryz.func57 rfl trivial ?_ rfl;simp only [Tryz.ntmps57,es,Nat.reduceAdd,Nat.reduceSub];gi_upto_region 1 with fail
 have Ly:=lh (Lay.three w 26 #[.int .i64 m.fountains,.slice Av nv cv,.slice Aa na ca,.slice At nt ct] 62 #[.int .i64 x.kind,.int .i64 x.fr,.int .i64 x.to,.int .i64 x.drops] 26 #[.int .i64 0,.slice none 0 0,.slice none 0 0,.slice none 0 0]);generalize (((w.alloc (.cells #[.int .i64 m.fountains,.slice Av nv cv,.slice Aa na ca,.slice At nt ct] 26)).alloc (.cells #[.int .i64 x.kind,.int .i64 x.fr,.int .i64 x.to,.int .i64 x.drops] 62)).alloc (.cells #[.int .i64 0,.slice none 0 0,.slice none 0 0,.slice none 0 0] 26))=w0 at *;obtain ⟨x0_0,x0_1,x0_2,x0_3⟩:=lyc4 Ly 0 rfl;have l0_:=Ly.out.lt 0 rfl;gi_wp2;clear x0_0 x0_1 x0_2 x0_3 l0_;refine ⟨trivial,(callsIn_wide.2 (gM Av nv cv Aa na ca At nt ct m w0 (HM.out.up Ly.out.1))).mono ?_⟩;rintro e W1 ⟨rfl,hb⟩;have HBC:=lh hb;replace Ly:=lyb Ly hb;clear hb
 cases hk:cu m with
 | false =>
  have HF:Hid (doM m x=(dS,40)):=lh (by rw [sW hk]);clear hk;have x2_0:=lyc Ly 2 rfl 0;have z2_0:=lyf Ly 2 rfl 0;have x2_1:=lyc Ly 2 rfl 1;have z2_1:=lyf Ly 2 rfl 1;have x2_2:=lyc Ly 2 rfl 2;have z2_2:=lyf Ly 2 rfl 2;have x2_3:=lyc Ly 2 rfl 3;have z2_3:=lyf Ly 2 rfl 3;have l2_:=Ly.out.lt 2 rfl;gi_wp2;have R4:=ret4' (Ly.out.blk 2 rfl) Ly.out.1 (Ly.out.ge 2 rfl) (.int .i64 0) (.slice none 0 0) (.slice none 0 0) (.slice none 0 0);have v0:=R4.1.cell 0;have v1:=R4.1.cell 1;have v2:=R4.1.cell 2;have v3:=R4.1.cell 3;refine bodyPost_ret (v:=.tuple #[.agg #[.int .i64 0,.slice none 0 0,.slice none 0 0,.slice none 0 0],.int .i64 40]) (by simp [results,Tryz.results57,go_sem,v0,v1,v2,v3]) rfl ?_;rw [HF.out];exact ⟨none,0,0,none,0,0,none,0,0,rfl,MixS.nothing _,R4.2.1⟩
 | true =>
  have HK:=lh hk;have hlim:=cI hk;have HRI:=lh (oB hk);have hv4:nv≤4:=by have:=HLV.out;omega
  have ha12:na≤12:=by have:=HLA.out;omega
  have ht8:nt≤8:=by have:=HLT.out;omega
  clear hlim hk;by_cases h12:na=12
  ·
   have HF:Hid (doM m x=(dS,9)):=lh (by rw [ru HK.out,if_pos (by rw [HLA.out];exact h12)]);have h12a:((na:Int)==12)=true:=by simp;omega
   have H12:=lh h12;clear h12;obtain ⟨x0_0,x0_1,x0_2,x0_3⟩:=lyc4 Ly 0 rfl;have l0_:=Ly.out.lt 0 rfl;have x2_0:=lyc Ly 2 rfl 0;have z2_0:=lyf Ly 2 rfl 0;have x2_1:=lyc Ly 2 rfl 1;have z2_1:=lyf Ly 2 rfl 1;have x2_2:=lyc Ly 2 rfl 2;have z2_2:=lyf Ly 2 rfl 2;have x2_3:=lyc Ly 2 rfl 3;have z2_3:=lyf Ly 2 rfl 3;have l2_:=Ly.out.lt 2 rfl;gi_wp2;have R4:=ret4' (Ly.out.blk 2 rfl) Ly.out.1 (Ly.out.ge 2 rfl) (.int .i64 0) (.slice none 0 0) (.slice none 0 0) (.slice none 0 0);have v0:=R4.1.cell 0;have v1:=R4.1.cell 1;have v2:=R4.1.cell 2;have v3:=R4.1.cell 3;refine bodyPost_ret (v:=.tuple #[.agg #[.int .i64 0,.slice none 0 0,.slice none 0 0,.slice none 0 0],.int .i64 9]) (by simp [results,Tryz.results57,go_sem,v0,v1,v2,v3]) rfl ?_;rw [HF.out];exact ⟨none,0,0,none,0,0,none,0,0,rfl,MixS.nothing _,R4.2.1⟩
  ·
   have h12a:((na:Int)==12)=false:=by simp;omega
   have HF:Hid (doM m x=if cu (ey m (m.acts++[x]))=true then ((ey m (m.acts++[x])),0) else (dS,41)):=lh (by rw [ru HK.out,if_neg (by rw [HLA.out];exact h12)]);have H12:=lh h12;clear h12;obtain ⟨x0_0,x0_1,x0_2,x0_3⟩:=lyc4 Ly 0 rfl;have l0_:=Ly.out.lt 0 rfl;gi_wp2;clear x0_0 x0_1 x0_2 x0_3 l0_;have HBS:=lh (Ly.out.1.size);have HBLL:=lh (Ly.out.lt 2 rfl);refine ⟨trivial,(c_W (mM Av nv cv Aa na ca At nt ct m W1 (HM.out.up Ly.out.1))).mono ?_⟩;rintro e W2 ⟨A1,c1,A2,c2,A3,c3,rfl,hmo,hb⟩;have HWW:=lh hb.size;replace Ly:=lyb Ly hb;clear hb;have HMO:=lh hmo;clear hmo;gi_upto_region 6 with fail
   obtain ⟨V3,hV⟩:∃ V,(W2.alloc (.cells #[.int .i64 m.fountains,.slice A1 nv c1,.slice A2 na c2,.slice A3 nt c3] 26))=V:=⟨_,rfl⟩
   rw [hV];have hb:=de hV;have hnew:=dc hV;have hge:=Ly.out.bel.size;replace Ly:=lyb Ly hb;replace HMO:=lh (HMO.out.below hb);replace Ly:=lh (Ly.out.add hge hnew);clear hnew hge hb hV
   obtain ⟨G4,hG⟩:∃ g,W2.heap.size=g:=⟨_,rfl⟩
   rw [hG] at Ly ⊢;have HG_:=lh hG;clear hG
   refine dJ (by kernel_rfl) (by kernel_rfl) (fun σ:RdGh × (Nat→Value)=>{ tmps:=#[.agg #[.int .i64 m.fountains,.slice Av nv cv,.slice Aa na ca,.slice At nt ct],.agg #[.int .i64 x.kind,.int .i64 x.fr,.int .i64 x.to,.int .i64 x.drops],.pointer (some ⟨w.heap.size,0,none⟩),.pointer (some ⟨w.heap.size+1,0,none⟩),.pointer (some ⟨w.heap.size+1+1,0,none⟩),.int .i64 0,.pointer (some ⟨G4,0,none⟩),.agg #[.int .i64 m.fountains,.slice Av nv cv,.slice Aa na ca,.slice At nt ct],.bool true,.bool false,undef,.pointer (some ⟨w.heap.size,2,none⟩),.slice Aa na ca,.int .i64 na,.bool false,undef,.agg #[.int .i64 m.fountains,.slice Av nv cv,.slice Aa na ca,.slice At nt ct],.agg #[.int .i64 m.fountains,.slice A1 nv c1,.slice A2 na c2,.slice A3 nt c3],σ.2 18,σ.2 19,σ.2 20,σ.2 21,σ.2 22,σ.2 23,σ.2 24,σ.2 25,undef,undef,undef,undef,undef],defers:=[] })
    (fun L σ W=>(L 8=false→Below V3.heap.size V3 W)∧(L 0=true→L 3=false→Own W V3.heap.size 62 4 (some ⟨σ.1.e1,0,none⟩) 0 0 [])∧(L 3=true→L 6=false→Own W V3.heap.size 62 4 σ.1.A1 na σ.1.k1 (m.acts.flatMap MAct.vals))∧(L 5=true→L 6=false→cB W W.heap.size 4 (some ⟨σ.1.e2,0,none⟩) 1 x.vals)∧(L 6=true→L 8=false→Own W V3.heap.size 62 4 σ.1.A9 (na+1) σ.1.k9 ((m.acts.flatMap MAct.vals)++x.vals))∧(L 8=true→∃ V,Below V3.heap.size V3 V∧Own V V3.heap.size 62 4 σ.1.A9 (na+1) σ.1.k9 ((m.acts.flatMap MAct.vals)++x.vals)∧W=V.setCell ⟨G4,2,none⟩ (.slice σ.1.A9 (na+1) σ.1.k9))∧(L 0=true→σ.2 18 = .slice (some ⟨σ.1.e1,0,none⟩) 0 0)∧(L 1=true→σ.2 19 = .pointer (some ⟨w.heap.size,2,none⟩))∧(L 2=true→σ.2 20 = .slice Aa na ca)∧(L 3=true→σ.2 21 = .slice σ.1.A1 na σ.1.k1)∧(L 4=true→σ.2 22 = .agg #[.int .i64 x.kind,.int .i64 x.fr,.int .i64 x.to,.int .i64 x.drops])∧(L 5=true→σ.2 23 = .slice (some ⟨σ.1.e2,0,none⟩) 1 1)∧(L 6=true→σ.2 24 = .slice σ.1.A9 (na+1) σ.1.k9)∧(L 7=true→σ.2 25 = .pointer (some ⟨G4,2,none⟩)))
    (⟨0,0,none,0,none,0⟩,fun k=>undef) rfl ?_ ?_ ?_
   ·exact ⟨(fun _=>av b_R 1),(fun h=>by cases h),(fun h=>by cases h),(fun h=>by cases h),(fun h=>by cases h),(fun h=>by cases h),(fun h=>by cases h),(fun h=>by cases h),(fun h=>by cases h),(fun h=>by cases h),(fun h=>by cases h),(fun h=>by cases h),(fun h=>by cases h),(fun h=>by cases h)⟩
   ·refine ⟨?_,?_,?_,?_,?_,?_,?_,?_,?_,trivial⟩
    ·rintro L ⟨gh,s⟩ W hu hd hdn ⟨g1,q1,a1,n1,a9,r8,f0,f1,f2,f3,f4,f5,f6,f7⟩ K Q hK
     try dsimp only at g1 q1 a1 n1 a9 r8 f0 f1 f2 f3 f4 f5 f6 f7 ⊢
     have h8:L 8=false:=by
      cases hc:L 8 with
      | false=>rfl
      | true=>exact hdn.no 8 0 hc rfl hu
     have HSZ8:=lh (g1 h8).size;have HF:=lh (ai g1 (ai q1 (ai a1 (ai n1 (ai a9 (ai r8 (ai f0 (ai f1 (ai f2 (ai f3 (ai f4 (ai f5 (ai f6 f7)))))))))))));clear f7 f6 f5 f4 f3 f2 f1 f0 r8 a9 n1 a1 q1 g1 hd
     try simp only
     gi_wp2;obtain ⟨g1,q1,a1,n1,a9,r8,f0,f1,f2,f3,f4,f5,f6,f7⟩:=HF.out;have hb:Below W.heap.size W (W.alloc (.cells #[] 62)):=b_R.alloc n_R _;exact hK ({ gh with e1:=W.heap.size },(upd s 18 (.slice (some ⟨W.heap.size,0,none⟩) 0 0))) _ ⟨(fun h=>(g1 h).trans (hb.mono (g1 h).size)),(fun _ _=>World.ownsRow_made W #[] 0 HSZ8.out (Nat.zero_le _) (by simp)),(fun h q=>(a1 h q).below hb n_R),(fun h q=>((n1 h q).below hb).more hb.size),(fun h q=>(a9 h q).below hb n_R),(fun h=>absurd (h8.symm.trans h) (by decide)),(fun _=>rfl),f1,f2,f3,f4,f5,f6,f7⟩
    ·rintro L ⟨gh,s⟩ W hu hd hdn ⟨g1,q1,a1,n1,a9,r8,f0,f1,f2,f3,f4,f5,f6,f7⟩ K Q hK
     try dsimp only at g1 q1 a1 n1 a9 r8 f0 f1 f2 f3 f4 f5 f6 f7 ⊢
     have tl0:=Ly.out.lt 0 rfl;have HF:=lh (ai g1 (ai q1 (ai a1 (ai n1 (ai a9 (ai r8 (ai f0 (ai f1 (ai f2 (ai f3 (ai f4 (ai f5 (ai f6 f7)))))))))))));clear f7 f6 f5 f4 f3 f2 f1 f0 r8 a9 n1 a1 q1 g1 hd
     try simp only
     gi_wp2;obtain ⟨g1,q1,a1,n1,a9,r8,f0,f1,f2,f3,f4,f5,f6,f7⟩:=HF.out;exact hK (gh,(upd s 19 (.pointer (some ⟨w.heap.size,2,none⟩)))) _ ⟨g1,q1,a1,n1,a9,r8,f0,(fun _=>rfl),f2,f3,f4,f5,f6,f7⟩
    ·rintro L ⟨gh,s⟩ W hu hd hdn ⟨g1,q1,a1,n1,a9,r8,f0,f1,f2,f3,f4,f5,f6,f7⟩ K Q hK
     try dsimp only at g1 q1 a1 n1 a9 r8 f0 f1 f2 f3 f4 f5 f6 f7 ⊢
     have e1:=f1 (hd.at_ 1 rfl)
     have h8:L 8=false:=by
      cases hc:L 8 with
      | false=>rfl
      | true=>exact hdn.no 8 2 hc rfl hu
     have c0:W.cell? ⟨w.heap.size,2,none⟩=some (.slice Aa na ca):=((Ly.out.below (g1 h8)).blk 0 rfl).cell 2;have HF:=lh (ai g1 (ai q1 (ai a1 (ai n1 (ai a9 (ai r8 (ai f0 (ai f1 (ai f2 (ai f3 (ai f4 (ai f5 (ai f6 f7)))))))))))));clear f7 f6 f5 f4 f3 f2 f1 f0 r8 a9 n1 a1 q1 g1 hd
     try simp only at e1 ⊢
     gi_wp2;obtain ⟨g1,q1,a1,n1,a9,r8,f0,f1,f2,f3,f4,f5,f6,f7⟩:=HF.out;exact hK (gh,(upd (upd s 19 (.pointer (some ⟨w.heap.size,2,none⟩))) 20 (.slice Aa na ca))) _ ⟨g1,q1,a1,n1,a9,r8,f0,(fun _=>rfl),(fun _=>rfl),f3,f4,f5,f6,f7⟩
    ·rintro L ⟨gh,s⟩ W hu hd hdn ⟨g1,q1,a1,n1,a9,r8,f0,f1,f2,f3,f4,f5,f6,f7⟩ K Q hK
     try dsimp only at g1 q1 a1 n1 a9 r8 f0 f1 f2 f3 f4 f5 f6 f7 ⊢
     have e0:=f0 (hd.at_ 0 rfl);have e2:=f2 (hd.at_ 2 rfl)
     have h6:L 6=false:=by
      cases hc:L 6 with
      | false=>rfl
      | true=>exact hdn.no 6 3 hc rfl hu
     have h8:L 8=false:=by
      cases hc:L 8 with
      | false=>rfl
      | true=>exact hdn.no 8 3 hc rfl hu
     have HE:=lh (q1 (hd.at_ 0 rfl) hu);have HG1:=lh (g1 h8);have HSZ8:=lh (g1 h8).size;have HF:=lh (ai g1 (ai q1 (ai a1 (ai n1 (ai a9 (ai r8 (ai f0 (ai f1 (ai f2 (ai f3 (ai f4 (ai f5 (ai f6 f7)))))))))))));clear f7 f6 f5 f4 f3 f2 f1 f0 r8 a9 n1 a1 q1 g1 hd
     try simp only at e0 e2 ⊢
     gi_wp2_with (first | (gi_at_builtin;refine db rfl (.tmp 18) (.tmp 20) (by rfl) gR e0 HE.out e2 ((HM.out.up (Ly.out.below HG1.out).1).at_.acts) (mA m.acts) (by unfold maxLen;omega) (by omega) HSZ8.out ?_) | fail)
     rintro AN cN W1 hO hb hA;gi_wp2;obtain ⟨g1,q1,a1,n1,a9,r8,f0,f1,f2,f3,f4,f5,f6,f7⟩:=HF.out;exact hK ({ gh with A1:=AN,k1:=cN },(upd (upd (upd s 18 (.slice (some ⟨gh.e1,0,none⟩) 0 0)) 20 (.slice Aa na ca)) 21 (.slice AN na cN))) _ ⟨(fun h=>(g1 h).trans (hb.mono (g1 h).size)),(fun _ h=>by cases h),(fun _ _=>hO),(fun h q=>((n1 h q).below hb).more hb.size),(fun h=>absurd (h6.symm.trans h) (by decide)),(fun h=>absurd (h8.symm.trans h) (by decide)),(fun _=>rfl),f1,(fun _=>rfl),(fun _=>rfl),f4,f5,f6,f7⟩
    ·rintro L ⟨gh,s⟩ W hu hd hdn ⟨g1,q1,a1,n1,a9,r8,f0,f1,f2,f3,f4,f5,f6,f7⟩ K Q hK
     try dsimp only at g1 q1 a1 n1 a9 r8 f0 f1 f2 f3 f4 f5 f6 f7 ⊢
     have h8:L 8=false:=by
      cases hc:L 8 with
      | false=>rfl
      | true=>exact hdn.no 8 4 hc rfl hu
     have c0:W.cell? ⟨w.heap.size+1,0,none⟩=some (.int .i64 x.kind):=((Ly.out.below (g1 h8)).blk 1 rfl).cell 0;have c1:W.cell? ⟨w.heap.size+1,1,none⟩=some (.int .i64 x.fr):=((Ly.out.below (g1 h8)).blk 1 rfl).cell 1;have c2:W.cell? ⟨w.heap.size+1,2,none⟩=some (.int .i64 x.to):=((Ly.out.below (g1 h8)).blk 1 rfl).cell 2;have c3:W.cell? ⟨w.heap.size+1,3,none⟩=some (.int .i64 x.drops):=((Ly.out.below (g1 h8)).blk 1 rfl).cell 3;have HF:=lh (ai g1 (ai q1 (ai a1 (ai n1 (ai a9 (ai r8 (ai f0 (ai f1 (ai f2 (ai f3 (ai f4 (ai f5 (ai f6 f7)))))))))))));clear f7 f6 f5 f4 f3 f2 f1 f0 r8 a9 n1 a1 q1 g1 hd
     try simp only
     gi_wp2;obtain ⟨g1,q1,a1,n1,a9,r8,f0,f1,f2,f3,f4,f5,f6,f7⟩:=HF.out;exact hK (gh,(upd s 22 (.agg #[.int .i64 x.kind,.int .i64 x.fr,.int .i64 x.to,.int .i64 x.drops]))) _ ⟨g1,q1,a1,n1,a9,r8,f0,f1,f2,f3,(fun _=>rfl),f5,f6,f7⟩
    ·rintro L ⟨gh,s⟩ W hu hd hdn ⟨g1,q1,a1,n1,a9,r8,f0,f1,f2,f3,f4,f5,f6,f7⟩ K Q hK
     try dsimp only at g1 q1 a1 n1 a9 r8 f0 f1 f2 f3 f4 f5 f6 f7 ⊢
     have e4:=f4 (hd.at_ 4 rfl)
     have h8:L 8=false:=by
      cases hc:L 8 with
      | false=>rfl
      | true=>exact hdn.no 8 5 hc rfl hu
     have h6:L 6=false:=by
      cases hc:L 6 with
      | false=>rfl
      | true=>exact hdn.no 6 5 hc rfl hu
     have HF:=lh (ai g1 (ai q1 (ai a1 (ai n1 (ai a9 (ai r8 (ai f0 (ai f1 (ai f2 (ai f3 (ai f4 (ai f5 (ai f6 f7)))))))))))));clear f7 f6 f5 f4 f3 f2 f1 f0 r8 a9 n1 a1 q1 g1 hd
     try simp only at e4 ⊢
     gi_wp2;obtain ⟨g1,q1,a1,n1,a9,r8,f0,f1,f2,f3,f4,f5,f6,f7⟩:=HF.out;have hb:Below W.heap.size W (W.alloc (.cells #[.int .i64 x.kind,.int .i64 x.fr,.int .i64 x.to,.int .i64 x.drops] 62)):=b_R.alloc n_R _;exact hK ({ gh with e2:=W.heap.size },(upd (upd s 22 (.agg #[.int .i64 x.kind,.int .i64 x.fr,.int .i64 x.to,.int .i64 x.drops])) 23 (.slice (some ⟨W.heap.size,0,none⟩) 1 1))) _ ⟨(fun h=>(g1 h).trans (hb.mono (g1 h).size)),(fun h q=>(q1 h q).below hb n_R),(fun h q=>(a1 h q).below hb n_R),(fun _ _=>fg W 62 x.vals rfl),(fun h q=>(a9 h q).below hb n_R),(fun h=>absurd (h8.symm.trans h) (by decide)),f0,f1,f2,f3,(fun _=>rfl),(fun _=>rfl),f6,f7⟩
    ·rintro L ⟨gh,s⟩ W hu hd hdn ⟨g1,q1,a1,n1,a9,r8,f0,f1,f2,f3,f4,f5,f6,f7⟩ K Q hK
     try dsimp only at g1 q1 a1 n1 a9 r8 f0 f1 f2 f3 f4 f5 f6 f7 ⊢
     have e3:=f3 (hd.at_ 3 rfl);have e5:=f5 (hd.at_ 5 rfl)
     have h8:L 8=false:=by
      cases hc:L 8 with
      | false=>rfl
      | true=>exact hdn.no 8 6 hc rfl hu
     have HE:=lh (a1 (hd.at_ 3 rfl) hu);have HN1:=lh (n1 (hd.at_ 5 rfl) hu);have HSZ8:=lh (g1 h8).size;have HD3:=lh (hd.at_ 3 rfl);have HF:=lh (ai g1 (ai q1 (ai a1 (ai n1 (ai a9 (ai r8 (ai f0 (ai f1 (ai f2 (ai f3 (ai f4 (ai f5 (ai f6 f7)))))))))))));clear f7 f6 f5 f4 f3 f2 f1 f0 r8 a9 n1 a1 q1 g1 hd
     try simp only at e3 e5 ⊢
     gi_wp2_with (first | (gi_at_builtin;refine cG rfl (.tmp 21) (.tmp 23) (by rfl) gR e3 HE.out e5 HN1.out (kO x) (by unfold maxLen;omega) (by omega) HSZ8.out ?_) | fail)
     rintro AN cN W1 hO hg hA;gi_wp2;obtain ⟨g1,q1,a1,n1,a9,r8,f0,f1,f2,f3,f4,f5,f6,f7⟩:=HF.out;have hgb:Below V3.heap.size V3 W1:=(g1 h8).grown hg (g1 h8).size (fun k hk=>(dB HE.out k hk).1);exact hK ({ gh with A9:=AN,k9:=cN },(upd (upd (upd s 21 (.slice gh.A1 na gh.k1)) 23 (.slice (some ⟨gh.e2,0,none⟩) 1 1)) 24 (.slice AN (na+1) cN))) _ ⟨(fun _=>hgb),(fun _ h=>absurd (HD3.out.symm.trans h) (by decide)),(fun _ h=>by cases h),(fun _ h=>by cases h),(fun _ _=>hO),(fun h=>absurd (h8.symm.trans h) (by decide)),f0,f1,f2,(fun _=>rfl),f4,(fun _=>rfl),(fun _=>rfl),f7⟩
    ·rintro L ⟨gh,s⟩ W hu hd hdn ⟨g1,q1,a1,n1,a9,r8,f0,f1,f2,f3,f4,f5,f6,f7⟩ K Q hK
     try dsimp only at g1 q1 a1 n1 a9 r8 f0 f1 f2 f3 f4 f5 f6 f7 ⊢
     have tlx:=Ly.out.lt 3 rfl;have HF:=lh (ai g1 (ai q1 (ai a1 (ai n1 (ai a9 (ai r8 (ai f0 (ai f1 (ai f2 (ai f3 (ai f4 (ai f5 (ai f6 f7)))))))))))));clear f7 f6 f5 f4 f3 f2 f1 f0 r8 a9 n1 a1 q1 g1 hd
     try simp only
     gi_wp2;obtain ⟨g1,q1,a1,n1,a9,r8,f0,f1,f2,f3,f4,f5,f6,f7⟩:=HF.out;exact hK (gh,(upd s 25 (.pointer (some ⟨G4,2,none⟩)))) _ ⟨g1,q1,a1,n1,a9,r8,f0,f1,f2,f3,f4,f5,f6,(fun _=>rfl)⟩
    ·rintro L ⟨gh,s⟩ W hu hd hdn ⟨g1,q1,a1,n1,a9,r8,f0,f1,f2,f3,f4,f5,f6,f7⟩ K Q hK
     try dsimp only at g1 q1 a1 n1 a9 r8 f0 f1 f2 f3 f4 f5 f6 f7 ⊢
     have e7:=f7 (hd.at_ 7 rfl);have e6:=f6 (hd.at_ 6 rfl);have MB:=(Ly.out.below (g1 hu)).blk 3 rfl;have y2:=MB.cell 2;have z2:=MB.frozen 2;have tlx:=MB.lt;clear MB;have HV:=lh (ai (g1 hu) (a9 (hd.at_ 6 rfl) hu));have HD3:=lh (hd.at_ 3 rfl);have HD6:=lh (hd.at_ 6 rfl);have HF:=lh (ai g1 (ai q1 (ai a1 (ai n1 (ai a9 (ai r8 (ai f0 (ai f1 (ai f2 (ai f3 (ai f4 (ai f5 (ai f6 f7)))))))))))));clear f7 f6 f5 f4 f3 f2 f1 f0 r8 a9 n1 a1 q1 g1 hd
     try simp only at e7 e6 ⊢
     gi_wp2;obtain ⟨g1,q1,a1,n1,a9,r8,f0,f1,f2,f3,f4,f5,f6,f7⟩:=HF.out;exact hK (gh,(upd (upd s 25 (.pointer (some ⟨G4,2,none⟩))) 24 (.slice gh.A9 (na+1) gh.k9))) _ ⟨(fun h=>by cases h),(fun _ h=>absurd (HD3.out.symm.trans h) (by decide)),(fun _ h=>absurd (HD6.out.symm.trans h) (by decide)),(fun _ h=>absurd (HD6.out.symm.trans h) (by decide)),(fun _ h=>by cases h),(fun _=>⟨W,HV.out.1,HV.out.2,rfl⟩),f0,f1,f2,f3,f4,f5,(fun _=>rfl),(fun _=>rfl)⟩
   ·rintro L ⟨gh,s⟩ W hall ⟨g1,q1,a1,n1,a9,r8,f0,f1,f2,f3,f4,f5,f6,f7⟩
    obtain ⟨V,hB,hO,rfl⟩:=r8 (hall 8 (by decide));clear f7 f6 f5 f4 f3 f2 f1 f0 r8 a9 n1 a1 q1 g1 hall;simp only;obtain ⟨ea,eb,A8,k8,A9,c9⟩:=gh;dsimp only at hO ⊢;have hwv:W1.heap.size≤V3.heap.size:=by have:=HWW.out;have:=HG_.out;have:=Ly.out.lt 3 rfl;omega
    have HMO2:=lh (HMO.out.acts (l:=(m.acts++[x])) hB (by rw [List.flatMap_append];simpa using hO) hwv);replace Ly:=lyb Ly hB;clear hO hB hwv
    have hne:∀ b∈([(w.heap.size,26,#[.int .i64 m.fountains,.slice Av nv cv,.slice Aa na ca,.slice At nt ct]),(w.heap.size+1,62,#[.int .i64 x.kind,.int .i64 x.fr,.int .i64 x.to,.int .i64 x.drops]),(w.heap.size+1+1,26,#[.int .i64 0,.slice none 0 0,.slice none 0 0,.slice none 0 0])]:List (Nat × TypeId × Array Value)),b.1≠G4:=fun b hb=>by
     have:=HWW.out;have:=HG_.out;have:=HBLL.out;simp only [List.mem_cons,List.not_mem_nil,or_false] at hb;rcases hb with rfl | rfl | rfl<;>dsimp only<;>omega
    have hgs:=cC (row:=some G4) (cR V _) (p:=⟨G4,2,none⟩) (.inl rfl) (.slice A9 (na+1) c9);have HMO3:=lh (HMO2.out.offB (Ly.out.blk 3 rfl) hgs);have hl:=Lay.setLast Ly.out hne 2 (.slice A9 (na+1) c9);generalize V.setCell ⟨G4,2,none⟩ (.slice A9 (na+1) c9)=V5 at *;replace Ly:=lh (show Lay w V5 [(w.heap.size,26,#[.int .i64 m.fountains,.slice Av nv cv,.slice Aa na ca,.slice At nt ct]),(w.heap.size+1,62,#[.int .i64 x.kind,.int .i64 x.fr,.int .i64 x.to,.int .i64 x.drops]),(w.heap.size+1+1,26,#[.int .i64 0,.slice none 0 0,.slice none 0 0,.slice none 0 0]),(G4,26,#[.int .i64 m.fountains,.slice A1 nv c1,.slice A9 (na+1) c9,.slice A3 nt c3])] from hl);replace HMO:=HMO3;clear hgs hl HMO2 HMO3 hne;obtain ⟨x3_0,x3_1,x3_2,x3_3⟩:=lyc4 Ly 3 rfl;have l3_:=Ly.out.lt 3 rfl;gi_wp2;clear x3_0 x3_1 x3_2 x3_3 l3_;refine ⟨trivial,(callsIn_wide.2 (gM A1 nv c1 A9 (na+1) c9 A3 nt c3 (ey m (m.acts++[x])) V5 (HMO.out.s hnv (by omega) hnt))).mono ?_⟩;rintro e W6 ⟨rfl,hb⟩;have HBC:=lh hb;replace Ly:=lyb Ly hb;clear hb
    cases hk:cu (ey m (m.acts++[x])) with
    | false =>
     replace HF:Hid (doM m x=(dS,41)):=lh (by rw [HF.out,hk];rfl);clear hk HMO;have x2_0:=lyc Ly 2 rfl 0;have z2_0:=lyf Ly 2 rfl 0;have x2_1:=lyc Ly 2 rfl 1;have z2_1:=lyf Ly 2 rfl 1;have x2_2:=lyc Ly 2 rfl 2;have z2_2:=lyf Ly 2 rfl 2;have x2_3:=lyc Ly 2 rfl 3;have z2_3:=lyf Ly 2 rfl 3;have l2_:=Ly.out.lt 2 rfl;gi_wp2;have R4:=ret4' (Ly.out.blk 2 rfl) Ly.out.1 (Ly.out.ge 2 rfl) (.int .i64 0) (.slice none 0 0) (.slice none 0 0) (.slice none 0 0);have v0:=R4.1.cell 0;have v1:=R4.1.cell 1;have v2:=R4.1.cell 2;have v3:=R4.1.cell 3;refine bodyPost_ret (v:=.tuple #[.agg #[.int .i64 0,.slice none 0 0,.slice none 0 0,.slice none 0 0],.int .i64 41]) (by simp [results,Tryz.results57,go_sem,v0,v1,v2,v3]) rfl ?_;rw [HF.out];exact ⟨none,0,0,none,0,0,none,0,0,rfl,MixS.nothing _,R4.2.1⟩
    | true =>
     replace HF:Hid (doM m x=((ey m (m.acts++[x])),0)):=lh (by rw [HF.out,hk];rfl);replace HMO:=lh (HMO.out.below HBC.out);clear hk;obtain ⟨x3_0,x3_1,x3_2,x3_3⟩:=lyc4 Ly 3 rfl;have l3_:=Ly.out.lt 3 rfl;have r0:=lyc Ly 2 rfl 0;have rz0:=lyf Ly 2 rfl 0;have r1:=lyc Ly 2 rfl 1;have rz1:=lyf Ly 2 rfl 1;have r2:=lyc Ly 2 rfl 2;have rz2:=lyf Ly 2 rfl 2;have r3:=lyc Ly 2 rfl 3;have rz3:=lyf Ly 2 rfl 3;have rl:=Ly.out.lt 2 rfl;gi_wp2;have R4:=ret4' (Ly.out.blk 2 rfl) Ly.out.1 (Ly.out.ge 2 rfl) (.int .i64 m.fountains) (.slice A1 nv c1) (.slice A9 (na+1) c9) (.slice A3 nt c3);have v0:=R4.1.cell 0;have v1:=R4.1.cell 1;have v2:=R4.1.cell 2;have v3:=R4.1.cell 3;refine bodyPost_ret (v:=.tuple #[.agg #[.int .i64 m.fountains,.slice A1 nv c1,.slice A9 (na+1) c9,.slice A3 nt c3],.int .i64 0]) (by simp [results,Tryz.results57,go_sem,v0,v1,v2,v3]) rfl ?_;rw [HF.out];exact ⟨_,_,_,_,_,_,_,_,_,rfl,(HMO.out.offB (Ly.out.blk 2 rfl) R4.2.2).s (by omega) (by omega) (by omega),R4.2.1⟩
end
section
open Go.RowKit
attribute [local go_sem] Oper.semAt_some
def UpK (n₀:Nat)(A C:World):Prop:=(n₀≤A.heap.size→Below n₀ A C∧kH A C)∧A.heap.size≤C.heap.size
instance upk_grows (n₀:Nat):Gr.Grows (UpK n₀) where
 refl:=fun W=>⟨fun _=>⟨b_R,fun _ _ _ _ _ _ h=>h⟩,n_R⟩
 trans:=fun h k=>⟨fun hn=>⟨(h.1 hn).1.trans (k.1 (Nat.le_trans hn h.2)).1,fun b cs t fr h1 h2 h3=>(k.1 (Nat.le_trans hn h.2)).2 b cs t fr h1 h2 ((h.1 hn).2 b cs t fr h1 h2 h3)⟩,Nat.le_trans h.2 k.2⟩
 below:=fun h=>⟨fun hn=>⟨h.mono hn,iY h⟩,h.size⟩
 size:=fun h=>h.2
end
section
open Go.RowKit
theorem lR (Av:Option Addr)(nv cv:Nat)(Aa:Option Addr)(na ca:Nat)(At:Option Addr)(nt ct:Nat)(m:Mix)(vessel after fountain:Int)(w:World)(h:MixS w Av nv Aa na At nt m) :
  CallsIn Fence.wide 9 Tryz.prog 123 #[.agg #[.int .i64 m.fountains,.slice Av nv cv,.slice Aa na ca,.slice At nt ct],.int .i64 vessel,.int .i64 after,.int .i64 fountain] w (fun e w'=>e = .returned (.int .i64 (askM m vessel after [fountain]))∧Below w.heap.size w w'):=by
 have HM:=lh h;have HLA:=lh h.at_.lenA;clear h;refine callsIn_of_wp Tryz.func123 rfl trivial ?_ rfl;simp only [Tryz.ntmps123,es,Nat.reduceAdd,Nat.reduceSub];gi_upto_region 1 with fail
 have Ly:=lh (Lay.one w 26 #[.int .i64 m.fountains,.slice Av nv cv,.slice Aa na ca,.slice At nt ct]);generalize (w.alloc (.cells #[.int .i64 m.fountains,.slice Av nv cv,.slice Aa na ca,.slice At nt ct] 26))=w0 at *;obtain ⟨x0_0,x0_1,x0_2,x0_3⟩:=lyc4 Ly 0 rfl;have l0_:=Ly.out.lt 0 rfl;gi_wp2;clear x0_0 x0_1 x0_2 x0_3 l0_;refine ⟨trivial,(callsIn_wide.2 (gM Av nv cv Aa na ca At nt ct m w0 (HM.out.up Ly.out.1))).mono ?_⟩;rintro e W1 ⟨rfl,hb⟩;replace Ly:=lyb Ly hb;clear hb
 cases hk:cu m with
 | false =>
  have HK:=lh hk;clear hk;gi_wp2;refine bodyPost_ret (v:=.int .i64 40) (by simp [results,Tryz.results123,go_sem]) rfl ?_;exact ⟨dE (by unfold askM;rw [if_neg (by rw [HK.out];decide)]),Ly.out.1⟩
 | true =>
  have HK:=lh hk;clear hk;obtain ⟨x0_0,x0_1,x0_2,x0_3⟩:=lyc4 Ly 0 rfl;have l0_:=Ly.out.lt 0 rfl;gi_wp2;clear x0_0 x0_1 x0_2 x0_3 l0_;refine ⟨trivial,(callsIn_wide.2 (dm Av nv cv Aa na ca At nt ct m vessel W1 (HM.out.up Ly.out.1))).mono ?_⟩;rintro e W2 ⟨rfl,hb⟩;replace Ly:=lyb Ly hb;clear hb
  obtain ⟨ix,hix⟩:∃ ix,idxV m.vessels vessel=ix:=⟨_,rfl⟩
  rw [hix];have HIX:=lh hix;clear hix;by_cases h6:ix<0
  ·
   have H6:=lh h6;have h6b:decide (ix<0)=true:=decide_eq_true h6;clear h6;gi_wp2;refine bodyPost_ret (v:=.int .i64 6) (by simp [results,Tryz.results123,go_sem]) rfl ?_;exact ⟨dE (by unfold askM;rw [if_pos HK.out,HIX.out,if_pos H6.out]),Ly.out.1⟩
  ·
   have H6:=lh h6;have h6b:decide (ix<0)=false:=decide_eq_false h6;clear h6;obtain ⟨x0_0,x0_1,x0_2,x0_3⟩:=lyc4 Ly 0 rfl;have l0_:=Ly.out.lt 0 rfl;gi_wp2;clear x0_0 x0_1 x0_2 x0_3 l0_;clear h6b;refine ⟨trivial,(callsIn_wide.2 (cK after 0 na W2)).mono ?_⟩;rintro e W8 ⟨rfl,rfl⟩;by_cases hr:0≤after∧after≤na
   ·
    have hi:wiB after 0 na=true:=decide_eq_true hr;rw [hi];have HR:=lh hr;clear hr hi;obtain ⟨x0_0,x0_1,x0_2,x0_3⟩:=lyc4 Ly 0 rfl;have l0_:=Ly.out.lt 0 rfl;gi_wp2;clear x0_0 x0_1 x0_2 x0_3 l0_;refine ⟨trivial,(callsIn_wide.2 (cK fountain 1 m.fountains W2)).mono ?_⟩;rintro e W8 ⟨rfl,rfl⟩;by_cases hq:1≤fountain∧fountain≤m.fountains
    ·
     have hi:wiB fountain 1 m.fountains=true:=decide_eq_true hq;rw [hi];have HQ:=lh hq;clear hq hi;gi_wp2;refine bodyPost_ret (v:=.int .i64 0) (by simp [results,Tryz.results123,go_sem]) rfl ?_;exact ⟨dE (by unfold askM;rw [if_pos HK.out,HIX.out,if_neg (by have:=H6.out;omega),if_pos ⟨by rw [HLA.out];exact HR.out,by simpa using HQ.out⟩]),Ly.out.1⟩
    ·
     have hi:wiB fountain 1 m.fountains=false:=decide_eq_false hq;rw [hi];have HQ:=lh hq;clear hq hi;gi_wp2;refine bodyPost_ret (v:=.int .i64 2) (by simp [results,Tryz.results123,go_sem]) rfl ?_;exact ⟨dE (by unfold askM;rw [if_pos HK.out,HIX.out,if_neg (by have:=H6.out;omega),if_neg (fun h=>HQ.out (by simpa using h.2))]),Ly.out.1⟩
   ·
    have hi:wiB after 0 na=false:=decide_eq_false hr;rw [hi];have HR:=lh hr;clear hr hi;obtain ⟨x0_0,x0_1,x0_2,x0_3⟩:=lyc4 Ly 0 rfl;have l0_:=Ly.out.lt 0 rfl;gi_wp2;clear x0_0 x0_1 x0_2 x0_3 l0_;refine ⟨trivial,?_⟩;gi_wp2;refine bodyPost_ret (v:=.int .i64 2) (by simp [results,Tryz.results123,go_sem]) rfl ?_;exact ⟨dE (by unfold askM;rw [if_pos HK.out,HIX.out,if_neg (by have:=H6.out;omega),if_neg (fun h=>HR.out (by rw [HLA.out] at h;exact h.1))]),Ly.out.1⟩
theorem qP  (lo hi n:Int)(w:World)  :
  CallsIn Fence.wide 9 Tryz.prog 125 #[.agg #[.int .i64 lo,.int .i64 hi],.int .i64 n] w (fun e w'=>e = .returned (.agg #[.int .i64 (iQ (lo,hi) n).1,.int .i64 (iQ (lo,hi) n).2])∧Below w.heap.size w w'):=by
 refine callsIn_of_wp Tryz.func125 rfl trivial ?_ rfl;simp only [Tryz.ntmps125,es,Nat.reduceAdd,Nat.reduceSub];gi_upto_region 1 with fail
 have Ly:=lh (Lay.two w 54 #[.int .i64 lo,.int .i64 hi] 54 #[.int .i64 0,.int .i64 0]);generalize ((w.alloc (.cells #[.int .i64 lo,.int .i64 hi] 54)).alloc (.cells #[.int .i64 0,.int .i64 0] 54))=w0 at *;by_cases h0:hi<0
 ·
  have h0b:decide (hi<0)=true:=decide_eq_true h0;have H0:=lh h0;clear h0;obtain ⟨x0_0,x0_1⟩:=lyc2 Ly 0 rfl;have l0_:=Ly.out.lt 0 rfl;have x1_0:=lyc Ly 1 rfl 0;have z1_0:=lyf Ly 1 rfl 0;have x1_1:=lyc Ly 1 rfl 1;have z1_1:=lyf Ly 1 rfl 1;have l1_:=Ly.out.lt 1 rfl;gi_wp2;have R2:=ret2' (Ly.out.blk 1 rfl) Ly.out.1 (Ly.out.ge 1 rfl) (.int .i64 (n)) (.int .i64 (n));have v0:=R2.1.cell 0;have v1:=R2.1.cell 1;refine bodyPost_ret (v:=.agg #[.int .i64 (n),.int .i64 (n)]) (by simp [results,Tryz.results125,go_sem,v0,v1]) rfl ?_;exact ⟨by unfold iQ;rw [if_pos H0.out],R2.2.1⟩
 ·
  have h0b:decide (hi<0)=false:=decide_eq_false h0;have H0:=lh h0;clear h0;obtain ⟨x0_0,x0_1⟩:=lyc2 Ly 0 rfl;have l0_:=Ly.out.lt 0 rfl;have x1_0:=lyc Ly 1 rfl 0;have z1_0:=lyf Ly 1 rfl 0;have x1_1:=lyc Ly 1 rfl 1;have z1_1:=lyf Ly 1 rfl 1;have l1_:=Ly.out.lt 1 rfl;gi_wp2;have R2:=ret2' (Ly.out.blk 1 rfl) Ly.out.1 (Ly.out.ge 1 rfl) (.int .i64 (min lo n)) (.int .i64 (max hi n));have v0:=R2.1.cell 0;have v1:=R2.1.cell 1;refine bodyPost_ret (v:=.agg #[.int .i64 (min lo n),.int .i64 (max hi n)]) (by simp [results,Tryz.results125,go_sem,v0,v1]) rfl ?_;exact ⟨by unfold iQ;rw [if_neg (by have:=H0.out;omega)],R2.2.1⟩
end
section
open Go.RowKit
theorem lE (Av:Option Addr)(nv cv:Nat)(Aa:Option Addr)(na ca:Nat)(At:Option Addr)(nt ct:Nat)(m:Mix)(x:MAct)(fountain:Int)(all has:Held)(w:World)(h:MixS w Av nv Aa na At nt m)(hok:gv m all x)(hf:Fits all has)(hr:∀ q:Nat,q<4→au all q≤12)(hv4:m.vessels.length≤4) :
  CallsIn Fence.wide 9 Tryz.prog 156 #[.agg #[.int .i64 m.fountains,.slice Av nv cv,.slice Aa na ca,.slice At nt ct],.agg #[.int .i64 x.kind,.int .i64 x.fr,.int .i64 x.to,.int .i64 x.drops],.int .i64 fountain,.agg #[.int .i64 (au all 0),.int .i64 (au all 1),.int .i64 (au all 2),.int .i64 (au all 3)],.agg #[.int .i64 (au has 0),.int .i64 (au has 1),.int .i64 (au has 2),.int .i64 (au has 3)]] w (fun e w'=>e = .returned (.agg #[.int .i64 (dq m x fountain all has).1,.int .i64 (dq m x fountain all has).2])∧Below w.heap.size w w'):=by
 have HM:=lh h;have HOK:=lh hok;have HF:=lh hf;have HR:=lh hr;have HV4:=lh hv4;clear h hok hf hr hv4;refine callsIn_of_wp Tryz.func156 rfl trivial ?_ rfl;simp only [Tryz.ntmps156,es,Nat.reduceAdd,Nat.reduceSub];gi_upto_region 1 with fail
 have Ly:=lh (show Lay w (((((w.alloc (.cells #[.int .i64 m.fountains,.slice Av nv cv,.slice Aa na ca,.slice At nt ct] 26)).alloc (.cells #[.int .i64 x.kind,.int .i64 x.fr,.int .i64 x.to,.int .i64 x.drops] 62)).alloc (.cells #[.int .i64 (au all 0),.int .i64 (au all 1),.int .i64 (au all 2),.int .i64 (au all 3)] 150)).alloc (.cells #[.int .i64 (au has 0),.int .i64 (au has 1),.int .i64 (au has 2),.int .i64 (au has 3)] 150)).alloc (.cells #[.int .i64 0,.int .i64 0] 54)) [(w.heap.size,26,#[.int .i64 m.fountains,.slice Av nv cv,.slice Aa na ca,.slice At nt ct]),(w.heap.size+1,62,#[.int .i64 x.kind,.int .i64 x.fr,.int .i64 x.to,.int .i64 x.drops]),(w.heap.size+1+1,150,#[.int .i64 (au all 0),.int .i64 (au all 1),.int .i64 (au all 2),.int .i64 (au all 3)]),(w.heap.size+1+1+1,150,#[.int .i64 (au has 0),.int .i64 (au has 1),.int .i64 (au has 2),.int .i64 (au has 3)]),(w.heap.size+1+1+1+1,54,#[.int .i64 0,.int .i64 0])] from by have h5:=((Lay.four w 26 #[.int .i64 m.fountains,.slice Av nv cv,.slice Aa na ca,.slice At nt ct] 62 #[.int .i64 x.kind,.int .i64 x.fr,.int .i64 x.to,.int .i64 x.drops] 150 #[.int .i64 (au all 0),.int .i64 (au all 1),.int .i64 (au all 2),.int .i64 (au all 3)] 150 #[.int .i64 (au has 0),.int .i64 (au has 1),.int .i64 (au has 2),.int .i64 (au has 3)]).alloc 54 #[.int .i64 0,.int .i64 0]);simp only [World.size_alloc] at h5;exact h5);generalize (((((w.alloc (.cells #[.int .i64 m.fountains,.slice Av nv cv,.slice Aa na ca,.slice At nt ct] 26)).alloc (.cells #[.int .i64 x.kind,.int .i64 x.fr,.int .i64 x.to,.int .i64 x.drops] 62)).alloc (.cells #[.int .i64 (au all 0),.int .i64 (au all 1),.int .i64 (au all 2),.int .i64 (au all 3)] 150)).alloc (.cells #[.int .i64 (au has 0),.int .i64 (au has 1),.int .i64 (au has 2),.int .i64 (au has 3)] 150)).alloc (.cells #[.int .i64 0,.int .i64 0] 54))=w0 at *;obtain ⟨x0_0,x0_1,x0_2,x0_3⟩:=lyc4 Ly 0 rfl;have l0_:=Ly.out.lt 0 rfl;obtain ⟨x1_0,x1_1,x1_2,x1_3⟩:=lyc4 Ly 1 rfl;have l1_:=Ly.out.lt 1 rfl;gi_wp2;clear x0_0 x0_1 x0_2 x0_3 l0_ x1_0 x1_1 x1_2 x1_3 l1_;refine ⟨trivial,(callsIn_wide.2 (dm Av nv cv Aa na ca At nt ct m x.fr w0 (HM.out.up Ly.out.1))).mono ?_⟩;rintro e W1 ⟨rfl,hb⟩;replace Ly:=lyb Ly hb;clear hb
 obtain ⟨ix,hix⟩:∃ ix,idxV m.vessels x.fr=ix:=⟨_,rfl⟩
 rw [hix];have HIX:=lh hix;clear hix;by_cases h1:x.kind=1
 ·
  have h1b:(x.kind==1)=true:=by simpa using h1
  have H1:=lh h1;clear h1;by_cases h2:x.fr=fountain
  ·
   have h2b:(x.fr==fountain)=true:=by simpa using h2
   have H2:=lh h2;clear h2;obtain ⟨x1_0,x1_1,x1_2,x1_3⟩:=lyc4 Ly 1 rfl;have l1_:=Ly.out.lt 1 rfl;have x4_0:=lyc Ly 4 rfl 0;have z4_0:=lyf Ly 4 rfl 0;have x4_1:=lyc Ly 4 rfl 1;have z4_1:=lyf Ly 4 rfl 1;have l4_:=Ly.out.lt 4 rfl;gi_wp2;have R2:=ret2' (Ly.out.blk 4 rfl) Ly.out.1 (Ly.out.ge 4 rfl) (.int .i64 (x.drops)) (.int .i64 (x.drops));have v0:=R2.1.cell 0;have v1:=R2.1.cell 1;refine bodyPost_ret (v:=.agg #[.int .i64 (x.drops),.int .i64 (x.drops)]) (by simp [results,Tryz.results156,go_sem,v0,v1]) rfl ?_;exact ⟨by unfold dq;rw [if_pos H1.out,if_pos H2.out],R2.2.1⟩
  ·
   have h2b:(x.fr==fountain)=false:=by simpa using h2
   have H2:=lh h2;clear h2;obtain ⟨x1_0,x1_1,x1_2,x1_3⟩:=lyc4 Ly 1 rfl;have l1_:=Ly.out.lt 1 rfl;have x4_0:=lyc Ly 4 rfl 0;have z4_0:=lyf Ly 4 rfl 0;have x4_1:=lyc Ly 4 rfl 1;have z4_1:=lyf Ly 4 rfl 1;have l4_:=Ly.out.lt 4 rfl;gi_wp2;have R2:=ret2' (Ly.out.blk 4 rfl) Ly.out.1 (Ly.out.ge 4 rfl) (.int .i64 (0)) (.int .i64 (0));have v0:=R2.1.cell 0;have v1:=R2.1.cell 1;refine bodyPost_ret (v:=.agg #[.int .i64 (0),.int .i64 (0)]) (by simp [results,Tryz.results156,go_sem,v0,v1]) rfl ?_;exact ⟨by unfold dq;rw [if_pos H1.out,if_neg (by simpa using H2.out)],R2.2.1⟩
 ·
  have h1b:(x.kind==1)=false:=by simpa using h1
  have h0:=HOK.out.from_ h1;have hl:=df h0;have hv4:=HV4.out;rw [HIX.out] at h0 hl
  obtain ⟨q,rfl⟩:∃ q:Nat,ix=(q:Int):=⟨ix.toNat,by omega⟩
  have hq4:q<4:=by omega
  have HQ4:=lh hq4;have H1:=lh h1;clear h1 h0 hl hv4;by_cases h4:x.kind=4
  ·
   have h4b:(x.kind==4)=true:=by simpa using h4
   have H4:=lh h4;clear h4;have c2:=((Ly.out.blk 2 rfl).cell q).trans (cF all HQ4.out);have c3:=((Ly.out.blk 3 rfl).cell q).trans (cF has HQ4.out);have c2l:=Ly.out.lt 2 rfl;have c3l:=Ly.out.lt 3 rfl;obtain ⟨x1_0,x1_1,x1_2,x1_3⟩:=lyc4 Ly 1 rfl;have l1_:=Ly.out.lt 1 rfl;have x4_0:=lyc Ly 4 rfl 0;have z4_0:=lyf Ly 4 rfl 0;have x4_1:=lyc Ly 4 rfl 1;have z4_1:=lyf Ly 4 rfl 1;have l4_:=Ly.out.lt 4 rfl;gi_wp2
   gi_region
   all_goals gi_wp2
   all_goals
    have R2:=ret2' (Ly.out.blk 4 rfl) Ly.out.1 (Ly.out.ge 4 rfl) (.int .i64 (au has (q:Int))) (.int .i64 (au has (q:Int)));have v0:=R2.1.cell 0;have v1:=R2.1.cell 1;refine bodyPost_ret (v:=.agg #[.int .i64 (au has (q:Int)),.int .i64 (au has (q:Int))]) (by simp [results,Tryz.results156,go_sem,v0,v1]) rfl ?_;exact ⟨by unfold dq;rw [if_neg H1.out,if_pos H4.out,HIX.out],av R2.2.1 1⟩
  ·
   have h4b:(x.kind==4)=false:=by simpa using h4
   have hk:=HOK.out.kind;have hsz:=HOK.out.size.2 (by have:=H1.out;omega);rw [HIX.out] at hsz;have hbd:=HR.out q HQ4.out;have hft:=HF.out.le q HQ4.out;have H4:=lh h4;clear h4 hk;have c2:=((Ly.out.blk 2 rfl).cell q).trans (cF all HQ4.out);have c3:=((Ly.out.blk 3 rfl).cell q).trans (cF has HQ4.out);have c2l:=Ly.out.lt 2 rfl;have c3l:=Ly.out.lt 3 rfl;obtain ⟨x1_0,x1_1,x1_2,x1_3⟩:=lyc4 Ly 1 rfl;have l1_:=Ly.out.lt 1 rfl;have x4_0:=lyc Ly 4 rfl 0;have z4_0:=lyf Ly 4 rfl 0;have x4_1:=lyc Ly 4 rfl 1;have z4_1:=lyf Ly 4 rfl 1;have l4_:=Ly.out.lt 4 rfl;gi_wp2
   gi_region
   all_goals gi_wp2
   all_goals
    have R2:=ret2' (Ly.out.blk 4 rfl) Ly.out.1 (Ly.out.ge 4 rfl) (.int .i64 (max 0 (x.drops - (au all (q:Int) - au has (q:Int))))) (.int .i64 (min (au has (q:Int)) x.drops));have v0:=R2.1.cell 0;have v1:=R2.1.cell 1;refine bodyPost_ret (v:=.agg #[.int .i64 (max 0 (x.drops - (au all (q:Int) - au has (q:Int)))),.int .i64 (min (au has (q:Int)) x.drops)]) (by simp [results,Tryz.results156,go_sem,v0,v1]) rfl ?_;exact ⟨by unfold dq;rw [if_neg H1.out,if_neg H4.out,HIX.out],av R2.2.1 1⟩
end
section
open Go.RowKit
theorem i7 {w W:World}{t0 t1 t3:TypeId}{c0 c1 c3:Array Value}{s:Held}(h:Lay w W [(w.heap.size,t0,c0),(w.heap.size+1,t1,c1),(w.heap.size+1+1,150,#[.int .i64 (au s 0),.int .i64 (au s 1),.int .i64 (au s 2),.int .i64 (au s 3)]),(w.heap.size+1+1+1,t3,c3)])(q:Nat)(hs:s.length=4)(hq:q<4)(v:Int) :
  Lay w (W.setCell ⟨w.heap.size+1+1,q,none⟩ (.int .i64 v)) [(w.heap.size,t0,c0),(w.heap.size+1,t1,c1),(w.heap.size+1+1,150,(dH (s.set q v)).toArray),(w.heap.size+1+1+1,t3,c3)]:=by
 have hg:=cC (row:=some (w.heap.size+1+1)) (cR W _) (p:=⟨w.heap.size+1+1,q,none⟩) (.inl rfl) (.int .i64 v);refine ⟨h.1.setCell (p:=⟨w.heap.size+1+1,q,none⟩) (by simp;omega) _,fun b hb=>?_⟩;simp only [List.mem_cons,List.not_mem_nil,or_false] at hb;rcases hb with rfl | rfl | rfl | rfl
 ·exact ⟨h.ge 0 rfl,(h.blk 0 rfl).grown hg (fun e=>by have:=Option.some.inj e;omega)⟩
 ·exact ⟨h.ge 1 rfl,(h.blk 1 rfl).grown hg (fun e=>by have:=Option.some.inj e;omega)⟩
 ·refine ⟨h.ge 2 rfl,?_⟩
  have:=(h.blk 2 rfl).set_ q (.int .i64 v)
  rwa [show #[.int .i64 (au s 0),.int .i64 (au s 1),.int .i64 (au s 2),.int .i64 (au s 3)]=(dH s).toArray from rfl,jo hs hq] at this
 ·exact ⟨h.ge 3 rfl,(h.blk 3 rfl).grown hg (fun e=>by have:=Option.some.inj e;omega)⟩
theorem kC {a b:Held}(h:a=b):Ending.returned (.agg #[.int .i64 (au a 0),.int .i64 (au a 1),.int .i64 (au a 2),.int .i64 (au a 3)]) = .returned (.agg #[.int .i64 (au b 0),.int .i64 (au b 1),.int .i64 (au b 2),.int .i64 (au b 3)]):=by rw [h]
theorem sG {s:Held}{n:Int}{a b:Nat}(h:∀ q:Nat,q<4→0≤au s q∧au s q≤12)(hn:0≤n∧n≤2000)(hl:s.length=4)(ha:a<4)(hb:b<4) : -2000≤au (s.set a (au s (a:Int) - n)) (b:Int)∧au (s.set a (au s (a:Int) - n)) (b:Int)≤12:=by
 have h1:=h a ha;have h2:=h b hb;have e:=eP (s:=s) (i:=(a:Int)) (j:=(b:Int)) (v:=au s (a:Int) - n) (by omega) (by omega) (by omega);rw [Int.toNat_natCast] at e;rw [e]
 split<;>omega
theorem l5 (Av:Option Addr)(nv cv:Nat)(Aa:Option Addr)(na ca:Nat)(At:Option Addr)(nt ct:Nat)(m:Mix)(x:MAct)(has:Held)(n:Int)(all:Held)(w:World)(h:MixS w Av nv Aa na At nt m)(hok:gv m all x)(hl:has.length=4)(hr:∀ q:Nat,q<4→0≤au has q∧au has q≤12)(hn:0≤n∧n≤2000)(hv4:m.vessels.length≤4) :
  CallsIn Fence.wide 9 Tryz.prog 157 #[.agg #[.int .i64 m.fountains,.slice Av nv cv,.slice Aa na ca,.slice At nt ct],.agg #[.int .i64 x.kind,.int .i64 x.fr,.int .i64 x.to,.int .i64 x.drops],.agg #[.int .i64 (au has 0),.int .i64 (au has 1),.int .i64 (au has 2),.int .i64 (au has 3)],.int .i64 n] w (fun e w'=>e = .returned (.agg #[.int .i64 (au (dw m x has n) 0),.int .i64 (au (dw m x has n) 1),.int .i64 (au (dw m x has n) 2),.int .i64 (au (dw m x has n) 3)])∧Below w.heap.size w w'):=by
 have HM:=lh h;have HOK:=lh hok;have HR:=lh hr;have HL:=lh hl;have HN:=lh hn;have HV4:=lh hv4;have hd4:=hok.kind;clear h hok hr hl hn hv4;refine callsIn_of_wp Tryz.func157 rfl trivial ?_ rfl;simp only [Tryz.ntmps157,es,Nat.reduceAdd,Nat.reduceSub];gi_upto_region 1 with fail
 have Ly:=lh (Lay.four w 26 #[.int .i64 m.fountains,.slice Av nv cv,.slice Aa na ca,.slice At nt ct] 62 #[.int .i64 x.kind,.int .i64 x.fr,.int .i64 x.to,.int .i64 x.drops] 150 #[.int .i64 (au has 0),.int .i64 (au has 1),.int .i64 (au has 2),.int .i64 (au has 3)] 150 #[.int .i64 0,.int .i64 0,.int .i64 0,.int .i64 0]);generalize ((((w.alloc (.cells #[.int .i64 m.fountains,.slice Av nv cv,.slice Aa na ca,.slice At nt ct] 26)).alloc (.cells #[.int .i64 x.kind,.int .i64 x.fr,.int .i64 x.to,.int .i64 x.drops] 62)).alloc (.cells #[.int .i64 (au has 0),.int .i64 (au has 1),.int .i64 (au has 2),.int .i64 (au has 3)] 150)).alloc (.cells #[.int .i64 0,.int .i64 0,.int .i64 0,.int .i64 0] 150))=w0 at *;by_cases h1:x.kind=1
 ·
  have h1b:(x.kind != 1)=false:=by simpa using h1
  have h3b:decide (x.kind<3)=true:=decide_eq_true (by omega);have H1:=lh h1;clear h1 hd4;obtain ⟨x1_0,x1_1,x1_2,x1_3⟩:=lyc4 Ly 1 rfl;have l1_:=Ly.out.lt 1 rfl;gi_upto_region 4 with fail
  clear x1_0 x1_1 x1_2 x1_3 l1_;obtain ⟨x0_0,x0_1,x0_2,x0_3⟩:=lyc4 Ly 0 rfl;have l0_:=Ly.out.lt 0 rfl;obtain ⟨x1_0,x1_1,x1_2,x1_3⟩:=lyc4 Ly 1 rfl;have l1_:=Ly.out.lt 1 rfl;gi_wp2;clear x0_0 x0_1 x0_2 x0_3 l0_ x1_0 x1_1 x1_2 x1_3 l1_;refine ⟨trivial,(callsIn_wide.2 (dm Av nv cv Aa na ca At nt ct m x.to w0 (HM.out.up Ly.out.1))).mono ?_⟩;rintro e W1 ⟨rfl,hb⟩;replace Ly:=lyb Ly hb;clear hb;have h0:=HOK.out.to_ (.inl H1.out);have hlt:=df h0;have hv4:=HV4.out
  obtain ⟨b,hb⟩:∃ q:Nat,idxV m.vessels x.to=(q:Int):=⟨(idxV m.vessels x.to).toNat,by omega⟩
  rw [hb] at hlt ⊢;have HQb:Hid (b<4):=lh (by omega);have HIb:=lh hb;clear h0 hlt hv4 hb;have hn:=HN.out;have hbd:=HR.out b HQb.out;have cq:=((Ly.out.blk 2 rfl).cell b).trans (cF (has) HQb.out);have fq:=(Ly.out.blk 2 rfl).frozen b;have lq:=Ly.out.lt 2 rfl;have hq4:=HQb.out;have hqi:(b:Int)<4:=by omega
  gi_upto_region 5 with fail
  have HLS:=lh (i7 Ly.out b (by simpa using HL.out) HQb.out (au (has) (b:Int)+n));generalize W1.setCell ⟨w.heap.size+1+1,b,none⟩ (.int .i64 (au (has) (b:Int)+n))=S2 at *;replace Ly:=HLS;clear cq fq lq HLS hn hbd hq4 hqi;replace Ly:=lh (show Lay w S2 [(w.heap.size,26,#[.int .i64 m.fountains,.slice Av nv cv,.slice Aa na ca,.slice At nt ct]),(w.heap.size+1,62,#[.int .i64 x.kind,.int .i64 x.fr,.int .i64 x.to,.int .i64 x.drops]),(w.heap.size+1+1,150,#[.int .i64 (au (has.set b (au has (b:Int)+n)) 0),.int .i64 (au (has.set b (au has (b:Int)+n)) 1),.int .i64 (au (has.set b (au has (b:Int)+n)) 2),.int .i64 (au (has.set b (au has (b:Int)+n)) 3)]),(w.heap.size+1+1+1,150,#[.int .i64 0,.int .i64 0,.int .i64 0,.int .i64 0])] from Ly.out);obtain ⟨x2_0,x2_1,x2_2,x2_3⟩:=lyc4 Ly 2 rfl;have l2_:=Ly.out.lt 2 rfl;have x3_0:=lyc Ly 3 rfl 0;have z3_0:=lyf Ly 3 rfl 0;have x3_1:=lyc Ly 3 rfl 1;have z3_1:=lyf Ly 3 rfl 1;have x3_2:=lyc Ly 3 rfl 2;have z3_2:=lyf Ly 3 rfl 2;have x3_3:=lyc Ly 3 rfl 3;have z3_3:=lyf Ly 3 rfl 3;have l3_:=Ly.out.lt 3 rfl;gi_wp2;have R4:=ret4' (Ly.out.blk 3 rfl) Ly.out.1 (Ly.out.ge 3 rfl) (.int .i64 (au (has.set b (au has (b:Int)+n)) 0)) (.int .i64 (au (has.set b (au has (b:Int)+n)) 1)) (.int .i64 (au (has.set b (au has (b:Int)+n)) 2)) (.int .i64 (au (has.set b (au has (b:Int)+n)) 3));have v0:=R4.1.cell 0;have v1:=R4.1.cell 1;have v2:=R4.1.cell 2;have v3:=R4.1.cell 3;refine bodyPost_ret (v:=.agg #[.int .i64 (au (has.set b (au has (b:Int)+n)) 0),.int .i64 (au (has.set b (au has (b:Int)+n)) 1),.int .i64 (au (has.set b (au has (b:Int)+n)) 2),.int .i64 (au (has.set b (au has (b:Int)+n)) 3)]) (by simp [results,Tryz.results157,go_sem,v0,v1,v2,v3]) rfl ?_;exact ⟨kC (by unfold dw;simp only [H1.out,HIb.out,Int.toNat_natCast];rfl),R4.2.1⟩
 ·
  have h1b:(x.kind != 1)=true:=by simpa using h1
  have H1:=lh h1;by_cases h3:x.kind<3
  ·
   have h3b:decide (x.kind<3)=true:=decide_eq_true h3;have H2:Hid (x.kind=2):=lh (by omega);have H3:=lh h3;clear h1 h3 hd4;obtain ⟨x1_0,x1_1,x1_2,x1_3⟩:=lyc4 Ly 1 rfl;have l1_:=Ly.out.lt 1 rfl;gi_upto_region 2 with fail
   clear x1_0 x1_1 x1_2 x1_3 l1_;obtain ⟨x0_0,x0_1,x0_2,x0_3⟩:=lyc4 Ly 0 rfl;have l0_:=Ly.out.lt 0 rfl;obtain ⟨x1_0,x1_1,x1_2,x1_3⟩:=lyc4 Ly 1 rfl;have l1_:=Ly.out.lt 1 rfl;gi_wp2;clear x0_0 x0_1 x0_2 x0_3 l0_ x1_0 x1_1 x1_2 x1_3 l1_;refine ⟨trivial,(callsIn_wide.2 (dm Av nv cv Aa na ca At nt ct m x.fr w0 (HM.out.up Ly.out.1))).mono ?_⟩;rintro e W3 ⟨rfl,hb⟩;replace Ly:=lyb Ly hb;clear hb;have h0:=HOK.out.from_ H1.out;have hlt:=df h0;have hv4:=HV4.out
   obtain ⟨a,ha⟩:∃ q:Nat,idxV m.vessels x.fr=(q:Int):=⟨(idxV m.vessels x.fr).toNat,by omega⟩
   rw [ha] at hlt ⊢;have HQa:Hid (a<4):=lh (by omega);have HIa:=lh ha;clear h0 hlt hv4 ha;have hn:=HN.out;have hbd:=HR.out a HQa.out;have cq:=((Ly.out.blk 2 rfl).cell a).trans (cF (has) HQa.out);have fq:=(Ly.out.blk 2 rfl).frozen a;have lq:=Ly.out.lt 2 rfl;have hq4:=HQa.out;have hqi:(a:Int)<4:=by omega
   gi_upto_region 3 with fail
   have HLS:=lh (i7 Ly.out a (by simpa using HL.out) HQa.out (au (has) (a:Int) - n));generalize W3.setCell ⟨w.heap.size+1+1,a,none⟩ (.int .i64 (au (has) (a:Int) - n))=S4 at *;replace Ly:=HLS;clear cq fq lq HLS hn hbd hq4 hqi;replace Ly:=lh (show Lay w S4 [(w.heap.size,26,#[.int .i64 m.fountains,.slice Av nv cv,.slice Aa na ca,.slice At nt ct]),(w.heap.size+1,62,#[.int .i64 x.kind,.int .i64 x.fr,.int .i64 x.to,.int .i64 x.drops]),(w.heap.size+1+1,150,#[.int .i64 (au (has.set a (au has (a:Int) - n)) 0),.int .i64 (au (has.set a (au has (a:Int) - n)) 1),.int .i64 (au (has.set a (au has (a:Int) - n)) 2),.int .i64 (au (has.set a (au has (a:Int) - n)) 3)]),(w.heap.size+1+1+1,150,#[.int .i64 0,.int .i64 0,.int .i64 0,.int .i64 0])] from Ly.out);obtain ⟨x1_0,x1_1,x1_2,x1_3⟩:=lyc4 Ly 1 rfl;have l1_:=Ly.out.lt 1 rfl;gi_upto_region 4 with fail
   clear x1_0 x1_1 x1_2 x1_3 l1_;obtain ⟨x0_0,x0_1,x0_2,x0_3⟩:=lyc4 Ly 0 rfl;have l0_:=Ly.out.lt 0 rfl;obtain ⟨x1_0,x1_1,x1_2,x1_3⟩:=lyc4 Ly 1 rfl;have l1_:=Ly.out.lt 1 rfl;gi_wp2;clear x0_0 x0_1 x0_2 x0_3 l0_ x1_0 x1_1 x1_2 x1_3 l1_;refine ⟨trivial,(callsIn_wide.2 (dm Av nv cv Aa na ca At nt ct m x.to S4 (HM.out.up Ly.out.1))).mono ?_⟩;rintro e W5 ⟨rfl,hb⟩;replace Ly:=lyb Ly hb;clear hb;have h0:=HOK.out.to_ (.inr H2.out);have hlt:=df h0;have hv4:=HV4.out
   obtain ⟨b,hb⟩:∃ q:Nat,idxV m.vessels x.to=(q:Int):=⟨(idxV m.vessels x.to).toNat,by omega⟩
   rw [hb] at hlt ⊢;have HQb:Hid (b<4):=lh (by omega);have HIb:=lh hb;clear h0 hlt hv4 hb;have hn:=HN.out;have hbd:=sG HR.out HN.out HL.out HQa.out HQb.out;have cq:=((Ly.out.blk 2 rfl).cell b).trans (cF (has.set a (au has (a:Int) - n)) HQb.out);have fq:=(Ly.out.blk 2 rfl).frozen b;have lq:=Ly.out.lt 2 rfl;have hq4:=HQb.out;have hqi:(b:Int)<4:=by omega
   gi_upto_region 5 with fail
   have HLS:=lh (i7 Ly.out b (by simpa using HL.out) HQb.out (au (has.set a (au has (a:Int) - n)) (b:Int)+n));generalize W5.setCell ⟨w.heap.size+1+1,b,none⟩ (.int .i64 (au (has.set a (au has (a:Int) - n)) (b:Int)+n))=S6 at *;replace Ly:=HLS;clear cq fq lq HLS hn hbd hq4 hqi;replace Ly:=lh (show Lay w S6 [(w.heap.size,26,#[.int .i64 m.fountains,.slice Av nv cv,.slice Aa na ca,.slice At nt ct]),(w.heap.size+1,62,#[.int .i64 x.kind,.int .i64 x.fr,.int .i64 x.to,.int .i64 x.drops]),(w.heap.size+1+1,150,#[.int .i64 (au ((has.set a (au has (a:Int) - n)).set b (au (has.set a (au has (a:Int) - n)) (b:Int)+n)) 0),.int .i64 (au ((has.set a (au has (a:Int) - n)).set b (au (has.set a (au has (a:Int) - n)) (b:Int)+n)) 1),.int .i64 (au ((has.set a (au has (a:Int) - n)).set b (au (has.set a (au has (a:Int) - n)) (b:Int)+n)) 2),.int .i64 (au ((has.set a (au has (a:Int) - n)).set b (au (has.set a (au has (a:Int) - n)) (b:Int)+n)) 3)]),(w.heap.size+1+1+1,150,#[.int .i64 0,.int .i64 0,.int .i64 0,.int .i64 0])] from Ly.out);obtain ⟨x2_0,x2_1,x2_2,x2_3⟩:=lyc4 Ly 2 rfl;have l2_:=Ly.out.lt 2 rfl;have x3_0:=lyc Ly 3 rfl 0;have z3_0:=lyf Ly 3 rfl 0;have x3_1:=lyc Ly 3 rfl 1;have z3_1:=lyf Ly 3 rfl 1;have x3_2:=lyc Ly 3 rfl 2;have z3_2:=lyf Ly 3 rfl 2;have x3_3:=lyc Ly 3 rfl 3;have z3_3:=lyf Ly 3 rfl 3;have l3_:=Ly.out.lt 3 rfl;gi_wp2;have R4:=ret4' (Ly.out.blk 3 rfl) Ly.out.1 (Ly.out.ge 3 rfl) (.int .i64 (au ((has.set a (au has (a:Int) - n)).set b (au (has.set a (au has (a:Int) - n)) (b:Int)+n)) 0)) (.int .i64 (au ((has.set a (au has (a:Int) - n)).set b (au (has.set a (au has (a:Int) - n)) (b:Int)+n)) 1)) (.int .i64 (au ((has.set a (au has (a:Int) - n)).set b (au (has.set a (au has (a:Int) - n)) (b:Int)+n)) 2)) (.int .i64 (au ((has.set a (au has (a:Int) - n)).set b (au (has.set a (au has (a:Int) - n)) (b:Int)+n)) 3));have v0:=R4.1.cell 0;have v1:=R4.1.cell 1;have v2:=R4.1.cell 2;have v3:=R4.1.cell 3;refine bodyPost_ret (v:=.agg #[.int .i64 (au ((has.set a (au has (a:Int) - n)).set b (au (has.set a (au has (a:Int) - n)) (b:Int)+n)) 0),.int .i64 (au ((has.set a (au has (a:Int) - n)).set b (au (has.set a (au has (a:Int) - n)) (b:Int)+n)) 1),.int .i64 (au ((has.set a (au has (a:Int) - n)).set b (au (has.set a (au has (a:Int) - n)) (b:Int)+n)) 2),.int .i64 (au ((has.set a (au has (a:Int) - n)).set b (au (has.set a (au has (a:Int) - n)) (b:Int)+n)) 3)]) (by simp [results,Tryz.results157,go_sem,v0,v1,v2,v3]) rfl ?_;exact ⟨kC (by unfold dw;simp only [if_neg H1.out,if_pos H3.out,HIa.out,HIb.out,Int.toNat_natCast]),R4.2.1⟩
  ·
   have h3b:decide (x.kind<3)=false:=decide_eq_false h3;have H3:=lh h3;clear h1 h3 hd4;obtain ⟨x1_0,x1_1,x1_2,x1_3⟩:=lyc4 Ly 1 rfl;have l1_:=Ly.out.lt 1 rfl;gi_upto_region 2 with fail
   clear x1_0 x1_1 x1_2 x1_3 l1_;obtain ⟨x0_0,x0_1,x0_2,x0_3⟩:=lyc4 Ly 0 rfl;have l0_:=Ly.out.lt 0 rfl;obtain ⟨x1_0,x1_1,x1_2,x1_3⟩:=lyc4 Ly 1 rfl;have l1_:=Ly.out.lt 1 rfl;gi_wp2;clear x0_0 x0_1 x0_2 x0_3 l0_ x1_0 x1_1 x1_2 x1_3 l1_;refine ⟨trivial,(callsIn_wide.2 (dm Av nv cv Aa na ca At nt ct m x.fr w0 (HM.out.up Ly.out.1))).mono ?_⟩;rintro e W7 ⟨rfl,hb⟩;replace Ly:=lyb Ly hb;clear hb;have h0:=HOK.out.from_ H1.out;have hlt:=df h0;have hv4:=HV4.out
   obtain ⟨a,ha⟩:∃ q:Nat,idxV m.vessels x.fr=(q:Int):=⟨(idxV m.vessels x.fr).toNat,by omega⟩
   rw [ha] at hlt ⊢;have HQa:Hid (a<4):=lh (by omega);have HIa:=lh ha;clear h0 hlt hv4 ha;have hn:=HN.out;have hbd:=HR.out a HQa.out;have cq:=((Ly.out.blk 2 rfl).cell a).trans (cF (has) HQa.out);have fq:=(Ly.out.blk 2 rfl).frozen a;have lq:=Ly.out.lt 2 rfl;have hq4:=HQa.out;have hqi:(a:Int)<4:=by omega
   gi_upto_region 3 with fail
   have HLS:=lh (i7 Ly.out a (by simpa using HL.out) HQa.out (au (has) (a:Int) - n));generalize W7.setCell ⟨w.heap.size+1+1,a,none⟩ (.int .i64 (au (has) (a:Int) - n))=S8 at *;replace Ly:=HLS;clear cq fq lq HLS hn hbd hq4 hqi;replace Ly:=lh (show Lay w S8 [(w.heap.size,26,#[.int .i64 m.fountains,.slice Av nv cv,.slice Aa na ca,.slice At nt ct]),(w.heap.size+1,62,#[.int .i64 x.kind,.int .i64 x.fr,.int .i64 x.to,.int .i64 x.drops]),(w.heap.size+1+1,150,#[.int .i64 (au (has.set a (au has (a:Int) - n)) 0),.int .i64 (au (has.set a (au has (a:Int) - n)) 1),.int .i64 (au (has.set a (au has (a:Int) - n)) 2),.int .i64 (au (has.set a (au has (a:Int) - n)) 3)]),(w.heap.size+1+1+1,150,#[.int .i64 0,.int .i64 0,.int .i64 0,.int .i64 0])] from Ly.out);obtain ⟨x1_0,x1_1,x1_2,x1_3⟩:=lyc4 Ly 1 rfl;have l1_:=Ly.out.lt 1 rfl;gi_upto_region 5 with fail
   clear x1_0 x1_1 x1_2 x1_3 l1_;obtain ⟨x2_0,x2_1,x2_2,x2_3⟩:=lyc4 Ly 2 rfl;have l2_:=Ly.out.lt 2 rfl;have x3_0:=lyc Ly 3 rfl 0;have z3_0:=lyf Ly 3 rfl 0;have x3_1:=lyc Ly 3 rfl 1;have z3_1:=lyf Ly 3 rfl 1;have x3_2:=lyc Ly 3 rfl 2;have z3_2:=lyf Ly 3 rfl 2;have x3_3:=lyc Ly 3 rfl 3;have z3_3:=lyf Ly 3 rfl 3;have l3_:=Ly.out.lt 3 rfl;gi_wp2;have R4:=ret4' (Ly.out.blk 3 rfl) Ly.out.1 (Ly.out.ge 3 rfl) (.int .i64 (au (has.set a (au has (a:Int) - n)) 0)) (.int .i64 (au (has.set a (au has (a:Int) - n)) 1)) (.int .i64 (au (has.set a (au has (a:Int) - n)) 2)) (.int .i64 (au (has.set a (au has (a:Int) - n)) 3));have v0:=R4.1.cell 0;have v1:=R4.1.cell 1;have v2:=R4.1.cell 2;have v3:=R4.1.cell 3;refine bodyPost_ret (v:=.agg #[.int .i64 (au (has.set a (au has (a:Int) - n)) 0),.int .i64 (au (has.set a (au has (a:Int) - n)) 1),.int .i64 (au (has.set a (au has (a:Int) - n)) 2),.int .i64 (au (has.set a (au has (a:Int) - n)) 3)]) (by simp [results,Tryz.results157,go_sem,v0,v1,v2,v3]) rfl ?_;exact ⟨kC (by unfold dw;simp only [if_neg H1.out,if_neg (show ¬ x.kind<3 from by have:=H3.out;omega),HIa.out,Int.toNat_natCast]),R4.2.1⟩
end
section
open Go.RowKit
def tasB (m:Mix)(f:Int)(t:Nat)(has:Held)(x:Tast):Bool:=!(decide (x.fountain=f) && decide (x.after=t) && !(decide (x.lo≤au has (idxV m.vessels x.vessel)) && decide (au has (idxV m.vessels x.vessel)≤x.hi)))
section
variable {m:Mix} {f:Int} {t k:Nat} {has:Held} {x:Tast}
theorem s7 (h:(m.tastes.take m.tastes.length).all (tasB m f t has)=true):cW m f t has=true:=by
 rw [List.take_length] at h;exact h
theorem all_step' {α:Type}{l:List α}{k:Nat}{x:α}{p:α→Bool}(hx:l[k]? =some x)(h:(l.take k).all p=true)(hp:p x=true):(l.take (k+1)).all p=true:=by
 obtain ⟨hk,rfl⟩:=g_E hx;rw [List.take_succ_eq_append_getElem hk,List.all_append,h];simpa using hp
theorem ro (hx:m.tastes[k]? =some x)(hp:tasB m f t has x=false):cW m f t has=false:=by
 cases h:cW m f t has with
 | false=>rfl
 | true =>
  have h2:=List.all_eq_true.1 (show m.tastes.all (tasB m f t has)=true from h) x (List.mem_of_getElem? hx);rw [hp] at h2;cases h2
theorem pi (h:¬ (x.fountain=f∧x.after=t)):tasB m f t has x=true:=by
 unfold tasB;by_cases h1:x.fountain=f
 ·have h2:¬ x.after=t:=fun h2=>h ⟨h1,h2⟩
  simp [h2]
 ·simp [h1]
theorem tB (h1:x.fountain=f)(h2:x.after=t):tasB m f t has x=wiB (au has (idxV m.vessels x.vessel)) x.lo x.hi:=by
 unfold tasB wiB;simp [h1,h2,Bool.decide_and]
end
inductive ta (v0 v1 v2 v3 v4 v7 v8 v12 v13 v14:Value):Act→Prop
 | mk (a b c d e f g h i j k l m n o p q r s t w x y z A B C D E F G H I J K:Value):ta v0 v1 v2 v3 v4 v7 v8 v12 v13 v14 ⟨#[v0,v1,v2,v3,v4,a,b,v7,v8,c,d,e,v12,v13,v14,f,g,h,i,j,k,l,m,n,o,p,q,r,s,t,w,x,y,z,A,B,C,D,E,F,G,H,I,J,K],[]⟩
theorem j4 (Av:Option Addr)(nv cv:Nat)(Aa:Option Addr)(na ca:Nat)(At:Option Addr)(nt ct:Nat)(m:Mix)(fountain:Int)(t:Nat)(has:Held)(w:World)(h:MixS w Av nv Aa na At nt m)(htv:∀ x∈m.tastes,0≤idxV m.vessels x.vessel)(hv4:m.vessels.length≤4)(hnt:nt≤8) :
  CallsIn Fence.wide 9 Tryz.prog 155 #[.agg #[.int .i64 m.fountains,.slice Av nv cv,.slice Aa na ca,.slice At nt ct],.int .i64 fountain,.int .i64 (t:Int),.agg #[.int .i64 (au has 0),.int .i64 (au has 1),.int .i64 (au has 2),.int .i64 (au has 3)]] w (fun e w'=>e = .returned (.bool (cW m fountain t has))∧Below w.heap.size w w'):=by
 have HM:=lh h;have HLT:=lh h.at_.lenT;have HTV:=lh htv;have HV4:=lh hv4;have HNT:=lh hnt;clear h htv hv4 hnt;refine callsIn_of_wp Tryz.func155 rfl trivial ?_ rfl;simp only [Tryz.ntmps155,es,Nat.reduceAdd,Nat.reduceSub];gi_upto_region 1 with fail
 have Ly:=lh (Lay.two w 26 #[.int .i64 m.fountains,.slice Av nv cv,.slice Aa na ca,.slice At nt ct] 150 #[.int .i64 (au has 0),.int .i64 (au has 1),.int .i64 (au has 2),.int .i64 (au has 3)]);generalize ((w.alloc (.cells #[.int .i64 m.fountains,.slice Av nv cv,.slice Aa na ca,.slice At nt ct] 26)).alloc (.cells #[.int .i64 (au has 0),.int .i64 (au has 1),.int .i64 (au has 2),.int .i64 (au has 3)] 150))=w0 at *;obtain ⟨x0_0,x0_1,x0_2,x0_3⟩:=lyc4 Ly 0 rfl;have l0_:=Ly.out.lt 0 rfl;gi_wp2;clear x0_0 x0_1 x0_2 x0_3 l0_;refine wpIn_loop (fun a W=>∃ k:Nat,Hid (k≤nt∧Lay w W [(w.heap.size,26,#[.int .i64 m.fountains,.slice Av nv cv,.slice Aa na ca,.slice At nt ct]),(w.heap.size+1,150,#[.int .i64 (au has 0),.int .i64 (au has 1),.int .i64 (au has 2),.int .i64 (au has 3)])]∧(m.tastes.take k).all (tasB m fountain t has)=true)∧ta (.agg #[.int .i64 m.fountains,.slice Av nv cv,.slice Aa na ca,.slice At nt ct]) (.int .i64 fountain) (.int .i64 (t:Int)) (.agg #[.int .i64 (au has 0),.int .i64 (au has 1),.int .i64 (au has 2),.int .i64 (au has 3)]) (.pointer (some ⟨w.heap.size,0,none⟩)) (.pointer (some ⟨w.heap.size+1,0,none⟩)) (.bool false) (.slice At nt ct) (.int .i64 nt) (.int .i64 k) a) (fun a _=>nt - (intOf (a.tmps.getD 14 undef)).toNat) ?_ ?_
 ·exact ⟨0,lh ⟨by omega,Ly.out,rfl⟩,by constructor⟩
 clear Ly;rintro a W ⟨k,HS,ha⟩;cases ha;have Ly:=lh HS.out.2.1;by_cases hlt:k<nt
 ·
  obtain ⟨b,off,x,hAt,hbB,hx,c0,c1,c2,c3,c4,c5⟩:=(HM.out.at_.below Ly.out.1).tast hlt;have hnt:=HNT.out;rw [hAt];gi_upto_region 4 with fail
  clear c0 c1 c2 c3 c4 c5 hnt
  obtain ⟨V1,hV⟩:∃ V,(W.alloc (.cells #[.int .i64 x.num,.int .i64 x.vessel,.int .i64 x.after,.int .i64 x.fountain,.int .i64 x.lo,.int .i64 x.hi] 69))=V:=⟨_,rfl⟩
  rw [hV];have hb:=de hV;have hnew:=dc hV;have hge:=Ly.out.bel.size;replace Ly:=lyb Ly hb;replace Ly:=lh (Ly.out.add hge hnew);clear hnew hge hb hV
  obtain ⟨G2,hG⟩:∃ g,W.heap.size=g:=⟨_,rfl⟩
  rw [hG] at Ly ⊢;clear hG;replace Ly:=lh (show Lay w V1 [(w.heap.size,26,#[.int .i64 m.fountains,.slice Av nv cv,.slice Aa na ca,.slice At nt ct]),(w.heap.size+1,150,#[.int .i64 (au has 0),.int .i64 (au has 1),.int .i64 (au has 2),.int .i64 (au has 3)]),(G2,69,#[.int .i64 x.num,.int .i64 x.vessel,.int .i64 x.after,.int .i64 x.fountain,.int .i64 x.lo,.int .i64 x.hi])] from Ly.out);have HX:=lh hx;have HLB:=lh (show Lay w V1 [(w.heap.size,26,#[.int .i64 m.fountains,.slice Av nv cv,.slice Aa na ca,.slice At nt ct]),(w.heap.size+1,150,#[.int .i64 (au has 0),.int .i64 (au has 1),.int .i64 (au has 2),.int .i64 (au has 3)])] from Ly.out.sub (by intro b hb;simp only [List.mem_cons,List.not_mem_nil,or_false] at hb ⊢;rcases hb with rfl | rfl<;>simp));clear hx hbB;rw [← hAt];have HAT:=lh hAt;clear hAt;by_cases hf:x.fountain=fountain
  ·
   have hfb:(x.fountain==fountain)=true:=by simpa using hf
   have HF:=lh hf;clear hf;by_cases hg:x.after=t
   ·
    have hgb:(x.after==(t:Int))=true:=by simpa using hg
    have HG:=lh hg;clear hg;have h0:=HTV.out x (List.mem_of_getElem? HX.out);have hl:=df h0;have hv4:=HV4.out
    obtain ⟨q,hq⟩:∃ q:Nat,idxV m.vessels x.vessel=(q:Int):=⟨(idxV m.vessels x.vessel).toNat,by omega⟩
    have HQ4:Hid (q<4):=lh (by omega);have HIQ:=lh hq;clear h0 hl hv4 hq;refine wpIn_flow_old [([true,true,true,true,true,true,true,true,true,true,true,true,true,true,false,false,false,true,true,true,true,true,true],14),([false,false,false,false,false,false,false,false,false,false,false,false,false,false,false,true,true],23)] [false,false,false,false,false,false,false,false,false,false,false,false,false,false,false,false,false,false,false,false,false,false,false,false,true,true] [] (by kernel_rfl) (by kernel_rfl) (by kernel_rfl) (av b_R 1) ?_;clear hfb hgb;refine wpFlow_cons (A:=?AF1) rfl ?hq1 ?_
    case hq1 =>
     rintro σ hσ of hof hcl;have HOF:=lh hof;clear hof hcl;obtain ⟨c0_,c1_,c2_,c3_⟩:=lyz4 Ly HOF 0 rfl;obtain ⟨c4_,c5_,c6_,c7_,c8_,c9_⟩:=lyz6 Ly HOF 2 rfl;have hfw:=hfT;have hfb:(x.fountain==fountain)=true:=by simpa using HF.out
     have hgb:(x.after==(t:Int))=true:=by simpa using HG.out
     have cq:∀ z,(of z).cell? ⟨w.heap.size+1,q,none⟩=some (.int .i64 (au has (q:Int))):=fun z=>(((Ly.out.below (HOF.out z)).blk 1 rfl).cell q).trans (cF has HQ4.out);have hq4:=HQ4.out;have hqi:(q:Int)<4:=by omega
     simp only [bu]
     iterate 20 (gi_big_quiet_step (fail))
     refine wpQuietIn_nil ?_;exact rfl
    intro W3 hW;replace Ly:=lyb Ly hW;clear hW;gi_wp2;refine ⟨trivial,(callsIn_wide.2 (dm Av nv cv Aa na ca At nt ct m x.vessel W3 (HM.out.up Ly.out.1))).mono ?_⟩;rintro e W4 ⟨rfl,hb⟩;replace Ly:=lyb Ly hb;rw [HIQ.out];gi_wp2;refine ⟨trivial,hb,?_⟩;clear hb
    obtain ⟨bw,hbw⟩:∃ b,wiB (au has (q:Int)) x.lo x.hi=b:=⟨_,rfl⟩
    have HBW:=lh hbw;clear hbw;refine wpFlow_cons (A:=?AF2) rfl ?hq2 ?_
    case hq2 =>
     rintro σ hσ of hof hcl;have HOF:=lh hof;clear hof hcl;obtain ⟨c0_,c1_,c2_,c3_⟩:=lyz4 Ly HOF 0 rfl;obtain ⟨c4_,c5_,c6_,c7_,c8_,c9_⟩:=lyz6 Ly HOF 2 rfl;have hfw:=hfT;have hfb:(x.fountain==fountain)=true:=by simpa using HF.out
     have hgb:(x.after==(t:Int))=true:=by simpa using HG.out
     have cq:∀ z,(of z).cell? ⟨w.heap.size+1,q,none⟩=some (.int .i64 (au has (q:Int))):=fun z=>(((Ly.out.below (HOF.out z)).blk 1 rfl).cell q).trans (cF has HQ4.out);have hq4:=HQ4.out;have hqi:(q:Int)<4:=by omega
     simp only [bu]
     iterate 2 (gi_big_quiet_step (fail))
     refine wpQuietIn_nil ?_;exact rfl
    intro W5 hW;replace Ly:=lyb Ly hW;clear hW;gi_wp2;refine ⟨trivial,(callsIn_wide.2 (cK (au has (q:Int)) x.lo x.hi W5)).mono ?_⟩;rintro e W6 ⟨rfl,rfl⟩;rw [HBW.out];gi_wp2;refine ⟨trivial,b_R,?_⟩;refine wpFlow_nil (A:=?AF3) ?hq3 ?_
    case hq3 =>
     rintro σ hσ of hof hcl;have HOF:=lh hof;clear hof hcl;obtain ⟨c0_,c1_,c2_,c3_⟩:=lyz4 Ly HOF 0 rfl;obtain ⟨c4_,c5_,c6_,c7_,c8_,c9_⟩:=lyz6 Ly HOF 2 rfl;have hfw:=hfT;have hfb:(x.fountain==fountain)=true:=by simpa using HF.out
     have hgb:(x.after==(t:Int))=true:=by simpa using HG.out
     have cq:∀ z,(of z).cell? ⟨w.heap.size+1,q,none⟩=some (.int .i64 (au has (q:Int))):=fun z=>(((Ly.out.below (HOF.out z)).blk 1 rfl).cell q).trans (cF has HQ4.out);have hq4:=HQ4.out;have hqi:(q:Int)<4:=by omega
     simp only [bu]
     iterate 2 (gi_big_quiet_step (fail))
     refine wpQuietIn_nil ?_;exact rfl
    intro W7 hW;replace Ly:=lyb Ly hW;clear hW;simp only [bu];refine cA ?_;have HTB:Hid (tasB m fountain t has x=bw):=lh (by rw [tB HF.out HG.out,HIQ.out,HBW.out])
    cases bw with
    | false =>
     gi_wp2;refine bodyPost_ret (v:=.bool false) (by simp [results,Tryz.results155,go_sem]) rfl ?_;exact ⟨cU (ro HX.out HTB.out).symm,Ly.out.1⟩
    | true =>
     have hk8:k+1≤8:=by have:=HNT.out;omega
     gi_wp2;have hAt:=HAT.out;clear HAT;subst hAt;refine ⟨⟨k+1,lh ⟨hlt,Ly.out.sub (by intro b hb;simp only [List.mem_cons,List.not_mem_nil,or_false] at hb ⊢;rcases hb with rfl | rfl<;>simp),all_step' HX.out HS.out.2.2 (HTB.out)⟩,by rw [show ((k+1:Nat):Int)=(k:Int)+1 from by omega];constructor⟩,?_⟩;simp [intOf];omega
   ·
    have hgb:(x.after==(t:Int))=false:=by simpa using hg
    have HG:=lh hg;clear hg;have HTB:Hid (tasB m fountain t has x=true):=lh (pi (fun h=>by have:=HG.out;exact this h.2));have hk8:k+1≤8:=by have:=HNT.out;omega
    refine wpIn_flow_old [([true,true,true,true,true,true,true,true,true,true,true,true,true,true,false,false,false,true,true,true,true,true,true],14),([false,false,false,false,false,false,false,false,false,false,false,false,false,false,false,true,true],23)] [false,false,false,false,false,false,false,false,false,false,false,false,false,false,false,false,false,false,false,false,false,false,false,false,true,true] [] (by kernel_rfl) (by kernel_rfl) (by kernel_rfl) (av b_R 1) ?_;refine wpFlow_cons (A:=?AF4) rfl ?hq4 ?_
    case hq4 =>
     rintro σ hσ of hof hcl;have HOF:=lh hof;clear hof hcl;obtain ⟨c0_,c1_,c2_,c3_⟩:=lyz4 Ly HOF 0 rfl;obtain ⟨c4_,c5_,c6_,c7_,c8_,c9_⟩:=lyz6 Ly HOF 2 rfl;have hfw:=hfT;have hfb:(x.fountain==fountain)=true:=by simpa using HF.out
     have hgb:(x.after==(t:Int))=false:=by simpa using HG.out
     simp only [bu]
     iterate 20 (gi_big_quiet_step (fail))
     refine wpQuietIn_nil ?_;exact rfl
    intro W8 hW;replace Ly:=lyb Ly hW;clear hW;gi_wp2;refine ⟨trivial,?_⟩;gi_wp2;refine ⟨trivial,b_R,?_⟩;refine wpFlow_cons (A:=?AF5) rfl ?hq5 ?_
    case hq5 =>
     rintro σ hσ of hof hcl;have HOF:=lh hof;clear hof hcl;obtain ⟨c0_,c1_,c2_,c3_⟩:=lyz4 Ly HOF 0 rfl;obtain ⟨c4_,c5_,c6_,c7_,c8_,c9_⟩:=lyz6 Ly HOF 2 rfl;have hfw:=hfT;have hfb:(x.fountain==fountain)=true:=by simpa using HF.out
     have hgb:(x.after==(t:Int))=false:=by simpa using HG.out
     simp only [bu]
     iterate 2 (gi_big_quiet_step (fail))
     refine wpQuietIn_nil ?_;exact rfl
    intro W9 hW;replace Ly:=lyb Ly hW;clear hW;gi_wp2;refine ⟨trivial,?_⟩;gi_wp2;refine ⟨trivial,b_R,?_⟩;refine wpFlow_nil (A:=?AF6) ?hq6 ?_
    case hq6 =>
     rintro σ hσ of hof hcl;have HOF:=lh hof;clear hof hcl;obtain ⟨c0_,c1_,c2_,c3_⟩:=lyz4 Ly HOF 0 rfl;obtain ⟨c4_,c5_,c6_,c7_,c8_,c9_⟩:=lyz6 Ly HOF 2 rfl;have hfw:=hfT;have hfb:(x.fountain==fountain)=true:=by simpa using HF.out
     have hgb:(x.after==(t:Int))=false:=by simpa using HG.out
     simp only [bu]
     iterate 2 (gi_big_quiet_step (fail))
     refine wpQuietIn_nil ?_;exact rfl
    intro W10 hW;replace Ly:=lyb Ly hW;clear hW;simp only [bu];refine cA ?_;gi_wp2;have hAt:=HAT.out;clear HAT;subst hAt;refine ⟨⟨k+1,lh ⟨hlt,Ly.out.sub (by intro b hb;simp only [List.mem_cons,List.not_mem_nil,or_false] at hb ⊢;rcases hb with rfl | rfl<;>simp),all_step' HX.out HS.out.2.2 (HTB.out)⟩,by rw [show ((k+1:Nat):Int)=(k:Int)+1 from by omega];constructor⟩,?_⟩;simp [intOf];omega
  ·
   have hfb:(x.fountain==fountain)=false:=by simpa using hf
   have HF:=lh hf;clear hf;have HTB:Hid (tasB m fountain t has x=true):=lh (pi (fun h=>by have:=HF.out;exact this h.1));have hk8:k+1≤8:=by have:=HNT.out;omega
   refine wpIn_flow_old [([true,true,true,true,true,true,true,true,true,true,true,true,true,true,false,false,false,true,true,true,true,true,true],14),([false,false,false,false,false,false,false,false,false,false,false,false,false,false,false,true,true],23)] [false,false,false,false,false,false,false,false,false,false,false,false,false,false,false,false,false,false,false,false,false,false,false,false,true,true] [] (by kernel_rfl) (by kernel_rfl) (by kernel_rfl) (av b_R 1) ?_;refine wpFlow_cons (A:=?AF7) rfl ?hq7 ?_
   case hq7 =>
    rintro σ hσ of hof hcl;have HOF:=lh hof;clear hof hcl;obtain ⟨c0_,c1_,c2_,c3_⟩:=lyz4 Ly HOF 0 rfl;obtain ⟨c4_,c5_,c6_,c7_,c8_,c9_⟩:=lyz6 Ly HOF 2 rfl;have hfw:=hfT;have hfb:(x.fountain==fountain)=false:=by simpa using HF.out
    simp only [bu]
    iterate 20 (gi_big_quiet_step (fail))
    refine wpQuietIn_nil ?_;exact rfl
   intro W11 hW;replace Ly:=lyb Ly hW;clear hW;gi_wp2;refine ⟨trivial,?_⟩;gi_wp2;refine ⟨trivial,b_R,?_⟩;refine wpFlow_cons (A:=?AF8) rfl ?hq8 ?_
   case hq8 =>
    rintro σ hσ of hof hcl;have HOF:=lh hof;clear hof hcl;obtain ⟨c0_,c1_,c2_,c3_⟩:=lyz4 Ly HOF 0 rfl;obtain ⟨c4_,c5_,c6_,c7_,c8_,c9_⟩:=lyz6 Ly HOF 2 rfl;have hfw:=hfT;have hfb:(x.fountain==fountain)=false:=by simpa using HF.out
    simp only [bu]
    iterate 2 (gi_big_quiet_step (fail))
    refine wpQuietIn_nil ?_;exact rfl
   intro W12 hW;replace Ly:=lyb Ly hW;clear hW;gi_wp2;refine ⟨trivial,?_⟩;gi_wp2;refine ⟨trivial,b_R,?_⟩;refine wpFlow_nil (A:=?AF9) ?hq9 ?_
   case hq9 =>
    rintro σ hσ of hof hcl;have HOF:=lh hof;clear hof hcl;obtain ⟨c0_,c1_,c2_,c3_⟩:=lyz4 Ly HOF 0 rfl;obtain ⟨c4_,c5_,c6_,c7_,c8_,c9_⟩:=lyz6 Ly HOF 2 rfl;have hfw:=hfT;have hfb:(x.fountain==fountain)=false:=by simpa using HF.out
    simp only [bu]
    iterate 2 (gi_big_quiet_step (fail))
    refine wpQuietIn_nil ?_;exact rfl
   intro W13 hW;replace Ly:=lyb Ly hW;clear hW;simp only [bu];refine cA ?_;gi_wp2;have hAt:=HAT.out;clear HAT;subst hAt;refine ⟨⟨k+1,lh ⟨hlt,Ly.out.sub (by intro b hb;simp only [List.mem_cons,List.not_mem_nil,or_false] at hb ⊢;rcases hb with rfl | rfl<;>simp),all_step' HX.out HS.out.2.2 (HTB.out)⟩,by rw [show ((k+1:Nat):Int)=(k:Int)+1 from by omega];constructor⟩,?_⟩;simp [intOf];omega
 ·
  gi_wp2;refine bodyPost_ret (v:=.bool true) (by simp [results,Tryz.results155,go_sem]) rfl ?_;exact ⟨cU (s7 (by rw [HLT.out,show nt=k from by have:=HS.out.1;omega];exact HS.out.2.2)).symm,Ly.out.1⟩
end
section
open Go.RowKit
def zsK (m:Mix)(k:Nat):List Int:=((m.vessels.take k).map (·.size)).reverse
def zsM (m:Mix):List Int:=(m.vessels.map (·.size)).reverse
theorem ia {m:Mix}{k:Nat}(h:m.vessels.length=k):zsK m k=zsM m:=by
 unfold zsK zsM;rw [← h,List.take_length]
theorem gO {m:Mix}{k:Nat}{x:Vess}(hx:m.vessels[k]? =some x):zsK m (k+1)=x.size::zsK m k:=by
 obtain ⟨hk,rfl⟩:=g_E hx;unfold zsK;rw [List.take_succ_eq_append_getElem hk,List.map_append,List.reverse_append];rfl
theorem te {a n z:Int}(ha:1≤a∧a≤n)(hz:1≤z∧z≤12):1≤a * (z+1)∧a * (z+1)≤n * 13:=by
 have h1:a * 1≤a * (z+1):=Int.mul_le_mul_of_nonneg_left (by omega) (by omega);have h2:a * (z+1)≤a * 13:=Int.mul_le_mul_of_nonneg_left (by omega) (by omega);omega
theorem nI {m:Mix}(hz:ec m):∀ {k:Nat},k≤m.vessels.length→1≤dD (zsK m k)∧dD (zsK m k)≤(13:Int) ^ k
 | 0,_=>by simp [zsK,dD]
 | k+1,h=>by
  rw [gO (List.getElem?_eq_getElem (by omega:k<m.vessels.length)),Int.pow_succ];exact te (nI hz (by omega)) (hz _ (List.getElem_mem (by omega:k<m.vessels.length)))
theorem mG {m:Mix}(hz:ec m)(hv:m.vessels.length≤4){k:Nat}(h:k≤m.vessels.length):1≤dD (zsK m k)∧dD (zsK m k)≤28561:=by
 have h1:=nI hz h;refine ⟨h1.1,Int.le_trans h1.2 ?_⟩
 match k,(show k≤4 by omega) with
 | 0,_=>decide
 | 1,_=>decide
 | 2,_=>decide
 | 3,_=>decide
 | 4,_=>decide
def asK (s:Held)(k:Nat):List Int:=(s.take k).reverse
theorem nU {s:Held}{k:Nat}(hs:s.length=4)(hk:k<4):asK s (k+1)=au s (k:Int)::asK s k:=by
 match s,hs,k,hk with
 | [a,b,c,d],_,0,_=>rfl
 | [a,b,c,d],_,1,_=>rfl
 | [a,b,c,d],_,2,_=>rfl
 | [a,b,c,d],_,3,_=>rfl
def eq (m:Mix)(s:Held):Prop:=s.length=4∧∀ (k:Nat) (x:Vess),m.vessels[k]? =some x→0≤au s (k:Int)∧au s (k:Int)≤x.size
theorem in_K {m:Mix}{s:Held}(hw:eq m s)(hv:m.vessels.length≤4):∀ {k:Nat},k≤m.vessels.length→InR (zsK m k) (asK s k)
 | 0,_=>.nil
 | k+1,h=>by
  have hx:=List.getElem?_eq_getElem (by omega:k<m.vessels.length);rw [gO hx,nU hw.1 (by omega)];exact .cons (hw.2 k _ hx) (in_K hw hv (by omega))
theorem mulb {a z:Int}(ha:0≤a∧a≤28561)(hz:1≤z∧z≤12):0≤a * (z+1)∧a * (z+1)≤371293:=by
 have h1:0≤a * (z+1):=Int.mul_nonneg ha.1 (by omega);have h2:a * (z+1)≤a * 13:=Int.mul_le_mul_of_nonneg_left (by omega) (by omega);omega
inductive ti (v0 v1 v2 v3 v7 v8 v9:Value):Act→Prop
 | mk (a b c d e f g h i j k l m:Value):ti v0 v1 v2 v3 v7 v8 v9 ⟨#[v0,v1,v2,v3,a,b,c,v7,v8,v9,d,e,f,g,h,i,j,k,l,m],[]⟩
theorem qj (Av:Option Addr)(nv cv:Nat)(Aa:Option Addr)(na ca:Nat)(At:Option Addr)(nt ct:Nat)(m:Mix)(w:World)(h:MixS w Av nv Aa na At nt m)(hz:ec m)(hv4:m.vessels.length≤4) :
  CallsIn Fence.wide 9 Tryz.prog 154 #[.agg #[.int .i64 m.fountains,.slice Av nv cv,.slice Aa na ca,.slice At nt ct]] w (fun e w'=>e = .returned (.int .i64 (dD (zsM m)))∧Below w.heap.size w w'):=by
 have HM:=lh h;have HLV:=lh h.at_.lenV;have HZ:=lh hz;have HV4:=lh hv4;clear h hz hv4;refine callsIn_of_wp Tryz.func154 rfl trivial ?_ rfl;simp only [Tryz.ntmps154,es,Nat.reduceAdd,Nat.reduceSub];gi_upto_region 1 with fail
 have Ly:=lh (Lay.one w 26 #[.int .i64 m.fountains,.slice Av nv cv,.slice Aa na ca,.slice At nt ct]);generalize (w.alloc (.cells #[.int .i64 m.fountains,.slice Av nv cv,.slice Aa na ca,.slice At nt ct] 26))=w0 at *;obtain ⟨x0_0,x0_1,x0_2,x0_3⟩:=lyc4 Ly 0 rfl;have l0_:=Ly.out.lt 0 rfl;gi_wp2;clear x0_0 x0_1 x0_2 x0_3 l0_;refine wpIn_loop (fun a W=>∃ k:Nat,Hid (k≤nv∧Lay w W [(w.heap.size,26,#[.int .i64 m.fountains,.slice Av nv cv,.slice Aa na ca,.slice At nt ct])])∧ti (.agg #[.int .i64 m.fountains,.slice Av nv cv,.slice Aa na ca,.slice At nt ct]) (.pointer (some ⟨w.heap.size,0,none⟩)) (.int .i64 0) (.int .i64 (dD (zsK m k))) (.slice Av nv cv) (.int .i64 nv) (.int .i64 k) a) (fun a _=>nv - (intOf (a.tmps.getD 9 undef)).toNat) ?_ ?_
 ·exact ⟨0,lh ⟨by omega,Ly.out⟩,by constructor⟩
 clear Ly;rintro a W ⟨k,HS,ha⟩;cases ha;have Ly:=lh HS.out.2;by_cases hlt:k<nv
 ·
  obtain ⟨b,off,x,hAv,hbB,hx,c0,c1⟩:=(HM.out.at_.below Ly.out.1).vess hlt;have hnv:nv≤4:=by have h1:=HLV.out;have h2:=HV4.out;omega
  rw [hAv];gi_upto_region 5 with fail
  clear c0 c1
  obtain ⟨V1,hV⟩:∃ V,(W.alloc (.cells #[.int .i64 x.id,.int .i64 x.size] 50))=V:=⟨_,rfl⟩
  rw [hV];have hb:=de hV;have hnew:=dc hV;have hge:=Ly.out.bel.size;replace Ly:=lyb Ly hb;replace Ly:=lh (Ly.out.add hge hnew);clear hnew hge hb hV
  obtain ⟨G2,hG⟩:∃ g,W.heap.size=g:=⟨_,rfl⟩
  rw [hG] at Ly ⊢;clear hG;replace Ly:=lh (show Lay w V1 [(w.heap.size,26,#[.int .i64 m.fountains,.slice Av nv cv,.slice Aa na ca,.slice At nt ct]),(G2,50,#[.int .i64 x.id,.int .i64 x.size])] from Ly.out);have hsz:=HZ.out x (List.mem_of_getElem? hx);have hpb:=mG HZ.out HV4.out (k:=k) (by rw [HLV.out];omega);have hps:=gO hx
  obtain ⟨P0,hP⟩:∃ P,dD (zsK m k)=P:=⟨_,rfl⟩
  have hps2:dD (zsK m (k+1))=P0 * (x.size+1):=by rw [hps,← hP];rfl
  rw [hP] at hpb ⊢;have hbd:=te hpb hsz;have hwr:=Go.IntWalk.wrap64_in (P0 * (x.size+1)) (by omega);have HPS:=lh hps2;clear hps hps2 hP hx hbB;obtain ⟨x1_0,x1_1⟩:=lyc2 Ly 1 rfl;have l1_:=Ly.out.lt 1 rfl;gi_wp2;have hAt:=hAv;subst hAt;refine ⟨⟨k+1,lh ⟨hlt,Ly.out.sub (by intro b hb;simp only [List.mem_cons,List.not_mem_nil,or_false] at hb ⊢;rcases hb with rfl;simp)⟩,by rw [HPS.out,show ((k+1:Nat):Int)=(k:Int)+1 from by omega];constructor⟩,?_⟩;simp [intOf];omega
 ·
  gi_wp2;refine bodyPost_ret (v:=.int .i64 (dD (zsK m k))) (by simp [results,Tryz.results154,go_sem]) rfl ?_;exact ⟨dE (by rw [ia (by rw [HLV.out];have:=HS.out.1;omega)]),Ly.out.1⟩
inductive FrCd (v0 v1 v2 v3 v4 v5 v9 v10 v11:Value):Act→Prop
 | mk (a b c d e f g h i j k l m n o p q r:Value):FrCd v0 v1 v2 v3 v4 v5 v9 v10 v11 ⟨#[v0,v1,v2,v3,v4,v5,a,b,c,v9,v10,v11,d,e,f,g,h,i,j,k,l,m,n,o,p,q,r],[]⟩
theorem nh (Av:Option Addr)(nv cv:Nat)(Aa:Option Addr)(na ca:Nat)(At:Option Addr)(nt ct:Nat)(m:Mix)(s:Held)(w:World)(h:MixS w Av nv Aa na At nt m)(hz:ec m)(hv4:m.vessels.length≤4)(hw:eq m s) :
  CallsIn Fence.wide 9 Tryz.prog 158 #[.agg #[.int .i64 m.fountains,.slice Av nv cv,.slice Aa na ca,.slice At nt ct],.agg #[.int .i64 (au s 0),.int .i64 (au s 1),.int .i64 (au s 2),.int .i64 (au s 3)]] w (fun e w'=>e = .returned (.int .i64 (dU (zsM m) (asK s m.vessels.length)))∧Below w.heap.size w w'):=by
 have HM:=lh h;have HLV:=lh h.at_.lenV;have HZ:=lh hz;have HV4:=lh hv4;have HWI:=lh hw;clear h hz hv4 hw;refine callsIn_of_wp Tryz.func158 rfl trivial ?_ rfl;simp only [Tryz.ntmps158,es,Nat.reduceAdd,Nat.reduceSub];gi_upto_region 1 with fail
 have Ly:=lh (Lay.two w 26 #[.int .i64 m.fountains,.slice Av nv cv,.slice Aa na ca,.slice At nt ct] 150 #[.int .i64 (au s 0),.int .i64 (au s 1),.int .i64 (au s 2),.int .i64 (au s 3)]);generalize ((w.alloc (.cells #[.int .i64 m.fountains,.slice Av nv cv,.slice Aa na ca,.slice At nt ct] 26)).alloc (.cells #[.int .i64 (au s 0),.int .i64 (au s 1),.int .i64 (au s 2),.int .i64 (au s 3)] 150))=w0 at *;obtain ⟨x0_0,x0_1,x0_2,x0_3⟩:=lyc4 Ly 0 rfl;have l0_:=Ly.out.lt 0 rfl;gi_wp2;clear x0_0 x0_1 x0_2 x0_3 l0_;refine wpIn_loop (fun a W=>∃ k:Nat,Hid (k≤nv∧Lay w W [(w.heap.size,26,#[.int .i64 m.fountains,.slice Av nv cv,.slice Aa na ca,.slice At nt ct]),(w.heap.size+1,150,#[.int .i64 (au s 0),.int .i64 (au s 1),.int .i64 (au s 2),.int .i64 (au s 3)])])∧FrCd (.agg #[.int .i64 m.fountains,.slice Av nv cv,.slice Aa na ca,.slice At nt ct]) (.agg #[.int .i64 (au s 0),.int .i64 (au s 1),.int .i64 (au s 2),.int .i64 (au s 3)]) (.pointer (some ⟨w.heap.size,0,none⟩)) (.pointer (some ⟨w.heap.size+1,0,none⟩)) (.int .i64 0) (.int .i64 (dU (zsK m k) (asK s k))) (.slice Av nv cv) (.int .i64 nv) (.int .i64 k) a) (fun a _=>nv - (intOf (a.tmps.getD 11 undef)).toNat) ?_ ?_
 ·exact ⟨0,lh ⟨by omega,Ly.out⟩,by constructor⟩
 clear Ly;rintro a W ⟨k,HS,ha⟩;cases ha;have Ly:=lh HS.out.2;by_cases hlt:k<nv
 ·
  obtain ⟨b,off,x,hAv,hbB,hx,c0,c1⟩:=(HM.out.at_.below Ly.out.1).vess hlt;have hnv:nv≤4:=by have h1:=HLV.out;have h2:=HV4.out;omega
  rw [hAv];gi_upto_region 5 with fail
  clear c0 c1
  obtain ⟨V1,hV⟩:∃ V,(W.alloc (.cells #[.int .i64 x.id,.int .i64 x.size] 50))=V:=⟨_,rfl⟩
  rw [hV];have hb:=de hV;have hnew:=dc hV;have hge:=Ly.out.bel.size;replace Ly:=lyb Ly hb;replace Ly:=lh (Ly.out.add hge hnew);clear hnew hge hb hV
  obtain ⟨G2,hG⟩:∃ g,W.heap.size=g:=⟨_,rfl⟩
  rw [hG] at Ly ⊢;clear hG;replace Ly:=lh (show Lay w V1 [(w.heap.size,26,#[.int .i64 m.fountains,.slice Av nv cv,.slice Aa na ca,.slice At nt ct]),(w.heap.size+1,150,#[.int .i64 (au s 0),.int .i64 (au s 1),.int .i64 (au s 2),.int .i64 (au s 3)]),(G2,50,#[.int .i64 x.id,.int .i64 x.size])] from Ly.out);have hsz:=HZ.out x (List.mem_of_getElem? hx);have hpb:=mG HZ.out HV4.out (k:=k) (by rw [HLV.out];omega);have hcb:=nK (in_K HWI.out HV4.out (k:=k) (by rw [HLV.out];omega));have hps:dU (zsK m (k+1)) (asK s (k+1))=dU (zsK m k) (asK s k) * (x.size+1)+au s (k:Int):=by rw [gO hx,nU HWI.out.1 (by omega)];rfl
  have hv:=HWI.out.2 k x hx
  obtain ⟨C0,hC⟩:∃ C,dU (zsK m k) (asK s k)=C:=⟨_,rfl⟩
  rw [hC] at hcb hps ⊢;have hbd:=mulb (a:=C0) (z:=x.size) ⟨hcb.1,by omega⟩ hsz;have hwr:=Go.IntWalk.wrap64_in (C0 * (x.size+1)) (by omega);have hwr2:=Go.IntWalk.wrap64_in (C0 * (x.size+1)+au s (k:Int)) (by omega);have HPS:=lh hps;have hk4:k<4:=by omega
  have cq:=((Ly.out.blk 1 rfl).cell k).trans (cF s hk4);have cql:=Ly.out.lt 1 rfl;have hki:(k:Int)<4:=by omega
  clear hps hC hx hbB hpb hcb;obtain ⟨x2_0,x2_1⟩:=lyc2 Ly 2 rfl;have l2_:=Ly.out.lt 2 rfl
  gi_region
  all_goals gi_wp2
  all_goals
   have hAt:=hAv;subst hAt;refine ⟨⟨k+1,lh ⟨hlt,(Ly.out.drewN 1).sub (by intro b hb;simp only [List.mem_cons,List.not_mem_nil,or_false] at hb ⊢;rcases hb with rfl | rfl<;>simp)⟩,by rw [HPS.out,show ((k+1:Nat):Int)=(k:Int)+1 from by omega];constructor⟩,?_⟩;simp [intOf];omega
 ·
  gi_wp2;refine bodyPost_ret (v:=.int .i64 (dU (zsK m k) (asK s k))) (by simp [results,Tryz.results158,go_sem]) rfl ?_;exact ⟨dE (by rw [show k=m.vessels.length from by rw [HLV.out];have:=HS.out.1;omega,ia rfl]),Ly.out.1⟩
end
end Go.Proofs.YthofngceiecniaaGreat
