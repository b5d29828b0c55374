/- Part 12 of the texts of this claim, joined. -/
import Derived.Laws.MakeOwn
import Derived.Test.YthofngceiecniaaGreatZxJ11
set_option linter.unusedVariables false
/- The answer's decoded. -/
namespace Go.Proofs.YthofngceiecniaaGreat
set_option maxHeartbeats 8000000
set_option maxRecDepth 100000
section
open Go.RowKit
structure gJ (m:Mix)(nv:Nat)(n:Int)(j:Nat)(nj:Int)(s:Held):Prop where
 le:j≤nv
 pos:0≤nj
 top:nj≤28561
 is:∃ dn:List Int,dn.length=nv - j∧(decR (zsM m) n).reverse=(decR (zsK m j) nj).reverse++dn∧s=List.replicate j 0++dn++List.replicate (4 - nv) 0
theorem gJ.len {m:Mix}{nv:Nat}{n:Int}{j:Nat}{nj:Int}{s:Held}(h:gJ m nv n j nj s)(hv:nv≤4:=by omega):s.length=4:=by
 obtain ⟨dn,h1,_,rfl⟩:=h.is;have:=h.le;simp;omega
theorem gJ.first {m:Mix}{nv:Nat}{n:Int}(hl:m.vessels.length=nv)(hn:0≤n∧n≤28561)(hv:nv≤4):gJ m nv n nv n cQ:=by
 refine ⟨n_R,hn.1,hn.2,[],by simp,by rw [ia hl];simp,?_⟩;rw [List.append_nil,List.replicate_append_replicate,show nv+(4 - nv)=4 from by omega];rfl
theorem sI (i:Nat)(v:Int)(dn r:List Int):(List.replicate (i+1) 0++dn++r).set i v=List.replicate i 0++(v::dn)++r:=by
 rw [List.replicate_succ',List.append_assoc,List.append_assoc,List.append_assoc,List.set_append_right _ _ (by simp)];simp
theorem gJ.next {m:Mix}{nv:Nat}{n:Int}{i:Nat}{nj:Int}{s:Held}{x:Vess}(h:gJ m nv n (i+1) nj s)(hx:m.vessels[i]? =some x)(hv:nv≤4)(hs:1≤x.size:=by omega):gJ m nv n i (nj / (x.size+1)) (s.set i (nj % (x.size+1))):=by
 obtain ⟨dn,h1,h2,rfl⟩:=h.is;have hd1:nj / (x.size+1)≤nj:=Int.ediv_le_self _ h.pos;have:=h.le;have:=h.top;refine ⟨by omega,Int.ediv_nonneg h.pos (by omega),by omega,nj % (x.size+1)::dn,by simp;omega,?_,sI i _ dn _⟩;rw [h2,gO hx]
 show (nj % (x.size+1)::decR (zsK m i) (nj / (x.size+1))).reverse++dn=_
 simp
def decH (m:Mix)(n:Int):Held:=(decR (zsM m) n).reverse++List.replicate (4 - m.vessels.length) 0
theorem gJ.last {m:Mix}{nv:Nat}{n nj:Int}{s:Held}(h:gJ m nv n 0 nj s)(hl:m.vessels.length=nv):s=decH m n:=by
 obtain ⟨dn,h1,h2,rfl⟩:=h.is;unfold decH;rw [h2,hl];simp [zsK,decR]
inductive tg (v0 v1 v2 v4 v5 v6:Value):Act→Prop
 | mk (a b c d e f g h i j k l m n o p q r s t w x y z A B C D E F:Value):tg v0 v1 v2 v4 v5 v6 ⟨#[v0,v1,v2,a,v4,v5,v6,b,c,d,e,f,g,h,i,j,k,l,m,n,o,p,q,r,s,t,w,x,y,z,A,B,C,D,E,F],[]⟩
theorem mO (Av:Option Addr)(nv cv:Nat)(Aa:Option Addr)(na ca:Nat)(At:Option Addr)(nt ct:Nat)(m:Mix)(n:Int)(w:World)(h:MixS w Av nv Aa na At nt m)(hz:ec m)(hv4:m.vessels.length≤4)(hn:0≤n∧n≤28561) :
  CallsIn Fence.wide 9 Tryz.prog 126 #[.agg #[.int .i64 m.fountains,.slice Av nv cv,.slice Aa na ca,.slice At nt ct],.int .i64 n] w (fun e w'=>e = .returned (.agg #[.int .i64 (au (decH m n) 0),.int .i64 (au (decH m n) 1),.int .i64 (au (decH m n) 2),.int .i64 (au (decH m n) 3)])∧Below w.heap.size w w'):=by
 have HM:=lh h;have HLV:=lh h.at_.lenV;have HZ:=lh hz;have HV4:=lh hv4;have HN:=lh hn;clear h hz hv4 hn;refine callsIn_of_wp Tryz.func126 rfl trivial ?_ rfl;simp only [Tryz.ntmps126,es,Nat.reduceAdd,Nat.reduceSub];gi_upto_region 2 with fail
 have Ly:=lh (Lay.three w 26 #[.int .i64 m.fountains,.slice Av nv cv,.slice Aa na ca,.slice At nt ct] 150 #[.int .i64 0,.int .i64 0,.int .i64 0,.int .i64 0] 150 #[.int .i64 0,.int .i64 0,.int .i64 0,.int .i64 0]);generalize (((w.alloc (.cells #[.int .i64 m.fountains,.slice Av nv cv,.slice Aa na ca,.slice At nt ct] 26)).alloc (.cells #[.int .i64 0,.int .i64 0,.int .i64 0,.int .i64 0] 150)).alloc (.cells #[.int .i64 0,.int .i64 0,.int .i64 0,.int .i64 0] 150))=w0 at *;have hnv:nv≤4:=by have h1:=HLV.out;have h2:=HV4.out;omega
 obtain ⟨x0_0,x0_1,x0_2,x0_3⟩:=lyc4 Ly 0 rfl;have l0_:=Ly.out.lt 0 rfl;gi_wp2;clear x0_0 x0_1 x0_2 x0_3 l0_;refine wpIn_loop (fun a W=>∃ (j:Nat) (nj:Int) (s:Held),Hid (Lay w W ([(w.heap.size,26,#[.int .i64 m.fountains,.slice Av nv cv,.slice Aa na ca,.slice At nt ct]),(w.heap.size+1,150,#[.int .i64 0,.int .i64 0,.int .i64 0,.int .i64 0])]++[(w.heap.size+1+1,150,(dH s).toArray)])∧gJ m nv n j nj s)∧tg (.agg #[.int .i64 m.fountains,.slice Av nv cv,.slice Aa na ca,.slice At nt ct]) (.int .i64 nj) (.pointer (some ⟨w.heap.size,0,none⟩)) (.pointer (some ⟨w.heap.size+1,0,none⟩)) (.pointer (some ⟨w.heap.size+1+1,0,none⟩)) (.int .i64 ((j:Int) - 1)) a) (fun a _=>(intOf (a.tmps.getD 6 undef)+1).toNat) ?_ ?_
 ·exact ⟨nv,n,cQ,lh ⟨Ly.out,gJ.first HLV.out HN.out hnv⟩,by constructor⟩
 clear Ly;rintro a W ⟨j,nj,s,HS,ha⟩;cases ha;have Ly:=lh HS.out.1;by_cases hj:1≤j
 ·
  obtain ⟨i,rfl⟩:∃ i,j=i+1:=⟨j - 1,by omega⟩
  have hjn:=HS.out.2.le;obtain ⟨b,off,x,hAv,hbB,hx,c0,c1⟩:=(HM.out.at_.below Ly.out.1).vess (show i<nv by omega);rw [hAv];have e1:((i+1:Nat):Int) - 1=(i:Int):=by omega
  rw [e1];have hsz:=HZ.out x (List.mem_of_getElem? hx);have hn0:=HS.out.2.pos;have hn9:=HS.out.2.top;have hrm:Int.tmod nj (x.size+1)=nj % (x.size+1):=Int.tmod_eq_emod_of_nonneg hn0;have hdv:Int.tdiv nj (x.size+1)=nj / (x.size+1):=Int.tdiv_eq_ediv_of_nonneg hn0;have hr0:=Int.emod_nonneg nj (show x.size+1≠0 by omega);have hr1:=Int.emod_lt_of_pos nj (show 0<x.size+1 by omega);have hd0:=Int.ediv_nonneg hn0 (show 0≤x.size+1 by omega);have hd1:nj / (x.size+1)≤nj:=Int.ediv_le_self _ hn0;have hne:x.size+1≠0:=by omega
  have HNX:=lh (HS.out.2.next hx hnv);have hi4:i<4:=by omega
  have hii:(i:Int)<4:=by omega
  have HSL:=lh HS.out.2.len;have x0_1:=lyc Ly 0 rfl 1;have l0_:=Ly.out.lt 0 rfl;have fq:=(Ly.out.blk 2 rfl).frozen i;have lq:=Ly.out.lt 2 rfl;have cq:=((Ly.out.blk 2 rfl).cell i).trans (cF s hi4);clear e1 hx;gi_upto_region 6 with fail
  have HL2:=lh (Ly.out.setLast (by intro p hp;simp only [List.mem_cons,List.not_mem_nil,or_false] at hp;rcases hp with rfl | rfl<;>(intro e;dsimp only at e;omega)) i (.int .i64 (nj % (x.size+1))));generalize W.setCell ⟨w.heap.size+1+1,i,none⟩ (.int .i64 (nj % (x.size+1)))=W2 at *;have c1':=(HL2.out.1.cell (p:=⟨b,off+i * 2+1,none⟩) hbB).trans ((Ly.out.1.cell (p:=⟨b,off+i * 2+1,none⟩) hbB).symm.trans c1);have c0':=(HL2.out.1.cell (p:=⟨b,off+i * 2,none⟩) hbB).trans ((Ly.out.1.cell (p:=⟨b,off+i * 2,none⟩) hbB).symm.trans c0);clear c0 c1 x0_1 l0_ fq lq cq hbB;have x0_1:=(HL2.out.blk 0 rfl).cell 1;have l0_:=HL2.out.lt 0 rfl;gi_wp2;have hAt:=hAv;subst hAt;have HL3:=HL2.out;rw [jo HSL.out hi4] at HL3;refine ⟨⟨i,nj / (x.size+1),_,lh ⟨HL3,HNX.out⟩,by constructor⟩,?_⟩
  show ((i:Int) - 1+1).toNat<((i:Int)+1).toNat
  omega
 ·
  obtain rfl:j=0:=by omega
  obtain rfl:=HS.out.2.last HLV.out;replace Ly:=lh (show Lay w W [(w.heap.size,26,#[.int .i64 m.fountains,.slice Av nv cv,.slice Aa na ca,.slice At nt ct]),(w.heap.size+1,150,#[.int .i64 0,.int .i64 0,.int .i64 0,.int .i64 0]),(w.heap.size+1+1,150,#[.int .i64 (au (decH m n) 0),.int .i64 (au (decH m n) 1),.int .i64 (au (decH m n) 2),.int .i64 (au (decH m n) 3)])] from Ly.out);have x1_0:=lyc Ly 1 rfl 0;have z1_0:=lyf Ly 1 rfl 0;have x1_1:=lyc Ly 1 rfl 1;have z1_1:=lyf Ly 1 rfl 1;have x1_2:=lyc Ly 1 rfl 2;have z1_2:=lyf Ly 1 rfl 2;have x1_3:=lyc Ly 1 rfl 3;have z1_3:=lyf Ly 1 rfl 3;have l1_:=Ly.out.lt 1 rfl;obtain ⟨x2_0,x2_1,x2_2,x2_3⟩:=lyc4 Ly 2 rfl;have l2_:=Ly.out.lt 2 rfl;gi_wp2;have R4:=ret4' (Ly.out.blk 1 rfl) Ly.out.1 (Ly.out.ge 1 rfl) (.int .i64 (au (decH m n) 0)) (.int .i64 (au (decH m n) 1)) (.int .i64 (au (decH m n) 2)) (.int .i64 (au (decH m n) 3));have v0:=R4.1.cell 0;have v1:=R4.1.cell 1;have v2:=R4.1.cell 2;have v3:=R4.1.cell 3;refine bodyPost_ret (v:=.agg #[.int .i64 (au (decH m n) 0),.int .i64 (au (decH m n) 1),.int .i64 (au (decH m n) 2),.int .i64 (au (decH m n) 3)]) (by simp [results,Tryz.results126,go_sem,v0,v1,v2,v3]) rfl ?_;exact ⟨rfl,R4.2.1⟩
end
section
open Go.RowKit
theorem sw {m:Mix}{v a:Int}:askM m v a [1]=askM m v a []:=by
 unfold askM;by_cases hk:cu m=true
 ·have h:=cI hk
  have e:(∀ f∈[(1:Int)],1≤f∧f≤m.fountains)↔∀ f∈([]:List Int),1≤f∧f≤m.fountains:=by
   constructor
   ·intro _ f hf
    cases hf
   ·intro _ f hf
    obtain rfl:=List.mem_singleton.1 hf;omega
  simp only [e]
 ·rw [if_neg hk,if_neg hk]
theorem tr {m:Mix}{v a:Int}(h:askM m v a []=0):cu m=true∧0≤idxV m.vessels v∧0≤a∧a≤m.acts.length:=by
 unfold askM at h;by_cases hk:cu m=true
 ·rw [if_pos hk] at h
  by_cases hi:idxV m.vessels v<0
  ·rw [if_pos hi] at h
   omega
  ·rw [if_neg hi] at h
   by_cases hr:(0≤a∧a≤m.acts.length)∧∀ f∈([]:List Int),1≤f∧f≤m.fountains
   ·exact ⟨hk,by omega,hr.1⟩
   ·rw [if_neg hr] at h
    omega
 ·rw [if_neg hk] at h
  omega
theorem qE (Av:Option Addr)(nv cv:Nat)(Aa:Option Addr)(na ca:Nat)(At:Option Addr)(nt ct:Nat)(m:Mix)(vessel after:Int)(w:World)(h:MixS w Av nv Aa na At nt m) :
  CallsIn Fence.wide 9 Tryz.prog 94 #[.agg #[.int .i64 m.fountains,.slice Av nv cv,.slice Aa na ca,.slice At nt ct],.int .i64 vessel,.int .i64 after] w (fun e w'=>∃ n ee:Int,e = .returned (.tuple #[.int .i64 n,.int .i64 ee])∧fb m vessel after n ee∧Below w.heap.size w w'):=by
 have HM:=lh h;have HLA:=lh h.at_.lenA;have HLV:=lh h.at_.lenV;clear h;refine callsIn_of_wp Tryz.func94 rfl trivial ?_ rfl;simp only [Tryz.ntmps94,es,Nat.reduceAdd,Nat.reduceSub];gi_upto_region 1 with fail
 have Ly:=lh (Lay.one w 26 #[.int .i64 m.fountains,.slice Av nv cv,.slice Aa na ca,.slice At nt ct]);generalize (w.alloc (.cells #[.int .i64 m.fountains,.slice Av nv cv,.slice Aa na ca,.slice At nt ct] 26))=w0 at *;obtain ⟨x0_0,x0_1,x0_2,x0_3⟩:=lyc4 Ly 0 rfl;have l0_:=Ly.out.lt 0 rfl;gi_wp2;clear x0_0 x0_1 x0_2 x0_3 l0_;refine ⟨trivial,(c_W (lR Av nv cv Aa na ca At nt ct m vessel after 1 w0 (HM.out.up Ly.out.1))).mono ?_⟩;rintro e W1 ⟨rfl,hb⟩;replace Ly:=lyb Ly hb;clear hb;rw [sw]
 obtain ⟨ee,hee⟩:∃ e,askM m vessel after []=e:=⟨_,rfl⟩
 rw [hee];have HEE:=lh hee;clear hee;by_cases h0:ee=0
 ·
  subst h0;have hok:=tr HEE.out;have HOK:=lh hok;have HZ:=lh (dh hok.1);have HV:=lh (cI hok.1);clear hok;obtain ⟨x0_0,x0_1,x0_2,x0_3⟩:=lyc4 Ly 0 rfl;have l0_:=Ly.out.lt 0 rfl;gi_wp2;clear x0_0 x0_1 x0_2 x0_3 l0_;refine ⟨trivial,(c_W (iE Av nv cv Aa na ca At nt ct m W1 (HM.out.up Ly.out.1) HZ.out (by have h1:=HV.out;have h2:=HLV.out;omega) (by have h1:=HV.out;have h2:=HLA.out;omega))).mono ?_⟩;rintro e W2 ⟨hb,A,n,c,b,L,rfl,hpl⟩;replace Ly:=lyb Ly hb;clear hb
  have hpl2:b=true∧allM m m.acts=some L∧cB W2 W2.heap.size 4 A n (L.flatMap dH):=by
   rcases hpl with h | ⟨_,_,h⟩
   ·exact h
   ·obtain ⟨A',hA'⟩:=jv HOK.out.1
    rw [h] at hA';cases hA'
  clear hpl;obtain ⟨rfl,hL,hrd⟩:=hpl2;have HL:=lh hL
  obtain ⟨k,hk⟩:∃ k:Nat,after=(k:Int):=⟨after.toNat,by have:=HOK.out.2.2;omega⟩
  obtain ⟨q,hq⟩:∃ q:Nat,idxV m.vessels vessel=(q:Int):=⟨(idxV m.vessels vessel).toNat,by have:=HOK.out.2.1;omega⟩
  have hq4:q<4:=by
   have h1:=HOK.out.2.1;have h2:=df h1;have h3:=HV.out.1;omega
  have hkn:k<n:=by
   have h1:=HOK.out.2.2;have h2:=dC _ _ _ hL;have h3:=dY dF (by omega) hrd;omega
  subst hk;obtain ⟨bl,ol,all,hAL,hbl,hall,hcl⟩:=dp dF (by omega) hrd hkn;subst hAL;have HAL:=lh hall;have HBL:=lh hbl;have HCE:=lh (hcl q _ (jQ all hq4));have HQ4:=lh hq4;have HKN:=lh hkn;have HIQ:=lh hq
  have hn13:n≤13:=by
   have h1:=HV.out.2.1;have h2:=dC _ _ _ hL;have h3:=dY dF (by omega) hrd;omega
  have HN13:=lh hn13;have B00:=lh (Below.refl W2.heap.size W2);clear hrd hL hbl hall hcl hq4 hkn hq hn13;gi_upto_region 5 with fail
  refine wpIn_flow_old [([true,true,true,true,false,true],4)] [false,false,false,false,false,false,true,true,true,true] [] (by kernel_rfl) (by kernel_rfl) (by kernel_rfl) (av b_R 1) ?_;refine wpFlow_cons (A:=?AF1) rfl ?hq1 ?_
  case hq1 =>
   rintro σ hσ of hof hcl;have HOF:=lh hof;clear hof hcl;obtain ⟨c0_,c1_,c2_,c3_⟩:=lyz4 Ly HOF 0 rfl;have hfw:=hfT;have ch:∀ z,(of z).cell? ⟨bl,ol+k * 4+q,none⟩=some (.int .i64 (au all (q:Int))):=fun z=>((B00.out.trans ((HOF.out z).mono B00.out.size)).cell (p:=⟨bl,ol+k * 4+q,none⟩) HBL.out).trans HCE.out;have hkn:=HKN.out;have hn13:=HN13.out;have hq4:=HQ4.out;have hqi:(q:Int)<4:=by omega
   simp only [bu]
   iterate 5 (gi_big_quiet_step (fail))
   refine wpQuietIn_nil ?_;exact rfl
  intro W3 hW;replace Ly:=lyb Ly hW;replace B00:=lh (B00.out.trans (hW.mono B00.out.size));clear hW;gi_wp2;refine ⟨trivial,(callsIn_wide.2 (dm Av nv cv Aa na ca At nt ct m vessel W3 (HM.out.up Ly.out.1))).mono ?_⟩;rintro e W4 ⟨rfl,hb⟩;replace Ly:=lyb Ly hb;replace B00:=lh (B00.out.trans (hb.mono B00.out.size));rw [HIQ.out];gi_wp2;refine ⟨trivial,hb,?_⟩;clear hb;refine wpFlow_nil (A:=?AF2) ?hq2 ?_
  case hq2 =>
   rintro σ hσ of hof hcl;have HOF:=lh hof;clear hof hcl;obtain ⟨c0_,c1_,c2_,c3_⟩:=lyz4 Ly HOF 0 rfl;have hfw:=hfT;have ch:∀ z,(of z).cell? ⟨bl,ol+k * 4+q,none⟩=some (.int .i64 (au all (q:Int))):=fun z=>((B00.out.trans ((HOF.out z).mono B00.out.size)).cell (p:=⟨bl,ol+k * 4+q,none⟩) HBL.out).trans HCE.out;have hkn:=HKN.out;have hn13:=HN13.out;have hq4:=HQ4.out;have hqi:(q:Int)<4:=by omega
   simp only [bu]
   iterate 4 (gi_big_quiet_step (fail))
   refine wpQuietIn_nil ?_;exact rfl
  intro W5 hW;replace Ly:=lyb Ly hW;replace B00:=lh (B00.out.trans (hW.mono B00.out.size));clear hW;simp only [bu];refine cA ?_;gi_wp2;refine bodyPost_ret (v:=.tuple #[.int .i64 (au all (q:Int)),.int .i64 0]) (by simp [results,Tryz.results94,go_sem]) rfl ?_;exact ⟨_,0,rfl,.inr ⟨HEE.out,rfl,L,all,HL.out,HAL.out,by rw [HIQ.out]⟩,Ly.out.1⟩
 ·
  have h0c:(ee != 0)=true:=by simpa using h0
  have H0:=lh h0;clear h0;gi_wp2;refine bodyPost_ret (v:=.tuple #[.int .i64 0,.int .i64 ee]) (by simp [results,Tryz.results94,go_sem]) rfl ?_;exact ⟨0,ee,rfl,.inl ⟨by rw [HEE.out];exact H0.out,rfl,HEE.out.symm⟩,Ly.out.1⟩
end
section
def eV (m:Mix)(s:Held):Int:=dU (zsM m) (asK s m.vessels.length)
def Bare (m:Mix)(s:Held):Prop:=s.drop m.vessels.length=List.replicate (4 - m.vessels.length) 0
section
variable {m:Mix} {s:Held} {c:Int}
theorem jc:(zsM m).length=m.vessels.length:=by simp [zsM]
theorem pt (hz:ec m):∀ z∈zsM m,0≤z:=fun z hz'=>by
 unfold zsM at hz';rw [List.mem_reverse] at hz';obtain ⟨x,hx,rfl⟩:=List.mem_map.1 hz';have:=hz x hx;omega
theorem hQ (hw:eq m s)(hv:m.vessels.length≤4)(hb:Bare m s):decH m (eV m s)=s:=by
 have h:=in_K hw hv (Nat.le_refl m.vessels.length);rw [ia rfl] at h;unfold decH eV;rw [qO h];unfold asK;rw [List.reverse_reverse,← hb,List.take_append_drop]
theorem l6 (hz:ec m)(h0:0≤c)(h1:c<dD (zsM m)):eV m (decH m c)=c:=by
 have hl:(decR (zsM m) c).reverse.length=m.vessels.length:=by rw [List.length_reverse,gQ,jc]
 unfold eV decH asK;rw [List.take_append_of_le_length (Nat.le_of_eq hl.symm),List.take_of_length_le (Nat.le_of_eq hl),List.reverse_reverse];exact mV (pt hz) h0 h1
theorem kv (hv:m.vessels.length≤4):(decH m c).length=4:=by
 unfold decH;rw [List.length_append,List.length_reverse,gQ,jc,List.length_replicate];omega
theorem pL (hv:m.vessels.length≤4):Bare m (decH m c):=by
 have hl:(decR (zsM m) c).reverse.length=m.vessels.length:=by rw [List.length_reverse,gQ,jc]
 unfold Bare decH;rw [← hl,List.drop_append_of_le_length n_R,List.drop_length];rfl
theorem iR (hw:eq m s)(hv:m.vessels.length≤4):0≤eV m s∧eV m s<dD (zsM m):=by
 have h:=in_K hw hv (Nat.le_refl m.vessels.length);rw [ia rfl] at h;exact nK h
theorem InR.get {zs bs:List Int}(h:InR zs bs):∀ (i:Nat) (z b:Int),zs[i]? =some z→bs[i]? =some b→0≤b∧b≤z:=by
 induction h with
 | nil=>intro i z b h;simp at h
 | @cons z a zs bs hz h ih =>
  intro i y b hy hb
  cases i with
  | zero =>
   simp at hy hb;subst hy hb;exact hz
  | succ i=>exact ih i y b (by simpa using hy) (by simpa using hb)
theorem jB (hz:ec m)(hv:m.vessels.length≤4)(h0:0≤c):eq m (decH m c):=by
 refine ⟨kv hv,fun k x hx=>?_⟩;obtain ⟨hk,rfl⟩:=g_E hx;have hi:=sm (pt hz) h0;have hl:(decR (zsM m) c).length=m.vessels.length:=by rw [gQ,jc]
 have hb:(decH m c)[k]? =some (au (decH m c) (k:Int)):=by
  unfold au;rw [Int.toNat_natCast,List.getElem?_eq_getElem (by rw [kv hv];omega)];rfl
 have hb2:(decR (zsM m) c)[m.vessels.length - 1 - k]? =some (au (decH m c) (k:Int)):=by
  rw [← hb];unfold decH;rw [List.getElem?_append_left (by rw [List.length_reverse,hl];exact hk),List.getElem?_reverse (by rw [hl];exact hk),hl]
 have hz2:(zsM m)[m.vessels.length - 1 - k]? =some (m.vessels[k].size):=by
  unfold zsM;rw [List.getElem?_reverse (by rw [List.length_map];omega),List.length_map,show m.vessels.length - 1 - (m.vessels.length - 1 - k)=k from by omega,List.getElem?_map,List.getElem?_eq_getElem hk];rfl
 exact hi.get _ _ _ hz2 hb2
end
end
section
section
variable {m:Mix} {s:Held} {c:Int}
theorem fu {q:Nat}{v:Int}(hw:eq m s)(hq:q<m.vessels.length)(hv4:m.vessels.length≤4)(hv:0≤v∧v≤eG m.vessels (q:Int)):eq m (s.set q v):=by
 refine ⟨by simp [hw.1],fun k x hx=>?_⟩;have h1:=hw.2 k x hx;have h2:=hw.1;have e:=eP (s:=s) (i:=(q:Int)) (j:=(k:Int)) (v:=v) (by omega) (by omega) (by omega);rw [Int.toNat_natCast] at e;rw [e]
 split
 ·rename_i h
  have:k=q:=by omega
  subst this;unfold eG at hv;rw [Int.toNat_natCast,hx] at hv;exact hv
 ·exact h1
theorem gW {q:Nat}{v:Int}(hb:Bare m s)(hq:q<m.vessels.length):Bare m (s.set q v):=by
 unfold Bare at hb ⊢;rw [List.drop_set_of_lt hq,hb]
theorem js {q:Nat}(hw:eq m s)(hq:q<m.vessels.length):0≤au s (q:Int)∧au s (q:Int)≤eG m.vessels (q:Int):=by
 have h:=hw.2 q _ (List.getElem?_eq_getElem hq);unfold eG;rw [Int.toNat_natCast,List.getElem?_eq_getElem hq];exact h
theorem np {s':Held}{x:MAct}(hw:eq m s)(hb:Bare m s)(hv4:m.vessels.length≤4)(h:cS m s x=some s'):eq m s'∧Bare m s':=by
 obtain ⟨jf,hjf⟩:∃ j,idxV m.vessels x.fr=j:=⟨_,rfl⟩
 obtain ⟨jt,hjt⟩:∃ j,idxV m.vessels x.to=j:=⟨_,rfl⟩
 have hf:0≤jf→jf<m.vessels.length:=fun h=>by rw [← hjf] at h ⊢;exact df h
 have ht:0≤jt→jt<m.vessels.length:=fun h=>by rw [← hjt] at h ⊢;exact df h
 by_cases h1:x.kind=1
 ·rw [dk1 h1 hjt] at h
  split at h
  ·rename_i hc
   cases h
   obtain ⟨q,rfl⟩:∃ q:Nat,jt=(q:Int):=⟨jt.toNat,by omega⟩
   have hq:q<m.vessels.length:=by have:=ht (by omega);omega
   have hs:=js hw hq;rw [Int.toNat_natCast];exact ⟨fu hw hq hv4 (by omega),gW hb hq⟩
  ·cases h
 ·by_cases h0:jf<0
  ·rw [dk0 h1 hjf h0] at h
   cases h
  ·obtain ⟨p,rfl⟩:∃ p:Nat,jf=(p:Int):=⟨jf.toNat,by omega⟩
   have hp:p<m.vessels.length:=by have:=hf (by omega);omega
   have hsp:=js hw hp;by_cases h2:x.kind=2
   ·rw [dk2 h2 hjf hjt (by omega)] at h
    split at h
    ·rename_i hc
     cases h
     obtain ⟨q,rfl⟩:∃ q:Nat,jt=(q:Int):=⟨jt.toNat,by omega⟩
     have hq:q<m.vessels.length:=by have:=ht (by omega);omega
     have hs:=js hw hq;rw [Int.toNat_natCast,Int.toNat_natCast];exact ⟨fu (fu hw hp hv4 (by omega)) hq hv4 (by omega),gW (gW hb hp) hq⟩
    ·cases h
   ·by_cases h3:x.kind=3
    ·rw [dk3 h3 hjf (by omega)] at h
     split at h
     ·cases h
      rw [Int.toNat_natCast];exact ⟨fu hw hp hv4 (by omega),gW hb hp⟩
     ·cases h
    ·by_cases h4:x.kind=4
     ·rw [dk4 h4 hjf (by omega)] at h
      split at h
      ·cases h
       rw [Int.toNat_natCast];exact ⟨fu hw hp hv4 (by omega),gW hb hp⟩
      ·cases h
     ·rw [dk5 h1 h2 h3 h4] at h
      cases h
theorem jF (hz:ec m)(hv4:m.vessels.length≤4):eq m cQ∧Bare m cQ:=by
 refine ⟨⟨rfl,fun k x hx=>?_⟩,?_⟩
 ·have h1:=hz x (List.mem_of_getElem? hx)
  have hk:=(g_E hx).1
  match k,(show k<4 by omega) with
  | 0,_=>exact ⟨by decide,by show (0:Int)≤_;omega⟩
  | 1,_=>exact ⟨by decide,by show (0:Int)≤_;omega⟩
  | 2,_=>exact ⟨by decide,by show (0:Int)≤_;omega⟩
  | 3,_=>exact ⟨by decide,by show (0:Int)≤_;omega⟩
 ·unfold Bare
  match m.vessels.length,hv4 with
  | 0,_=>rfl
  | 1,_=>rfl
  | 2,_=>rfl
  | 3,_=>rfl
  | 4,_=>rfl
theorem jx {l:List MAct}{A:List Held}(h:allM m l=some A)(hv:m.vessels.length≤4)(hz:ec m):∀ {t:Nat} {a:Held},A[t]? =some a→eq m a∧Bare m a:=by
 intro t
 induction t with
 | zero=>intro a ha;rw [ij h] at ha;cases ha;exact jF hz hv
 | succ t ih =>
  intro a ha;have hl:=dC m l A h
  have ht:t<l.length:=by
   have:=(g_E ha).1;omega
  obtain ⟨b,b',h1,h2,h3⟩:=fO h (List.getElem?_eq_getElem ht);rw [ha] at h2;cases h2;have:=ih h1;exact np this.1 this.2 hv h3
end
end
section
section
variable {m:Mix} {s a:Held}
theorem jX (hl:s.length=4)(hv:m.vessels.length≤4):Bare m s↔∀ q:Nat,m.vessels.length≤q→q<4→au s (q:Int)=0:=by
 unfold Bare;constructor
 ·intro h q h1 h2
  have e:(s.drop m.vessels.length)[q - m.vessels.length]? =some 0:=by
   rw [h,List.getElem?_replicate,if_pos (by omega)]
  rw [List.getElem?_drop,show m.vessels.length+(q - m.vessels.length)=q from by omega] at e;unfold au;rw [Int.toNat_natCast,e];rfl
 ·intro h
  refine List.ext_getElem? fun i=>?_;rw [List.getElem?_drop,List.getElem?_replicate];by_cases hi:i<4 - m.vessels.length
  ·rw [if_pos hi]
   have h1:=h (m.vessels.length+i) (by omega) (by omega);unfold au at h1;rw [Int.toNat_natCast] at h1;have h2:m.vessels.length+i<s.length:=by omega
   rw [List.getElem?_eq_getElem h2] at h1 ⊢;exact congrArg some h1
  ·rw [if_neg hi]
   exact List.getElem?_eq_none (by omega)
theorem jA (hf:Fits a s)(hv:m.vessels.length≤4)(hw:eq m a)(hb:Bare m a):eq m s∧Bare m s:=by
 refine ⟨⟨hf.lh,fun k x hx=>?_⟩,(jX hf.lh hv).2 fun q h1 h2=>?_⟩
 ·have hk:=(g_E hx).1
  have h1:=hf.le k (by omega);have h2:=hw.2 k x hx;omega
 ·have h3:=hf.le q h2
  have h4:=(jX hf.la hv).1 hb q h1 h2;omega
theorem lT {f:Int}{A:List Held}{t:Nat}(hok:cu m=true)(hA:allM m m.acts=some A)(h:Fwd m f A t s)(ht:t≤m.acts.length):eq m s∧Bare m s:=by
 have hl:=dC _ _ _ hA;have hv:=(cI hok).1;have ha:=List.getElem?_eq_getElem (by omega:t<A.length);have hw:=jx hA hv (dh hok) ha;exact jA (dK hA hv h ha) hv hw.1 hw.2
theorem m8 {f:Int}{A:List Held}{t:Nat}{x:MAct}{all:Held}(hok:cu m=true)(hA:allM m m.acts=some A)(hx:m.acts[t]? =some x)(ha:A[t]? =some all)(hao:gv m all x)(s':Held) :
  Fwd m f A (t+1) s'↔(∃ c k:Int,(0≤c∧c<dD (zsM m))∧Fwd m f A t (decH m c)∧(dq m x f all (decH m c)).1≤k∧k≤(dq m x f all (decH m c)).2∧s'=dw m x (decH m c) k)∧cW m f (t+1) s'=true:=by
 have hv:=(cI hok).1;have ht:t<m.acts.length:=(g_E hx).1;constructor
 ·rintro ⟨⟨s,h1,x2,all2,k,h2,h3,h4,h5,rfl⟩,h6⟩
  rw [hx] at h2;cases h2;rw [ha] at h3;cases h3;have hs:=lT hok hA h1 (Nat.le_of_lt ht);have e:=hQ hs.1 hv hs.2;have hf:=dK hA hv h1 ha;rw [eN hao hf hv] at h4 h5;exact ⟨⟨eV m s,k,iR hs.1 hv,by rw [e];exact h1,by rw [e];exact h4,by rw [e];exact h5,by rw [e,fk hao]⟩,h6⟩
 ·rintro ⟨⟨c,k,_,h1,h4,h5,rfl⟩,h6⟩
  have hf:=dK hA hv h1 ha;rw [← eN hao hf hv] at h4 h5;exact ⟨⟨decH m c,h1,x,all,k,hx,ha,h4,h5,(fk hao k).symm⟩,h6⟩
theorem pV {f:Int}{A:List Held}:cD m f A m.acts.length s↔Fwd m f A m.acts.length s:=by
 unfold cD;rw [Nat.sub_self];exact Iff.rfl
theorem oK {f:Int}{A:List Held}{t:Nat}{x:MAct}{all:Held}(hok:cu m=true)(hA:allM m m.acts=some A)(hx:m.acts[t]? =some x)(ha:A[t]? =some all)(hao:gv m all x) :
  cD m f A t s↔Fwd m f A t s∧∃ k:Int,(dq m x f all s).1≤k∧k≤(dq m x f all s).2∧cD m f A (t+1) (dw m x s k):=by
 have hv:=(cI hok).1;have ht:t<m.acts.length:=(g_E hx).1;have e:m.acts.length - t=(m.acts.length - (t+1))+1:=by omega
 unfold cD;rw [e];constructor
 ·rintro ⟨h1,s',⟨x2,all2,k,h2,h3,h4,h5,rfl⟩,h6⟩
  rw [hx] at h2;cases h2;rw [ha] at h3;cases h3;have hf:=dK hA hv h1 ha;rw [eN hao hf hv] at h4 h5;rw [fk hao] at h6;exact ⟨h1,k,h4,h5,h6⟩
 ·rintro ⟨h1,k,h4,h5,h6⟩
  have hf:=dK hA hv h1 ha;rw [← eN hao hf hv] at h4 h5;rw [← fk hao] at h6;exact ⟨h1,_,⟨x,all,k,hx,ha,h4,h5,rfl⟩,h6⟩
theorem qS {f:Int}{A:List Held}{t:Nat}(hok:cu m=true)(hA:allM m m.acts=some A)(h:Fwd m f A t s)(ht:t≤m.acts.length):(0≤eV m s∧eV m s<dD (zsM m))∧decH m (eV m s)=s:=by
 have hs:=lT hok hA h ht;have hv:=(cI hok).1;exact ⟨iR hs.1 hv,hQ hs.1 hv hs.2⟩
theorem oq {f:Int}{A:List Held}{t:Nat}{x:MAct}{all:Held}{k:Int}(hok:cu m=true)(hA:allM m m.acts=some A)(hx:m.acts[t]? =some x)(ha:A[t]? =some all)(h:Fwd m f A t s)(h4:(dq m x f all s).1≤k)(h5:k≤(dq m x f all s).2) :
  eq m (dw m x s k)∧Bare m (dw m x s k):=by
 have hv:=(cI hok).1;obtain ⟨hao,hn⟩:=mQ hA hv hx ha;have hf:=dK hA hv h ha;rw [← eN hao hf hv] at h4 h5;have hm:=fy hao hf hv ⟨h4,h5⟩;have hw:=jx hA hv (dh hok) hn;rw [fk (has:=s) hao k] at hm;exact jA hm.2.2 hv hw.1 hw.2
end
end
section
open Go.RowKit
structure BR (w W:World)(N g:Nat)(rs:List Nat)(bs:List (List Bool)):Prop where
 bel:Below w.heap.size w W
 top:Blk W g 194 (rs.map fun r=>Value.slice (some ⟨r,0,none⟩) N N).toArray
 ge:w.heap.size≤g
 len:rs.length=bs.length
 row:∀ (i r:Nat) (b:List Bool),rs[i]? =some r→bs[i]? =some b→Blk W r 4 (b.map Value.bool).toArray∧b.length=N∧w.heap.size≤r∧r≠g
 nodup:rs.Nodup
section
variable {w W W':World} {N g:Nat} {rs:List Nat} {bs:List (List Bool)}
theorem BR.below (h:BR w W N g rs bs)(hb:Below W.heap.size W W'):BR w W' N g rs bs :=
 ⟨h.bel.trans (hb.mono h.bel.size),h.top.below hb h.top.lt,h.ge,h.len,fun i r b h1 h2=>⟨(h.row i r b h1 h2).1.below hb (h.row i r b h1 h2).1.lt,(h.row i r b h1 h2).2⟩,h.nodup⟩
theorem BR.rowCell (h:BR w W N g rs bs){i r:Nat}(hr:rs[i]? =some r):W.cell? ⟨g,i,none⟩=some (.slice (some ⟨r,0,none⟩) N N):=by
 rw [h.top.cell,List.getElem?_toArray,List.getElem?_map,hr];rfl
theorem BR.cell (h:BR w W N g rs bs){i r c:Nat}{b:List Bool}{v:Bool}(hr:rs[i]? =some r)(hb:bs[i]? =some b)(hc:b[c]? =some v):W.cell? ⟨r,c,none⟩=some (.bool v):=by
 rw [(h.row i r b hr hb).1.cell,List.getElem?_toArray,List.getElem?_map,hc];rfl
theorem BR.put (h:BR w W N g rs bs){i r c:Nat}{b:List Bool}(hr:rs[i]? =some r)(hb:bs[i]? =some b)(v:Bool):BR w (W.setCell ⟨r,c,none⟩ (.bool v)) N g rs (bs.set i (b.set c v)):=by
 have hrow:=h.row i r b hr hb;refine ⟨h.bel.setCell (p:=⟨r,c,none⟩) hrow.2.2.1 _,h.top.far (p:=⟨r,c,none⟩) (Ne.symm hrow.2.2.2) _,h.ge,by simp [h.len],fun j r' b' h1 h2=>?_,h.nodup⟩;by_cases hj:j=i
 ·subst hj
  rw [hr] at h1;cases h1;have hlt:=(g_E hb).1;rw [List.getElem?_set_self hlt] at h2;cases h2;refine ⟨?_,by simp [hrow.2.1],hrow.2.2⟩;have:=hrow.1.set_ c (.bool v);rw [List.setIfInBounds_toArray] at this
  rwa [List.map_set]
 ·rw [List.getElem?_set_ne (Ne.symm hj)] at h2
  have h3:=h.row j r' b' h1 h2;refine ⟨h3.1.far (p:=⟨r,c,none⟩) (fun e=>hj ?_) _,h3.2⟩;have e2:r'=r:=e;subst e2;exact (List.getElem?_inj (g_E h1).1 h.nodup).1 (h1.trans hr.symm)
theorem BR.newb {W0:World}{b:Nat}(h:BR w W N g rs bs)(h0:BR w W0 N g rs bs)(hb:W0.heap.size≤b)(hg:W.grownBy W' (some b)):BR w W' N g rs bs :=
 ⟨h.bel.grown hg h.bel.size (fun k e=>by cases e;exact Nat.le_trans h0.bel.size hb),h.top.grown hg (fun e=>by have:=h0.top.lt;have:=Option.some.inj e;omega),h.ge,h.len,fun i r c h1 h2=>⟨(h.row i r c h1 h2).1.grown hg (fun e=>by have:=(h0.row i r c h1 h2).1.lt;have:=Option.some.inj e;omega),(h.row i r c h1 h2).2⟩,h.nodup⟩
theorem BR.base {w0:World}(h:BR w W N g rs bs)(hb:Below w0.heap.size w0 W)(hle:w0.heap.size≤w.heap.size):BR w0 W N g rs bs :=
 ⟨hb,h.top,Nat.le_trans hle h.ge,h.len,fun i r c h1 h2=>by have h3:=h.row i r c h1 h2;exact ⟨h3.1,h3.2.1,Nat.le_trans hle h3.2.2.1,h3.2.2.2⟩,h.nodup⟩
structure BRp (w W:World)(N g n:Nat)(rs:List Nat):Prop where
 bel:Below w.heap.size w W
 top:Blk W g 194 ((rs.map fun r=>Value.slice (some ⟨r,0,none⟩) N N)++List.replicate (n - rs.length) (Value.slice none 0 0)).toArray
 ge:w.heap.size≤g
 len:rs.length≤n
 row:∀ r∈rs,Blk W r 4 ((List.replicate N false).map Value.bool).toArray∧w.heap.size≤r∧r≠g
 nodup:rs.Nodup
theorem BRp.start {w W:World}(hb:Below w.heap.size w W)(N n:Nat):BRp w (W.alloc (.cells (List.replicate n (Value.slice none 0 0)).toArray 194)) N W.heap.size n []:=by
 have h:=Blk.new W 194 (List.replicate n (Value.slice none 0 0)).toArray;refine ⟨hb.alloc hb.size _,?_,hb.size,Nat.zero_le _,?_,List.nodup_nil⟩
 ·simpa using h
 ·intro r hr
  cases hr
theorem BRp.done {n:Nat}(h:BRp w W N g n rs)(hn:rs.length=n):BR w W N g rs (List.replicate n (List.replicate N false)):=by
 refine ⟨h.bel,?_,h.ge,by simp [hn],fun i r b h1 h2=>?_,h.nodup⟩
 ·have:=h.top
  rwa [hn,Nat.sub_self,List.replicate_zero,List.append_nil] at this
 ·rw [List.getElem?_replicate] at h2
  split at h2
  ·cases h2
   have h3:=h.row r (List.mem_of_getElem? h1);exact ⟨h3.1,by simp,h3.2⟩
  ·cases h2
theorem BRp.step {n:Nat}(h:BRp w W N g n rs)(hn:rs.length<n):BRp w ((W.alloc (.cells ((List.replicate N false).map Value.bool).toArray 4)).setCell ⟨g,rs.length,none⟩ (.slice (some ⟨W.heap.size,0,none⟩) N N)) N g n (rs++[W.heap.size]):=by
 have hb:Below W.heap.size W (W.alloc (.cells ((List.replicate N false).map Value.bool).toArray 4)):=b_R.alloc n_R _;have hgl:=h.top.lt;refine ⟨(h.bel.trans (hb.mono h.bel.size)).setCell (p:=⟨g,rs.length,none⟩) h.ge _,?_,h.ge,by simp;omega,fun r hr=>?_,?_⟩
 ·have h2:=(h.top.below hb hgl).set_ rs.length (.slice (some ⟨W.heap.size,0,none⟩) N N)
  rw [List.setIfInBounds_toArray] at h2
  have e:((rs.map fun r=>Value.slice (some ⟨r,0,none⟩) N N)++List.replicate (n - rs.length) (Value.slice none 0 0)).set rs.length (.slice (some ⟨W.heap.size,0,none⟩) N N)=((rs++[W.heap.size]).map fun r=>Value.slice (some ⟨r,0,none⟩) N N)++List.replicate (n - (rs++[W.heap.size]).length) (Value.slice none 0 0):=by
   rw [List.set_append_right _ _ (by simp),List.length_map,Nat.sub_self,show n - rs.length=(n - (rs++[W.heap.size]).length)+1 from by simp;omega,List.replicate_succ,List.set_cons_zero,List.map_append];simp
  rwa [e] at h2
 ·rcases List.mem_append.1 hr with hr | hr
  ·have h3:=h.row r hr
   exact ⟨(h3.1.below hb h3.1.lt).far (p:=⟨g,rs.length,none⟩) h3.2.2 _,h3.2⟩
  ·obtain rfl:=List.mem_singleton.1 hr
   have h3:=Blk.new W 4 ((List.replicate N false).map Value.bool).toArray;exact ⟨h3.far (p:=⟨g,rs.length,none⟩) (by show W.heap.size≠g;omega) _,h.bel.size,by omega⟩
 ·rw [List.nodup_append]
  refine ⟨h.nodup,by simp,fun a ha b hb e=>?_⟩;obtain rfl:=List.mem_singleton.1 hb;have:=(h.row a ha).1.lt;omega
theorem BRp.below {n:Nat}(h:BRp w W N g n rs)(hb:Below W.heap.size W W'):BRp w W' N g n rs :=
 ⟨h.bel.trans (hb.mono h.bel.size),h.top.below hb h.top.lt,h.ge,h.len,fun r hr=>⟨(h.row r hr).1.below hb (h.row r hr).1.lt,(h.row r hr).2⟩,h.nodup⟩
theorem BRp.cell {n:Nat}(h:BRp w W N g n rs)(hn:rs.length<n):W.cell? ⟨g,rs.length,none⟩=some (.slice none 0 0):=by
 rw [h.top.cell,List.getElem?_toArray,List.getElem?_append_right (by simp),List.length_map,Nat.sub_self,List.getElem?_replicate,if_pos (by omega)]
end
theorem i6 {w W:World}{bs:List (Nat × TypeId × Array Value)}{r:Nat}{t:TypeId}{cs:Array Value}(h:Lay w W bs)(hb:Blk W r t cs)(hr:w.heap.size≤r)(ht:∀ b∈bs,b.2.1≠t)(c:Nat)(v:Value):Lay w (W.setCell ⟨r,c,none⟩ v) bs :=
 ⟨h.1.setCell (p:=⟨r,c,none⟩) hr _,fun b hm=>⟨(h.2 b hm).1,(h.2 b hm).2.far (p:=⟨r,c,none⟩) (fx (h.2 b hm).2 hb (ht b hm)) _⟩⟩
end
section
structure Tab (N n:Nat)(bs:List (List Bool))(P:Nat→Nat→Prop):Prop where
 len:bs.length=n
 rows:∀ (i:Nat) (r:List Bool),bs[i]? =some r→r.length=N
 is:∀ (i:Nat) (r:List Bool) (c:Nat) (b:Bool),bs[i]? =some r→r[c]? =some b→(b=true↔P i c)
section
variable {N n:Nat} {bs:List (List Bool)} {P P':Nat→Nat→Prop}
theorem Tab.congr (h:Tab N n bs P)(e:∀ i c,i<n→c<N→(P' i c↔P i c)):Tab N n bs P' :=
 ⟨h.len,h.rows,fun i r c b h1 h2=>(h.is i r c b h1 h2).trans (e i c (by have:=(g_E h1).1;have:=h.len;omega) (by have:=(g_E h2).1;have:=h.rows i r h1;omega)).symm⟩
theorem Tab.start (N n:Nat):Tab N n (List.replicate n (List.replicate N false)) (fun _ _=>False):=by
 refine ⟨by simp,fun i r h=>?_,fun i r c b h1 h2=>?_⟩
 ·rw [List.getElem?_replicate] at h
  split at h
  ·cases h;simp
  ·cases h
 ·rw [List.getElem?_replicate] at h1
  split at h1
  ·cases h1
   rw [List.getElem?_replicate] at h2
   split at h2
   ·cases h2;simp
   ·cases h2
  ·cases h1
theorem Tab.look (h:Tab N n bs P){i c:Nat}(hi:i<n)(hc:c<N):∃ r b,bs[i]? =some r∧r[c]? =some b∧(b=true↔P i c):=by
 have h1:bs[i]? =some (bs[i]'(by rw [h.len];exact hi)):=List.getElem?_eq_getElem _;have h2:=h.rows i _ h1;have h3:=List.getElem?_eq_getElem (l:=bs[i]'(by rw [h.len];exact hi)) (i:=c) (by omega);exact ⟨_,_,h1,h3,h.is _ _ _ _ h1 h3⟩
theorem Tab.put (h:Tab N n bs P){i c:Nat}{r:List Bool}{v:Bool}(hr:bs[i]? =some r)(hv:v=true↔P' i c)(ho:∀ i' c',i'<n→c'<N→(i'≠i∨c'≠c)→(P' i' c'↔P i' c')):Tab N n (bs.set i (r.set c v)) P':=by
 have hi:=(g_E hr).1;refine ⟨by simp [h.len],fun j r' h1=>?_,fun j r' d b h1 h2=>?_⟩
 ·by_cases e:j=i
  ·subst e
   rw [List.getElem?_set_self hi] at h1;cases h1;rw [List.length_set];exact h.rows _ _ hr
  ·rw [List.getElem?_set_ne (Ne.symm e)] at h1
   exact h.rows _ _ h1
 ·have hj:j<n:=by have:=(g_E h1).1;rw [List.length_set] at this;have:=h.len;omega
  by_cases e:j=i
  ·subst e
   rw [List.getElem?_set_self hi] at h1;cases h1;have hrl:=h.rows _ _ hr;have hd:d<N:=by have:=(g_E h2).1;rw [List.length_set] at this;omega
   by_cases e2:d=c
   ·subst e2
    rw [List.getElem?_set_self (by omega)] at h2;cases h2;exact hv
   ·rw [List.getElem?_set_ne (Ne.symm e2)] at h2
    exact (h.is _ _ _ _ hr h2).trans (ho j d hj hd (.inr e2)).symm
  ·rw [List.getElem?_set_ne (Ne.symm e)] at h1
   have hd:d<N:=by have:=(g_E h2).1;have:=h.rows _ _ h1;omega
   exact (h.is _ _ _ _ h1 h2).trans (ho j d hj hd (.inl e)).symm
end
def decN (m:Mix)(c:Nat):Held:=decH m (c:Int)
def FwP (m:Mix)(f:Int)(A:List Held)(t c0:Nat)(s':Held):Prop :=
 ∃ (c:Nat) (x:MAct) (all:Held) (k:Int),c<c0∧Fwd m f A t (decN m c)∧m.acts[t]? =some x∧A[t]? =some all∧(dq m x f all (decN m c)).1≤k∧k≤(dq m x f all (decN m c)).2∧s'=dw m x (decN m c) k∧cW m f (t+1) s'=true
def FwQ (m:Mix)(f:Int)(x:MAct)(all:Held)(t:Nat)(s:Held)(k0:Int)(s':Held):Prop :=
 ∃ k:Int,(dq m x f all s).1≤k∧k<k0∧s'=dw m x s k∧cW m f (t+1) s'=true
def PF (m:Mix)(f:Int)(A:List Held)(t i c:Nat):Prop:=i≤t∧Fwd m f A i (decN m c)
def PM (m:Mix)(f:Int)(A:List Held)(t c0 i c:Nat):Prop:=if i≤t then Fwd m f A i (decN m c) else i=t+1∧FwP m f A t c0 (decN m c)
def PI (m:Mix)(f:Int)(A:List Held)(x:MAct)(all:Held)(t c0:Nat)(k0:Int)(i c:Nat):Prop :=
 if i≤t then Fwd m f A i (decN m c) else i=t+1∧(FwP m f A t c0 (decN m c)∨FwQ m f x all t (decN m c0) k0 (decN m c))
def QO (m:Mix)(f:Int)(A:List Held)(j i c:Nat):Prop:=if j≤i then cD m f A i (decN m c) else Fwd m f A i (decN m c)
def QM (m:Mix)(f:Int)(A:List Held)(t c0 i c:Nat):Prop:=if t<i∨(i=t∧c<c0) then cD m f A i (decN m c) else Fwd m f A i (decN m c)
section
variable {m:Mix} {f:Int} {A:List Held} {x:MAct} {all:Held} {t c0 N n:Nat} {bs:List (List Bool)}
theorem pn (hok:cu m=true){c c':Nat}(hN:dD (zsM m)=(N:Int))(hc:c<N)(hc':c'<N)(e:decN m c=decN m c'):c=c':=by
 have h1:=l6 (dh hok) (c:=(c:Int)) (by omega) (by omega);have h2:=l6 (dh hok) (c:=(c':Int)) (by omega) (by omega);unfold decN at e;rw [e] at h1;omega
theorem j6 (hok:cu m=true)(hN:dD (zsM m)=(N:Int))(h1:1≤N):decN m 0=cQ:=by
 have h:=jF (dh hok) (cI hok).1;have h2:=iR h.1 (cI hok).1;have h3:=hQ h.1 (cI hok).1 h.2
 have key:eV m cQ=0:=by
  have hz:∀ l:List Int,dU l (List.replicate l.length 0)=0:=by
   intro l
   induction l with
   | nil=>rfl
   | cons z l ih =>
    show dU (z::l) (0::List.replicate l.length 0)=0
    unfold dU;rw [ih];simp
  have e:asK cQ m.vessels.length=List.replicate (zsM m).length 0:=by
   rw [jc];unfold asK cQ;have:=(cI hok).1
   match m.vessels.length,this with
   | 0,_=>rfl
   | 1,_=>rfl
   | 2,_=>rfl
   | 3,_=>rfl
   | 4,_=>rfl
  unfold eV;rw [e,hz]
 rw [key] at h3;exact h3
theorem q7 (hok:cu m=true)(hN:dD (zsM m)=(N:Int))(h1:1≤N)(hn:1≤n){r:List Bool}(h:Tab N n bs (fun _ _=>False))(hr:bs[0]? =some r):Tab N n (bs.set 0 (r.set 0 (cW m f 0 cQ))) (PF m f A 0):=by
 refine h.put hr ?_ fun i' c' hi hc hne=>?_
 ·unfold PF
  rw [j6 hok hN h1];exact ⟨fun e=>⟨by omega,rfl,e⟩,fun e=>e.2.2⟩
 ·unfold PF
  constructor
  ·rintro ⟨e1,e2⟩
   have:i'=0:=by omega
   subst this;replace e2:decN m c'=cQ:=e2.1;rw [← j6 hok hN h1] at e2;rcases hne with h | h
   ·exact h rfl
   ·exact h (pn hok hN hc h1 e2)
  ·exact False.elim
theorem pf_pm (h:Tab N n bs (PF m f A t)):Tab N n bs (PM m f A t 0):=by
 refine h.congr fun i c _ _=>?_;unfold PF PM;by_cases e:i≤t
 ·rw [if_pos e]
  exact ⟨fun h=>⟨e,h⟩,fun h=>h.2⟩
 ·rw [if_neg e]
  exact ⟨fun ⟨_,c',_,_,_,h,_⟩=>absurd h (Nat.not_lt_zero _),fun h=>absurd h.1 e⟩
theorem sT (h:Tab N n bs (PM m f A t c0))(hno:¬ Fwd m f A t (decN m c0)):Tab N n bs (PM m f A t (c0+1)):=by
 refine h.congr fun i c _ _=>?_;unfold PM;by_cases e:i≤t
 ·rw [if_pos e,if_pos e]
 ·rw [if_neg e,if_neg e]
  refine ⟨fun ⟨e,c',x,al,k,h1,h2⟩=>⟨e,c',x,al,k,?_,h2⟩,fun ⟨e,c',x,al,k,h1,h2⟩=>⟨e,c',x,al,k,by omega,h2⟩⟩;rcases Nat.lt_or_ge c' c0 with h3 | h3
  ·exact h3
  ·obtain rfl:c'=c0:=by omega
   exact absurd h2.1 hno
theorem pm_pi (h:Tab N n bs (PM m f A t c0)):Tab N n bs (PI m f A x all t c0 (dq m x f all (decN m c0)).1):=by
 refine h.congr fun i c _ _=>?_;unfold PM PI;by_cases e:i≤t
 ·rw [if_pos e,if_pos e]
 ·rw [if_neg e,if_neg e]
  refine ⟨fun ⟨e,h⟩=>⟨e,?_⟩,fun ⟨e,h⟩=>⟨e,.inl h⟩⟩
  rcases h with h | ⟨k,h1,h2,_⟩
  ·exact h
  ·omega
theorem pi_pm {k0:Int}(hf:Fwd m f A t (decN m c0))(hx:m.acts[t]? =some x)(ha:A[t]? =some all)(hk:(dq m x f all (decN m c0)).2<k0)(h:Tab N n bs (PI m f A x all t c0 k0))(hk2:k0≤(dq m x f all (decN m c0)).2+1∨k0=(dq m x f all (decN m c0)).1):Tab N n bs (PM m f A t (c0+1)):=by
 refine h.congr fun i c _ _=>?_;unfold PM PI;by_cases e:i≤t
 ·rw [if_pos e,if_pos e]
 ·rw [if_neg e,if_neg e]
  constructor
  ·rintro ⟨e,c',x',al,k,h1,h2,h3,h4,h5⟩
   refine ⟨e,?_⟩;rcases Nat.lt_or_ge c' c0 with h6 | h6
   ·exact .inl ⟨c',x',al,k,h6,h2,h3,h4,h5⟩
   ·obtain rfl:c'=c0:=by omega
    rw [hx] at h3;cases h3;rw [ha] at h4;cases h4;exact .inr ⟨k,h5.1,by omega,h5.2.2⟩
  ·rintro ⟨e,h | ⟨k,h1,h2,h3⟩⟩
   ·obtain ⟨c',x',al,k,h1,h2⟩:=h
    exact ⟨e,c',x',al,k,by omega,h2⟩
   ·exact ⟨e,c0,x,all,k,by omega,hf,hx,ha,h1,by omega,h3⟩
theorem pi_no {k0:Int}(hno:cW m f (t+1) (dw m x (decN m c0) k0)=false)(h:Tab N n bs (PI m f A x all t c0 k0)):Tab N n bs (PI m f A x all t c0 (k0+1)):=by
 refine h.congr fun i c _ _=>?_;unfold PI;by_cases e:i≤t
 ·rw [if_pos e,if_pos e]
 ·rw [if_neg e,if_neg e]
  refine ⟨fun ⟨e,h⟩=>⟨e,h.imp id ?_⟩,fun ⟨e,h⟩=>⟨e,h.imp id fun ⟨k,h1,h2,h3⟩=>⟨k,h1,by omega,h3⟩⟩⟩;rintro ⟨k,h1,h2,h3,h4⟩;refine ⟨k,h1,?_,h3,h4⟩;rcases Int.lt_or_le k k0 with h5 | h5
  ·exact h5
  ·obtain rfl:k=k0:=by omega
   rw [h3,hno] at h4;cases h4
theorem tz {k0:Int}(hok:cu m=true)(hN:dD (zsM m)=(N:Int))(hl:(dq m x f all (decN m c0)).1≤k0){d:Nat}(hd:decN m d=dw m x (decN m c0) k0)(hdN:d<N)(hyes:cW m f (t+1) (dw m x (decN m c0) k0)=true){r:List Bool}(hr:bs[t+1]? =some r)
  (h:Tab N n bs (PI m f A x all t c0 k0)):Tab N n (bs.set (t+1) (r.set d true)) (PI m f A x all t c0 (k0+1)):=by
 refine h.put hr ?_ fun i c hi hc hne=>?_
 ·unfold PI
  rw [if_neg (by omega)];exact ⟨fun _=>⟨rfl,.inr ⟨k0,hl,by omega,hd,by rw [hd];exact hyes⟩⟩,fun _=>rfl⟩
 ·unfold PI
  by_cases e:i≤t
  ·rw [if_pos e,if_pos e]
  ·rw [if_neg e,if_neg e]
   refine ⟨fun ⟨e,h⟩=>⟨e,h.imp id ?_⟩,fun ⟨e,h⟩=>⟨e,h.imp id fun ⟨k,h1,h2,h3⟩=>⟨k,h1,by omega,h3⟩⟩⟩;rintro ⟨k,h1,h2,h3,h4⟩;refine ⟨k,h1,?_,h3,h4⟩;rcases Int.lt_or_le k k0 with h5 | h5
   ·exact h5
   ·obtain rfl:k=k0:=by omega
    rw [← hd] at h3;have:=pn hok hN hc hdN h3;rcases hne with h | h
    ·exact absurd e h
    ·exact absurd this h
theorem pm_pf (hok:cu m=true)(hA:allM m m.acts=some A)(hN:dD (zsM m)=(N:Int))(hx:m.acts[t]? =some x)(ha:A[t]? =some all)(hao:gv m all x)(h:Tab N n bs (PM m f A t N)):Tab N n bs (PF m f A (t+1)):=by
 refine h.congr fun i c _ hc=>?_;unfold PM PF;by_cases e:i≤t
 ·rw [if_pos e]
  exact ⟨fun h=>h.2,fun h=>⟨by omega,h⟩⟩
 ·rw [if_neg e]
  constructor
  ·rintro ⟨e1,h⟩
   obtain rfl:i=t+1:=by omega
   refine ⟨rfl,?_⟩;obtain ⟨⟨c',k,h1,h2,h3,h4,h5⟩,h6⟩:=(m8 hok hA hx ha hao _).1 h;refine ⟨c'.toNat,x,all,k,by omega,?_,hx,ha,?_⟩
   ·unfold decN;rw [Int.toNat_of_nonneg h1.1];exact h2
   ·unfold decN at h5 h6 ⊢;rw [Int.toNat_of_nonneg h1.1];exact ⟨h3,h4,h5,h6⟩
  ·rintro ⟨e1,c',x',al,k,h1,h2,h3,h4,h5⟩
   subst e1;rw [hx] at h3;cases h3;rw [ha] at h4;cases h4;exact ⟨n_R,(m8 hok hA hx ha hao _).2 ⟨⟨(c':Int),k,by omega,h2,h5.1,h5.2.1,h5.2.2.1⟩,h5.2.2.2⟩⟩
theorem pf_qo (h:Tab N n bs (PF m f A m.acts.length))(hn:n=m.acts.length+1):Tab N n bs (QO m f A m.acts.length):=by
 refine h.congr fun i c hi _=>?_;unfold PF QO;by_cases e:m.acts.length≤i
 ·obtain rfl:i=m.acts.length:=by omega
  rw [if_pos e,pV];exact ⟨fun h=>⟨e,h⟩,fun h=>h.2⟩
 ·rw [if_neg e]
  exact ⟨fun h=>⟨by omega,h⟩,fun h=>h.2⟩
theorem qo_qm (h:Tab N n bs (QO m f A (t+1))):Tab N n bs (QM m f A t 0):=by
 refine h.congr fun i c _ _=>?_;unfold QO QM;by_cases e:t+1≤i
 ·rw [if_pos e,if_pos (.inl e)]
 ·rw [if_neg e,if_neg (by omega)]
theorem qm_qo (h:Tab N n bs (QM m f A t N)):Tab N n bs (QO m f A t):=by
 refine h.congr fun i c _ hc=>?_;unfold QO QM;by_cases e:t≤i
 ·rw [if_pos e,if_pos (by omega)]
 ·rw [if_neg e,if_neg (by omega)]
theorem sC (h:Tab N n bs (QM m f A t c0))(hno:¬ Fwd m f A t (decN m c0)):Tab N n bs (QM m f A t (c0+1)):=by
 refine h.congr fun i c _ _=>?_;unfold QM;by_cases e:t<i∨i=t∧c<c0
 ·rw [if_pos e,if_pos (by omega)]
 ·rw [if_neg e]
  by_cases e2:i=t∧c=c0
  ·obtain ⟨rfl,rfl⟩:=e2
   rw [if_pos (by omega)];exact ⟨fun h=>absurd (Fin.fwd h) hno,fun h=>absurd h hno⟩
  ·rw [if_neg (by omega)]
theorem ts {r:List Bool}{b:Bool}(hr:bs[t]? =some r)(hb:b=true↔cD m f A t (decN m c0))(h:Tab N n bs (QM m f A t c0)):Tab N n (bs.set t (r.set c0 b)) (QM m f A t (c0+1)):=by
 refine h.put hr ?_ fun i c hi hc hne=>?_
 ·unfold QM
  rw [if_pos (by omega)];exact hb
 ·unfold QM
  by_cases e:t<i∨i=t∧c<c0
  ·rw [if_pos e,if_pos (by omega)]
  ·rw [if_neg e,if_neg (by omega)]
theorem PM.now {c:Nat}:PM m f A t c0 t c↔Fwd m f A t (decN m c):=by
 unfold PM;rw [if_pos n_R]
theorem QM.now:QM m f A t c0 t c0↔Fwd m f A t (decN m c0):=by
 unfold QM;rw [if_neg (by omega)]
theorem QM.next {c:Nat}:QM m f A t c0 (t+1) c↔cD m f A (t+1) (decN m c):=by
 unfold QM;rw [if_pos (by omega)]
theorem kt (hok:cu m=true)(hA:allM m m.acts=some A)(hN:dD (zsM m)=(N:Int))(hx:m.acts[t]? =some x)(ha:A[t]? =some all){k:Int}(h:Fwd m f A t (decN m c0))(h4:(dq m x f all (decN m c0)).1≤k)(h5:k≤(dq m x f all (decN m c0)).2) :
  eq m (dw m x (decN m c0) k)∧∃ d:Nat,eV m (dw m x (decN m c0) k)=(d:Int)∧d<N∧decN m d=dw m x (decN m c0) k:=by
 have hf:=oq hok hA hx ha h h4 h5;have hv:=(cI hok).1;have hc:=iR hf.1 hv;refine ⟨hf.1,(eV m (dw m x (decN m c0) k)).toNat,by omega,by omega,?_⟩
 show decH m ((eV m (dw m x (decN m c0) k)).toNat:Int)=_
 rw [Int.toNat_of_nonneg hc.1];exact hQ hf.1 hv hf.2
def LdTo (m:Mix)(f:Int)(A:List Held)(x:MAct)(all:Held)(t:Nat)(s:Held)(k0:Int):Prop:=∃ k:Int,(dq m x f all s).1≤k∧k<k0∧cD m f A (t+1) (dw m x s k)
theorem LdTo.zero {s:Held}:¬ LdTo m f A x all t s (dq m x f all s).1:=fun ⟨k,h1,h2,_⟩=>by omega
theorem LdTo.step {s:Held}{k0:Int}(hl:(dq m x f all s).1≤k0):LdTo m f A x all t s (k0+1)↔LdTo m f A x all t s k0∨cD m f A (t+1) (dw m x s k0):=by
 constructor
 ·rintro ⟨k,h1,h2,h3⟩
  rcases Int.lt_or_le k k0 with h5 | h5
  ·exact .inl ⟨k,h1,h5,h3⟩
  ·obtain rfl:k=k0:=by omega
   exact .inr h3
 ·rintro (⟨k,h1,h2,h3⟩ | h)
  ·exact ⟨k,h1,by omega,h3⟩
  ·exact ⟨k0,hl,by omega,h⟩
theorem LdTo.fin {s:Held}{k0:Int}(hok:cu m=true)(hA:allM m m.acts=some A)(hx:m.acts[t]? =some x)(ha:A[t]? =some all)(hao:gv m all x)(hf:Fwd m f A t s)(hk:(dq m x f all s).2<k0)(hk2:k0≤(dq m x f all s).2+1∨k0=(dq m x f all s).1):LdTo m f A x all t s k0↔cD m f A t s:=by
 rw [oK hok hA hx ha hao];constructor
 ·rintro ⟨k,h1,h2,h3⟩
  exact ⟨hf,k,h1,by omega,h3⟩
 ·rintro ⟨_,k,h1,h2,h3⟩
  exact ⟨k,h1,by omega,h3⟩
end
end
section
def gm (P:Int→Prop)(s:Int × Int):Prop:=((∀ n,¬ P n)∧s=(0,-1))∨fw P s
section
variable {P P':Int→Prop} {s:Int × Int} {k:Int}
theorem gm.keep (h:gm P s)(e:∀ n,P' n↔P n):gm P' s:=by
 rcases h with ⟨h,rfl⟩ | h
 ·exact .inl ⟨fun n hn=>h n ((e n).1 hn),rfl⟩
 ·exact .inr (h.congr fun n=>(e n).symm)
theorem gm.add (h:gm P s)(h0:∀ n,P n→0≤n)(hk:0≤k)(e:∀ n,P' n↔P n∨n=k):gm P' (iQ s k):=by
 right
 unfold iQ;rcases h with ⟨h,rfl⟩ | h
 ·rw [if_pos (by decide)]
  exact ⟨(e _).2 (.inr rfl),(e _).2 (.inr rfl),fun n hn=>by
   rcases (e n).1 hn with h1 | h1
   ·exact absurd h1 (h n)
   ·dsimp only;omega⟩
 ·have h2:=h0 _ h.2.1
  rw [if_neg (by omega)];refine ⟨?_,?_,fun n hn=>?_⟩
  ·dsimp only
   rcases Int.le_total s.1 k with e1 | e1
   ·rw [Int.min_eq_left e1];exact (e _).2 (.inl h.1)
   ·rw [Int.min_eq_right e1];exact (e _).2 (.inr rfl)
  ·dsimp only
   rcases Int.le_total s.2 k with e1 | e1
   ·rw [Int.max_eq_right e1];exact (e _).2 (.inr rfl)
   ·rw [Int.max_eq_left e1];exact (e _).2 (.inl h.2.1)
  ·dsimp only
   rcases (e n).1 hn with h1 | h1
   ·have:=h.2.2 n h1
    omega
   ·omega
theorem gm.all (h:gm P s)(hn:∃ n,P n):fw P s:=by
 rcases h with ⟨h,_⟩ | h
 ·obtain ⟨n,hn⟩:=hn
  exact absurd hn (h n)
 ·exact h
end
section
variable {m:Mix} {f:Int} {A:List Held} {x:MAct} {all s:Held} {t c0 N q:Nat}
theorem o6 (hok:cu m=true)(hA:allM m m.acts=some A)(hN:dD (zsM m)=(N:Int))(ht:t≤m.acts.length)(h:cD m f A t s):∃ c:Nat,c<N∧decN m c=s:=by
 have h1:=qS hok hA (Fin.fwd h) ht;refine ⟨(eV m s).toNat,by omega,?_⟩
 show decH m ((eV m s).toNat:Int)=s
 rw [Int.toNat_of_nonneg h1.1.1,h1.2]
def OfN (m:Mix)(f:Int)(A:List Held)(t q c0:Nat)(n:Int):Prop:=∃ c:Nat,c<c0∧cD m f A t (decN m c)∧au (decN m c) (q:Int)=n
theorem rJ {n:Int}:¬ OfN m f A t q 0 n:=fun ⟨_,h,_⟩=>absurd h (Nat.not_lt_zero _)
theorem sx (hno:¬ cD m f A t (decN m c0))(n:Int):OfN m f A t q (c0+1) n↔OfN m f A t q c0 n:=by
 refine ⟨fun ⟨c,h1,h2⟩=>⟨c,?_,h2⟩,fun ⟨c,h1,h2⟩=>⟨c,by omega,h2⟩⟩;rcases Nat.lt_or_ge c c0 with h | h
 ·exact h
 ·obtain rfl:c=c0:=by omega
  exact absurd h2.1 hno
theorem sA (h:cD m f A t (decN m c0))(n:Int):OfN m f A t q (c0+1) n↔OfN m f A t q c0 n∨n=au (decN m c0) (q:Int):=by
 constructor
 ·rintro ⟨c,h1,h2⟩
  rcases Nat.lt_or_ge c c0 with h3 | h3
  ·exact .inl ⟨c,h3,h2⟩
  ·obtain rfl:c=c0:=by omega
   exact .inr h2.2.symm
 ·rintro (⟨c,h1,h2⟩ | rfl)
  ·exact ⟨c,by omega,h2⟩
  ·exact ⟨c0,by omega,h,rfl⟩
theorem of_bd (hok:cu m=true)(hq:q<m.vessels.length){n:Int}(h:OfN m f A t q c0 n):0≤n∧n≤12:=by
 obtain ⟨c,_,_,rfl⟩:=h;have h1:=(jB (c:=(c:Int)) (dh hok) (cI hok).1 (by omega)).2 q _ (List.getElem?_eq_getElem hq);have h2:=dh hok _ (List.getElem_mem hq);unfold decN;omega
theorem tx (hok:cu m=true)(c:Nat)(i:Nat)(hi:i<4):0≤au (decN m c) (i:Int)∧au (decN m c) (i:Int)≤12:=by
 have hv:=(cI hok).1;unfold decN;by_cases hq:i<m.vessels.length
 ·have h1:=(jB (c:=(c:Int)) (dh hok) hv (by omega)).2 i _ (List.getElem?_eq_getElem hq)
  have h2:=dh hok _ (List.getElem_mem hq);omega
 ·have h1:=(jX (kv hv) hv).1 (pL (c:=(c:Int)) hv) i (by omega) hi
  omega
theorem tL (hok:cu m=true)(hA:allM m m.acts=some A)(hN:dD (zsM m)=(N:Int)){v:Int}(hv:idxV m.vessels v=(q:Int))(ht:t≤m.acts.length)(n:Int):OfN m f A t q N n↔OfP m v (t:Int) f A n:=by
 unfold OfP;rw [Int.toNat_natCast,hv];constructor
 ·rintro ⟨c,_,h1,h2⟩
  exact ⟨_,h1,h2⟩
 ·rintro ⟨s,h1,h2⟩
  obtain ⟨c,hc,rfl⟩:=o6 hok hA hN ht h1;exact ⟨c,hc,h1,h2⟩
theorem sE (h:cD m f A 0 cQ){v:Int}(ht:t≤m.acts.length):∃ n,OfP m v (t:Int) f A n:=by
 obtain ⟨s,hs⟩:=jm h ht;exact ⟨_,s,by rw [Int.toNat_natCast];exact hs,rfl⟩
theorem nD (hok:cu m=true)(hA:allM m m.acts=some A)(hx:m.acts[t]? =some x)(ha:A[t]? =some all)(h:Fwd m f A t s):0≤(dq m x f all s).1∧(∀ k,(dq m x f all s).1≤k→k≤(dq m x f all s).2→0≤k∧k≤cZ m all x):=by
 have hv:=(cI hok).1;obtain ⟨hao,hn⟩:=mQ hA hv hx ha;have hf:=dK hA hv h ha;refine ⟨?_,fun k h1 h2=>?_⟩
 ·unfold dq
  by_cases h1:x.kind=1
  ·rw [if_pos h1]
   split
   ·have:=hao.size.1 h1
    dsimp only;omega
   ·decide
  ·rw [if_neg h1]
   split
   ·have h3:=hao.from_ h1
    have h4:=df h3;have h5:=hf.le (idxV m.vessels x.fr).toNat (by omega);rw [Int.toNat_of_nonneg h3] at h5;exact h5.1
   ·dsimp only;omega
 ·rw [← eN hao hf hv] at h1 h2
  have:=fy hao hf hv ⟨h1,h2⟩;exact ⟨this.1,this.2.1⟩
end
end
section
open Go.RowKit Go.Shelf
theorem fD {F:Fence}{nn:Nat}{P:Program}{w:World}{ops:Array Oper}{rest:List Oper}{o:Oper}{a:Act}{Q:Exit→Act→World→Prop}(hgd:o.guard=none)(l c:Operand)(t:TypeId)(ho:o.op = .makeSlice t l c)
  (e:TypeId) (i:TypeInfo) (z:Value) (h1:P.underlying t=some (.slice e)) (h2:P.info? e=some i) (h3:i.zero=some z) (n:Nat) (hl:a.eval l = .int .i64 n) (hc:a.eval c = .int .i64 n) (hb:i.bytes * n≤140737488355328) (hn:n≤maxLen)
  (h:wpListIn F nn P ops Q rest (a.put o.dst (.slice (some ⟨w.heap.size,0,none⟩) n n)) (w.alloc (.cells (madeCells z.cells (n * i.size)) e))) :
  wpListIn F nn P ops Q (o::rest) a w:=by
 have h63':(n:Int)≤9223372036854775807:=by
  have h:=hn;simp [maxLen] at h;omega
 have hb':(i.bytes:Int) * (n:Int)≤281474976710656:=by
  rw [← Int.natCast_mul];omega
 refine wpListIn_plain hgd fun K hK=>?_;have hr:=run_make (P:=P) w t e i z h1 h2 h3 .i64 .i64 n n (by omega) (Int.le_refl _) hb' h63';simp only [Int.toNat_natCast] at hr;unfold Oper.wpIn;refine ⟨?_,?_⟩
 ·simp [Oper.about,ho]
 ·rw [Oper.semAt_plain F _ _ (by rw [ho];intro c hc';cases hc')]
  simp [execOp,ho,hl,hc,hr,Result.andThen];exact hK _ _ h
theorem iN (v:Value)(n:Nat):madeCells #[v] (n * 1)=(List.replicate n v).toArray:=by
 unfold madeCells;rw [Nat.mul_one];refine Array.ext (by simp) fun i h1 h2=>?_;simp [Nat.mod_one]
end
end Go.Proofs.YthofngceiecniaaGreat
