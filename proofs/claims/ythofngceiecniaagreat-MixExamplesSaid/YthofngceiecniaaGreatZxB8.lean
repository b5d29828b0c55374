/- Part 8 of the texts of this claim, joined. -/
import Derived.Sort.CutIn
import Derived.Test.YthofngceiecniaaGreatZxB7
set_option linter.unusedVariables false
/- mix.asked. -/
namespace Go.Proofs.YthofngceiecniaaGreat
set_option maxHeartbeats 16000000
set_option maxRecDepth 100000
section
open Go.RowKit
def uW (w:World)(m:Mix)(vessel after fountain:Int)(e:Ending)(w':World):Prop :=
 ∃ p s1 s2 ee,e = .returned (.tuple #[.pointer p,.agg #[.int .i64 s1,.int .i64 s2],.int .i64 ee])∧Below w.heap.size w w'∧((askM m vessel after [fountain]≠0∧ee=askM m vessel after [fountain])∨(askM m vessel after [fountain]=0∧∃ T:Tb,T.m=m∧TbOk T ∧
  ((ee=8∧¬ eN m fountain T.L 0 fh)∨(ee=0∧eN m fountain T.L 0 fh∧∃ gU A n c rs ms,∃ q k:Nat,p=some ⟨gU,0,none⟩∧s1=(q:Int)∧s2=(k:Int)∧q<4∧(q:Int)=idxV m.vessels vessel∧(k:Int)=after∧k≤m.acts.length∧TrAt w' gU T fountain A n c rs ms∧n=m.acts.length+1∧∀ (i:Nat) (mi:List (D4 × Bool)),ms[i]? =some mi→fo mi (eN m fountain T.L i)))))
theorem qA (Av:Option Addr)(nv cv:Nat)(Aa:Option Addr)(na ca:Nat)(At:Option Addr)(nt ct:Nat)(m:Mix)(vessel after fountain:Int)(w:World)(h:MixS w Av nv Aa na At nt m) :
  CallsIn Fence.wide 9 Tryz.prog 63 #[.agg #[.int .i64 m.fountains,.slice Av nv cv,.slice Aa na ca,.slice At nt ct],.int .i64 vessel,.int .i64 after,.int .i64 fountain] w (uW w m vessel after fountain):=by
 have HM:=lh h;clear h;refine callsIn_of_wp Tryz.func63 rfl trivial ?_ rfl;simp only [Tryz.ntmps63,es,Nat.reduceAdd,Nat.reduceSub];gi_upto_region 1 with fail
 have Ly:=lh (Lay.two w 26 #[.int .i64 m.fountains,.slice Av nv cv,.slice Aa na ca,.slice At nt ct] 109 #[.int .i64 0,.int .i64 0]);generalize ((w.alloc (.cells #[.int .i64 m.fountains,.slice Av nv cv,.slice Aa na ca,.slice At nt ct] 26)).alloc (.cells #[.int .i64 0,.int .i64 0] 109))=w0 at *;have HG0:=lh (Ly.out.lt 1 rfl);have HB0:=lh Ly.out.1.size;obtain ⟨x0_0,x0_1,x0_2,x0_3⟩:=lyc4 Ly 0 rfl;have l0_:=Ly.out.lt 0 rfl;gi_wp2;clear x0_0 x0_1 x0_2 x0_3 l0_;have Y:=du.new w0 3 [fountain] (w0.heap.size+1) (by omega);have hb1:Below w0.heap.size w0 (w0.alloc (.cells #[.int .i64 fountain] 3)):=b_R.alloc n_R _;have hc:=jC Av nv cv Aa na ca At nt ct m vessel after (some ⟨w0.heap.size,0,none⟩) 1 1 [fountain] _ (HM.out.up (Ly.out.1.trans (hb1.mono Ly.out.1.size))) (Y.more (by simp)) (by decide);have hz1:w0.heap.size≤(w0.alloc (.cells #[.int .i64 fountain] 3)).heap.size:=by simp
 have HZ1:=lh hz1;refine ⟨trivial,(c_W hc).mono ?_⟩;clear hc Y hz1;generalize (w0.alloc (.cells #[.int .i64 fountain] 3))=W00 at *;rintro e W8 ⟨pp,s1,s2,rfl,hb,hp⟩;have HP:=lh hp;have hbb:=hb1.trans (hb.mono hb1.size);clear hb hb1 hp;replace Ly:=lyb Ly hbb;clear hbb
 obtain ⟨ee,hee⟩:∃ ee,askM m vessel after [fountain]=ee:=⟨_,rfl⟩
 rw [hee] at HP ⊢;have HEE:=lh hee;clear hee;by_cases h0:ee=0
 ·
  obtain ⟨hk,h1,h2,h3,h4,T,rfl,hTm,hTL,hTg,hT,hMX⟩:=HP.out h0;have HMX:=lh hMX;subst h0;subst h2
  obtain ⟨q,hq⟩:∃ q:Nat,s1=q:=⟨s1.toNat,by omega⟩
  subst hq
  obtain ⟨k,hkk⟩:∃ k:Nat,s2=k:=⟨s2.toNat,by omega⟩
  subst hkk;have hv4:=(fj hk).1;have HQ:Hid (q<4∧(q:Int)=idxV m.vessels vessel∧k≤m.acts.length):=lh ⟨by have:=gH (l:=m.vessels) (id:=vessel) (by omega);omega,h1,by omega⟩;have HOK:Hid (TbOk T):=lh ⟨by rw [hTm];exact hk,by rw [hTm];exact hTL⟩;have HTM:=lh hTm;have HT:=lh hT;clear HP hk h1 h3 h4 hTm hTL hTg hT hv4 hMX;gi_upto_region 2 with fail
  obtain ⟨V1,hV⟩:∃ V,(W8.alloc (.cells #[.int .i64 (q:Int),.int .i64 (k:Int)] 109))=V:=⟨_,rfl⟩
  rw [hV];have hb:=eS hV;have hnew:=eT hV;have hge:=Ly.out.bel.size;replace Ly:=lyb Ly hb;replace HT:=lh (HT.out.below hb);replace Ly:=lh (Ly.out.add hge hnew);clear hnew hge hb hV
  obtain ⟨G2,hG⟩:∃ g,W8.heap.size=g:=⟨_,rfl⟩
  rw [hG] at Ly ⊢;clear hG;replace Ly:=lh (show Lay w V1 [(w.heap.size,26,#[.int .i64 m.fountains,.slice Av nv cv,.slice Aa na ca,.slice At nt ct]),(w.heap.size+1,109,#[.int .i64 0,.int .i64 0]),(G2,109,#[.int .i64 (q:Int),.int .i64 (k:Int)])] from Ly.out);gi_wp2;have HTW:=lh HT.out;have HTD:=lh HT.out.at_;refine ⟨trivial,(c_W (m5 T fountain V1 HTD.out HOK.out)).mono ?_⟩;rintro e W3 ⟨gU,b,A,n,c,rs,ms,rfl,hb,htr,hn,hcan,hb0⟩;have HTR:=lh htr;have HN:=lh hn;have HCN:=lh hcan;have HBB:=lh hb0;clear htr hn hcan hb0;replace Ly:=lyb Ly hb;replace HT:=lh (HT.out.below hb);clear hb
  cases b with
  | false =>
   have x1_0:=lyc Ly 1 rfl 0;have z1_0:=lyf Ly 1 rfl 0;have x1_1:=lyc Ly 1 rfl 1;have z1_1:=lyf Ly 1 rfl 1;have l1_:=Ly.out.lt 1 rfl;obtain ⟨x2_0,x2_1⟩:=lyc2 Ly 2 rfl;have l2_:=Ly.out.lt 2 rfl;gi_wp2
   gi_region
   all_goals gi_wp2
   all_goals
    have R2:=ret2' (Ly.out.blk 1 rfl) Ly.out.1 (Ly.out.ge 1 rfl) (.int .i64 ((q:Int))) (.int .i64 ((k:Int)));have v0:=R2.1.cell 0;have v1:=R2.1.cell 1;refine bodyPost_ret (v:=.tuple #[.pointer none,.agg #[.int .i64 ((q:Int)),.int .i64 ((k:Int))],.int .i64 (8)]) (by simp [results,Tryz.results63,go_sem,v0,v1]) rfl ?_;exact ⟨_,_,_,_,rfl,av R2.2.1 1,.inr ⟨HEE.out,T,HTM.out,HOK.out,.inl ⟨rfl,fun h=>by have:=HBB.out;rw [HTM.out] at this;have:=this.2 h;cases this⟩⟩⟩
  | true =>
   have hg1:w.heap.size+1<V1.heap.size:=by have:=Ly.out.lt 1 rfl;have:=HG0.out;have:=HTW.out.le.1;have:=HZ1.out;omega
   have HG1:=lh hg1;clear hg1;have x1_0:=lyc Ly 1 rfl 0;have z1_0:=lyf Ly 1 rfl 0;have x1_1:=lyc Ly 1 rfl 1;have z1_1:=lyf Ly 1 rfl 1;have l1_:=Ly.out.lt 1 rfl;obtain ⟨x2_0,x2_1⟩:=lyc2 Ly 2 rfl;have l2_:=Ly.out.lt 2 rfl;gi_wp2
   gi_region
   all_goals gi_wp2
   all_goals
    have R2:=ret2' (Ly.out.blk 1 rfl) Ly.out.1 (Ly.out.ge 1 rfl) (.int .i64 ((q:Int))) (.int .i64 ((k:Int)));have v0:=R2.1.cell 0;have v1:=R2.1.cell 1;refine bodyPost_ret (v:=.tuple #[.pointer (some ⟨gU,0,none⟩),.agg #[.int .i64 ((q:Int)),.int .i64 ((k:Int))],.int .i64 (0)]) (by simp [results,Tryz.results63,go_sem,v0,v1]) rfl ?_;have hTb:=HT.out.off R2.2.2 (Nat.lt_of_lt_of_le HG0.out HZ1.out) (Nat.le_trans HB0.out HZ1.out) (HMX.out.1 _ _ (HM.out.at_.below R2.2.1));have hTr:=((HTR.out.off R2.2.2 HG1.out (Ly.out.blk 1 rfl)).at_ hTb.at_).below (av b_R 1);refine ⟨_,_,_,_,rfl,av R2.2.1 1,.inr ⟨HEE.out,T,HTM.out,HOK.out,.inr ⟨rfl,by have:=HBB.out;rw [HTM.out] at this;simpa using this,gU,A,n,c,rs,ms,q,k,rfl,rfl,rfl,HQ.out.1,HQ.out.2.1,rfl,HQ.out.2.2,hTr,by rw [← HTM.out];exact HN.out,fun i mi hi=>by rw [← HTM.out];exact HCN.out i mi hi⟩⟩⟩
 ·
  have h0b:(ee==0)=false:=by simpa using h0
  have h0c:(ee != 0)=true:=by simpa using h0
  have HE0:=lh h0;clear h0 HP;gi_upto_region 2 with fail
  obtain ⟨V4,hV⟩:∃ V,(W8.alloc (.cells #[.int .i64 s1,.int .i64 s2] 109))=V:=⟨_,rfl⟩
  rw [hV];have hb:=eS hV;have hnew:=eT hV;have hge:=Ly.out.bel.size;replace Ly:=lyb Ly hb;replace Ly:=lh (Ly.out.add hge hnew);clear hnew hge hb hV
  obtain ⟨G5,hG⟩:∃ g,W8.heap.size=g:=⟨_,rfl⟩
  rw [hG] at Ly ⊢;clear hG;replace Ly:=lh (show Lay w V4 [(w.heap.size,26,#[.int .i64 m.fountains,.slice Av nv cv,.slice Aa na ca,.slice At nt ct]),(w.heap.size+1,109,#[.int .i64 0,.int .i64 0]),(G5,109,#[.int .i64 s1,.int .i64 s2])] from Ly.out);have x1_0:=lyc Ly 1 rfl 0;have z1_0:=lyf Ly 1 rfl 0;have x1_1:=lyc Ly 1 rfl 1;have z1_1:=lyf Ly 1 rfl 1;have l1_:=Ly.out.lt 1 rfl;obtain ⟨x2_0,x2_1⟩:=lyc2 Ly 2 rfl;have l2_:=Ly.out.lt 2 rfl;gi_wp2
  gi_region
  all_goals gi_wp2
  all_goals
   have R2:=ret2' (Ly.out.blk 1 rfl) Ly.out.1 (Ly.out.ge 1 rfl) (.int .i64 (s1)) (.int .i64 (s2));have v0:=R2.1.cell 0;have v1:=R2.1.cell 1;refine bodyPost_ret (v:=.tuple #[.pointer none,.agg #[.int .i64 (s1),.int .i64 (s2)],.int .i64 (ee)]) (by simp [results,Tryz.results63,go_sem,v0,v1]) rfl ?_;exact ⟨_,_,_,_,rfl,av R2.2.1 1,.inl ⟨by rw [HEE.out];exact HE0.out,HEE.out.symm⟩⟩
end
section
open Go.RowKit
theorem pC:∀ {a b:List Nat},a.Nodup→(∀ x∈a,x∈b)→a.length≤b.length
 | [],_,_,_=>by simp
 | x::a,b,h,hs=>by
  rw [List.nodup_cons] at h;have hb:x∈b:=hs x (by simp);have:=pC (a:=a) (b:=b.erase x) h.2 (fun y hy=>(List.mem_erase_of_ne (fun e=>h.1 (by rw [← e];exact hy))).2 (hs y (by simp [hy])));rw [List.length_erase_of_mem hb] at this;have h0:0<b.length:=List.length_pos_of_mem hb;simp;omega
def D4.num (x:D4):Nat:=x.a.toNat+13 * x.b.toNat+169 * x.c.toNat+2197 * x.d.toNat
theorem s4 {m:List (D4 × Bool)}(hn:(m.map Prod.fst).Nodup)(h:∀ p∈m,(0≤p.1.a∧p.1.a≤12)∧(0≤p.1.b∧p.1.b≤12)∧(0≤p.1.c∧p.1.c≤12)∧(0≤p.1.d∧p.1.d≤12)):m.length≤28561:=by
 have h1:(m.map fun p=>p.1.num).Nodup:=by
  rw [List.Nodup,List.pairwise_map] at hn ⊢;refine hn.imp_of_mem fun {p q} hp hq hne e=>hne ?_;have a:=h p hp;have b:=h q hq;obtain ⟨⟨x1,x2,x3,x4⟩,_⟩:=p;obtain ⟨⟨y1,y2,y3,y4⟩,_⟩:=q;unfold D4.num at e;dsimp only at a b e ⊢
  congr 1<;>omega
 have h2:=pC (b:=List.range 28561) h1 (fun x hx=>by
  obtain ⟨p,hp,rfl⟩:=List.mem_map.1 hx;have a:=h p hp;unfold D4.num;rw [List.mem_range]
  omega)
 simpa using h2
theorem pg {m:Mix}{f:Int}{T:Tb}{k r:Nat}{W:World}{mk:List (D4 × Bool)}(hTm:T.m=m)(hok:TbOk T)(hk:k≤m.acts.length)(hm:fL W r mk)(hc:fo mk (eN m f T.L k)):mk.length≤1000000:=by
 subst hTm;have hL:k<T.L.length:=by have:=hok.long;omega
 have hr:=gX hok.all hok.vess (hZ hok.ok) (List.getElem?_eq_getElem hL)
 have:=s4 (eZ.nodup kl hm) (fun p hp=>by
  have h1:=(hc.keys p.1).1 ⟨p.2,hp⟩;have h2:=h1.fits hok.all hok.vess (List.getElem?_eq_getElem hL);have a0:=h2.le 0 (by decide);have a1:=h2.le 1 (by decide);have a2:=h2.le 2 (by decide);have a3:=h2.le 3 (by decide);have b0:=hr.2 0;have b1:=hr.2 1;have b2:=hr.2 2;have b3:=hr.2 3;have e0:au p.1.toH (0:Nat)=p.1.a:=rfl;have e1:au p.1.toH (1:Nat)=p.1.b:=rfl;have e2:au p.1.toH (2:Nat)=p.1.c:=rfl;have e3:au p.1.toH (3:Nat)=p.1.d:=rfl
  omega)
 omega
theorem sV {m:Mix}{f vessel after:Int}{T:Tb}{q k:Nat}(hTm:T.m=m)(hok:TbOk T)(hqi:(q:Int)=idxV m.vessels vessel)(hka:(k:Int)=after)(hk:k≤m.acts.length):∀ n,OfQ (eN m f T.L k) q n↔OfP m vessel after f T.L n:=fun n=>by
 subst hTm;unfold OfQ OfP;rw [← hqi,← hka,Int.toNat_natCast];have hL:k<T.L.length:=by have:=hok.long;omega
 constructor
 ·rintro ⟨x,h1,h2⟩;exact ⟨_,h1,h2⟩
 ·rintro ⟨x,h1,h2⟩
  have e:=iE (h1.fits hok.all hok.vess (List.getElem?_eq_getElem hL)).lh;exact ⟨ofH x,by rw [e];exact h1,by rw [e];exact h2⟩
theorem qq {m:Mix}{f:Int}{T:Tb}{q k:Nat}(hTm:T.m=m)(hok:TbOk T)(ht:eN m f T.L 0 fh)(hk:k≤m.acts.length):∃ n,OfQ (eN m f T.L k) q n:=by
 subst hTm;have hL:k<T.L.length:=by have:=hok.long;omega
 obtain ⟨s,hs⟩:=kF ht hk;have e:=iE (hs.fits hok.all hok.vess (List.getElem?_eq_getElem hL)).lh;exact ⟨_,ofH s,by rw [e];exact hs,rfl⟩
theorem vT {m:Mix}{vessel after:Int}{fs:List Int}(h:askM m vessel after fs=0):askM m vessel after []=0:=by
 unfold askM at h ⊢
 split at h
 ·rename_i h1
  rw [if_pos h1]
  split at h
  ·cases h
  ·rename_i h2
   rw [if_neg h2]
   split at h
   ·rename_i h3
    rw [if_pos ⟨h3.1,fun f hf=>by cases hf⟩]
   ·cases h
 ·cases h
def uy (w':World)(m:Mix)(vessel after fountain:Int)(p:Option Addr)(s1 s2 ee:Int):Prop:=(askM m vessel after [fountain]≠0∧ee=askM m vessel after [fountain])∨(askM m vessel after [fountain]=0∧∃ T:Tb,T.m=m∧TbOk T ∧
    ((ee=8∧¬ eN m fountain T.L 0 fh)∨(ee=0∧eN m fountain T.L 0 fh∧∃ gU A n c rs ms,∃ q k:Nat,p=some ⟨gU,0,none⟩∧s1=(q:Int)∧s2=(k:Int)∧q<4∧(q:Int)=idxV m.vessels vessel∧(k:Int)=after∧k≤m.acts.length∧TrAt w' gU T fountain A n c rs ms∧n=m.acts.length+1∧∀ (i:Nat) (mi:List (D4 × Bool)),ms[i]? =some mi→fo mi (eN m fountain T.L i))))
theorem qS {w':World}{m:Mix}{vessel after fountain s1 s2:Int}{p:Option Addr}(h:uy w' m vessel after fountain p s1 s2 0):askM m vessel after [fountain]=0∧∃ T:Tb,T.m=m∧TbOk T∧eN m fountain T.L 0 fh∧∃ gU A n c rs ms,∃ q k:Nat,p=some ⟨gU,0,none⟩∧s1=(q:Int)∧s2=(k:Int)∧q<4∧(q:Int)=idxV m.vessels vessel∧(k:Int)=after∧k≤m.acts.length∧TrAt w' gU T fountain A n c rs ms∧n=m.acts.length+1∧∀ (i:Nat) (mi:List (D4 × Bool)),ms[i]? =some mi→fo mi (eN m fountain T.L i):=by
 rcases h with ⟨h0,h1⟩ | ⟨h0,T,h1,h2,⟨h3,_⟩ | ⟨_,h4,h5⟩⟩
 ·exact absurd h1.symm h0
 ·cases h3
 ·exact ⟨h0,T,h1,h2,h4,h5⟩
theorem oS {w':World}{m:Mix}{vessel after fountain s1 s2 ee:Int}{p:Option Addr}(h:uy w' m vessel after fountain p s1 s2 ee)(he:ee≠0):OfIs m vessel after fountain (0,0) ee:=by
 rcases h with ⟨h0,h1⟩ | ⟨h0,T,h1,h2,⟨h3,h4⟩ | ⟨h3,_⟩⟩
 ·exact .inl ⟨h0,rfl,h1⟩
 ·exact .inr ⟨h0,T.L,by rw [← h1];exact h2.all,.inl ⟨h4,rfl,h3⟩⟩
 ·exact absurd h3 he
def OfOut (w:World)(m:Mix)(vessel after fountain:Int)(e:Ending)(w':World):Prop:=∃ lo hi ee:Int,e = .returned (.tuple #[.agg #[.int .i64 lo,.int .i64 hi],.int .i64 ee])∧OfIs m vessel after fountain (lo,hi) ee∧Below w.heap.size w w'
def ve (w:World)(m:Mix)(vessel after fountain:Int)(e:Ending)(w':World):Prop:=∃ lo hi ee:Int,e = .returned (.tuple #[.int .u8 (kt (decide (0<lo)) (decide (0<hi))),.int .i64 ee])∧OfIs m vessel after fountain (lo,hi) ee∧Below w.heap.size w w'
def sS (w:World)(m:Mix)(vessel after fountain:Int)(e:Ending)(w':World):Prop:=(∃ ee:Int,e = .returned (.tuple #[.int .u8 0,.int .i64 ee])∧ee≠0∧OfIs m vessel after fountain (0,0) ee∧Below w.heap.size w w') ∨
 ∃ lo hi n:Int,e = .returned (.tuple #[.int .u8 (kt (decide (lo=n)) (decide (hi=n))),.int .i64 0])∧OfIs m vessel after fountain (lo,hi) 0∧fF m vessel after n 0∧Below w.heap.size w w'
theorem jP (Av:Option Addr)(nv cv:Nat)(Aa:Option Addr)(na ca:Nat)(At:Option Addr)(nt ct:Nat)(m:Mix)(vessel after fountain:Int)(w:World)(h:MixS w Av nv Aa na At nt m) :
  CallsIn Fence.wide 9 Tryz.prog 27 #[.agg #[.int .i64 m.fountains,.slice Av nv cv,.slice Aa na ca,.slice At nt ct],.int .i64 vessel,.int .i64 after,.int .i64 fountain] w (OfOut w m vessel after fountain):=by
 have HM:=lh h;clear h;refine callsIn_of_wp Tryz.func27 rfl trivial ?_ rfl;simp only [Tryz.ntmps27,es,Nat.reduceAdd,Nat.reduceSub];gi_upto_region 1 with fail
 have Ly:=lh (Lay.two w 26 #[.int .i64 m.fountains,.slice Av nv cv,.slice Aa na ca,.slice At nt ct] 54 #[.int .i64 0,.int .i64 0]);generalize ((w.alloc (.cells #[.int .i64 m.fountains,.slice Av nv cv,.slice Aa na ca,.slice At nt ct] 26)).alloc (.cells #[.int .i64 0,.int .i64 0] 54))=w0 at *;obtain ⟨x0_0,x0_1,x0_2,x0_3⟩:=lyc4 Ly 0 rfl;have l0_:=Ly.out.lt 0 rfl;gi_wp2;clear x0_0 x0_1 x0_2 x0_3 l0_;refine ⟨trivial,(c_W (qA Av nv cv Aa na ca At nt ct m vessel after fountain w0 (HM.out.up Ly.out.1))).mono ?_⟩;rintro e W1 ⟨pp,s1,s2,ee,rfl,hb,hc⟩;have HC:=lh hc;clear hc;replace Ly:=lyb Ly hb;clear hb;by_cases h0:ee=0
 ·
  subst h0;obtain ⟨h1,T,hTm,hok,ht,gU,A,n,c,rs,ms,q,k,rfl,rfl,rfl,hq4,hqi,hka,hkl,htr,hn,hcan⟩:=qS HC.out;have HF:Hid (∀ lo hi:Int,ir (OfQ (eN m fountain T.L k) q) (lo,hi)→OfIs m vessel after fountain (lo,hi) 0):=lh fun lo hi hs=>.inr ⟨h1,T.L,by rw [← hTm];exact hok.all,.inr ⟨ht,rfl,hs.congr (sV hTm hok hqi hka hkl)⟩⟩;have hkr:k<rs.length:=by have:=htr.rd.1;simp at this;omega
  have hkm:k<ms.length:=by have:=htr.len;omega
  have HRK:Hid (rs[k]? =some rs[k]):=lh (List.getElem?_eq_getElem hkr);have HMK:Hid (ms[k]? =some ms[k]):=lh (List.getElem?_eq_getElem hkm);have HCM:Hid (fo ms[k] (eN m fountain T.L k)):=lh (hcan k _ HMK.out);have HML:Hid (ms[k].length≤1000000):=lh (pg hTm hok hkl (htr.maps k _ _ HRK.out HMK.out) HCM.out);have HEX:Hid (∃ n,OfQ (eN m fountain T.L k) q n):=lh (qq hTm hok ht hkl);have HTR:=lh htr;have HQ4:=lh hq4;clear HC h1 hTm hok ht hqi hka hkl htr hn hcan hq4;gi_upto_region 2 with fail
  obtain ⟨V2,hV⟩:∃ V,(W1.alloc (.cells #[.int .i64 (q:Int),.int .i64 (k:Int)] 109))=V:=⟨_,rfl⟩
  rw [hV];have hb:=eS hV;have hnew:=eT hV;have hge:=Ly.out.bel.size;replace Ly:=lyb Ly hb;replace HTR:=lh (HTR.out.below hb);replace Ly:=lh (Ly.out.add hge hnew);clear hnew hge hb hV
  obtain ⟨G3,hG⟩:∃ g,W1.heap.size=g:=⟨_,rfl⟩
  rw [hG] at Ly ⊢;clear hG;replace Ly:=lh (show Lay w V2 [(w.heap.size,26,#[.int .i64 m.fountains,.slice Av nv cv,.slice Aa na ca,.slice At nt ct]),(w.heap.size+1,54,#[.int .i64 0,.int .i64 0]),(G3,109,#[.int .i64 (q:Int),.int .i64 (k:Int)])] from Ly.out);obtain ⟨x2_0,x2_1⟩:=lyc2 Ly 2 rfl;have l2_:=Ly.out.lt 2 rfl;gi_wp2;clear x2_0 x2_1 l2_;refine ⟨trivial,(c_W (xz gU T fountain A n c rs ms q k rs[k] ms[k] (eN m fountain T.L k) V2 HTR.out HRK.out HMK.out HCM.out HML.out HQ4.out HEX.out)).mono ?_⟩;rintro e W4 ⟨lo,hi,rfl,hsp,hb⟩;have HSP:=lh (HF.out lo hi hsp);clear hsp;replace Ly:=lyb Ly hb;replace HTR:=lh (HTR.out.below hb);clear hb;have x1_0:=lyc Ly 1 rfl 0;have z1_0:=lyf Ly 1 rfl 0;have x1_1:=lyc Ly 1 rfl 1;have z1_1:=lyf Ly 1 rfl 1;have l1_:=Ly.out.lt 1 rfl;gi_wp2;have R2:=ret2' (Ly.out.blk 1 rfl) Ly.out.1 (Ly.out.ge 1 rfl) (.int .i64 (lo)) (.int .i64 (hi));have v0:=R2.1.cell 0;have v1:=R2.1.cell 1;refine bodyPost_ret (v:=.tuple #[.agg #[.int .i64 (lo),.int .i64 (hi)],.int .i64 (0)]) (by simp [results,Tryz.results27,go_sem,v0,v1]) rfl ?_;exact ⟨lo,hi,0,rfl,HSP.out,R2.2.1⟩
 ·
  have h0b:(ee==0)=false:=by simpa using h0
  have h0c:(ee != 0)=true:=by simpa using h0
  have HF:Hid (OfIs m vessel after fountain (0,0) ee):=lh (oS HC.out h0);clear h0 HC;gi_upto_region 2 with fail
  obtain ⟨V5,hV⟩:∃ V,(W1.alloc (.cells #[.int .i64 s1,.int .i64 s2] 109))=V:=⟨_,rfl⟩
  rw [hV];have hb:=eS hV;have hnew:=eT hV;have hge:=Ly.out.bel.size;replace Ly:=lyb Ly hb;replace Ly:=lh (Ly.out.add hge hnew);clear hnew hge hb hV
  obtain ⟨G6,hG⟩:∃ g,W1.heap.size=g:=⟨_,rfl⟩
  rw [hG] at Ly ⊢;clear hG;replace Ly:=lh (show Lay w V5 [(w.heap.size,26,#[.int .i64 m.fountains,.slice Av nv cv,.slice Aa na ca,.slice At nt ct]),(w.heap.size+1,54,#[.int .i64 0,.int .i64 0]),(G6,109,#[.int .i64 s1,.int .i64 s2])] from Ly.out);have x1_0:=lyc Ly 1 rfl 0;have z1_0:=lyf Ly 1 rfl 0;have x1_1:=lyc Ly 1 rfl 1;have z1_1:=lyf Ly 1 rfl 1;have l1_:=Ly.out.lt 1 rfl;obtain ⟨x2_0,x2_1⟩:=lyc2 Ly 2 rfl;have l2_:=Ly.out.lt 2 rfl;gi_wp2;have R2:=ret2' (Ly.out.blk 1 rfl) Ly.out.1 (Ly.out.ge 1 rfl) (.int .i64 (0)) (.int .i64 (0));have v0:=R2.1.cell 0;have v1:=R2.1.cell 1;refine bodyPost_ret (v:=.tuple #[.agg #[.int .i64 (0),.int .i64 (0)],.int .i64 (ee)]) (by simp [results,Tryz.results27,go_sem,v0,v1]) rfl ?_;exact ⟨0,0,ee,rfl,HF.out,R2.2.1⟩
theorem nC (a b:Bool)(w:World):Calls Tryz.prog 65 #[.bool a,.bool b] w fun e w'=>e = .returned (.int .u8 (kt a b))∧w=w':=by
 cases a<;>cases b <;>
 ·go_enter Tryz.func65,Tryz.ntmps65
  go_wp2
  go_ret
  exact ⟨rfl,rfl⟩
theorem tD (Av:Option Addr)(nv cv:Nat)(Aa:Option Addr)(na ca:Nat)(At:Option Addr)(nt ct:Nat)(m:Mix)(vessel after fountain:Int)(w:World)(h:MixS w Av nv Aa na At nt m) :
  CallsIn Fence.wide 9 Tryz.prog 28 #[.agg #[.int .i64 m.fountains,.slice Av nv cv,.slice Aa na ca,.slice At nt ct],.int .i64 vessel,.int .i64 after,.int .i64 fountain] w (ve w m vessel after fountain):=by
 have HM:=lh h;clear h;refine callsIn_of_wp Tryz.func28 rfl trivial ?_ rfl;simp only [Tryz.ntmps28,es,Nat.reduceAdd,Nat.reduceSub];gi_upto_region 1 with fail
 have Ly:=lh (Lay.one w 26 #[.int .i64 m.fountains,.slice Av nv cv,.slice Aa na ca,.slice At nt ct]);generalize (w.alloc (.cells #[.int .i64 m.fountains,.slice Av nv cv,.slice Aa na ca,.slice At nt ct] 26))=w0 at *;obtain ⟨x0_0,x0_1,x0_2,x0_3⟩:=lyc4 Ly 0 rfl;have l0_:=Ly.out.lt 0 rfl;gi_wp2;clear x0_0 x0_1 x0_2 x0_3 l0_;refine ⟨trivial,(c_W (jP Av nv cv Aa na ca At nt ct m vessel after fountain w0 (HM.out.up Ly.out.1))).mono ?_⟩;rintro e W1 ⟨lo,hi,ee,rfl,hof,hb⟩;have HOF:=lh hof;clear hof;replace Ly:=lyb Ly hb;clear hb;gi_upto_region 2 with fail
 obtain ⟨V2,hV⟩:∃ V,(W1.alloc (.cells #[.int .i64 lo,.int .i64 hi] 54))=V:=⟨_,rfl⟩
 rw [hV];have hb:=eS hV;have hnew:=eT hV;have hge:=Ly.out.bel.size;replace Ly:=lyb Ly hb;replace Ly:=lh (Ly.out.add hge hnew);clear hnew hge hb hV
 obtain ⟨G3,hG⟩:∃ g,W1.heap.size=g:=⟨_,rfl⟩
 rw [hG] at Ly ⊢;clear hG;replace Ly:=lh (show Lay w V2 [(w.heap.size,26,#[.int .i64 m.fountains,.slice Av nv cv,.slice Aa na ca,.slice At nt ct]),(G3,54,#[.int .i64 lo,.int .i64 hi])] from Ly.out);obtain ⟨x1_0,x1_1⟩:=lyc2 Ly 1 rfl;have l1_:=Ly.out.lt 1 rfl;gi_wp2;clear x1_0 x1_1 l1_;refine ⟨trivial,(callsIn_wide.2 (nC (decide (0<lo)) (decide (0<hi)) V2)).mono ?_⟩;rintro e W9 ⟨rfl,rfl⟩;gi_wp2;refine bodyPost_ret (v:=.tuple #[.int .u8 (kt (decide (0<lo)) (decide (0<hi))),.int .i64 ee]) (by simp [results,Tryz.results28,go_sem]) rfl ?_;exact ⟨lo,hi,ee,rfl,HOF.out,Ly.out.1⟩
theorem nd (Av:Option Addr)(nv cv:Nat)(Aa:Option Addr)(na ca:Nat)(At:Option Addr)(nt ct:Nat)(m:Mix)(vessel after fountain:Int)(w:World)(h:MixS w Av nv Aa na At nt m) :
  CallsIn Fence.wide 9 Tryz.prog 29 #[.agg #[.int .i64 m.fountains,.slice Av nv cv,.slice Aa na ca,.slice At nt ct],.int .i64 vessel,.int .i64 after,.int .i64 fountain] w (sS w m vessel after fountain):=by
 have HM:=lh h;clear h;refine callsIn_of_wp Tryz.func29 rfl trivial ?_ rfl;simp only [Tryz.ntmps29,es,Nat.reduceAdd,Nat.reduceSub];gi_upto_region 1 with fail
 have Ly:=lh (Lay.one w 26 #[.int .i64 m.fountains,.slice Av nv cv,.slice Aa na ca,.slice At nt ct]);generalize (w.alloc (.cells #[.int .i64 m.fountains,.slice Av nv cv,.slice Aa na ca,.slice At nt ct] 26))=w0 at *;obtain ⟨x0_0,x0_1,x0_2,x0_3⟩:=lyc4 Ly 0 rfl;have l0_:=Ly.out.lt 0 rfl;gi_wp2;clear x0_0 x0_1 x0_2 x0_3 l0_;refine ⟨trivial,(c_W (qA Av nv cv Aa na ca At nt ct m vessel after fountain w0 (HM.out.up Ly.out.1))).mono ?_⟩;rintro e W1 ⟨pp,s1,s2,ee,rfl,hb,hc⟩;have HC:=lh hc;clear hc;replace Ly:=lyb Ly hb;clear hb;by_cases h0:ee=0
 ·
  subst h0;obtain ⟨h1,T,hTm,hok,ht,gU,A,n,c,rs,ms,q,k,rfl,rfl,rfl,hq4,hqi,hka,hkl,htr,hn,hcan⟩:=qS HC.out;have hkL:k<T.L.length:=by have:=hok.long;rw [hTm] at this;omega
  obtain ⟨all,hall⟩:∃ all,T.L[k]? =some all:=⟨_,List.getElem?_eq_getElem hkL⟩
  have HF:Hid (∀ lo hi:Int,ir (OfQ (eN m fountain T.L k) q) (lo,hi)→OfIs m vessel after fountain (lo,hi) 0∧fF m vessel after (au all (q:Int)) 0):=lh fun lo hi hs=>⟨.inr ⟨h1,T.L,by rw [← hTm];exact hok.all,.inr ⟨ht,rfl,hs.congr (sV hTm hok hqi hka hkl)⟩⟩,.inr ⟨vT h1,rfl,T.L,all,by rw [← hTm];exact hok.all,by rw [← hka];exact hall,by rw [hqi]⟩⟩
  have hkr:k<rs.length:=by have:=htr.rd.1;simp at this;omega
  have hkm:k<ms.length:=by have:=htr.len;omega
  have HRK:Hid (rs[k]? =some rs[k]):=lh (List.getElem?_eq_getElem hkr);have HMK:Hid (ms[k]? =some ms[k]):=lh (List.getElem?_eq_getElem hkm);have HCM:Hid (fo ms[k] (eN m fountain T.L k)):=lh (hcan k _ HMK.out);have HML:Hid (ms[k].length≤1000000):=lh (pg hTm hok hkl (htr.maps k _ _ HRK.out HMK.out) HCM.out);have HEX:Hid (∃ n,OfQ (eN m fountain T.L k) q n):=lh (qq hTm hok ht hkl);have hkl2:k<T.nl:=by have:=fH fy (by omega) htr.tb.all;omega
  obtain ⟨bl,ol,all',hAL,hbl,hall',hcl⟩:=ft fy (by omega) htr.tb.all hkl2;rw [hall] at hall';obtain rfl:all=all':=Option.some.inj hall';have HTR:=lh htr;have HTR0:=lh htr;have HQ4:=lh hq4;have HAL:=lh hAL;have HBL:=lh hbl;have HCE:=lh (hcl q _ (iO all hq4));have HKL:=lh hkl2;clear HC h1 hTm hok ht hqi hka hkl htr hn hcan hq4 hkL hall hall' hAL hbl hcl hkl2;have B00:=lh (Below.refl W1.heap.size W1);gi_upto_region 4 with fail
  obtain ⟨V2,hV⟩:∃ V,(W1.alloc (.cells #[.int .i64 (q:Int),.int .i64 (k:Int)] 109))=V:=⟨_,rfl⟩
  rw [hV];have hb:=eS hV;have hnew:=eT hV;have hge:=Ly.out.bel.size;replace Ly:=lyb Ly hb;replace HTR:=lh (HTR.out.below hb);replace B00:=lh (B00.out.trans (hb.mono B00.out.size));replace Ly:=lh (Ly.out.add hge hnew);clear hnew hge hb hV
  obtain ⟨G3,hG⟩:∃ g,W1.heap.size=g:=⟨_,rfl⟩
  rw [hG] at Ly ⊢;clear hG;replace Ly:=lh (show Lay w V2 [(w.heap.size,26,#[.int .i64 m.fountains,.slice Av nv cv,.slice Aa na ca,.slice At nt ct]),(G3,109,#[.int .i64 (q:Int),.int .i64 (k:Int)])] from Ly.out);have HLay0:=lh Ly.out;refine gk [([true,true,true,true,true,true,true,true,true,true,true,true,true,true,true,true],16)] [false,false,false,false,false,false,false,false,false,false,false,false,false,false,false,false,false,false,true] [false,false,false,false,false,false,false,false,false,false,false,false,false,false,false,false,false,false,false,true] 17 (fun b=>.pointer (some ⟨b,0,none⟩)) 54 #[.int .i64 0,.int .i64 0] (by kernel_rfl) (by kernel_rfl) (by kernel_rfl) (av b_R 1) rfl rfl rfl (fun _ _=>rfl) (fun _ _=>rfl) ?_;refine wpFlow_cons (A:=?AF1) rfl ?hq1 ?_
  case hq1 =>
   rintro σ hσ of hof hcl;have HOF:=lh hof;clear hof hcl;obtain ⟨c0_,c1_⟩:=lyz2 Ly HOF 1 rfl;have hfw:=hfT;have u0:∀ z,(of z).cell? ⟨gU,0,none⟩=some (.pointer (some ⟨T.g,0,none⟩)):=fun z=>(HTR0.out.blk.below (B00.out.trans ((HOF.out z).mono B00.out.size)) HTR0.out.blk.lt).cell 0;have t4:∀ z,(of z).cell? ⟨T.g,4,none⟩=some (.slice (some ⟨bl,ol,none⟩) T.nl T.cl):=fun z=>by have:=(HTR0.out.tb.below (B00.out.trans ((HOF.out z).mono B00.out.size))).blk.cell 4;rw [← HAL.out];exact this
   have ch:∀ z,(of z).cell? ⟨bl,ol+k * 4+q,none⟩=some (.int .i64 (au all (q:Int))):=fun z=>((B00.out.trans ((HOF.out z).mono B00.out.size)).cell (p:=⟨bl,ol+k * 4+q,none⟩) HBL.out).trans HCE.out;have hkl:=HKL.out;have hq4:=HQ4.out;simp only [bu]
   repeat (gi_big_quiet_step (fail))
   refine wpQuietIn_nil ?_;exact rfl
  intro W4 hW;replace Ly:=lyb Ly hW;replace HTR:=lh (HTR.out.below hW);replace B00:=lh (B00.out.trans (hW.mono B00.out.size));clear hW;gi_wp2;refine ⟨trivial,(c_W (xz gU T fountain A n c rs ms q k rs[k] ms[k] (eN m fountain T.L k) W4 HTR.out HRK.out HMK.out HCM.out HML.out HQ4.out HEX.out)).mono ?_⟩;rintro e W5 ⟨lo,hi,rfl,hsp,hb⟩;have HSP:=lh (HF.out lo hi hsp);clear hsp;replace Ly:=lyb Ly hb;replace HTR:=lh (HTR.out.below hb);replace B00:=lh (B00.out.trans (hb.mono B00.out.size));gi_wp2;refine ⟨trivial,hb,?_⟩;clear hb;refine wpFlow_nil (A:=?AF2) ?hq2 ?_
  case hq2 =>
   rintro σ hσ of hof hcl;have HOF:=lh hof;clear hof hcl;obtain ⟨c0_,c1_⟩:=lyz2 Ly HOF 1 rfl;have hfw:=hfT;have u0:∀ z,(of z).cell? ⟨gU,0,none⟩=some (.pointer (some ⟨T.g,0,none⟩)):=fun z=>(HTR0.out.blk.below (B00.out.trans ((HOF.out z).mono B00.out.size)) HTR0.out.blk.lt).cell 0;have t4:∀ z,(of z).cell? ⟨T.g,4,none⟩=some (.slice (some ⟨bl,ol,none⟩) T.nl T.cl):=fun z=>by have:=(HTR0.out.tb.below (B00.out.trans ((HOF.out z).mono B00.out.size))).blk.cell 4;rw [← HAL.out];exact this
   have ch:∀ z,(of z).cell? ⟨bl,ol+k * 4+q,none⟩=some (.int .i64 (au all (q:Int))):=fun z=>((B00.out.trans ((HOF.out z).mono B00.out.size)).cell (p:=⟨bl,ol+k * 4+q,none⟩) HBL.out).trans HCE.out;have hkl:=HKL.out;have hq4:=HQ4.out;simp only [bu]
   repeat (gi_big_quiet_step (fail))
   refine wpQuietIn_nil ?_;exact rfl
  intro bN W6 hW hbg hbb hbi;replace Ly:=lyb Ly hW;replace HTR:=lh (HTR.out.below hW);replace B00:=lh (B00.out.trans (hW.mono B00.out.size));have c0:=hbb.cell 0;have z0:=hbb.frozen 0;have c1:=hbb.cell 1;have z1:=hbb.frozen 1;have hbl:=hbb.lt;have hbw:w.heap.size≤bN:=Nat.le_trans (HLay0.out.1.size) hbg;simp only [bu];refine gr ?_;gi_wp2;refine eK ?_;have R3:=ret2' hbb (Below.refl bN W6) n_R (.int .i64 lo) (.int .i64 hi);have HLay9:=lh (Lay.add (w:=w) (bs:=[(w.heap.size,26,#[.int .i64 m.fountains,.slice Av nv cv,.slice Aa na ca,.slice At nt ct]),(G3,109,#[.int .i64 (q:Int),.int .i64 (k:Int)])]) ⟨Ly.out.1.trans (R3.2.1.mono hbw),fun p hp=>⟨(Ly.out.2 p hp).1,(Ly.out.2 p hp).2.below R3.2.1 (by have:=(HLay0.out.2 p hp).2.lt;omega)⟩⟩ hbw R3.1);generalize ((W6.setCell ⟨bN,0,none⟩ (.int .i64 lo)).setCell ⟨bN,1,none⟩ (.int .i64 hi))=W99 at *;clear c0 z0 c1 z1 hbl hbb hW hbg R3;replace Ly:=HLay9;obtain ⟨x2_0,x2_1⟩:=lyc2 Ly 2 rfl;have l2_:=Ly.out.lt 2 rfl;gi_wp2;clear x2_0 x2_1 l2_;have e1:(lo==au all (q:Int))=decide (lo=au all (q:Int)):=by by_cases h:lo=au all (q:Int)<;>simp [h]
  have e2:(hi==au all (q:Int))=decide (hi=au all (q:Int)):=by by_cases h:hi=au all (q:Int)<;>simp [h]
  rw [e1,e2];refine ⟨trivial,(callsIn_wide.2 (nC (decide (lo=au all (q:Int))) (decide (hi=au all (q:Int))) W99)).mono ?_⟩;rintro e W12 ⟨rfl,rfl⟩;clear e1 e2;gi_wp2;refine bodyPost_ret (v:=.tuple #[.int .u8 (kt (decide (lo=au all (q:Int))) (decide (hi=au all (q:Int)))),.int .i64 0]) (by simp [results,Tryz.results29,go_sem]) rfl ?_;exact .inr ⟨lo,hi,au all (q:Int),rfl,HSP.out.1,HSP.out.2,Ly.out.1⟩
 ·
  have h0b:(ee==0)=false:=by simpa using h0
  have h0c:(ee != 0)=true:=by simpa using h0
  have HF:Hid (OfIs m vessel after fountain (0,0) ee):=lh (oS HC.out h0);have H0:=lh h0;clear h0 HC;gi_upto_region 2 with fail
  obtain ⟨V7,hV⟩:∃ V,(W1.alloc (.cells #[.int .i64 s1,.int .i64 s2] 109))=V:=⟨_,rfl⟩
  rw [hV];have hb:=eS hV;have hnew:=eT hV;have hge:=Ly.out.bel.size;replace Ly:=lyb Ly hb;replace Ly:=lh (Ly.out.add hge hnew);clear hnew hge hb hV
  obtain ⟨G8,hG⟩:∃ g,W1.heap.size=g:=⟨_,rfl⟩
  rw [hG] at Ly ⊢;clear hG;replace Ly:=lh (show Lay w V7 [(w.heap.size,26,#[.int .i64 m.fountains,.slice Av nv cv,.slice Aa na ca,.slice At nt ct]),(G8,109,#[.int .i64 s1,.int .i64 s2])] from Ly.out);gi_wp2;refine bodyPost_ret (v:=.tuple #[.int .u8 0,.int .i64 ee]) (by simp [results,Tryz.results29,go_sem]) rfl ?_;exact .inl ⟨ee,rfl,H0.out,HF.out,Ly.out.1⟩
end
section
open Go.RowKit
def jk (m:Mix)(v a f k e:Int):Prop:=(e≠0∧k=0∧OfIs m v a f (0,0) e)∨(e=0∧∃ lo hi n:Int,k=kt (decide (lo=n)) (decide (hi=n))∧OfIs m v a f (lo,hi) 0∧fF m v a n 0)
theorem jk.same {m:Mix}{v a f k e k' e':Int}(h:jk m v a f k e)(h':jk m v a f k' e'):k=k'∧e=e':=by
 rcases h with ⟨h0,rfl,h1⟩ | ⟨rfl,lo,hi,n,rfl,h1,h2⟩<;>rcases h' with ⟨k0,rfl,k1⟩ | ⟨rfl,lo',hi',n',rfl,k1,k2⟩
 ·exact ⟨rfl,(OfIs.same h1 k1).2⟩
 ·exact absurd (OfIs.same h1 k1).2 h0
 ·exact absurd (OfIs.same k1 h1).2 k0
 ·obtain ⟨e1,_⟩:=OfIs.same h1 k1
  obtain ⟨rfl,_⟩:=fF.same h2 k2
  obtain ⟨rfl,rfl⟩:lo=lo'∧hi=hi':=⟨congrArg Prod.fst e1,congrArg Prod.snd e1⟩
  exact ⟨rfl,rfl⟩
theorem mC {w:World}{m:Mix}{v a f:Int}{e:Ending}{w':World}(h:sS w m v a f e w'):∃ k ee:Int,e = .returned (.tuple #[.int .u8 k,.int .i64 ee])∧jk m v a f k ee∧Below w.heap.size w w':=by
 rcases h with ⟨ee,h1,h2,h3,h4⟩ | ⟨lo,hi,n,h1,h2,h3,h4⟩
 ·exact ⟨0,ee,h1,.inl ⟨h2,rfl,h3⟩,h4⟩
 ·exact ⟨_,0,h1,.inr ⟨rfl,lo,hi,n,rfl,h2,h3⟩,h4⟩
end
section
def jc (m:Mix)(a b f:Int):Int:=if eO m=true then (if idxV m.vessels a<0∨idxV m.vessels b<0 then 6 else if 1≤f∧f≤m.fountains then 0 else 2) else 40
def ji (m:Mix)(a b n f k e:Int):Prop :=
 (jc m a b f≠0∧k=0∧e=jc m a b f)∨(jc m a b f=0∧(doM m ⟨2,a,b,n⟩).2≠0∧k=0∧e=(doM m ⟨2,a,b,n⟩).2) ∨
  (jc m a b f=0∧(doM m ⟨2,a,b,n⟩).2=0∧jk (doM m ⟨2,a,b,n⟩).1 b ((doM m ⟨2,a,b,n⟩).1.acts.length:Int) f k e)
theorem ji.same {m:Mix}{a b n f k e k' e':Int}(h:ji m a b n f k e)(h':ji m a b n f k' e'):k=k'∧e=e':=by
 rcases h with ⟨h0,rfl,rfl⟩ | ⟨h0,h1,rfl,rfl⟩ | ⟨h0,h1,h2⟩<;>rcases h' with ⟨k0,rfl,rfl⟩ | ⟨k0,k1,rfl,rfl⟩ | ⟨k0,k1,k2⟩
 ·exact ⟨rfl,rfl⟩
 ·exact absurd k0 h0
 ·exact absurd k0 h0
 ·exact absurd h0 k0
 ·exact ⟨rfl,rfl⟩
 ·exact absurd k1 h1
 ·exact absurd h0 k0
 ·exact absurd h1 k1
 ·exact h2.same k2
theorem do_ok {m m':Mix}{x:MAct}(h:doM m x=(m',0)):eO m'=true∧m'=gD m (m.acts++[x])∧eO m=true∧m.acts.length≠12:=by
 unfold doM at h;by_cases hk:eO m=true
 ·rw [if_pos hk] at h
  by_cases h12:m.acts.length=12
  ·rw [if_pos h12] at h;cases h
  ·rw [if_neg h12] at h
   by_cases h2:eO (gD m (m.acts++[x]))=true
   ·rw [if_pos h2] at h
    cases h;exact ⟨h2,rfl,hk,h12⟩
   ·rw [if_neg h2] at h;cases h
 ·rw [if_neg hk] at h;cases h
end
section
open Go.RowKit
def wrPB (m:Mix)(A:List Held)(f:Int)(l:List Int):Bool:=(ky (gK m (io m.tastes l)) f A 0).contains fh
theorem rq {m:Mix}{A:List Held}{f:Int}{l:List Int}:wrPB m A f l=true↔WrP m A f l:=by
 unfold wrPB WrP;rw [List.contains_iff_mem];exact fJ
def qW:List Int→Bool
 | []=>true
 | x::l=>l.all (fun y=>decide (x<y)) && qW l
theorem o6:∀ {l:List Int},qW l=true↔l.Pairwise (·<·)
 | []=>by simp [qW]
 | x::l=>by
  unfold qW;rw [Bool.and_eq_true,List.all_eq_true,List.pairwise_cons,o6 (l:=l)];simp
def lS (m:Mix)(A:List Held)(l:List Int):Bool:=qW l && l.all (fun n=>(m.tastes.map (·.num)).contains n) && (List.range m.fountains.toNat).all fun i:Nat=>wrPB m A ((i:Int)+1) l
theorem ke {m:Mix}{A:List Held}{l:List Int}:lS m A l=true↔jZ m A l:=by
 unfold lS jZ;rw [Bool.and_eq_true,Bool.and_eq_true,o6,List.all_eq_true,List.all_eq_true,and_assoc];refine and_congr_right fun _=>and_congr ?_ ?_
 ·exact forall_congr' fun n=>forall_congr' fun _=>List.contains_iff_mem
 ·constructor
  ·intro h f f1 f2
   have:=rq.1 (h (f - 1).toNat (List.mem_range.2 (by omega)))
   rwa [show (((f - 1).toNat:Int)+1)=f by omega] at this
  ·intro h i hi
   have:=List.mem_range.1 hi;exact rq.2 (h _ (by omega) (by omega))
def mZ (l:List Int):List (List Int):=(List.range (l.length+1)).flatMap fun n=>gv l n
def vn (m:Mix)(l:List Int)(e:Int):Bool :=
 if eO m then (match allM m m.acts with
  | none=>false
  | some A=>if e=0 then decide (l.length≤3) && lS m A l && (mZ (m.tastes.map (·.num))).all fun k=>!lS m A k || decide (cmpS l k≤0)
   else decide (e=4) && l.isEmpty && (mZ (m.tastes.map (·.num))).all fun k=>!lS m A k || decide (3<k.length))
 else l.isEmpty && decide (e=40)
theorem mF {m:Mix}{A:List Held}{k:List Int}(h:eO m=true)(hk:jZ m A k):k∈mZ (m.tastes.map (·.num)):=by
 have hs:=lF hk.1 (mA h) hk.2.1;unfold mZ;rw [List.mem_flatMap];exact ⟨k.length,List.mem_range.2 (by have:=hs.length_le;omega),(gu _ _ _).2 ⟨hs,rfl⟩⟩
theorem uT {m:Mix}{l:List Int}{e:Int}(h:vn m l e=true):jI m l e:=by
 unfold vn at h;by_cases hk:eO m=true
 ·rw [if_pos hk] at h
  cases hA:allM m m.acts with
  | none=>rw [hA] at h;cases h
  | some A =>
   rw [hA] at h;refine .inr ⟨hk,A,hA,?_⟩;dsimp only at h;by_cases he:e=0
   ·rw [if_pos he,Bool.and_eq_true,Bool.and_eq_true,List.all_eq_true] at h
    refine .inl ⟨he,of_decide_eq_true h.1.1,ke.1 h.1.2,fun k hk'=>?_⟩;have:=h.2 k (mF hk hk');rw [ke.2 hk'] at this;simpa using this
   ·rw [if_neg he,Bool.and_eq_true,Bool.and_eq_true,List.all_eq_true] at h
    refine .inr ⟨of_decide_eq_true h.1.1,List.isEmpty_iff.1 h.1.2,fun k hk'=>?_⟩;have:=h.2 k (mF hk hk');rw [ke.2 hk'] at this;simpa using this
 ·rw [if_neg hk,Bool.and_eq_true] at h
  exact .inl ⟨by simpa using hk,List.isEmpty_iff.1 h.1,of_decide_eq_true h.2⟩
def xC (m:Mix)(v a f lo hi n k:Int):Bool:=decide (k=kt (decide (lo=n)) (decide (hi=n))) && ofB m v a f (lo,hi) 0 && rV m v a n 0
theorem pY {m:Mix}{v a f lo hi n k:Int}(h:xC m v a f lo hi n k=true):jk m v a f k 0:=by
 unfold xC at h;rw [Bool.and_eq_true,Bool.and_eq_true] at h;exact .inr ⟨rfl,lo,hi,n,of_decide_eq_true h.1.1,lW h.1.2,kz h.2⟩
def eM (ts:List Tast):Mix:=⟨2,[⟨1,6⟩,⟨2,5⟩,⟨3,4⟩],[⟨1,1,1,4⟩,⟨1,2,2,3⟩,⟨2,1,2,2⟩,⟨2,2,3,3⟩,⟨3,3,0,1⟩],ts⟩
theorem al_holds:fF (eM []) 2 3 5 0:=kz (by kernel_rfl)
theorem al_of:OfIs (eM []) 3 4 1 (0,2) 0:=lW (by kernel_rfl)
theorem qD:OfIs (eM []) 3 5 1 (0,2) 0:=lW (by kernel_rfl)
theorem wX:jk (eM []) 1 5 1 2 0:=pY (lo:=2) (hi:=2) (n:=2) (by kernel_rfl)
theorem vu:fR (eM []) 5 1 (0,1) 0:=nZ (by kernel_rfl)
theorem wV:iZ (eM []) 1 (0,1) 0:=xd (by kernel_rfl)
theorem xW:ki (eM []) 3 5 1 2 true 0:=sr (by kernel_rfl)
theorem wN:jL (eM []) 3 5 1 [1,3,4] 0:=sR (by kernel_rfl)
theorem vk:iQ (eM []) 3 5 1 [1] 0:=qv (by kernel_rfl)
theorem xq:ji (eM []) 3 1 1 1 1 0:=.inr (.inr ⟨by kernel_rfl,by kernel_rfl,pY (lo:=2) (hi:=3) (n:=3) (by kernel_rfl)⟩)
abbrev alT1:Tast:=⟨1,2,4,1,2,2⟩
abbrev alT2:Tast:=⟨2,3,5,1,1,2⟩
theorem xD:putS (eM [alT1]) alT2=(eM [alT1,alT2],0):=by kernel_rfl
theorem wk:jI (eM [alT1,alT2]) [1] 0:=uT (by kernel_rfl)
end
section
open Go.RowKit Go.Shelf
theorem fO {w w':World}{size n g:Nat}{A:Option Addr}{xs:List Value}(h:dv w w.heap.size size A n xs)(hg:w.grownBy w' (some g))(hne:∀ a,A=some a→a.block≠g):dv w' w'.heap.size size A n xs :=
 dv.more (h.hold fun b o ho hc a ha hab=>(hg.block b (Array.getElem?_eq_some_iff.1 ho).1 (fun e=>hne a ha (by rw [hab];exact Option.some.inj e))).trans ho) hg.size
theorem iI (lo hi:Int)(w:World):CallsIn Fence.wide 9 Tryz.prog 43 #[.int .i64 lo,.int .i64 hi] w fun e w'=>e = .returned (.agg #[.int .i64 lo,.int .i64 hi])∧Below w.heap.size w w':=by
 refine callsIn_of_wp Tryz.func43 rfl trivial ?_ rfl;simp only [Tryz.ntmps43,es,Nat.reduceAdd,Nat.reduceSub];gi_upto_region 1 with fail
 have Ly:=lh (Lay.one w 54 #[.int .i64 0,.int .i64 0]);generalize (w.alloc (.cells #[.int .i64 0,.int .i64 0] 54))=w0 at *;have x0_0:=lyc Ly 0 rfl 0;have z0_0:=lyf Ly 0 rfl 0;have x0_1:=lyc Ly 0 rfl 1;have z0_1:=lyf Ly 0 rfl 1;have l0_:=Ly.out.lt 0 rfl;gi_wp2;have R:=ret2' (Ly.out.blk 0 rfl) Ly.out.1 (Ly.out.ge 0 rfl) (.int .i64 lo) (.int .i64 hi);have v0:=R.1.cell 0;have v1:=R.1.cell 1;refine bodyPost_ret (v:=.agg #[.int .i64 lo,.int .i64 hi]) (by simp [results,Tryz.results43,go_sem,v0,v1]) rfl ?_;exact ⟨rfl,R.2.1⟩
theorem j1 (a b c d:Int)(w:World):CallsIn Fence.wide 9 Tryz.prog 47 #[.int .i64 a,.int .i64 b,.int .i64 c,.int .i64 d] w fun e w'=>e = .returned (.agg #[.int .i64 a,.int .i64 b,.int .i64 c,.int .i64 d])∧Below w.heap.size w w':=by
 refine callsIn_of_wp Tryz.func47 rfl trivial ?_ rfl;simp only [Tryz.ntmps47,es,Nat.reduceAdd,Nat.reduceSub];gi_upto_region 1 with fail
 have Ly:=lh (Lay.one w 62 #[.int .i64 0,.int .i64 0,.int .i64 0,.int .i64 0]);generalize (w.alloc (.cells #[.int .i64 0,.int .i64 0,.int .i64 0,.int .i64 0] 62))=w0 at *;have x0_0:=lyc Ly 0 rfl 0;have z0_0:=lyf Ly 0 rfl 0;have x0_1:=lyc Ly 0 rfl 1;have z0_1:=lyf Ly 0 rfl 1;have x0_2:=lyc Ly 0 rfl 2;have z0_2:=lyf Ly 0 rfl 2;have x0_3:=lyc Ly 0 rfl 3;have z0_3:=lyf Ly 0 rfl 3;have l0_:=Ly.out.lt 0 rfl;gi_wp2;have R:=ret4' (Ly.out.blk 0 rfl) Ly.out.1 (Ly.out.ge 0 rfl) (.int .i64 a) (.int .i64 b) (.int .i64 c) (.int .i64 d);have v0:=R.1.cell 0;have v1:=R.1.cell 1;have v2:=R.1.cell 2;have v3:=R.1.cell 3;refine bodyPost_ret (v:=.agg #[.int .i64 a,.int .i64 b,.int .i64 c,.int .i64 d]) (by simp [results,Tryz.results47,go_sem,v0,v1,v2,v3]) rfl ?_;exact ⟨rfl,R.2.1⟩
theorem iT (num vessel after fountain lo hi:Int)(w:World):CallsIn Fence.wide 9 Tryz.prog 35 #[.int .i64 num,.int .i64 vessel,.int .i64 after,.int .i64 fountain,.int .i64 lo,.int .i64 hi] w fun e w'=>e = .returned (.agg #[.int .i64 num,.int .i64 vessel,.int .i64 after,.int .i64 fountain,.int .i64 lo,.int .i64 hi])∧Below w.heap.size w w':=by
 refine callsIn_of_wp Tryz.func35 rfl trivial ?_ rfl;simp only [Tryz.ntmps35,es,Nat.reduceAdd,Nat.reduceSub];gi_upto_region 1 with fail
 have Ly:=lh (Lay.one w 69 #[.int .i64 0,.int .i64 0,.int .i64 0,.int .i64 0,.int .i64 0,.int .i64 0]);generalize (w.alloc (.cells #[.int .i64 0,.int .i64 0,.int .i64 0,.int .i64 0,.int .i64 0,.int .i64 0] 69))=w0 at *;gi_wp2;refine ⟨trivial,(c_W (iI lo hi w0)).mono ?_⟩;rintro e W1 ⟨rfl,hb⟩;replace Ly:=lyb Ly hb;clear hb;have x0_0:=lyc Ly 0 rfl 0;have z0_0:=lyf Ly 0 rfl 0;have x0_1:=lyc Ly 0 rfl 1;have z0_1:=lyf Ly 0 rfl 1;have x0_2:=lyc Ly 0 rfl 2;have z0_2:=lyf Ly 0 rfl 2;have x0_3:=lyc Ly 0 rfl 3;have z0_3:=lyf Ly 0 rfl 3;have x0_4:=lyc Ly 0 rfl 4;have z0_4:=lyf Ly 0 rfl 4;have x0_5:=lyc Ly 0 rfl 5;have z0_5:=lyf Ly 0 rfl 5;have l0_:=Ly.out.lt 0 rfl;gi_wp2;have R:=ret6' (Ly.out.blk 0 rfl) Ly.out.1 (Ly.out.ge 0 rfl) (.int .i64 num) (.int .i64 vessel) (.int .i64 after) (.int .i64 fountain) (.int .i64 lo) (.int .i64 hi);have v0:=R.1.cell 0;have v1:=R.1.cell 1;have v2:=R.1.cell 2;have v3:=R.1.cell 3;have v4:=R.1.cell 4;have v5:=R.1.cell 5;refine bodyPost_ret (v:=.agg #[.int .i64 num,.int .i64 vessel,.int .i64 after,.int .i64 fountain,.int .i64 lo,.int .i64 hi]) (by simp [results,Tryz.results35,go_sem,v0,v1,v2,v3,v4,v5]) rfl ?_;exact ⟨rfl,R.2.1⟩
theorem o9 (A:Option Addr)(n c:Nat)(ts:List Tast)(w:World)(ht:dv w w.heap.size 6 A n (ts.flatMap Tast.vals))(hn:n≤1000) :
  CallsIn Fence.wide 9 Tryz.prog 50 #[.slice A n c] w fun e w'=>∃ g1 g2:Nat,e = .returned (.agg #[.int .i64 2,.slice (some ⟨g1,0,none⟩) 3 3,.slice (some ⟨g2,0,none⟩) 5 5,.slice A n c])∧w.heap.size≤g1∧w.heap.size≤g2∧MixS w' (some ⟨g1,0,none⟩) 3 (some ⟨g2,0,none⟩) 5 A n (eM ts)∧Below w.heap.size w w'∧Blk w' g2 62 #[.int .i64 1,.int .i64 1,.int .i64 1,.int .i64 4,.int .i64 1,.int .i64 2,.int .i64 2,.int .i64 3,.int .i64 2,.int .i64 1,.int .i64 2,.int .i64 2,.int .i64 2,.int .i64 2,.int .i64 3,.int .i64 3,.int .i64 3,.int .i64 3,.int .i64 0,.int .i64 1]:=by
 have HTS:=lh ht;clear ht;refine callsIn_of_wp Tryz.func50 rfl trivial ?_ rfl;simp only [Tryz.ntmps50,es,Nat.reduceAdd,Nat.reduceSub];gi_upto_region 1 with fail
 have Ly:=lh (Lay.one w 26 #[.int .i64 0,.slice none 0 0,.slice none 0 0,.slice none 0 0]);generalize (w.alloc (.cells #[.int .i64 0,.slice none 0 0,.slice none 0 0,.slice none 0 0] 26))=w0 at *;gi_wp2;have HVS:=lh (fP w0 50 (k:=2) (n:=3) [.int .i64 1,.int .i64 6,.int .i64 2,.int .i64 5,.int .i64 3,.int .i64 4] rfl);change Hid (dv (w0.alloc (.cells #[.int .i64 1,.int .i64 6,.int .i64 2,.int .i64 5,.int .i64 3,.int .i64 4] 50)) (w0.alloc (.cells #[.int .i64 1,.int .i64 6,.int .i64 2,.int .i64 5,.int .i64 3,.int .i64 4] 50)).heap.size 2 (some ⟨w0.heap.size,0,none⟩) 3 ((eM ts).vessels.flatMap Vess.vals)) at HVS
 obtain ⟨V0,hV⟩:∃ V,(w0.alloc (.cells #[.int .i64 1,.int .i64 6,.int .i64 2,.int .i64 5,.int .i64 3,.int .i64 4] 50))=V:=⟨_,rfl⟩
 rw [hV] at HVS ⊢;have hb:=eS hV
 obtain ⟨g1,hg1⟩:∃ g,w0.heap.size=g:=⟨_,rfl⟩
 have HG1:=lh (show w.heap.size<g1 from by rw [← hg1];exact Ly.out.lt 0 rfl);rw [hg1] at HVS ⊢;replace Ly:=lyb Ly hb;clear hb hV hg1;refine ⟨trivial,(c_W (j1 1 1 1 4 V0)).mono ?_⟩;rintro e W1 ⟨rfl,hb⟩;replace Ly:=lyb Ly hb;replace HVS:=lh ((HVS.out.below hb).more hb.size);clear hb;gi_wp2;refine ⟨trivial,(c_W (j1 1 2 2 3 W1)).mono ?_⟩;rintro e W2 ⟨rfl,hb⟩;replace Ly:=lyb Ly hb;replace HVS:=lh ((HVS.out.below hb).more hb.size);clear hb;gi_wp2;refine ⟨trivial,(c_W (j1 2 1 2 2 W2)).mono ?_⟩;rintro e W3 ⟨rfl,hb⟩;replace Ly:=lyb Ly hb;replace HVS:=lh ((HVS.out.below hb).more hb.size);clear hb;gi_wp2;refine ⟨trivial,(c_W (j1 2 2 3 3 W3)).mono ?_⟩;rintro e W4 ⟨rfl,hb⟩;replace Ly:=lyb Ly hb;replace HVS:=lh ((HVS.out.below hb).more hb.size);clear hb;gi_wp2;refine ⟨trivial,(c_W (j1 3 3 0 1 W4)).mono ?_⟩;rintro e W5 ⟨rfl,hb⟩;replace Ly:=lyb Ly hb;replace HVS:=lh ((HVS.out.below hb).more hb.size);clear hb;obtain ⟨x0,x1,x2,x3⟩:=lyc4 Ly 0 rfl;have z0:=lyf Ly 0 rfl 0;have z1:=lyf Ly 0 rfl 1;have z2:=lyf Ly 0 rfl 2;have z3:=lyf Ly 0 rfl 3;have zl:=Ly.out.lt 0 rfl;gi_wp2;have R:=ret4' (Ly.out.blk 0 rfl) Ly.out.1 (Ly.out.ge 0 rfl) (.int .i64 2) (.slice (some ⟨g1,0,none⟩) 3 3) (.slice (some ⟨W5.heap.size,0,none⟩) 5 5) (.slice A n c)
 obtain ⟨S,hS⟩:∃ S,((((W5.setCell ⟨w.heap.size,0,none⟩ (.int .i64 2)).setCell ⟨w.heap.size,1,none⟩ (.slice (some ⟨g1,0,none⟩) 3 3)).setCell ⟨w.heap.size,2,none⟩ (.slice (some ⟨W5.heap.size,0,none⟩) 5 5)).setCell ⟨w.heap.size,3,none⟩ (.slice A n c))=S:=⟨_,rfl⟩
 have hsz:S.heap.size=W5.heap.size:=by rw [← hS];simp
 rw [hS] at R ⊢;clear hS;have hb:Below S.heap.size S (S.alloc (.cells #[.int .i64 1,.int .i64 1,.int .i64 1,.int .i64 4,.int .i64 1,.int .i64 2,.int .i64 2,.int .i64 3,.int .i64 2,.int .i64 1,.int .i64 2,.int .i64 2,.int .i64 2,.int .i64 2,.int .i64 3,.int .i64 3,.int .i64 3,.int .i64 3,.int .i64 0,.int .i64 1] 62)):=b_R.alloc n_R _;have HAS:=fP S 62 (k:=4) (n:=5) [.int .i64 1,.int .i64 1,.int .i64 1,.int .i64 4,.int .i64 1,.int .i64 2,.int .i64 2,.int .i64 3,.int .i64 2,.int .i64 1,.int .i64 2,.int .i64 2,.int .i64 2,.int .i64 2,.int .i64 3,.int .i64 3,.int .i64 3,.int .i64 3,.int .i64 0,.int .i64 1] rfl;change dv (S.alloc (.cells #[.int .i64 1,.int .i64 1,.int .i64 1,.int .i64 4,.int .i64 1,.int .i64 2,.int .i64 2,.int .i64 3,.int .i64 2,.int .i64 1,.int .i64 2,.int .i64 2,.int .i64 2,.int .i64 2,.int .i64 3,.int .i64 3,.int .i64 3,.int .i64 3,.int .i64 0,.int .i64 1] 62)) (S.alloc (.cells #[.int .i64 1,.int .i64 1,.int .i64 1,.int .i64 4,.int .i64 1,.int .i64 2,.int .i64 2,.int .i64 3,.int .i64 2,.int .i64 1,.int .i64 2,.int .i64 2,.int .i64 2,.int .i64 2,.int .i64 3,.int .i64 3,.int .i64 3,.int .i64 3,.int .i64 0,.int .i64 1] 62)).heap.size 4 (some ⟨S.heap.size,0,none⟩) 5 ((eM ts).acts.flatMap MAct.vals) at HAS;have HBK:=Blk.new S 62 #[.int .i64 1,.int .i64 1,.int .i64 1,.int .i64 4,.int .i64 1,.int .i64 2,.int .i64 2,.int .i64 3,.int .i64 2,.int .i64 1,.int .i64 2,.int .i64 2,.int .i64 2,.int .i64 2,.int .i64 3,.int .i64 3,.int .i64 3,.int .i64 3,.int .i64 0,.int .i64 1];rw [hsz] at HBK;rw [show (some (⟨S.heap.size,0,none⟩:Addr))=some ⟨W5.heap.size,0,none⟩ from by rw [hsz]] at HAS;have HV2:=((fO HVS.out R.2.2 (fun a ha=>by cases ha;exact Nat.ne_of_gt HG1.out)).below hb).more hb.size;have hg2:=Ly.out.1.size;have RB:=R.1.alloc (.cells #[.int .i64 1,.int .i64 1,.int .i64 1,.int .i64 4,.int .i64 1,.int .i64 2,.int .i64 2,.int .i64 3,.int .i64 2,.int .i64 1,.int .i64 2,.int .i64 2,.int .i64 2,.int .i64 2,.int .i64 3,.int .i64 3,.int .i64 3,.int .i64 3,.int .i64 0,.int .i64 1] 62);have HBB:=R.2.1.trans (hb.mono (Nat.le_trans hg2 R.2.2.size));clear hb hsz R;generalize (S.alloc (.cells #[.int .i64 1,.int .i64 1,.int .i64 1,.int .i64 4,.int .i64 1,.int .i64 2,.int .i64 2,.int .i64 3,.int .i64 2,.int .i64 1,.int .i64 2,.int .i64 2,.int .i64 2,.int .i64 2,.int .i64 3,.int .i64 3,.int .i64 3,.int .i64 3,.int .i64 0,.int .i64 1] 62))=V1 at *;have v0:=RB.cell 0;have v1:=RB.cell 1;have v2:=RB.cell 2;have v3:=RB.cell 3;refine bodyPost_ret (v:=.agg #[.int .i64 2,.slice (some ⟨g1,0,none⟩) 3 3,.slice (some ⟨W5.heap.size,0,none⟩) 5 5,.slice A n c]) (by simp [results,Tryz.results50,go_sem,v0,v1,v2,v3]) rfl ?_;exact ⟨g1,W5.heap.size,rfl,Nat.le_of_lt HG1.out,hg2,⟨⟨HV2,HAS,(HTS.out.below HBB).more HBB.size⟩,by omega,by omega,hn⟩,HBB,HBK⟩
theorem fb (A:Option Addr)(n c:Nat)(ts:List Tast)(w:World)(ht:dv w w.heap.size 6 A n (ts.flatMap Tast.vals))(hn:n≤1000) :
  CallsIn Fence.wide 9 Tryz.prog 50 #[.slice A n c] w fun e w'=>∃ g1 g2:Nat,e = .returned (.agg #[.int .i64 2,.slice (some ⟨g1,0,none⟩) 3 3,.slice (some ⟨g2,0,none⟩) 5 5,.slice A n c])∧w.heap.size≤g1∧w.heap.size≤g2∧MixS w' (some ⟨g1,0,none⟩) 3 (some ⟨g2,0,none⟩) 5 A n (eM ts)∧Below w.heap.size w w' :=
 (o9 A n c ts w ht hn).mono fun e w' ⟨g1,g2,h1,h2,h3,h4,h5,_⟩=>⟨g1,g2,h1,h2,h3,h4,h5⟩
end
section
open Go.RowKit
def jx (A B:Option Addr):Prop:=∀ a b,A=some a→B=some b→a.block≠b.block
theorem mg {w w':World}{base base' n cap size n' cap' size':Nat}{e e':TypeId}{A B:Option Addr}{xs ys:List Value}(h:Own w base e size A n cap xs)(h':Own w' base' e' size' B n' cap' ys)(hb:w.heap.size≤base'):jx A B:=by
 intro a b ha hb2;have h1:=(h.lt ha).2;have h2:=(h'.lt hb2).1;omega
structure CpGh where
 A1:Option Addr
 c1:Nat
 A2:Option Addr
 c2:Nat
 A3:Option Addr
 c3:Nat
structure fe (w:World)(base:Nat)(A1:Option Addr)(nv c1:Nat)(A2:Option Addr)(na c2:Nat)(A3:Option Addr)(nt c3:Nat)(m:Mix):Prop where
 v:Own w base 50 2 A1 nv c1 (m.vessels.flatMap Vess.vals)
 a:Own w base 62 4 A2 na c2 (m.acts.flatMap MAct.vals)
 t:Own w base 69 6 A3 nt c3 (m.tastes.flatMap Tast.vals)
 va:jx A1 A2
 vt:jx A1 A3
 at_:jx A2 A3
def tr (w:World)(nv na nt:Nat)(m:Mix)(e:Ending)(w':World):Prop :=
 ∃ A1 c1 A2 c2 A3 c3,e = .returned (.agg #[.int .i64 m.fountains,.slice A1 nv c1,.slice A2 na c2,.slice A3 nt c3])∧fe w' w.heap.size A1 nv c1 A2 na c2 A3 nt c3 m∧Below w.heap.size w w'
structure CpI (Av:Option Addr)(nv cv:Nat)(Aa:Option Addr)(na ca:Nat)(At:Option Addr)(nt ct:Nat)(m:Mix)(w:World)(L:Nat→Bool)(gh:CpGh)(s:Nat→Value)(W:World):Prop where
 g1:Below w.heap.size w W
 m0:L 10=false→Blk W w.heap.size 26 #[.int .i64 m.fountains,.slice Av nv cv,.slice Aa na ca,.slice At nt ct]
 m1:L 10=true→L 12=false→Blk W w.heap.size 26 #[.int .i64 m.fountains,.slice gh.A1 nv gh.c1,.slice Aa na ca,.slice At nt ct]
 m2:L 12=true→L 14=false→Blk W w.heap.size 26 #[.int .i64 m.fountains,.slice gh.A1 nv gh.c1,.slice gh.A2 na gh.c2,.slice At nt ct]
 m3:L 14=true→Blk W w.heap.size 26 #[.int .i64 m.fountains,.slice gh.A1 nv gh.c1,.slice gh.A2 na gh.c2,.slice gh.A3 nt gh.c3]
 gz:Blk W (w.heap.size+1) 26 #[.int .i64 0,.slice none 0 0,.slice none 0 0,.slice none 0 0]
 o1:L 2=true→Own W (w.heap.size+2) 50 2 gh.A1 nv gh.c1 (m.vessels.flatMap Vess.vals)
 o2:L 5=true→Own W (w.heap.size+2) 62 4 gh.A2 na gh.c2 (m.acts.flatMap MAct.vals)
 o3:L 8=true→Own W (w.heap.size+2) 69 6 gh.A3 nt gh.c3 (m.tastes.flatMap Tast.vals)
 d12:L 2=true→L 5=true→jx gh.A1 gh.A2
 d13:L 2=true→L 8=true→jx gh.A1 gh.A3
 d23:L 5=true→L 8=true→jx gh.A2 gh.A3
 f0:L 0=true→s 3 = .pointer (some ⟨w.heap.size,1,none⟩)
 f1:L 1=true→s 4 = .slice Av nv cv
 f2:L 2=true→s 5 = .slice gh.A1 nv gh.c1
 f3:L 3=true→s 6 = .pointer (some ⟨w.heap.size,2,none⟩)
 f4:L 4=true→s 7 = .slice Aa na ca
 f5:L 5=true→s 8 = .slice gh.A2 na gh.c2
 f6:L 6=true→s 9 = .pointer (some ⟨w.heap.size,3,none⟩)
 f7:L 7=true→s 10 = .slice At nt ct
 f8:L 8=true→s 11 = .slice gh.A3 nt gh.c3
 f9:L 9=true→s 12 = .pointer (some ⟨w.heap.size,1,none⟩)
 f11:L 11=true→s 13 = .pointer (some ⟨w.heap.size,2,none⟩)
 f13:L 13=true→s 14 = .pointer (some ⟨w.heap.size,3,none⟩)
theorem kM (Av:Option Addr)(nv cv:Nat)(Aa:Option Addr)(na ca:Nat)(At:Option Addr)(nt ct:Nat)(m:Mix)(w:World)(h:MixS w Av nv Aa na At nt m) :
  CallsIn Fence.wide 9 Tryz.prog 72 #[.agg #[.int .i64 m.fountains,.slice Av nv cv,.slice Aa na ca,.slice At nt ct]] w (tr w nv na nt m):=by
 have HM:=lh h;clear h;refine callsIn_of_wp Tryz.func72 rfl trivial ?_ rfl;simp only [Tryz.ntmps72,es,Nat.reduceAdd,Nat.reduceSub];gi_wp2;have Ly:=lh (Lay.two w 26 #[.int .i64 m.fountains,.slice Av nv cv,.slice Aa na ca,.slice At nt ct] 26 #[.int .i64 0,.slice none 0 0,.slice none 0 0,.slice none 0 0]);generalize ((w.alloc (.cells #[.int .i64 m.fountains,.slice Av nv cv,.slice Aa na ca,.slice At nt ct] 26)).alloc (.cells #[.int .i64 0,.slice none 0 0,.slice none 0 0,.slice none 0 0] 26))=w0 at *;have HB0:=lh Ly.out.1;have HX0:=lh (Ly.out.blk 0 rfl);have HZ0:=lh (Ly.out.blk 1 rfl);clear Ly
 refine gW (by kernel_rfl) (by kernel_rfl) (fun σ:CpGh × (Nat→Value)=>{ tmps:=#[.agg #[.int .i64 m.fountains,.slice Av nv cv,.slice Aa na ca,.slice At nt ct],.pointer (some ⟨w.heap.size,0,none⟩),.pointer (some ⟨w.heap.size+1,0,none⟩),σ.2 3,σ.2 4,σ.2 5,σ.2 6,σ.2 7,σ.2 8,σ.2 9,σ.2 10,σ.2 11,σ.2 12,σ.2 13,σ.2 14,undef],defers:=[] })
  (fun L σ W=>CpI Av nv cv Aa na ca At nt ct m w L σ.1 σ.2 W) (⟨none,0,none,0,none,0⟩,fun k=>undef) rfl ?_ ?_ ?_
 ·exact ⟨av HB0.out 1,(fun _=>HX0.out.drewN 1),(fun h=>by cases h),(fun h=>by cases h),(fun h=>by cases h),HZ0.out.drewN 1,(fun h=>by cases h),(fun h=>by cases h),(fun h=>by cases h),(fun h=>by cases h),(fun h=>by cases h),(fun h=>by cases h),(fun h=>by cases h),(fun h=>by cases h),(fun h=>by cases h),(fun h=>by cases h),(fun h=>by cases h),(fun h=>by cases h),(fun h=>by cases h),(fun h=>by cases h),(fun h=>by cases h),(fun h=>by cases h),(fun h=>by cases h),(fun h=>by cases h)⟩
 ·refine ⟨?_,?_,?_,?_,?_,?_,?_,?_,?_,?_,?_,?_,?_,?_,?_,trivial⟩
  ·rintro L ⟨gh,s⟩ W hu hd hdn H K Q hK
   have hxl:=HX0.out.lt;have HF:=lh H;clear H hd
   try simp only
   gi_wp2;exact hK (gh,(upd s 3 (.pointer (some ⟨w.heap.size,1,none⟩)))) _ { HF.out with f0:=(fun _=>rfl) }
  ·rintro L ⟨gh,s⟩ W hu hd hdn H K Q hK
   have e0:=H.f0 (hd.at_ 0 rfl)
   have h10:L 10=false:=by
    cases hc:L 10 with
    | false=>rfl
    | true=>exact hdn.no 10 1 hc rfl hu
   have c0:W.cell? ⟨w.heap.size,1,none⟩=some (.slice Av nv cv):=(H.m0 h10).cell 1;have HF:=lh H;clear H hd
   try simp only at e0 ⊢
   gi_wp2;exact hK (gh,(upd (upd s 3 (.pointer (some ⟨w.heap.size,1,none⟩))) 4 (.slice Av nv cv))) _ { HF.out with f0:=(fun _=>rfl),f1:=(fun _=>rfl) }
  ·rintro L ⟨gh,s⟩ W hu hd hdn H K Q hK
   have e1:=H.f1 (hd.at_ 1 rfl)
   have h10:L 10=false:=by
    cases hc:L 10 with
    | false=>rfl
    | true=>exact hdn.no 10 2 hc rfl hu
   have h12:L 12=false:=by
    cases hc:L 12 with
    | false=>rfl
    | true=>exact hdn.no 12 2 hc rfl hu
   have h14:L 14=false:=by
    cases hc:L 14 with
    | false=>rfl
    | true=>exact hdn.no 14 2 hc rfl hu
   have HG1:=lh H.g1;have hW:=H.gz.lt;have HF:=lh H;clear H hd
   try simp only at e1 ⊢
   gi_wp2;refine ⟨trivial,(callsIn_wide.2 (rY Av nv cv m.vessels W ((HM.out.at_.up HG1.out).vessels) HM.out.hv)).mono ?_⟩;rintro e W1 ⟨AN,cN,rfl,hP,-,hb⟩;gi_wp2;have hO:=hP.mono (show w.heap.size+2≤W.heap.size by omega);exact hK ({ gh with A1:=AN,c1:=cN },(upd (upd s 4 (.slice Av nv cv)) 5 (.slice AN nv cN))) _ { HF.out with g1:=(HF.out.g1.trans (hb.mono HF.out.g1.size)),m0:=(fun h=>(HF.out.m0 h).below hb (HF.out.m0 h).lt),m1:=(fun h=>absurd (h10.symm.trans h) (by decide)),m2:=(fun h=>absurd (h12.symm.trans h) (by decide)),m3:=(fun h=>absurd (h14.symm.trans h) (by decide)),gz:=(HF.out.gz.below hb HF.out.gz.lt),o1:=(fun _=>hO),o2:=(fun h5=>hdn.no 5 2 h5 rfl hu),o3:=(fun h8=>hdn.no 5 2 (hdn.at_ 8 5 h8 rfl) rfl hu),d12:=(fun _ h5=>hdn.no 5 2 h5 rfl hu),d13:=(fun _ h8=>hdn.no 5 2 (hdn.at_ 8 5 h8 rfl) rfl hu),f1:=(fun _=>rfl),f2:=(fun _=>rfl) }
  ·rintro L ⟨gh,s⟩ W hu hd hdn H K Q hK
   have HF:=lh H;clear H hd
   try simp only
   gi_wp2;exact hK (gh,(upd s 6 (.pointer (some ⟨w.heap.size,2,none⟩)))) _ { HF.out with f3:=(fun _=>rfl) }
  ·rintro L ⟨gh,s⟩ W hu hd hdn H K Q hK
   have e3:=H.f3 (hd.at_ 3 rfl)
   have h10:L 10=false:=by
    cases hc:L 10 with
    | false=>rfl
    | true=>exact hdn.no 10 4 hc rfl hu
   have c0:W.cell? ⟨w.heap.size,2,none⟩=some (.slice Aa na ca):=(H.m0 h10).cell 2;have HF:=lh H;clear H hd
   try simp only at e3 ⊢
   gi_wp2;exact hK (gh,(upd (upd s 6 (.pointer (some ⟨w.heap.size,2,none⟩))) 7 (.slice Aa na ca))) _ { HF.out with f3:=(fun _=>rfl),f4:=(fun _=>rfl) }
  ·rintro L ⟨gh,s⟩ W hu hd hdn H K Q hK
   have e4:=H.f4 (hd.at_ 4 rfl);have d2:=hd.at_ 2 rfl
   have h10:L 10=false:=by
    cases hc:L 10 with
    | false=>rfl
    | true=>exact hdn.no 8 5 (hdn.at_ 10 8 hc rfl) rfl hu
   have h12:L 12=false:=by
    cases hc:L 12 with
    | false=>rfl
    | true=>exact hdn.no 12 5 hc rfl hu
   have h14:L 14=false:=by
    cases hc:L 14 with
    | false=>rfl
    | true=>exact hdn.no 14 5 hc rfl hu
   have HG1:=lh H.g1;have hW:=H.gz.lt;have HF:=lh H;clear H hd
   try simp only at e4 ⊢
   gi_wp2;refine ⟨trivial,(callsIn_wide.2 (tS Aa na ca m.acts W ((HM.out.at_.up HG1.out).acts) HM.out.ha)).mono ?_⟩;rintro e W1 ⟨AN,cN,rfl,hP,-,hb⟩;gi_wp2;have hO:=hP.mono (show w.heap.size+2≤W.heap.size by omega);exact hK ({ gh with A2:=AN,c2:=cN },(upd (upd s 7 (.slice Aa na ca)) 8 (.slice AN na cN))) _ { HF.out with g1:=(HF.out.g1.trans (hb.mono HF.out.g1.size)),m0:=(fun h=>(HF.out.m0 h).below hb (HF.out.m0 h).lt),m1:=(fun h=>absurd (h10.symm.trans h) (by decide)),m2:=(fun h=>absurd (h12.symm.trans h) (by decide)),m3:=(fun h=>absurd (h14.symm.trans h) (by decide)),gz:=(HF.out.gz.below hb HF.out.gz.lt),o1:=(fun h=>(HF.out.o1 h).below hb n_R),o2:=(fun _=>hO),o3:=(fun h8=>hdn.no 8 5 h8 rfl hu),d12:=(fun h2 _=>mg (HF.out.o1 h2) hP n_R),d23:=(fun _ h8=>hdn.no 8 5 h8 rfl hu),f4:=(fun _=>rfl),f5:=(fun _=>rfl) }
  ·rintro L ⟨gh,s⟩ W hu hd hdn H K Q hK
   have HF:=lh H;clear H hd
   try simp only
   gi_wp2;exact hK (gh,(upd s 9 (.pointer (some ⟨w.heap.size,3,none⟩)))) _ { HF.out with f6:=(fun _=>rfl) }
  ·rintro L ⟨gh,s⟩ W hu hd hdn H K Q hK
   have e6:=H.f6 (hd.at_ 6 rfl)
   have h10:L 10=false:=by
    cases hc:L 10 with
    | false=>rfl
    | true=>exact hdn.no 10 7 hc rfl hu
   have c0:W.cell? ⟨w.heap.size,3,none⟩=some (.slice At nt ct):=(H.m0 h10).cell 3;have HF:=lh H;clear H hd
   try simp only at e6 ⊢
   gi_wp2;exact hK (gh,(upd (upd s 9 (.pointer (some ⟨w.heap.size,3,none⟩))) 10 (.slice At nt ct))) _ { HF.out with f6:=(fun _=>rfl),f7:=(fun _=>rfl) }
  ·rintro L ⟨gh,s⟩ W hu hd hdn H K Q hK
   have e7:=H.f7 (hd.at_ 7 rfl);have d5:=hd.at_ 5 rfl
   have h10:L 10=false:=by
    cases hc:L 10 with
    | false=>rfl
    | true=>exact hdn.no 10 8 hc rfl hu
   have h12:L 12=false:=by
    cases hc:L 12 with
    | false=>rfl
    | true=>exact hdn.no 10 8 (hdn.at_ 12 10 hc rfl) rfl hu
   have h14:L 14=false:=by
    cases hc:L 14 with
    | false=>rfl
    | true=>exact hdn.no 14 8 hc rfl hu
   have HG1:=lh H.g1;have hW:=H.gz.lt;have HF:=lh H;clear H hd
   try simp only at e7 ⊢
   gi_wp2;refine ⟨trivial,(callsIn_wide.2 (r6 At nt ct m.tastes W ((HM.out.at_.up HG1.out).tastes) HM.out.ht)).mono ?_⟩;rintro e W1 ⟨AN,cN,rfl,hP,-,hb⟩;gi_wp2;have hO:=hP.mono (show w.heap.size+2≤W.heap.size by omega);exact hK ({ gh with A3:=AN,c3:=cN },(upd (upd s 10 (.slice At nt ct)) 11 (.slice AN nt cN))) _ { HF.out with g1:=(HF.out.g1.trans (hb.mono HF.out.g1.size)),m0:=(fun h=>(HF.out.m0 h).below hb (HF.out.m0 h).lt),m1:=(fun h=>absurd (h10.symm.trans h) (by decide)),m2:=(fun h=>absurd (h12.symm.trans h) (by decide)),m3:=(fun h=>absurd (h14.symm.trans h) (by decide)),gz:=(HF.out.gz.below hb HF.out.gz.lt),o1:=(fun h=>(HF.out.o1 h).below hb n_R),o2:=(fun h=>(HF.out.o2 h).below hb n_R),o3:=(fun _=>hO),d13:=(fun h2 _=>mg (HF.out.o1 h2) hP n_R),d23:=(fun h5 _=>mg (HF.out.o2 h5) hP n_R),f7:=(fun _=>rfl),f8:=(fun _=>rfl) }
  ·rintro L ⟨gh,s⟩ W hu hd hdn H K Q hK
   have HF:=lh H;clear H hd
   try simp only
   gi_wp2;exact hK (gh,(upd s 12 (.pointer (some ⟨w.heap.size,1,none⟩)))) _ { HF.out with f9:=(fun _=>rfl) }
  ·rintro L ⟨gh,s⟩ W hu hd hdn H K Q hK
   have e9:=H.f9 (hd.at_ 9 rfl);have e2:=H.f2 (hd.at_ 2 rfl);have d2:=hd.at_ 2 rfl;have MB:=H.m0 hu;have y0:=MB.cell 0;have z0:=MB.frozen 0;have y1:=MB.cell 1;have z1:=MB.frozen 1;have y2:=MB.cell 2;have z2:=MB.frozen 2;have y3:=MB.cell 3;have z3:=MB.frozen 3;have rl:=MB.lt;have HMB:=lh MB;clear MB;have HW2:=lh d2;clear d2;have HF:=lh H;clear H hd
   try simp only at e9 e2 ⊢
   gi_wp2;have hg:W.grownBy (W.setCell ⟨w.heap.size,1,none⟩ (.slice gh.A1 nv gh.c1)) (some w.heap.size):=eu (eY _ _) (p:=⟨w.heap.size,1,none⟩) (.inl rfl) _;exact hK (gh,(upd (upd s 12 (.pointer (some ⟨w.heap.size,1,none⟩))) 5 (.slice gh.A1 nv gh.c1))) _ { HF.out with g1:=(HF.out.g1.setCell (p:=⟨w.heap.size,1,none⟩) n_R _),gz:=(HF.out.gz.grown hg (by simp)),o1:=(fun h=>(HF.out.o1 h).grown hg (fun a ha e=>by have:=((HF.out.o1 h).lt ha).1;have:=Option.some.inj e;omega)),o2:=(fun h=>(HF.out.o2 h).grown hg (fun a ha e=>by have:=((HF.out.o2 h).lt ha).1;have:=Option.some.inj e;omega)),o3:=(fun h=>(HF.out.o3 h).grown hg (fun a ha e=>by have:=((HF.out.o3 h).lt ha).1;have:=Option.some.inj e;omega)),m0:=(fun h=>by cases h),m1:=(fun _ _=>HMB.out.set_ 1 (.slice gh.A1 nv gh.c1)),m2:=(fun h=>hdn.no 12 10 h rfl hu),m3:=(fun h=>hdn.no 12 10 (hdn.at_ 14 12 h rfl) rfl hu),f2:=(fun _=>rfl),f9:=(fun _=>rfl) }
  ·rintro L ⟨gh,s⟩ W hu hd hdn H K Q hK
   have HF:=lh H;clear H hd
   try simp only
   gi_wp2;exact hK (gh,(upd s 13 (.pointer (some ⟨w.heap.size,2,none⟩)))) _ { HF.out with f11:=(fun _=>rfl) }
  ·rintro L ⟨gh,s⟩ W hu hd hdn H K Q hK
   have e11:=H.f11 (hd.at_ 11 rfl);have e5:=H.f5 (hd.at_ 5 rfl);have d2:=hd.at_ 2 rfl;have d10:=hd.at_ 10 rfl;have MB:=H.m1 d10 hu;have y0:=MB.cell 0;have z0:=MB.frozen 0;have y1:=MB.cell 1;have z1:=MB.frozen 1;have y2:=MB.cell 2;have z2:=MB.frozen 2;have y3:=MB.cell 3;have z3:=MB.frozen 3;have rl:=MB.lt;have HMB:=lh MB;clear MB;have HW2:=lh d2;clear d2;have HW10:=lh d10;clear d10;have HF:=lh H;clear H hd
   try simp only at e11 e5 ⊢
   gi_wp2;have hg:W.grownBy (W.setCell ⟨w.heap.size,2,none⟩ (.slice gh.A2 na gh.c2)) (some w.heap.size):=eu (eY _ _) (p:=⟨w.heap.size,2,none⟩) (.inl rfl) _;exact hK (gh,(upd (upd s 13 (.pointer (some ⟨w.heap.size,2,none⟩))) 8 (.slice gh.A2 na gh.c2))) _ { HF.out with g1:=(HF.out.g1.setCell (p:=⟨w.heap.size,2,none⟩) n_R _),gz:=(HF.out.gz.grown hg (by simp)),o1:=(fun h=>(HF.out.o1 h).grown hg (fun a ha e=>by have:=((HF.out.o1 h).lt ha).1;have:=Option.some.inj e;omega)),o2:=(fun h=>(HF.out.o2 h).grown hg (fun a ha e=>by have:=((HF.out.o2 h).lt ha).1;have:=Option.some.inj e;omega)),o3:=(fun h=>(HF.out.o3 h).grown hg (fun a ha e=>by have:=((HF.out.o3 h).lt ha).1;have:=Option.some.inj e;omega)),m0:=(fun h=>absurd (HW10.out.symm.trans h) (by decide)),m1:=(fun _ h=>by cases h),m2:=(fun _ _=>HMB.out.set_ 2 (.slice gh.A2 na gh.c2)),m3:=(fun h=>hdn.no 14 12 h rfl hu),f5:=(fun _=>rfl),f11:=(fun _=>rfl) }
  ·rintro L ⟨gh,s⟩ W hu hd hdn H K Q hK
   have HF:=lh H;clear H hd
   try simp only
   gi_wp2;exact hK (gh,(upd s 14 (.pointer (some ⟨w.heap.size,3,none⟩)))) _ { HF.out with f13:=(fun _=>rfl) }
  ·rintro L ⟨gh,s⟩ W hu hd hdn H K Q hK
   have e13:=H.f13 (hd.at_ 13 rfl);have e8:=H.f8 (hd.at_ 8 rfl);have d2:=hd.at_ 2 rfl;have h10t:L 10=true:=hdn.at_ 12 10 (hd.at_ 12 rfl) rfl;have HT10:=lh h10t;clear h10t;have MB:=H.m2 (hd.at_ 12 rfl) hu;have y0:=MB.cell 0;have z0:=MB.frozen 0;have y1:=MB.cell 1;have z1:=MB.frozen 1;have y2:=MB.cell 2;have z2:=MB.frozen 2;have y3:=MB.cell 3;have z3:=MB.frozen 3;have rl:=MB.lt;have HMB:=lh MB;clear MB;have HW2:=lh d2;clear d2;have HW12:=lh (hd.at_ 12 rfl);have HF:=lh H;clear H hd
   try simp only at e13 e8 ⊢
   gi_wp2;have h10t:=HT10.out;have hg:W.grownBy (W.setCell ⟨w.heap.size,3,none⟩ (.slice gh.A3 nt gh.c3)) (some w.heap.size):=eu (eY _ _) (p:=⟨w.heap.size,3,none⟩) (.inl rfl) _;exact hK (gh,(upd (upd s 14 (.pointer (some ⟨w.heap.size,3,none⟩))) 11 (.slice gh.A3 nt gh.c3))) _ { HF.out with g1:=(HF.out.g1.setCell (p:=⟨w.heap.size,3,none⟩) n_R _),gz:=(HF.out.gz.grown hg (by simp)),o1:=(fun h=>(HF.out.o1 h).grown hg (fun a ha e=>by have:=((HF.out.o1 h).lt ha).1;have:=Option.some.inj e;omega)),o2:=(fun h=>(HF.out.o2 h).grown hg (fun a ha e=>by have:=((HF.out.o2 h).lt ha).1;have:=Option.some.inj e;omega)),o3:=(fun h=>(HF.out.o3 h).grown hg (fun a ha e=>by have:=((HF.out.o3 h).lt ha).1;have:=Option.some.inj e;omega)),m0:=(fun h=>absurd (h10t.symm.trans h) (by decide)),m1:=(fun _ h=>absurd (HW12.out.symm.trans h) (by decide)),m2:=(fun _ h=>by cases h),m3:=(fun _=>HMB.out.set_ 3 (.slice gh.A3 nt gh.c3)),f8:=(fun _=>rfl),f13:=(fun _=>rfl) }
 ·rintro L ⟨gh,s⟩ W hall H
  obtain ⟨g1,m0,m1,m2,m3,gz,o1,o2,o3,d12,d13,d23,f0,f1,f2,f3,f4,f5,f6,f7,f8,f9,f11,f13⟩:=H;have GO1:=lh (o1 (hall 2 (by decide)));have GO2:=lh (o2 (hall 5 (by decide)));have GO3:=lh (o3 (hall 8 (by decide)));have GD:=lh (ai (d12 (hall 2 (by decide)) (hall 5 (by decide))) (ai (d13 (hall 2 (by decide)) (hall 8 (by decide))) (d23 (hall 5 (by decide)) (hall 8 (by decide)))));have GM:=lh (m3 (hall 14 (by decide)));have GZ:=lh gz;have G1:=lh g1;clear f13 f11 f9 f8 f7 f6 f5 f4 f3 f2 f1 f0 d23 d13 d12 o3 o2 o1 gz m3 m2 m1 m0 g1 hall;simp only;have y0:=GM.out.cell 0;have y1:=GM.out.cell 1;have y2:=GM.out.cell 2;have y3:=GM.out.cell 3;have zl:=GZ.out.lt;have q0:=GZ.out.cell 0;have q1:=GZ.out.cell 1;have q2:=GZ.out.cell 2;have q3:=GZ.out.cell 3;have z0:=GZ.out.frozen 0;have z1:=GZ.out.frozen 1;have z2:=GZ.out.frozen 2;have z3:=GZ.out.frozen 3;gi_wp2;have R4:=ret4' GZ.out (Below.refl (w.heap.size+1) W) n_R (.int .i64 m.fountains) (.slice gh.A1 nv gh.c1) (.slice gh.A2 na gh.c2) (.slice gh.A3 nt gh.c3);have v0:=R4.1.cell 0;have v1:=R4.1.cell 1;have v2:=R4.1.cell 2;have v3:=R4.1.cell 3;have hne:∀ {e:TypeId} {size n cap:Nat} {A:Option Addr} {xs:List Value},Own W (w.heap.size+2) e size A n cap xs→∀ a,A=some a→some a.block≠some (w.heap.size+1):=fun ho a ha e=>by have:=(ho.lt ha).1;have:=Option.some.inj e;omega
  refine bodyPost_ret (v:=.agg #[.int .i64 m.fountains,.slice gh.A1 nv gh.c1,.slice gh.A2 na gh.c2,.slice gh.A3 nt gh.c3]) (by simp [results,Tryz.results72,go_sem,v0,v1,v2,v3]) rfl ?_;exact ⟨gh.A1,gh.c1,gh.A2,gh.c2,gh.A3,gh.c3,rfl,⟨(GO1.out.grown R4.2.2 (hne GO1.out)).mono (by omega),(GO2.out.grown R4.2.2 (hne GO2.out)).mono (by omega),(GO3.out.grown R4.2.2 (hne GO3.out)).mono (by omega),GD.out.1,GD.out.2.1,GD.out.2.2⟩,G1.out.trans (R4.2.1.mono (by omega))⟩
end
section
open Go.RowKit
section
variable {w W W':World} {base:Nat} {A1 A2 A3:Option Addr} {nv c1 na c2 nt c3:Nat} {m:Mix}
theorem fe.s (h:fe W base A1 nv c1 A2 na c2 A3 nt c3 m)(hv:nv≤1000)(ha:na≤1000)(ht:nt≤1000):MixS W A1 nv A2 na A3 nt m:=⟨⟨h.v.reads n_R,h.a.reads n_R,h.t.reads n_R⟩,hv,ha,ht⟩
theorem fe.below (h:fe W base A1 nv c1 A2 na c2 A3 nt c3 m)(hb:Below W.heap.size W W'):fe W' base A1 nv c1 A2 na c2 A3 nt c3 m:=⟨h.v.below hb n_R,h.a.below hb n_R,h.t.below hb n_R,h.va,h.vt,h.at_⟩
theorem fe.mono (h:fe W base A1 nv c1 A2 na c2 A3 nt c3 m){b':Nat}(hb:b'≤base):fe W b' A1 nv c1 A2 na c2 A3 nt c3 m:=⟨h.v.mono hb,h.a.mono hb,h.t.mono hb,h.va,h.vt,h.at_⟩
theorem kG {e:TypeId}{size n cap g:Nat}{A:Option Addr}{xs:List Value}(h:Own W base e size A n cap xs)(hg:W.grownBy W' (some g))(hlt:g<base):Own W' base e size A n cap xs:=h.grown hg (fun a ha e=>by have:=(h.lt ha).1;have:=Option.some.inj e;omega)
theorem fe.off {g:Nat}(h:fe W base A1 nv c1 A2 na c2 A3 nt c3 m)(hg:W.grownBy W' (some g))(hlt:g<base):fe W' base A1 nv c1 A2 na c2 A3 nt c3 m:=⟨kG h.v hg hlt,kG h.a hg hlt,kG h.t hg hlt,h.va,h.vt,h.at_⟩
theorem fe.nothing (W:World)(base:Nat):fe W base none 0 0 none 0 0 none 0 0 fd:=⟨Own.none_ _ _ _ _,Own.none_ _ _ _ _,Own.none_ _ _ _ _,fun a b h=>(by cases h),fun a b h=>(by cases h),fun a b h=>(by cases h)⟩
theorem kL {A B:Option Addr}(h:jx A B):∀ a,A=some a→some a.block≠B.map (·.block):=by
 intro a ha e
 cases hB:B with
 | none=>rw [hB] at e;cases e
 | some b=>rw [hB] at e;exact h a b ha hB (Option.some.inj e)
theorem jX {B A9:Option Addr}{A:Option Addr}{e:TypeId}{size n cap:Nat}{xs:List Value}(h:jx A B)(ho:Own W base e size A n cap xs)(hA:A9=B∨A9=some ⟨W.heap.size,0,none⟩):jx A A9:=by
 intro a b ha hb;rcases hA with e1 | e1
 ·exact h a b ha (e1 ▸ hb)
 ·rw [e1] at hb
  cases hb;have:=(ho.lt ha).2;dsimp only;omega
theorem jx.symm {A B:Option Addr}(h:jx A B):jx B A:=fun a b ha hb e=>h b a hb ha e.symm
theorem fe.acts {A9:Option Addr}{c9:Nat}{x:MAct}(h:fe W base A1 nv c1 A2 na c2 A3 nt c3 m)(hg:W.grownBy W' (A2.map (·.block)))(ho:Own W' base 62 4 A9 (na+1) c9 (m.acts.flatMap MAct.vals++x.vals))(hA:A9=A2∨A9=some ⟨W.heap.size,0,none⟩) :
  fe W' base A1 nv c1 A9 (na+1) c9 A3 nt c3 (gD m (m.acts++[x])):=by
 refine ⟨h.v.grown hg (kL h.va),?_,h.t.grown hg (kL h.at_.symm),jX h.va h.v hA,h.vt,(jX h.at_.symm h.t hA).symm⟩
 show Own W' base _ 4 A9 (na+1) c9 ((m.acts++[x]).flatMap MAct.vals)
 rw [List.flatMap_append];simpa using ho
theorem fe.tasts {A9:Option Addr}{n9 c9:Nat}{l:List Tast}(h:fe W base A1 nv c1 A2 na c2 A3 nt c3 m)(hg:W.grownBy W' (A3.map (·.block)))(ho:Own W' base 69 6 A9 n9 c9 (l.flatMap Tast.vals))(hA:A9=A3∨A9=some ⟨W.heap.size,0,none⟩) :
  fe W' base A1 nv c1 A2 na c2 A9 n9 c9 (gK m l) :=
 ⟨h.v.grown hg (kL h.vt),h.a.grown hg (kL h.at_),ho,h.va,jX h.vt h.v hA,jX h.at_ h.a hA⟩
end
theorem iF {w W W':World}{g:Nat}{t:TypeId}{cs cs':Array Value}{rest:List (Nat × TypeId × Array Value)}(h:Lay w W ((g,t,cs)::rest))(hne:∀ b∈rest,b.1≠g)(hg:W.grownBy W' (some g))(hb:Blk W' g t cs'):Lay w W' ((g,t,cs')::rest):=by
 have h0:=h.2 (g,t,cs) (by simp);refine ⟨h.1.grown hg h.1.size (fun k hk=>by cases hk;exact h0.1),fun b k=>?_⟩;rcases List.mem_cons.1 k with rfl | k
 ·exact ⟨h0.1,hb⟩
 ·have:=h.2 b (by simp [k])
  exact ⟨this.1,this.2.grown hg (fun e=>hne b k (Option.some.inj e))⟩
def ni (w:World)(r:Mix × Int)(e:Ending)(w':World):Prop :=
 ∃ A1 n1 c1 A2 n2 c2 A3 n3 c3,e = .returned (.tuple #[.agg #[.int .i64 r.1.fountains,.slice A1 n1 c1,.slice A2 n2 c2,.slice A3 n3 c3],.int .i64 r.2])∧fe w' w.heap.size A1 n1 c1 A2 n2 c2 A3 n3 c3 r.1∧(n1≤1001∧n2≤1001∧n3≤1001)∧Below w.heap.size w w'
end
section
open Go.RowKit
theorem xx (Av:Option Addr)(nv cv:Nat)(Aa:Option Addr)(na ca:Nat)(At:Option Addr)(nt ct:Nat)(m:Mix)(x:MAct)(w:World)(h:MixS w Av nv Aa na At nt m) :
  CallsIn Fence.wide 9 Tryz.prog 46 #[.agg #[.int .i64 m.fountains,.slice Av nv cv,.slice Aa na ca,.slice At nt ct],.agg #[.int .i64 x.kind,.int .i64 x.fr,.int .i64 x.to,.int .i64 x.drops]] w (ni w (doM m x)):=by
 have HM:=lh h;have HLV:=lh h.at_.lenV;have HLA:=lh h.at_.lenA;have HLT:=lh h.at_.lenT;have hnv:=h.hv;have hna:=h.ha;have hnt:=h.ht;clear h;refine callsIn_of_wp Tryz.func46 rfl trivial ?_ rfl;simp only [Tryz.ntmps46,es,Nat.reduceAdd,Nat.reduceSub];gi_upto_region 1 with fail
 have Ly:=lh (Lay.three w 26 #[.int .i64 m.fountains,.slice Av nv cv,.slice Aa na ca,.slice At nt ct] 62 #[.int .i64 x.kind,.int .i64 x.fr,.int .i64 x.to,.int .i64 x.drops] 26 #[.int .i64 0,.slice none 0 0,.slice none 0 0,.slice none 0 0]);generalize (((w.alloc (.cells #[.int .i64 m.fountains,.slice Av nv cv,.slice Aa na ca,.slice At nt ct] 26)).alloc (.cells #[.int .i64 x.kind,.int .i64 x.fr,.int .i64 x.to,.int .i64 x.drops] 62)).alloc (.cells #[.int .i64 0,.slice none 0 0,.slice none 0 0,.slice none 0 0] 26))=w0 at *;obtain ⟨x0_0,x0_1,x0_2,x0_3⟩:=lyc4 Ly 0 rfl;have l0_:=Ly.out.lt 0 rfl;gi_wp2;clear x0_0 x0_1 x0_2 x0_3 l0_;refine ⟨trivial,(callsIn_wide.2 (gF Av nv cv Aa na ca At nt ct m w0 (HM.out.up Ly.out.1))).mono ?_⟩;rintro e W1 ⟨rfl,hb⟩;have HBC:=lh hb;replace Ly:=lyb Ly hb;clear hb
 cases hk:eO m with
 | false =>
  have HF:Hid (doM m x=(fd,40)):=lh (by unfold doM;rw [hk];rfl);rw [show fk m=40 from by unfold fk;rw [hk];rfl];clear hk;have x2_0:=lyc Ly 2 rfl 0;have z2_0:=lyf Ly 2 rfl 0;have x2_1:=lyc Ly 2 rfl 1;have z2_1:=lyf Ly 2 rfl 1;have x2_2:=lyc Ly 2 rfl 2;have z2_2:=lyf Ly 2 rfl 2;have x2_3:=lyc Ly 2 rfl 3;have z2_3:=lyf Ly 2 rfl 3;have l2_:=Ly.out.lt 2 rfl;gi_wp2;have R4:=ret4' (Ly.out.blk 2 rfl) Ly.out.1 (Ly.out.ge 2 rfl) (.int .i64 0) (.slice none 0 0) (.slice none 0 0) (.slice none 0 0);have v0:=R4.1.cell 0;have v1:=R4.1.cell 1;have v2:=R4.1.cell 2;have v3:=R4.1.cell 3;refine bodyPost_ret (v:=.tuple #[.agg #[.int .i64 0,.slice none 0 0,.slice none 0 0,.slice none 0 0],.int .i64 40]) (by simp [results,Tryz.results46,go_sem,v0,v1,v2,v3]) rfl ?_;rw [HF.out];exact ⟨none,0,0,none,0,0,none,0,0,rfl,fe.nothing _ _,⟨by omega,by omega,by omega⟩,R4.2.1⟩
 | true =>
  have HK:=lh hk;have hlim:=fj hk;have hv4:nv≤4:=by have:=HLV.out;omega
  have ha12:na≤12:=by have:=HLA.out;omega
  have ht8:nt≤8:=by have:=HLT.out;omega
  clear hlim;rw [show fk m=0 from by unfold fk;rw [hk];rfl];clear hk;by_cases h12:na=12
  ·
   have HF:Hid (doM m x=(fd,9)):=lh (by unfold doM;rw [if_pos HK.out,if_pos (by rw [HLA.out];exact h12)]);have h12a:((na:Int)==12)=true:=by simp;omega
   have H12:=lh h12;clear h12;obtain ⟨x0_0,x0_1,x0_2,x0_3⟩:=lyc4 Ly 0 rfl;have l0_:=Ly.out.lt 0 rfl;have x2_0:=lyc Ly 2 rfl 0;have z2_0:=lyf Ly 2 rfl 0;have x2_1:=lyc Ly 2 rfl 1;have z2_1:=lyf Ly 2 rfl 1;have x2_2:=lyc Ly 2 rfl 2;have z2_2:=lyf Ly 2 rfl 2;have x2_3:=lyc Ly 2 rfl 3;have z2_3:=lyf Ly 2 rfl 3;have l2_:=Ly.out.lt 2 rfl;gi_wp2;have R4:=ret4' (Ly.out.blk 2 rfl) Ly.out.1 (Ly.out.ge 2 rfl) (.int .i64 0) (.slice none 0 0) (.slice none 0 0) (.slice none 0 0);have v0:=R4.1.cell 0;have v1:=R4.1.cell 1;have v2:=R4.1.cell 2;have v3:=R4.1.cell 3;refine bodyPost_ret (v:=.tuple #[.agg #[.int .i64 0,.slice none 0 0,.slice none 0 0,.slice none 0 0],.int .i64 9]) (by simp [results,Tryz.results46,go_sem,v0,v1,v2,v3]) rfl ?_;rw [HF.out];exact ⟨none,0,0,none,0,0,none,0,0,rfl,fe.nothing _ _,⟨by omega,by omega,by omega⟩,R4.2.1⟩
  ·
   have h12a:((na:Int)==12)=false:=by simp;omega
   have HF:Hid (doM m x=if eO (gD m (m.acts++[x]))=true then (gD m (m.acts++[x]),0) else (fd,41)):=lh (by unfold doM;rw [if_pos HK.out,if_neg (by rw [HLA.out];exact h12)]);have H12:=lh h12;clear h12;obtain ⟨x0_0,x0_1,x0_2,x0_3⟩:=lyc4 Ly 0 rfl;have l0_:=Ly.out.lt 0 rfl;gi_wp2;clear x0_0 x0_1 x0_2 x0_3 l0_;have HBL:Hid (w.heap.size<W1.heap.size):=lh (Ly.out.lt 0 rfl);have HBS:=lh (Ly.out.1.size);have HBL1:=lh (Ly.out.lt 1 rfl);have HBL2:=lh (Ly.out.lt 2 rfl);refine ⟨trivial,(c_W (kM Av nv cv Aa na ca At nt ct m W1 (HM.out.up Ly.out.1))).mono ?_⟩;rintro e W2 ⟨A1,c1,A2,c2,A3,c3,rfl,hmo,hb⟩;have HCB:=lh hb.size;replace Ly:=lyb Ly hb;clear hb;have HMO:=lh hmo;clear hmo;have x0_0:=lyc Ly 0 rfl 0;have z0_0:=lyf Ly 0 rfl 0;have x0_1:=lyc Ly 0 rfl 1;have z0_1:=lyf Ly 0 rfl 1;have x0_2:=lyc Ly 0 rfl 2;have z0_2:=lyf Ly 0 rfl 2;have x0_3:=lyc Ly 0 rfl 3;have z0_3:=lyf Ly 0 rfl 3;have l0_:=Ly.out.lt 0 rfl;gi_upto_region 7 with fail
   have R4:=ret4' (Ly.out.blk 0 rfl) (Below.refl w.heap.size W2) n_R (.int .i64 m.fountains) (.slice A1 nv c1) (.slice A2 na c2) (.slice A3 nt c3);have hl:=iF Ly.out (fun b hb=>by simp only [List.mem_cons,List.not_mem_nil,or_false] at hb;rcases hb with rfl | rfl<;>simp<;>omega) R4.2.2 R4.1;have HMO2:=lh (HMO.out.off R4.2.2 HBL.out);have HSZ:=lh (Nat.le_trans HCB.out R4.2.2.size);clear x0_0 z0_0 x0_1 z0_1 x0_2 z0_2 x0_3 z0_3 l0_;generalize ((((W2.setCell ⟨w.heap.size,0,none⟩ (.int .i64 m.fountains)).setCell ⟨w.heap.size,1,none⟩ (.slice A1 nv c1)).setCell ⟨w.heap.size,2,none⟩ (.slice A2 na c2)).setCell ⟨w.heap.size,3,none⟩ (.slice A3 nt c3))=V3 at *;replace Ly:=lh hl;replace HMO:=HMO2;clear R4 HMO2 hl;have x0_0:=lyc Ly 0 rfl 0;have z0_0:=lyf Ly 0 rfl 0;have x0_1:=lyc Ly 0 rfl 1;have z0_1:=lyf Ly 0 rfl 1;have x0_2:=lyc Ly 0 rfl 2;have z0_2:=lyf Ly 0 rfl 2;have x0_3:=lyc Ly 0 rfl 3;have z0_3:=lyf Ly 0 rfl 3;have l0_:=Ly.out.lt 0 rfl;have a0:=lyc Ly 1 rfl 0;have a1:=lyc Ly 1 rfl 1;have a2:=lyc Ly 1 rfl 2;have a3:=lyc Ly 1 rfl 3;have al:=Ly.out.lt 1 rfl
   gi_wp2_with (first | (gi_at_builtin;refine eJ rfl (.tmp 21) (.tmp 23) (by rfl) m8 rfl (HMO.out.a.alloc (.cells #[.int .i64 x.kind,.int .i64 x.fr,.int .i64 x.to,.int .i64 x.drops] 62)) rfl (fP V3 62 x.vals rfl) (nS x) (by unfold maxLen;omega) (by omega) (by have:=HSZ.out;simp;omega) ?_) | fail)
   clear x0_0 z0_0 x0_1 z0_1 x0_2 z0_2 x0_3 z0_3 l0_;clear a0 a1 a2 a3 al;rintro A9 c9 V4 hown hg hA;have hrow:=fu HMO.out.a;have HLA2:=lh ((Ly.out.below (b_R.alloc n_R (.cells #[.int .i64 x.kind,.int .i64 x.fr,.int .i64 x.to,.int .i64 x.drops] 62))).row hg (fun r e=>⟨by have:=(hrow r e).1;have:=HBS.out;omega,fun b hb=>by have:=(hrow r e).1;have:=HBL1.out;have:=HBL2.out;have:=HBL.out;simp only [List.mem_cons,List.not_mem_nil,or_false] at hb;rcases hb with rfl | rfl | rfl<;>dsimp only<;>omega⟩));have HMO2:=lh ((HMO.out.below (b_R.alloc n_R (.cells #[.int .i64 x.kind,.int .i64 x.fr,.int .i64 x.to,.int .i64 x.drops] 62))).acts hg hown (by rw [World.size_alloc];exact hA));replace Ly:=HLA2;clear hown hg hA hrow HLA2;have x0_0:=lyc Ly 0 rfl 0;have z0_0:=lyf Ly 0 rfl 0;have x0_1:=lyc Ly 0 rfl 1;have z0_1:=lyf Ly 0 rfl 1;have x0_2:=lyc Ly 0 rfl 2;have z0_2:=lyf Ly 0 rfl 2;have x0_3:=lyc Ly 0 rfl 3;have z0_3:=lyf Ly 0 rfl 3;have l0_:=Ly.out.lt 0 rfl;gi_upto_region 8 with fail
   have hgs:=eu (row:=some w.heap.size) (eY V4 _) (p:=⟨w.heap.size,2,none⟩) (.inl rfl) (.slice A9 (na+1) c9);have hl:=iF Ly.out (fun b hb=>by simp only [List.mem_cons,List.not_mem_nil,or_false] at hb;rcases hb with rfl | rfl<;>simp<;>omega) hgs ((Ly.out.blk 0 rfl).set_ 2 (.slice A9 (na+1) c9));have HMO3:=lh (HMO2.out.off hgs HBL.out);clear x0_0 z0_0 x0_1 z0_1 x0_2 z0_2 x0_3 z0_3 l0_;generalize V4.setCell ⟨w.heap.size,2,none⟩ (.slice A9 (na+1) c9)=V5 at *;replace Ly:=lh (show Lay w V5 [(w.heap.size,26,#[.int .i64 m.fountains,.slice A1 nv c1,.slice A9 (na+1) c9,.slice A3 nt c3]),(w.heap.size+1,62,#[.int .i64 x.kind,.int .i64 x.fr,.int .i64 x.to,.int .i64 x.drops]),(w.heap.size+1+1,26,#[.int .i64 0,.slice none 0 0,.slice none 0 0,.slice none 0 0])] from hl);replace HMO:=HMO3;clear hgs hl HMO2 HMO3;obtain ⟨x0_0,x0_1,x0_2,x0_3⟩:=lyc4 Ly 0 rfl;have l0_:=Ly.out.lt 0 rfl;gi_wp2;clear x0_0 x0_1 x0_2 x0_3 l0_;refine ⟨trivial,(callsIn_wide.2 (gF A1 nv c1 A9 (na+1) c9 A3 nt c3 (gD m (m.acts++[x])) V5 (HMO.out.s hnv (by omega) hnt))).mono ?_⟩;rintro e W6 ⟨rfl,hb⟩;have HBC:=lh hb;replace Ly:=lyb Ly hb;clear hb
   cases hk:eO (gD m (m.acts++[x])) with
   | false =>
    rw [show fk (gD m (m.acts++[x]))=40 from by unfold fk;rw [hk];rfl];replace HF:Hid (doM m x=(fd,41)):=lh (by rw [HF.out,hk];rfl);clear hk HMO;have x2_0:=lyc Ly 2 rfl 0;have z2_0:=lyf Ly 2 rfl 0;have x2_1:=lyc Ly 2 rfl 1;have z2_1:=lyf Ly 2 rfl 1;have x2_2:=lyc Ly 2 rfl 2;have z2_2:=lyf Ly 2 rfl 2;have x2_3:=lyc Ly 2 rfl 3;have z2_3:=lyf Ly 2 rfl 3;have l2_:=Ly.out.lt 2 rfl;gi_wp2;have R4:=ret4' (Ly.out.blk 2 rfl) Ly.out.1 (Ly.out.ge 2 rfl) (.int .i64 0) (.slice none 0 0) (.slice none 0 0) (.slice none 0 0);have v0:=R4.1.cell 0;have v1:=R4.1.cell 1;have v2:=R4.1.cell 2;have v3:=R4.1.cell 3;refine bodyPost_ret (v:=.tuple #[.agg #[.int .i64 0,.slice none 0 0,.slice none 0 0,.slice none 0 0],.int .i64 41]) (by simp [results,Tryz.results46,go_sem,v0,v1,v2,v3]) rfl ?_;rw [HF.out];exact ⟨none,0,0,none,0,0,none,0,0,rfl,fe.nothing _ _,⟨by omega,by omega,by omega⟩,R4.2.1⟩
   | true =>
    rw [show fk (gD m (m.acts++[x]))=0 from by unfold fk;rw [hk];rfl];replace HF:Hid (doM m x=(gD m (m.acts++[x]),0)):=lh (by rw [HF.out,hk];rfl);replace HMO:=lh (HMO.out.below HBC.out);clear hk;obtain ⟨x0_0,x0_1,x0_2,x0_3⟩:=lyc4 Ly 0 rfl;have l0_:=Ly.out.lt 0 rfl;have r0:=lyc Ly 2 rfl 0;have rz0:=lyf Ly 2 rfl 0;have r1:=lyc Ly 2 rfl 1;have rz1:=lyf Ly 2 rfl 1;have r2:=lyc Ly 2 rfl 2;have rz2:=lyf Ly 2 rfl 2;have r3:=lyc Ly 2 rfl 3;have rz3:=lyf Ly 2 rfl 3;have rl:=Ly.out.lt 2 rfl;gi_wp2;have R4:=ret4' (Ly.out.blk 2 rfl) Ly.out.1 (Ly.out.ge 2 rfl) (.int .i64 m.fountains) (.slice A1 nv c1) (.slice A9 (na+1) c9) (.slice A3 nt c3);have v0:=R4.1.cell 0;have v1:=R4.1.cell 1;have v2:=R4.1.cell 2;have v3:=R4.1.cell 3;refine bodyPost_ret (v:=.tuple #[.agg #[.int .i64 m.fountains,.slice A1 nv c1,.slice A9 (na+1) c9,.slice A3 nt c3],.int .i64 0]) (by simp [results,Tryz.results46,go_sem,v0,v1,v2,v3]) rfl ?_;rw [HF.out];exact ⟨_,_,_,_,_,_,_,_,_,rfl,(HMO.out.off R4.2.2 HBL2.out).mono HBS.out,⟨by omega,by omega,by omega⟩,R4.2.1⟩
end
section
open Go.RowKit Go.Shelf
theorem pt {W:World}{base n1 c1 n2 c2 n3 c3:Nat}{A1 A2 A3:Option Addr}{m:Mix}(h:fe W base A1 n1 c1 A2 n2 c2 A3 n3 c3 m)(hk:eO m=true):n1≤1000∧n2≤1000∧n3≤1000∧(n2:Int)=m.acts.length:=by
 have hv:=fH ma (by omega) (h.v.reads n_R);have ha:=fH nA (by omega) (h.a.reads n_R);have ht:=fH ig (by omega) (h.t.reads n_R);have h1:=fj hk;omega
def wT (w:World)(m:Mix)(a b n f:Int)(e:Ending)(w':World):Prop:=∃ k ee:Int,e = .returned (.tuple #[.int .u8 k,.int .i64 ee])∧ji m a b n f k ee∧Below w.heap.size w w'
theorem pJ (Av:Option Addr)(nv cv:Nat)(Aa:Option Addr)(na ca:Nat)(At:Option Addr)(nt ct:Nat)(m:Mix)(from_ to drops fountain:Int)(w:World)(h:MixS w Av nv Aa na At nt m) :
  CallsIn Fence.wide 9 Tryz.prog 16 #[.agg #[.int .i64 m.fountains,.slice Av nv cv,.slice Aa na ca,.slice At nt ct],.int .i64 from_,.int .i64 to,.int .i64 drops,.int .i64 fountain] w (wT w m from_ to drops fountain):=by
 have HM:=lh h;clear h;refine callsIn_of_wp Tryz.func16 rfl trivial ?_ rfl;simp only [Tryz.ntmps16,es,Nat.reduceAdd,Nat.reduceSub];gi_upto_region 1 with fail
 have Ly:=lh (Lay.one w 26 #[.int .i64 m.fountains,.slice Av nv cv,.slice Aa na ca,.slice At nt ct]);generalize (w.alloc (.cells #[.int .i64 m.fountains,.slice Av nv cv,.slice Aa na ca,.slice At nt ct] 26))=w0 at *;obtain ⟨x0_0,x0_1,x0_2,x0_3⟩:=lyc4 Ly 0 rfl;have l0_:=Ly.out.lt 0 rfl;gi_wp2;clear x0_0 x0_1 x0_2 x0_3 l0_;refine ⟨trivial,(callsIn_wide.2 (MixS.laid (HM.out.up Ly.out.1))).mono ?_⟩;rintro e W1 ⟨p,rfl,hb,hp⟩;have HP:=lh hp;clear hp;replace Ly:=lyb Ly hb;clear hb
 cases hk:eO m with
 | false =>
  have HA:Hid (jc m from_ to fountain=40):=lh (by unfold jc;rw [hk];rfl);clear hk;gi_wp2;refine bodyPost_ret (v:=.tuple #[.int .u8 0,.int .i64 40]) (by simp [results,Tryz.results16,go_sem]) rfl ?_;exact ⟨0,40,rfl,.inl ⟨by rw [HA.out];decide,rfl,HA.out.symm⟩,Ly.out.1⟩
 | true =>
  obtain ⟨g,AA,nl,cl,L,rfl,hg,hL,hT⟩:=HP.out hk
  obtain ⟨T,hTT⟩:∃ T:Tb,T=⟨g,Av,nv,cv,Aa,na,ca,At,nt,ct,AA,nl,cl,m,L⟩:=⟨_,rfl⟩
  have hTg:g=T.g:=by rw [hTT]
  have hTm:T.m=m:=by rw [hTT]
  rw [← hTT] at hT;subst hTg;have HK:=lh hk;have HT:=lh hT;have HTM:=lh hTm;clear HP hTT hL hg hT hk hTm;gi_wp2;refine ⟨trivial,(callsIn_wide.2 (fD T from_ W1 HT.out.at_)).mono ?_⟩;rintro e W2 ⟨rfl,hb⟩;replace Ly:=lyb Ly hb;replace HT:=lh (HT.out.below hb);clear hb;rw [HTM.out]
  obtain ⟨ix,hix⟩:∃ ix,idxV m.vessels from_=ix:=⟨_,rfl⟩
  rw [hix];have HIX:=lh hix;clear hix;by_cases h6:ix<0
  ·
   have HA:Hid (jc m from_ to fountain=6):=lh (by unfold jc;rw [if_pos HK.out,if_pos (.inl (by rw [HIX.out];exact h6))]);gi_wp2;refine ⟨trivial,?_⟩;gi_wp2;refine bodyPost_ret (v:=.tuple #[.int .u8 0,.int .i64 6]) (by simp [results,Tryz.results16,go_sem]) rfl ?_;exact ⟨0,6,rfl,.inl ⟨by rw [HA.out];decide,rfl,HA.out.symm⟩,Ly.out.1⟩
  ·
   have H6:=lh h6;gi_wp2;refine ⟨trivial,(callsIn_wide.2 (fD T to W2 HT.out.at_)).mono ?_⟩;rintro e W3 ⟨rfl,hb⟩;replace Ly:=lyb Ly hb;replace HT:=lh (HT.out.below hb);clear hb;rw [HTM.out]
   obtain ⟨iy,hiy⟩:∃ iy,idxV m.vessels to=iy:=⟨_,rfl⟩
   rw [hiy];have HIY:=lh hiy;clear hiy h6;by_cases h7:iy<0
   ·
    have HA:Hid (jc m from_ to fountain=6):=lh (by unfold jc;rw [if_pos HK.out,if_pos (.inr (by rw [HIY.out];exact h7))]);gi_wp2;refine bodyPost_ret (v:=.tuple #[.int .u8 0,.int .i64 6]) (by simp [results,Tryz.results16,go_sem]) rfl ?_;exact ⟨0,6,rfl,.inl ⟨by rw [HA.out];decide,rfl,HA.out.symm⟩,Ly.out.1⟩
   ·
    have H7:=lh h7;have HN6:Hid (¬ (idxV m.vessels from_<0∨idxV m.vessels to<0)):=lh (by rw [HIX.out,HIY.out];have:=H6.out;have:=H7.out;omega);obtain ⟨x0_0,x0_1,x0_2,x0_3⟩:=lyc4 Ly 0 rfl;have l0_:=Ly.out.lt 0 rfl;gi_wp2;clear x0_0 x0_1 x0_2 x0_3 l0_;have Y:=du.new W3 3 [fountain] (W3.heap.size+1) (by omega);have hb1:Below W3.heap.size W3 (W3.alloc (.cells #[.int .i64 fountain] 3)):=b_R.alloc n_R _;have hc:=gm 1 m.fountains (some ⟨W3.heap.size,0,none⟩) 1 1 [fountain] _ (Y.more (by simp)) (by decide);refine ⟨trivial,(callsIn_wide.2 hc).mono ?_⟩;clear hc Y;rintro e W8 ⟨rfl,hb⟩;have hbb:=hb1.trans (hb.mono hb1.size);clear hb hb1 h7;replace Ly:=lyb Ly hbb;replace HT:=lh (HT.out.below hbb);clear hbb;by_cases hr:1≤fountain∧fountain≤m.fountains
    ·
     have hi:inB 1 m.fountains [fountain]=true:=by rw [fw];exact decide_eq_true hr
     rw [hi];have HA:Hid (jc m from_ to fountain=0):=lh (by unfold jc;rw [if_pos HK.out,if_neg HN6.out,if_pos hr]);clear hr hi;obtain ⟨x0_0,x0_1,x0_2,x0_3⟩:=lyc4 Ly 0 rfl;have l0_:=Ly.out.lt 0 rfl;gi_wp2;clear x0_0 x0_1 x0_2 x0_3 l0_;refine ⟨trivial,(c_W (xx Av nv cv Aa na ca At nt ct m ⟨2,from_,to,drops⟩ W8 (HM.out.up Ly.out.1))).mono ?_⟩;rintro e W4 ⟨A1,n1,c1,A2,n2,c2,A3,n3,c3,rfl,hmo,hn3,hb⟩;replace Ly:=lyb Ly hb;replace HT:=lh (HT.out.below hb);clear hb
     obtain ⟨mx,hmx⟩:∃ r,doM m ⟨2,from_,to,drops⟩=r:=⟨_,rfl⟩
     rw [hmx] at hmo ⊢;obtain ⟨m',ee⟩:=mx;dsimp only at hmo ⊢;have HMX:=lh hmx;have HMO:=lh hmo;clear hmx hmo hn3;gi_upto_region 9 with fail
     obtain ⟨V5,hV⟩:∃ V,(W4.alloc (.cells #[.int .i64 m'.fountains,.slice A1 n1 c1,.slice A2 n2 c2,.slice A3 n3 c3] 26))=V:=⟨_,rfl⟩
     rw [hV];have hb:=eS hV;have hnew:=eT hV;have hge:=Ly.out.bel.size;replace Ly:=lyb Ly hb;replace HMO:=lh (HMO.out.below hb);replace Ly:=lh (Ly.out.add hge hnew);clear hnew hge hb hV
     obtain ⟨G6,hG⟩:∃ g,W4.heap.size=g:=⟨_,rfl⟩
     rw [hG] at Ly ⊢;clear hG;by_cases h0:ee=0
     ·
      subst h0;have HSM:=lh (pt HMO.out (do_ok HMX.out).1);obtain ⟨x1_0,x1_1,x1_2,x1_3⟩:=lyc4 Ly 1 rfl;have l1_:=Ly.out.lt 1 rfl;gi_wp2;clear x1_0 x1_1 x1_2 x1_3 l1_;refine ⟨trivial,(c_W ((nd A1 n1 c1 A2 n2 c2 A3 n3 c3 m' to (n2:Int) fountain V5 (HMO.out.s HSM.out.1 HSM.out.2.1 HSM.out.2.2.1)).mono fun _ _ h=>mC h)).mono ?_⟩;rintro e W7 ⟨k,e9,rfl,hpu,hb⟩;replace Ly:=lyb Ly hb;replace HMO:=lh (HMO.out.below hb);clear hb;gi_wp2;refine bodyPost_ret (v:=.tuple #[.int .u8 k,.int .i64 e9]) (by simp [results,Tryz.results16,go_sem]) rfl ?_;exact ⟨k,e9,rfl,.inr (.inr ⟨HA.out,by rw [HMX.out],by rw [HMX.out];rw [HSM.out.2.2.2] at hpu;exact hpu⟩),Ly.out.1⟩
     ·
      have h0b:(ee != 0)=true:=by simpa using h0
      have H0:=lh h0;clear h0;gi_wp2;refine bodyPost_ret (v:=.tuple #[.int .u8 0,.int .i64 ee]) (by simp [results,Tryz.results16,go_sem]) rfl ?_;exact ⟨0,ee,rfl,.inr (.inl ⟨HA.out,by rw [HMX.out];exact H0.out,rfl,by rw [HMX.out]⟩),Ly.out.1⟩
    ·
     have hi:inB 1 m.fountains [fountain]=false:=by rw [fw];exact decide_eq_false hr
     rw [hi];have HA:Hid (jc m from_ to fountain=2):=lh (by unfold jc;rw [if_pos HK.out,if_neg HN6.out,if_neg hr]);clear hr hi;gi_wp2;refine bodyPost_ret (v:=.tuple #[.int .u8 0,.int .i64 2]) (by simp [results,Tryz.results16,go_sem]) rfl ?_;exact ⟨0,2,rfl,.inl ⟨by rw [HA.out];decide,rfl,HA.out.symm⟩,Ly.out.1⟩
end
section
open Go.RowKit
theorem sX (x:Tast):x.vals.length=6:=rfl
theorem tZ (w:World):(zeroValue 69).run Tryz.prog w = .ok (.agg #[.int .i64 0,.int .i64 0,.int .i64 0,.int .i64 0,.int .i64 0,.int .i64 0]) w:=by kernel_rfl
structure DelT (g:Nat)(e:TypeId)(sz:Nat)(l:List Tast)(p:Tast→Bool)(i j:Nat)(wr:World)(cur:Array Value):Prop where
 blk:Blk wr g e cur
 size:cur.size=sz
 num:((l.take j).filter fun x=>!p x).length=i
 kept:∀ (k:Nat) x,((l.take j).filter fun x=>!p x)[k]? =some x→ElAt cur 6 k x.vals
 left:∀ (k:Nat) x,j≤k→l[k]? =some x→ElAt cur 6 k x.vals
theorem DelT.later {g:Nat}{e:TypeId}{sz:Nat}{l:List Tast}{p:Tast→Bool}{i j:Nat}{wr w':World}{cur:Array Value}(h:DelT g e sz l p i j wr cur)(hb:Blk w' g e cur):DelT g e sz l p i j w' cur:=⟨hb,h.size,h.num,h.kept,h.left⟩
theorem DelT.skip {g:Nat}{e:TypeId}{sz:Nat}{l:List Tast}{p:Tast→Bool}{i j:Nat}{wr:World}{cur:Array Value}{x:Tast}(h:DelT g e sz l p i j wr cur)(hx:l[j]? =some x)(hp:p x=true):DelT g e sz l p i (j+1) wr cur:=by
 obtain ⟨hj,rfl⟩:=g_E hx
 have e1:((l.take (j+1)).filter fun x=>!p x)=(l.take j).filter fun x=>!p x:=by
  rw [List.take_succ_eq_append_getElem hj,List.filter_append];simp [hp]
 exact ⟨h.blk,h.size,by rw [e1];exact h.num,by rw [e1];exact h.kept,fun k y hk hy=>h.left k y (by omega) hy⟩
theorem DelT.keep {g:Nat}{e:TypeId}{sz:Nat}{l:List Tast}{p:Tast→Bool}{i j:Nat}{wr w':World}{cur:Array Value}{x:Tast}(h:DelT g e sz l p i j wr cur)(hx:l[j]? =some x)(hp:p x=false)(hij:i≤j)(hs:l.length * 6≤sz)
  (hb:Blk w' g e (wrt cur (i * 6) x.vals)):DelT g e sz l p (i+1) (j+1) w' (wrt cur (i * 6) x.vals):=by
 obtain ⟨hj,rfl⟩:=g_E hx
 have e1:((l.take (j+1)).filter fun x=>!p x)=((l.take j).filter fun x=>!p x)++[l[j]]:=by
  rw [List.take_succ_eq_append_getElem hj,List.filter_append];simp [hp]
 have hsz:=h.size;refine ⟨hb,by rw [nU];exact h.size,by rw [e1,List.length_append,h.num];rfl,?_,?_⟩
 ·intro k y hy
  rw [e1] at hy;have hn:=h.num;by_cases hk:k<i
  ·rw [List.getElem?_append_left (by omega)] at hy
   exact (h.kept k y hy).wrt_other rfl (by omega)
  ·rw [List.getElem?_append_right (by omega),hn] at hy
   have hk0:k - i=0:=by
    rcases Nat.eq_zero_or_pos (k - i) with h0 | h0
    ·exact h0
    ·rw [List.getElem?_eq_none (by simp;omega)] at hy;cases hy
   rw [hk0] at hy;simp at hy;subst hy;obtain rfl:k=i:=by omega
   exact ElAt.wrt_same rfl (by omega)
 ·intro k y hk hy
  exact (h.left k y (by omega) hy).wrt_other rfl (by omega)
theorem mS (base K:Nat)(F:FuncId)(C:Array Value)(p:Tast→Bool)(A:Option Addr)(n c:Nat)(l:List Tast)(w:World)(hO:Own w base 69 6 A n c (l.flatMap Tast.vals))(hK:K≤base)(hKw:K≤w.heap.size)(hp:ph w K F C p) :
  Calls Tryz.prog 121 #[.slice A n c,.func (.func F) #[] C] w fun e w'=>e = .returned (.slice A (l.filter fun x=>!p x).length c)∧Own w' base 69 6 A (l.filter fun x=>!p x).length c ((l.filter fun x=>!p x).flatMap Tast.vals)∧w.grownBy w' (A.map (·.block)):=by
 have hl:l.length=n:=by have:=hO.len;rw [flat_len' sX] at this;omega
 have hcap:=hO.cap_le;have hmax:c≤9223372036854775807:=by have:=hcap.2;unfold maxLen at this;omega
 have hcn:=hcap.1;have HI:=lh (nE K F C p A n c l w (hO.reads n_R) (by omega) hKw hp);have hE:=hp.enters;have HF:=lh hp;clear hp;by_cases hany:∀ y∈l,p y=false
 ·have hi:idxL p l = -1:=pr hany
  have hfil:(l.filter fun x=>!p x)=l:=List.filter_eq_self.2 fun y hy=>by rw [hany y hy];rfl
  have HO:=lh hO;have HX:=lh hfil;rw [hi] at HI;clear hany hi hO hfil
  go_enter Tryz.func121,Tryz.ntmps121
  go_wp2_with fail
  refine HI.out.mono ?_;rintro e w1 ⟨rfl,hb⟩
  go_wp2_with fail
  go_ret
  rw [HX.out,hl];exact ⟨rfl,HO.out.below hb n_R,eL hb _⟩
 ·obtain ⟨k0,x0,hx0,hp0,hno⟩:∃ (k:Nat) (x:Tast),l[k]? =some x∧p x=true∧∀ y∈l.take k,p y=false:=by
   have h1:l.any p=true:=by
    rw [List.any_eq_true];refine Classical.byContradiction fun hc=>hany fun y hy=>?_
    cases hpy:p y with
    | false=>rfl
    | true=>exact absurd ⟨y,hy,hpy⟩ hc
   have h2:=List.findIdx_lt_length_of_exists (List.any_eq_true.1 h1);refine ⟨l.findIdx p,l[l.findIdx p],List.getElem?_eq_getElem h2,List.findIdx_getElem,fun y hy=>?_⟩;rw [List.mem_take_iff_getElem] at hy;obtain ⟨j,hj,rfl⟩:=hy;have:=List.not_of_lt_findIdx (xs:=l) (p:=p) (i:=j) (by omega);simpa using this
  have hi:idxL p l=(k0:Int):=pa hx0 hp0 hno;have hk0:k0<n:=by rw [← hl];exact (g_E hx0).1
  rw [hi] at HI
  rcases hO.form with ⟨rfl,rfl,rfl,_⟩ | ⟨g,cur,rfl,hbg,hblk,_,_,hsz,htake,_⟩
  ·omega
  have hcells:∀ k,k<l.length * 6→cur[k]? =(l.flatMap Tast.vals)[k]? :=by
   intro k hk;rw [← htake,List.getElem?_take,if_pos (by omega),Array.getElem?_toList]
  have hels:=qY sX hcells;have hfil:((l.take k0).filter fun x=>!p x)=l.take k0:=List.filter_eq_self.2 fun y hy=>by rw [hno y hy];rfl
  have D0:DelT g 69 (c * 6) l p k0 k0 w cur:=⟨hblk,hsz,by rw [hfil,List.length_take];omega,fun k x h=>hels k x (by
   rw [hfil,List.getElem?_take] at h
   split at h
   ·exact h
   ·cases h),fun k x _ h=>hels k x h⟩
  have D1:=lh (D0.skip hx0 hp0);have HB:=lh hblk;have HN:=lh hl;have hlg:=hblk.lt;have hne:((k0:Int) == -1)=false:=by simp
  clear hany hi hO hno hp0 hx0 hcells hels hfil htake hsz D0 hl hblk
  go_enter Tryz.func121,Tryz.ntmps121
  go_wp2_with fail
  refine HI.out.mono ?_;rintro e w1 ⟨rfl,hb⟩
  go_wp2_with fail
  go_loopw [5,6] (fun vi vj wr=>∃ (i j:Nat) (cur:Array Value),vi = .int .i64 i∧vj = .int .i64 j∧i<j∧j≤n∧DelT g 69 (c * 6) l p i j wr cur∧w.grownBy wr (some g))
   (fun _ vj _=>n - (intOf vj).toNat)
  case atStart=>exact ⟨k0,k0+1,cur,rfl,by go_num,by omega,by omega,D1.out.later (HB.out.below hb hlg),eL hb _⟩
  case round =>
   obtain ⟨i,j,cur1,rfl,rfl,hij,hjn,hD,hg⟩:=hrel;by_cases hlt:j<n
   ·have hxj:l[j]? =some (l[j]'(by have:=HN.out;omega)):=List.getElem?_eq_getElem _
    generalize (l[j]'(by have:=HN.out;omega))=x at hxj;have e1:=hD.left j x n_R hxj;have c0:wr.cell? ⟨g,j * 6,none⟩=some (.int .i64 x.num):=(hD.blk.cell _).trans (e1 0 (by omega));have c1:wr.cell? ⟨g,j * 6+1,none⟩=some (.int .i64 x.vessel):=(hD.blk.cell _).trans (e1 1 (by omega));have c2:wr.cell? ⟨g,j * 6+2,none⟩=some (.int .i64 x.after):=(hD.blk.cell _).trans (e1 2 (by omega));have c3:wr.cell? ⟨g,j * 6+3,none⟩=some (.int .i64 x.fountain):=(hD.blk.cell _).trans (e1 3 (by omega));have c4:wr.cell? ⟨g,j * 6+4,none⟩=some (.int .i64 x.lo):=(hD.blk.cell _).trans (e1 4 (by omega));have c5:wr.cell? ⟨g,j * 6+5,none⟩=some (.int .i64 x.hi):=(hD.blk.cell _).trans (e1 5 (by omega));have HX:=lh hxj;have HD:=lh hD;have hgs:=hg.size;have HG:=lh hg;clear hxj hD hg e1
    go_wp2_with fail
    have hgl:=HD.out.blk.lt;have hKg:∀ k,some g=some k→K≤k:=fun k hk=>by cases hk;omega
    refine (HF.out.calls x _ (((nM HG.out hKg (by omega)).alloc (by omega) _))).mono ?_;rintro e w2 ⟨rfl,hb2⟩;have X2:=(Blk.new wr 69 #[.int .i64 x.num,.int .i64 x.vessel,.int .i64 x.after,.int .i64 x.fountain,.int .i64 x.lo,.int .i64 x.hi]).below hb2 (by simp);have G2:=(HD.out.blk.alloc (.cells #[.int .i64 x.num,.int .i64 x.vessel,.int .i64 x.after,.int .i64 x.fountain,.int .i64 x.lo,.int .i64 x.hi] 69)).below hb2 (by simp;omega);have hG2:=lh (fQ (rp HG.out _) hb2);have hsz2:=hb2.size;rw [World.size_alloc] at hsz2;have D2:=lh (HD.out.later G2);clear HG HD c0 c1 c2 c3 c4 c5 hb2
    cases hp:p x with
    | true =>
     have HP:=lh hp;clear hp X2 G2
     go_wp2_with fail
     go_roundw
     case rel=>exact ⟨i,j+1,cur1,rfl,by go_num,by omega,by omega,D2.out.skip HX.out HP.out,hG2.out⟩
     case measure=>simp [intOf];omega
    | false =>
     have HP:=lh hp;have hsz:=D2.out.size;have x0:w2.cell? ⟨wr.heap.size,0,none⟩=some (.int .i64 x.num):=X2.cell 0;have x1:w2.cell? ⟨wr.heap.size,1,none⟩=some (.int .i64 x.vessel):=X2.cell 1;have x2:w2.cell? ⟨wr.heap.size,2,none⟩=some (.int .i64 x.after):=X2.cell 2;have x3:w2.cell? ⟨wr.heap.size,3,none⟩=some (.int .i64 x.fountain):=X2.cell 3;have x4:w2.cell? ⟨wr.heap.size,4,none⟩=some (.int .i64 x.lo):=X2.cell 4;have x5:w2.cell? ⟨wr.heap.size,5,none⟩=some (.int .i64 x.hi):=X2.cell 5;have f0:w2.frozen? ⟨g,i * 6,none⟩=false:=G2.frozen _;have f1:w2.frozen? ⟨g,i * 6+1,none⟩=false:=G2.frozen _;have f2:w2.frozen? ⟨g,i * 6+2,none⟩=false:=G2.frozen _;have f3:w2.frozen? ⟨g,i * 6+3,none⟩=false:=G2.frozen _;have f4:w2.frozen? ⟨g,i * 6+4,none⟩=false:=G2.frozen _;have f5:w2.frozen? ⟨g,i * 6+5,none⟩=false:=G2.frozen _
     obtain ⟨u0,g0⟩:∃ u,w2.cell? ⟨g,i * 6,none⟩=some u:=⟨_,by rw [G2.cell];exact Array.getElem?_eq_getElem (by omega)⟩
     obtain ⟨u1,g1⟩:∃ u,w2.cell? ⟨g,i * 6+1,none⟩=some u:=⟨_,by rw [G2.cell];exact Array.getElem?_eq_getElem (by omega)⟩
     obtain ⟨u2,g2⟩:∃ u,w2.cell? ⟨g,i * 6+2,none⟩=some u:=⟨_,by rw [G2.cell];exact Array.getElem?_eq_getElem (by omega)⟩
     obtain ⟨u3,g3⟩:∃ u,w2.cell? ⟨g,i * 6+3,none⟩=some u:=⟨_,by rw [G2.cell];exact Array.getElem?_eq_getElem (by omega)⟩
     obtain ⟨u4,g4⟩:∃ u,w2.cell? ⟨g,i * 6+4,none⟩=some u:=⟨_,by rw [G2.cell];exact Array.getElem?_eq_getElem (by omega)⟩
     obtain ⟨u5,g5⟩:∃ u,w2.cell? ⟨g,i * 6+5,none⟩=some u:=⟨_,by rw [G2.cell];exact Array.getElem?_eq_getElem (by omega)⟩
     have HGB:=lh G2;clear hp X2 hsz G2
     go_wp2_with fail
     go_roundw
     case rel =>
      exact ⟨i+1,j+1,wrt cur1 (i * 6) x.vals,by go_num,by go_num,by omega,by omega,D2.out.keep HX.out HP.out (by omega) (by have:=HN.out;omega) (Blk.setCells x.vals (i * 6) HGB.out),ja x.vals (i * 6) hG2.out (.inl rfl)⟩
     case measure=>simp [intOf];omega
   ·obtain rfl:j=n:=by omega
    have hfin:((l.take j).filter fun x=>!p x)=l.filter fun x=>!p x:=by rw [List.take_of_length_le (by have:=HN.out;omega)]
    have hsz:=hD.size;obtain ⟨vs,hvs,hclr⟩:=ov (P:=Tryz.prog) (w:=wr) (g:=g) (t:=24) (ty:=0) hD.blk Tryz.underlying24 tZ (by intro u hu;simp [Value.cells] at hu;subst hu;rfl) (i * 6) (j - i) (c - i) (by simp [Value.cells];omega);have hnum:=hD.num;rw [hfin] at hnum;have HFin:=lh hfin;have HNum:=lh hnum;have HVs:=lh hvs;have HD:=lh hD;have HG:=lh hg;have HSz:=lh hsz;clear hfin hnum hvs hD hg hsz
    go_wp2_with fail
    go_ret
    have hv6:vs.length=(j - i) * 6:=HVs.out;refine ⟨?_,Own.mk_ hbg (Blk.setCells vs (i * 6) HD.out.blk) (by rw [HNum.out];omega) hcap.2 (by rw [nU];exact HSz.out) (by rw [flat_len' sX]) ?_,ja vs (i * 6) HG.out (.inl rfl)⟩
    ·rw [HNum.out];rfl
    ·intro k hk
     rw [HNum.out] at hk;rw [mT _ _ _ _ (.inl hk)];have hk':=HD.out.kept;rw [HFin.out] at hk';exact qx (by omega) sX hk' k (by rw [HNum.out];exact hk)
end
section
open Go.RowKit
theorem tw (A:Option Addr)(n c:Nat)(l:List Int)(x:Int)(w:World)(hr:du w w.heap.size A n l)(hn:n≤maxLen) :
  Calls Tryz.prog 120 #[.slice A n c,.int .i64 x] w fun e w'=>e = .returned (.int .i64 (idx (fun y=>x==y) l))∧Below w.heap.size w w':=by
 unfold maxLen at hn
 go_enter Tryz.func120,Tryz.ntmps120
 go_wp2_with fail
 go_loopw [8,5] (fun i j wr=>∃ k:Nat,k≤n∧i = .int .i64 k∧(∀ y∈l.take k,(x==y)=false)∧Below w.heap.size w wr)
  (fun i _ _=>n - (intOf i).toNat)
 case atStart=>exact ⟨0,by omega,rfl,by simp,b_R⟩
 case round =>
  obtain ⟨k,hk,rfl,hno,hb⟩:=hrel;have HN:=lh hno;clear hno;by_cases hlt:k<n
  ·obtain ⟨b,off,y,rfl,hbB,hx,hc⟩:=(hr.below hb).cell hlt
   have HX:=lh hx;clear hx;by_cases he:x=y
   ·subst he
    go_wp2_with fail
    go_ret
    exact ⟨fA (qk HX.out (by simp) HN.out).symm,hb⟩
   ·have he':(x==y)=false:=by simpa using he
    go_wp2_with fail
    go_roundw
    case rel=>exact ⟨k+1,by omega,by go_num,iD HX.out (by simpa using he) HN.out,hb⟩
    case measure=>simp [intOf];omega
  ·go_wp2_with fail
   go_ret
   exact ⟨fA (ro (by
    have:=HN.out
    rwa [List.take_of_length_le (by have:=hr.len;omega)] at this)).symm,hb⟩
end
section
open Go.RowKit
theorem pT (x:Int)(l:List Int):decide (0≤idx (fun y=>x==y) l)=l.contains x:=by
 rw [ux,Bool.eq_iff_iff];simp [List.any_eq_true]
def memI (l:List Int)(x:Int):Bool:=l.contains x
theorem qM {l:List Int}{x:Int}:memI l x=true↔x∈l:=by simp [memI]
theorem lB (A:Option Addr)(n c:Nat)(l:List Int)(x:Int)(w:World)(hr:du w w.heap.size A n l)(hn:n≤maxLen) :
  Calls Tryz.prog 85 #[.slice A n c,.int .i64 x] w fun e w'=>e = .returned (.bool (memI l x))∧Below w.heap.size w w':=by
 have H:=lh (tw A n c l x w hr hn);have HD:=xT (fun y=>x==y) l
 go_enter Tryz.func85,Tryz.ntmps85
 go_wp2_with fail
 refine H.out.mono ?_;rintro e w' ⟨rfl,hb⟩
 go_wp2_with fail
 go_ret
 exact ⟨il (pT x l),hb⟩
end
section
open Go.RowKit
theorem mQ (args:Array Value)(W:World):(callFunc 122 args).run Tryz.prog W = .ok (.enter 122 args) W:=by
 simp [go_sem]
theorem pH (An:Option Addr)(nn cn:Nat)(ns:List Int)(x:Tast)(g:Nat)(w:World)(hc:w.cell? ⟨g,0,none⟩=some (.slice An nn cn))(hg:g<w.heap.size)(hn:du w w.heap.size An nn ns)(hnn:nn≤1000) :
  Calls Tryz.prog 122 (#[.agg #[.int .i64 x.num,.int .i64 x.vessel,.int .i64 x.after,.int .i64 x.fountain,.int .i64 x.lo,.int .i64 x.hi]]++#[.pointer (some ⟨g,0,none⟩)]) w fun e w'=>e = .returned (.bool (memI ns x.num))∧Below w.heap.size w w':=by
 have HN:=lh hn;clear hn
 go_enter Tryz.func122,Tryz.ntmps122
 go_wp2_with fail
 have HB:=lh ((Below.refl w.heap.size w).alloc n_R (.cells #[.int .i64 x.num,.int .i64 x.vessel,.int .i64 x.after,.int .i64 x.fountain,.int .i64 x.lo,.int .i64 x.hi] 69));refine (lB An nn cn ns x.num _ ((HN.out.below HB.out).more HB.out.size) (by unfold maxLen;omega)).mono ?_;rintro e w' ⟨rfl,hb⟩;have HB2:=lh (HB.out.trans (hb.mono HB.out.size));clear hb
 go_wp2_with fail
 go_ret
 exact ⟨rfl,HB2.out⟩
def sq (w:World)(nv na nt:Nat)(m:Mix)(ns:List Int)(e:Ending)(w':World):Prop :=
 ∃ A1 c1 A2 c2 A3 n3 c3,e = .returned (.agg #[.int .i64 m.fountains,.slice A1 nv c1,.slice A2 na c2,.slice A3 n3 c3])∧fe w' w.heap.size A1 nv c1 A2 na c2 A3 n3 c3 (gK m (io m.tastes ns))∧n3≤m.tastes.length∧Below w.heap.size w w'
theorem nH (Av:Option Addr)(nv cv:Nat)(Aa:Option Addr)(na ca:Nat)(At:Option Addr)(nt ct:Nat)(m:Mix)(An:Option Addr)(nn cn:Nat)(ns:List Int)(w:World)(h:MixS w Av nv Aa na At nt m)(hn:du w w.heap.size An nn ns)(hnn:nn≤1000) :
  CallsIn Fence.wide 9 Tryz.prog 87 #[.agg #[.int .i64 m.fountains,.slice Av nv cv,.slice Aa na ca,.slice At nt ct],.slice An nn cn] w (sq w nv na nt m ns):=by
 have HM:=lh h;have HLV:=lh h.at_.lenV;have HLA:=lh h.at_.lenA;have HLT:=lh h.at_.lenT;have hnv:=h.hv;have hna:=h.ha;have hnt:=h.ht;clear h;refine callsIn_of_wp Tryz.func87 rfl trivial ?_ rfl;simp only [Tryz.ntmps87,es,Nat.reduceAdd,Nat.reduceSub];gi_upto_region 1 with fail
 have Ly:=lh (Lay.three w 26 #[.int .i64 m.fountains,.slice Av nv cv,.slice Aa na ca,.slice At nt ct] 34 #[.slice An nn cn] 26 #[.int .i64 0,.slice none 0 0,.slice none 0 0,.slice none 0 0]);generalize (((w.alloc (.cells #[.int .i64 m.fountains,.slice Av nv cv,.slice Aa na ca,.slice At nt ct] 26)).alloc (.cells #[.slice An nn cn] 34)).alloc (.cells #[.int .i64 0,.slice none 0 0,.slice none 0 0,.slice none 0 0] 26))=w0 at *;have HN:=lh hn;clear hn;obtain ⟨x0_0,x0_1,x0_2,x0_3⟩:=lyc4 Ly 0 rfl;have l0_:=Ly.out.lt 0 rfl;gi_wp2;clear x0_0 x0_1 x0_2 x0_3 l0_;have HBL:Hid (w.heap.size<w0.heap.size):=lh (Ly.out.lt 0 rfl);have HBS:=lh (Ly.out.1.size);have HBL1:=lh (Ly.out.lt 1 rfl);have HBL2:=lh (Ly.out.lt 2 rfl);refine ⟨trivial,(c_W (kM Av nv cv Aa na ca At nt ct m w0 (HM.out.up Ly.out.1))).mono ?_⟩;rintro e W1 ⟨A1,c1,A2,c2,A3,c3,rfl,hmo,hb⟩;have HCB:=lh hb.size;replace Ly:=lyb Ly hb;clear hb;have HMO:=lh hmo;clear hmo;have x0_0:=lyc Ly 0 rfl 0;have z0_0:=lyf Ly 0 rfl 0;have x0_1:=lyc Ly 0 rfl 1;have z0_1:=lyf Ly 0 rfl 1;have x0_2:=lyc Ly 0 rfl 2;have z0_2:=lyf Ly 0 rfl 2;have x0_3:=lyc Ly 0 rfl 3;have z0_3:=lyf Ly 0 rfl 3;have l0_:=Ly.out.lt 0 rfl;gi_upto_region 2 with fail
 have R4:=ret4' (Ly.out.blk 0 rfl) (Below.refl w.heap.size W1) n_R (.int .i64 m.fountains) (.slice A1 nv c1) (.slice A2 na c2) (.slice A3 nt c3);have hl:=iF Ly.out (fun b hb=>by simp only [List.mem_cons,List.not_mem_nil,or_false] at hb;rcases hb with rfl | rfl<;>simp<;>omega) R4.2.2 R4.1;have HMO2:=lh (HMO.out.off R4.2.2 HBL.out);have HSZ:=lh (Nat.le_trans HCB.out R4.2.2.size);clear x0_0 z0_0 x0_1 z0_1 x0_2 z0_2 x0_3 z0_3 l0_;generalize ((((W1.setCell ⟨w.heap.size,0,none⟩ (.int .i64 m.fountains)).setCell ⟨w.heap.size,1,none⟩ (.slice A1 nv c1)).setCell ⟨w.heap.size,2,none⟩ (.slice A2 na c2)).setCell ⟨w.heap.size,3,none⟩ (.slice A3 nt c3))=V2 at *;replace Ly:=lh hl;replace HMO:=HMO2;clear R4 HMO2 hl;obtain ⟨x0_0,x0_1,x0_2,x0_3⟩:=lyc4 Ly 0 rfl;have l0_:=Ly.out.lt 0 rfl;have z0_3:=lyf Ly 0 rfl 3;have hmf:∀ (fn:Fn) (first cap:Array Value) (w:World),(Instr.makeFunc fn first cap).run Tryz.prog w = .ok (.func fn first cap) w:=fun _ _ _ _=>rfl;gi_wp2;clear x0_0 x0_1 x0_2 x0_3 l0_;clear z0_3 hmf
 have HP:Hid (ph V2 w0.heap.size 122 #[.pointer (some ⟨w.heap.size+1,0,none⟩)] (fun x=>memI ns x.num)):=lh ⟨mQ,fun x W hW=>by
  have hl:=(Ly.out.blk 1 rfl).below hW HBL1.out;have hN:=(HN.out.below Ly.out.1).below (hW.mono HBS.out);refine pH An nn cn ns x (w.heap.size+1) W (hl.cell 0) hl.lt (hN.more ?_) hnn;have h1:=HBS.out;have h2:=HSZ.out;have h3:=hl.lt
  omega⟩
 refine ⟨trivial,(callsIn_wide.2 (mS w0.heap.size w0.heap.size 122 #[.pointer (some ⟨w.heap.size+1,0,none⟩)] (fun x=>memI ns x.num) A3 nt c3 m.tastes V2 HMO.out.t n_R HSZ.out HP.out)).mono ?_⟩;rintro e V3 ⟨rfl,hown,hg⟩;have hrow:=fu HMO.out.t;have HLA2:=lh (Ly.out.row hg (fun r e=>⟨by have:=(hrow r e).1;have:=HBS.out;omega,fun b hb=>by have:=(hrow r e).1;have:=HBL1.out;have:=HBL2.out;have:=HBL.out;simp only [List.mem_cons,List.not_mem_nil,or_false] at hb;rcases hb with rfl | rfl | rfl<;>dsimp only<;>omega⟩));have HMO2:=lh (HMO.out.tasts hg hown (.inl rfl));replace Ly:=HLA2;clear hown hg hrow HLA2 HP;have x0_0:=lyc Ly 0 rfl 0;have z0_0:=lyf Ly 0 rfl 0;have x0_1:=lyc Ly 0 rfl 1;have z0_1:=lyf Ly 0 rfl 1;have x0_2:=lyc Ly 0 rfl 2;have z0_2:=lyf Ly 0 rfl 2;have x0_3:=lyc Ly 0 rfl 3;have z0_3:=lyf Ly 0 rfl 3;have l0_:=Ly.out.lt 0 rfl;gi_upto_region 3 with fail
 have hgs:=eu (row:=some w.heap.size) (eY V3 _) (p:=⟨w.heap.size,3,none⟩) (.inl rfl) (.slice A3 (m.tastes.filter fun x=>!memI ns x.num).length c3);have hl:=iF Ly.out (fun b hb=>by simp only [List.mem_cons,List.not_mem_nil,or_false] at hb;rcases hb with rfl | rfl<;>simp<;>omega) hgs ((Ly.out.blk 0 rfl).set_ 3 (.slice A3 (m.tastes.filter fun x=>!memI ns x.num).length c3));have HMO3:=lh (HMO2.out.off hgs HBL.out);clear x0_0 z0_0 x0_1 z0_1 x0_2 z0_2 x0_3 z0_3 l0_;generalize V3.setCell ⟨w.heap.size,3,none⟩ (.slice A3 (m.tastes.filter fun x=>!memI ns x.num).length c3)=V4 at *;replace Ly:=lh (show Lay w V4 [(w.heap.size,26,#[.int .i64 m.fountains,.slice A1 nv c1,.slice A2 na c2,.slice A3 (m.tastes.filter fun x=>!memI ns x.num).length c3]),(w.heap.size+1,34,#[.slice An nn cn]),(w.heap.size+1+1,26,#[.int .i64 0,.slice none 0 0,.slice none 0 0,.slice none 0 0])] from hl);replace HMO:=HMO3;clear hgs hl HMO2 HMO3;obtain ⟨x0_0,x0_1,x0_2,x0_3⟩:=lyc4 Ly 0 rfl;have l0_:=Ly.out.lt 0 rfl;have r0:=lyc Ly 2 rfl 0;have rz0:=lyf Ly 2 rfl 0;have r1:=lyc Ly 2 rfl 1;have rz1:=lyf Ly 2 rfl 1;have r2:=lyc Ly 2 rfl 2;have rz2:=lyf Ly 2 rfl 2;have r3:=lyc Ly 2 rfl 3;have rz3:=lyf Ly 2 rfl 3;have rl:=Ly.out.lt 2 rfl;gi_wp2;have R4:=ret4' (Ly.out.blk 2 rfl) Ly.out.1 (Ly.out.ge 2 rfl) (.int .i64 m.fountains) (.slice A1 nv c1) (.slice A2 na c2) (.slice A3 (m.tastes.filter fun x=>!memI ns x.num).length c3);have v0:=R4.1.cell 0;have v1:=R4.1.cell 1;have v2:=R4.1.cell 2;have v3:=R4.1.cell 3;refine bodyPost_ret (v:=.agg #[.int .i64 m.fountains,.slice A1 nv c1,.slice A2 na c2,.slice A3 (m.tastes.filter fun x=>!memI ns x.num).length c3]) (by simp [results,Tryz.results87,go_sem,v0,v1,v2,v3]) rfl ?_;exact ⟨_,_,_,_,_,_,_,rfl,(HMO.out.off R4.2.2 HBL2.out).mono HBS.out,List.length_filter_le _ _,R4.2.1⟩
end
section
open Go.RowKit
theorem iS (A:Option Addr)(n c:Nat)(l:List Int)(w:World)(hr:du w w.heap.size A n l)(hn:n≤maxLen)(hby:n * 8≤140737488355328) :
  Calls Tryz.prog 86 #[.slice A n c] w fun e w'=>∃ A' c',e = .returned (.slice A' n c')∧Own w' w.heap.size 3 1 A' n c' (l.map (Value.int .i64))∧(A=none↔A'=none)∧Below w.heap.size w w':=by
 have HR:=lh hr;have hq:=qL
 cases A with
 | none =>
  have h0:n=0:=by
   rcases Nat.eq_zero_or_pos n with h | h
   ·exact h
   ·obtain ⟨_,h',_⟩:=hr.2 h;cases h'
  have hl:l=[]:=List.eq_nil_of_length_eq_zero (by rw [hr.len];exact h0);subst h0 hl
  go_enter Tryz.func86,Tryz.ntmps86
  go_wp2_with fail
  go_ret
  exact ⟨none,0,rfl,Own.none_ _ _ _ _,by simp,b_R⟩
 | some ad =>
  clear hr
  go_enter Tryz.func86,Tryz.ntmps86
  go_wp2_with (at_builtin;refine fB _ rfl _ _ rfl fW rfl (World.ownsRow_made w #[] 0 n_R (Nat.zero_le _) (by simp)) rfl (dv.alloc HR.out n_R _) (fY l) (by simpa using hn) (by simpa using hby) (by simp) ?_)
  rintro A' cap' w' hown hg hA
  go_wp2
  go_ret
  have hB:Below w.heap.size w w':=(b_R.alloc n_R _).grown hg (by simp) (by intro k hk;simp at hk;omega);refine ⟨A',cap',by simp,by simpa using hown,?_,hB⟩;constructor
  ·intro h;cases h
  ·intro h
   rcases hA with hA | hA<;>rw [hA] at h<;>cases h
end
end Go.Proofs.YthofngceiecniaaGreat
