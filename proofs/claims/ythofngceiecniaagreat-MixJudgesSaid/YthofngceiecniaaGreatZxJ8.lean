/- Part 8 of the texts of this claim, joined. -/
import Derived.Sort.CutIn
import Derived.Test.YthofngceiecniaaGreatRows
import Derived.RangeFuncNested
import Derived.IntWalk
import Derived.Test.YthofngceiecniaaGreatZxJ7
set_option linter.unusedVariables false
/- mix.asked. -/
namespace Go.Proofs.YthofngceiecniaaGreat
set_option maxHeartbeats 32000000
set_option maxRecDepth 100000
section
open Go.RowKit
def rg (w:World)(m:Mix)(vessel after fountain:Int)(e:Ending)(w':World):Prop :=
 ∃ p s1 s2 ee,e = .returned (.tuple #[.pointer p,.agg #[.int .i64 s1,.int .i64 s2],.int .i64 ee])∧Below w.heap.size w w'∧((askM m vessel after [fountain]≠0∧ee=askM m vessel after [fountain])∨(askM m vessel after [fountain]=0∧∃ T:Tb,T.m=m∧TbOk T ∧
  ((ee=8∧¬ cD m fountain T.L 0 cQ)∨(ee=0∧cD m fountain T.L 0 cQ∧∃ gU A n c rs ms,∃ q k:Nat,p=some ⟨gU,0,none⟩∧s1=(q:Int)∧s2=(k:Int)∧q<4∧(q:Int)=idxV m.vessels vessel∧(k:Int)=after∧k≤m.acts.length∧TrAt w' gU T fountain A n c rs ms∧n=m.acts.length+1∧∀ (i:Nat) (mi:List (D4 × Bool)),ms[i]? =some mi→dl mi (cD m fountain T.L i)))))
theorem rh (Av:Option Addr)(nv cv:Nat)(Aa:Option Addr)(na ca:Nat)(At:Option Addr)(nt ct:Nat)(m:Mix)(vessel after fountain:Int)(w:World)(h:MixS w Av nv Aa na At nt m) :
  CallsIn Fence.wide 9 Tryz.prog 63 #[.agg #[.int .i64 m.fountains,.slice Av nv cv,.slice Aa na ca,.slice At nt ct],.int .i64 vessel,.int .i64 after,.int .i64 fountain] w (rg w m vessel after fountain):=by
 have HM:=lh h;clear h;refine callsIn_of_wp Tryz.func63 rfl trivial ?_ rfl;simp only [Tryz.ntmps63,es,Nat.reduceAdd,Nat.reduceSub];gi_upto_region 1 with fail
 have Ly:=lh (Lay.two w 26 #[.int .i64 m.fountains,.slice Av nv cv,.slice Aa na ca,.slice At nt ct] 109 #[.int .i64 0,.int .i64 0]);generalize ((w.alloc (.cells #[.int .i64 m.fountains,.slice Av nv cv,.slice Aa na ca,.slice At nt ct] 26)).alloc (.cells #[.int .i64 0,.int .i64 0] 109))=w0 at *;have HG0:=lh (Ly.out.lt 1 rfl);have HB0:=lh Ly.out.1.size;obtain ⟨x0_0,x0_1,x0_2,x0_3⟩:=lyc4 Ly 0 rfl;have l0_:=Ly.out.lt 0 rfl;gi_wp2;clear x0_0 x0_1 x0_2 x0_3 l0_;have Y:=cr.new w0 3 [fountain] (w0.heap.size+1) (by omega);have hb1:Below w0.heap.size w0 (w0.alloc (.cells #[.int .i64 fountain] 3)):=b_R.alloc n_R _;have hc:=qh Av nv cv Aa na ca At nt ct m vessel after (some ⟨w0.heap.size,0,none⟩) 1 1 [fountain] _ (HM.out.up (Ly.out.1.trans (hb1.mono Ly.out.1.size))) (Y.more (by simp)) (by decide);have hz1:w0.heap.size≤(w0.alloc (.cells #[.int .i64 fountain] 3)).heap.size:=by simp
 have HZ1:=lh hz1;refine ⟨trivial,(c_W hc).mono ?_⟩;clear hc Y hz1;generalize (w0.alloc (.cells #[.int .i64 fountain] 3))=W00 at *;rintro e W8 ⟨pp,s1,s2,rfl,hb,hp⟩;have HP:=lh hp;have hbb:=hb1.trans (hb.mono hb1.size);clear hb hb1 hp;replace Ly:=lyb Ly hbb;clear hbb
 obtain ⟨ee,hee⟩:∃ ee,askM m vessel after [fountain]=ee:=⟨_,rfl⟩
 rw [hee] at HP ⊢;have HEE:=lh hee;clear hee;by_cases h0:ee=0
 ·
  obtain ⟨hk,h1,h2,h3,h4,T,rfl,hTm,hTL,hTg,hT,hMX⟩:=HP.out h0;have HMX:=lh hMX;subst h0;subst h2
  obtain ⟨q,hq⟩:∃ q:Nat,s1=q:=⟨s1.toNat,by omega⟩
  subst hq
  obtain ⟨k,hkk⟩:∃ k:Nat,s2=k:=⟨s2.toNat,by omega⟩
  subst hkk;have hv4:=(cI hk).1;have HQ:Hid (q<4∧(q:Int)=idxV m.vessels vessel∧k≤m.acts.length):=lh ⟨by have:=df (l:=m.vessels) (id:=vessel) (by omega);omega,h1,by omega⟩;have HOK:Hid (TbOk T):=lh ⟨by rw [hTm];exact hk,by rw [hTm];exact hTL⟩;have HTM:=lh hTm;have HT:=lh hT;clear HP hk h1 h3 h4 hTm hTL hTg hT hv4 hMX;gi_upto_region 2 with fail
  obtain ⟨V1,hV⟩:∃ V,(W8.alloc (.cells #[.int .i64 (q:Int),.int .i64 (k:Int)] 109))=V:=⟨_,rfl⟩
  rw [hV];have hb:=de hV;have hnew:=dc hV;have hge:=Ly.out.bel.size;replace Ly:=lyb Ly hb;replace HT:=lh (HT.out.below hb);replace Ly:=lh (Ly.out.add hge hnew);clear hnew hge hb hV
  obtain ⟨G2,hG⟩:∃ g,W8.heap.size=g:=⟨_,rfl⟩
  rw [hG] at Ly ⊢;clear hG;replace Ly:=lh (show Lay w V1 [(w.heap.size,26,#[.int .i64 m.fountains,.slice Av nv cv,.slice Aa na ca,.slice At nt ct]),(w.heap.size+1,109,#[.int .i64 0,.int .i64 0]),(G2,109,#[.int .i64 (q:Int),.int .i64 (k:Int)])] from Ly.out);gi_wp2;have HTW:=lh HT.out;have HTD:=lh HT.out.at_;refine ⟨trivial,(c_W (pw T fountain V1 HTD.out HOK.out)).mono ?_⟩;rintro e W3 ⟨gU,b,A,n,c,rs,ms,rfl,hb,htr,hn,hcan,hb0⟩;have HTR:=lh htr;have HN:=lh hn;have HCN:=lh hcan;have HBB:=lh hb0;clear htr hn hcan hb0;replace Ly:=lyb Ly hb;replace HT:=lh (HT.out.below hb);clear hb
  cases b with
  | false =>
   have x1_0:=lyc Ly 1 rfl 0;have z1_0:=lyf Ly 1 rfl 0;have x1_1:=lyc Ly 1 rfl 1;have z1_1:=lyf Ly 1 rfl 1;have l1_:=Ly.out.lt 1 rfl;obtain ⟨x2_0,x2_1⟩:=lyc2 Ly 2 rfl;have l2_:=Ly.out.lt 2 rfl;gi_wp2
   gi_region
   all_goals gi_wp2
   all_goals
    have R2:=ret2' (Ly.out.blk 1 rfl) Ly.out.1 (Ly.out.ge 1 rfl) (.int .i64 ((q:Int))) (.int .i64 ((k:Int)));have v0:=R2.1.cell 0;have v1:=R2.1.cell 1;refine bodyPost_ret (v:=.tuple #[.pointer none,.agg #[.int .i64 ((q:Int)),.int .i64 ((k:Int))],.int .i64 (8)]) (by simp [results,Tryz.results63,go_sem,v0,v1]) rfl ?_;exact ⟨_,_,_,_,rfl,av R2.2.1 1,.inr ⟨HEE.out,T,HTM.out,HOK.out,.inl ⟨rfl,fun h=>by have:=HBB.out;rw [HTM.out] at this;have:=this.2 h;cases this⟩⟩⟩
  | true =>
   have hg1:w.heap.size+1<V1.heap.size:=by have:=Ly.out.lt 1 rfl;have:=HG0.out;have:=HTW.out.le.1;have:=HZ1.out;omega
   have HG1:=lh hg1;clear hg1;have x1_0:=lyc Ly 1 rfl 0;have z1_0:=lyf Ly 1 rfl 0;have x1_1:=lyc Ly 1 rfl 1;have z1_1:=lyf Ly 1 rfl 1;have l1_:=Ly.out.lt 1 rfl;obtain ⟨x2_0,x2_1⟩:=lyc2 Ly 2 rfl;have l2_:=Ly.out.lt 2 rfl;gi_wp2
   gi_region
   all_goals gi_wp2
   all_goals
    have R2:=ret2' (Ly.out.blk 1 rfl) Ly.out.1 (Ly.out.ge 1 rfl) (.int .i64 ((q:Int))) (.int .i64 ((k:Int)));have v0:=R2.1.cell 0;have v1:=R2.1.cell 1;refine bodyPost_ret (v:=.tuple #[.pointer (some ⟨gU,0,none⟩),.agg #[.int .i64 ((q:Int)),.int .i64 ((k:Int))],.int .i64 (0)]) (by simp [results,Tryz.results63,go_sem,v0,v1]) rfl ?_;have hTb:=HT.out.off R2.2.2 (Nat.lt_of_lt_of_le HG0.out HZ1.out) (Nat.le_trans HB0.out HZ1.out) (HMX.out.1 _ _ (HM.out.at_.below R2.2.1));have hTr:=((HTR.out.off R2.2.2 HG1.out (Ly.out.blk 1 rfl)).at_ hTb.at_).below (av b_R 1);refine ⟨_,_,_,_,rfl,av R2.2.1 1,.inr ⟨HEE.out,T,HTM.out,HOK.out,.inr ⟨rfl,by have:=HBB.out;rw [HTM.out] at this;simpa using this,gU,A,n,c,rs,ms,q,k,rfl,rfl,rfl,HQ.out.1,HQ.out.2.1,rfl,HQ.out.2.2,hTr,by rw [← HTM.out];exact HN.out,fun i mi hi=>by rw [← HTM.out];exact HCN.out i mi hi⟩⟩⟩
 ·
  have h0b:(ee==0)=false:=by simpa using h0
  have h0c:(ee != 0)=true:=by simpa using h0
  have HE0:=lh h0;clear h0 HP;gi_upto_region 2 with fail
  obtain ⟨V4,hV⟩:∃ V,(W8.alloc (.cells #[.int .i64 s1,.int .i64 s2] 109))=V:=⟨_,rfl⟩
  rw [hV];have hb:=de hV;have hnew:=dc hV;have hge:=Ly.out.bel.size;replace Ly:=lyb Ly hb;replace Ly:=lh (Ly.out.add hge hnew);clear hnew hge hb hV
  obtain ⟨G5,hG⟩:∃ g,W8.heap.size=g:=⟨_,rfl⟩
  rw [hG] at Ly ⊢;clear hG;replace Ly:=lh (show Lay w V4 [(w.heap.size,26,#[.int .i64 m.fountains,.slice Av nv cv,.slice Aa na ca,.slice At nt ct]),(w.heap.size+1,109,#[.int .i64 0,.int .i64 0]),(G5,109,#[.int .i64 s1,.int .i64 s2])] from Ly.out);have x1_0:=lyc Ly 1 rfl 0;have z1_0:=lyf Ly 1 rfl 0;have x1_1:=lyc Ly 1 rfl 1;have z1_1:=lyf Ly 1 rfl 1;have l1_:=Ly.out.lt 1 rfl;obtain ⟨x2_0,x2_1⟩:=lyc2 Ly 2 rfl;have l2_:=Ly.out.lt 2 rfl;gi_wp2
  gi_region
  all_goals gi_wp2
  all_goals
   have R2:=ret2' (Ly.out.blk 1 rfl) Ly.out.1 (Ly.out.ge 1 rfl) (.int .i64 (s1)) (.int .i64 (s2));have v0:=R2.1.cell 0;have v1:=R2.1.cell 1;refine bodyPost_ret (v:=.tuple #[.pointer none,.agg #[.int .i64 (s1),.int .i64 (s2)],.int .i64 (ee)]) (by simp [results,Tryz.results63,go_sem,v0,v1]) rfl ?_;exact ⟨_,_,_,_,rfl,av R2.2.1 1,.inl ⟨by rw [HEE.out];exact HE0.out,HEE.out.symm⟩⟩
end
section
open Go.RowKit
theorem lI:∀ {a b:List Nat},a.Nodup→(∀ x∈a,x∈b)→a.length≤b.length
 | [],_,_,_=>by simp
 | x::a,b,h,hs=>by
  rw [List.nodup_cons] at h;have hb:x∈b:=hs x (by simp);have:=lI (a:=a) (b:=b.erase x) h.2 (fun y hy=>(List.mem_erase_of_ne (fun e=>h.1 (by rw [← e];exact hy))).2 (hs y (by simp [hy])));rw [List.length_erase_of_mem hb] at this;have h0:0<b.length:=List.length_pos_of_mem hb;simp;omega
def D4.num (x:D4):Nat:=x.a.toNat+13 * x.b.toNat+169 * x.c.toNat+2197 * x.d.toNat
theorem sO {m:List (D4 × Bool)}(hn:(m.map Prod.fst).Nodup)(h:∀ p∈m,(0≤p.1.a∧p.1.a≤12)∧(0≤p.1.b∧p.1.b≤12)∧(0≤p.1.c∧p.1.c≤12)∧(0≤p.1.d∧p.1.d≤12)):m.length≤28561:=by
 have h1:(m.map fun p=>p.1.num).Nodup:=by
  rw [List.Nodup,List.pairwise_map] at hn ⊢;refine hn.imp_of_mem fun {p q} hp hq hne e=>hne ?_;have a:=h p hp;have b:=h q hq;obtain ⟨⟨x1,x2,x3,x4⟩,_⟩:=p;obtain ⟨⟨y1,y2,y3,y4⟩,_⟩:=q;unfold D4.num at e;dsimp only at a b e ⊢
  congr 1<;>omega
 have h2:=lI (b:=List.range 28561) h1 (fun x hx=>by
  obtain ⟨p,hp,rfl⟩:=List.mem_map.1 hx;have a:=h p hp;unfold D4.num;rw [List.mem_range]
  omega)
 simpa using h2
theorem qA {m:Mix}{f:Int}{T:Tb}{k r:Nat}{W:World}{mk:List (D4 × Bool)}(hTm:T.m=m)(hok:TbOk T)(hk:k≤m.acts.length)(hm:dX W r mk)(hc:dl mk (cD m f T.L k)):mk.length≤1000000:=by
 subst hTm;have hL:k<T.L.length:=by have:=hok.long;omega
 have hr:=gl hok.all hok.vess (dh hok.ok) (List.getElem?_eq_getElem hL)
 have:=sO (cV.nodup jy hm) (fun p hp=>by
  have h1:=(hc.keys p.1).1 ⟨p.2,hp⟩;have h2:=h1.fits hok.all hok.vess (List.getElem?_eq_getElem hL);have a0:=h2.le 0 (by decide);have a1:=h2.le 1 (by decide);have a2:=h2.le 2 (by decide);have a3:=h2.le 3 (by decide);have b0:=hr.2 0;have b1:=hr.2 1;have b2:=hr.2 2;have b3:=hr.2 3;have e0:au p.1.toH (0:Nat)=p.1.a:=rfl;have e1:au p.1.toH (1:Nat)=p.1.b:=rfl;have e2:au p.1.toH (2:Nat)=p.1.c:=rfl;have e3:au p.1.toH (3:Nat)=p.1.d:=rfl
  omega)
 omega
theorem sB {m:Mix}{f vessel after:Int}{T:Tb}{q k:Nat}(hTm:T.m=m)(hok:TbOk T)(hqi:(q:Int)=idxV m.vessels vessel)(hka:(k:Int)=after)(hk:k≤m.acts.length):∀ n,OfQ (cD m f T.L k) q n↔OfP m vessel after f T.L n:=fun n=>by
 subst hTm;unfold OfQ OfP;rw [← hqi,← hka,Int.toNat_natCast];have hL:k<T.L.length:=by have:=hok.long;omega
 constructor
 ·rintro ⟨x,h1,h2⟩;exact ⟨_,h1,h2⟩
 ·rintro ⟨x,h1,h2⟩
  have e:=iP (h1.fits hok.all hok.vess (List.getElem?_eq_getElem hL)).lh;exact ⟨ofH x,by rw [e];exact h1,by rw [e];exact h2⟩
theorem rU {m:Mix}{f:Int}{T:Tb}{q k:Nat}(hTm:T.m=m)(hok:TbOk T)(ht:cD m f T.L 0 cQ)(hk:k≤m.acts.length):∃ n,OfQ (cD m f T.L k) q n:=by
 subst hTm;have hL:k<T.L.length:=by have:=hok.long;omega
 obtain ⟨s,hs⟩:=jm ht hk;have e:=iP (hs.fits hok.all hok.vess (List.getElem?_eq_getElem hL)).lh;exact ⟨_,ofH s,by rw [e];exact hs,rfl⟩
theorem rq {m:Mix}{vessel after:Int}{fs:List Int}(h:askM m vessel after fs=0):askM m vessel after []=0:=by
 unfold askM at h ⊢
 split at h
 ·rename_i h1
  rw [if_pos h1]
  split at h
  ·cases h
  ·rename_i h2
   rw [if_neg h2]
   split at h
   ·rename_i h3
    rw [if_pos ⟨h3.1,fun f hf=>by cases hf⟩]
   ·cases h
 ·cases h
def rC (w':World)(m:Mix)(vessel after fountain:Int)(p:Option Addr)(s1 s2 ee:Int):Prop:=(askM m vessel after [fountain]≠0∧ee=askM m vessel after [fountain])∨(askM m vessel after [fountain]=0∧∃ T:Tb,T.m=m∧TbOk T ∧
    ((ee=8∧¬ cD m fountain T.L 0 cQ)∨(ee=0∧cD m fountain T.L 0 cQ∧∃ gU A n c rs ms,∃ q k:Nat,p=some ⟨gU,0,none⟩∧s1=(q:Int)∧s2=(k:Int)∧q<4∧(q:Int)=idxV m.vessels vessel∧(k:Int)=after∧k≤m.acts.length∧TrAt w' gU T fountain A n c rs ms∧n=m.acts.length+1∧∀ (i:Nat) (mi:List (D4 × Bool)),ms[i]? =some mi→dl mi (cD m fountain T.L i))))
theorem rc {w':World}{m:Mix}{vessel after fountain s1 s2:Int}{p:Option Addr}(h:rC w' m vessel after fountain p s1 s2 0):askM m vessel after [fountain]=0∧∃ T:Tb,T.m=m∧TbOk T∧cD m fountain T.L 0 cQ∧∃ gU A n c rs ms,∃ q k:Nat,p=some ⟨gU,0,none⟩∧s1=(q:Int)∧s2=(k:Int)∧q<4∧(q:Int)=idxV m.vessels vessel∧(k:Int)=after∧k≤m.acts.length∧TrAt w' gU T fountain A n c rs ms∧n=m.acts.length+1∧∀ (i:Nat) (mi:List (D4 × Bool)),ms[i]? =some mi→dl mi (cD m fountain T.L i):=by
 rcases h with ⟨h0,h1⟩ | ⟨h0,T,h1,h2,⟨h3,_⟩ | ⟨_,h4,h5⟩⟩
 ·exact absurd h1.symm h0
 ·cases h3
 ·exact ⟨h0,T,h1,h2,h4,h5⟩
theorem qb {w':World}{m:Mix}{vessel after fountain s1 s2 ee:Int}{p:Option Addr}(h:rC w' m vessel after fountain p s1 s2 ee)(he:ee≠0):OfIs m vessel after fountain (0,0) ee:=by
 rcases h with ⟨h0,h1⟩ | ⟨h0,T,h1,h2,⟨h3,h4⟩ | ⟨h3,_⟩⟩
 ·exact .inl ⟨h0,rfl,h1⟩
 ·exact .inr ⟨h0,T.L,by rw [← h1];exact h2.all,.inl ⟨h4,rfl,h3⟩⟩
 ·exact absurd h3 he
def OfOut (w:World)(m:Mix)(vessel after fountain:Int)(e:Ending)(w':World):Prop:=∃ lo hi ee:Int,e = .returned (.tuple #[.agg #[.int .i64 lo,.int .i64 hi],.int .i64 ee])∧OfIs m vessel after fountain (lo,hi) ee∧Below w.heap.size w w'
def mD (w:World)(m:Mix)(vessel after fountain:Int)(e:Ending)(w':World):Prop:=(∃ ee:Int,e = .returned (.tuple #[.int .u8 0,.int .i64 ee])∧ee≠0∧OfIs m vessel after fountain (0,0) ee∧Below w.heap.size w w') ∨
 ∃ lo hi n:Int,e = .returned (.tuple #[.int .u8 (iD (decide (lo=n)) (decide (hi=n))),.int .i64 0])∧OfIs m vessel after fountain (lo,hi) 0∧fb m vessel after n 0∧Below w.heap.size w w'
theorem o9 (a b:Bool)(w:World):Calls Tryz.prog 65 #[.bool a,.bool b] w fun e w'=>e = .returned (.int .u8 (iD a b))∧w=w':=by
 cases a<;>cases b <;>
 ·go_enter Tryz.func65,Tryz.ntmps65
  go_wp2
  go_ret
  exact ⟨rfl,rfl⟩
theorem qT (Av:Option Addr)(nv cv:Nat)(Aa:Option Addr)(na ca:Nat)(At:Option Addr)(nt ct:Nat)(m:Mix)(vessel after fountain:Int)(w:World)(h:MixS w Av nv Aa na At nt m) :
  CallsIn Fence.wide 9 Tryz.prog 29 #[.agg #[.int .i64 m.fountains,.slice Av nv cv,.slice Aa na ca,.slice At nt ct],.int .i64 vessel,.int .i64 after,.int .i64 fountain] w (mD w m vessel after fountain):=by
 have HM:=lh h;clear h;refine callsIn_of_wp Tryz.func29 rfl trivial ?_ rfl;simp only [Tryz.ntmps29,es,Nat.reduceAdd,Nat.reduceSub];gi_upto_region 1 with fail
 have Ly:=lh (Lay.one w 26 #[.int .i64 m.fountains,.slice Av nv cv,.slice Aa na ca,.slice At nt ct]);generalize (w.alloc (.cells #[.int .i64 m.fountains,.slice Av nv cv,.slice Aa na ca,.slice At nt ct] 26))=w0 at *;obtain ⟨x0_0,x0_1,x0_2,x0_3⟩:=lyc4 Ly 0 rfl;have l0_:=Ly.out.lt 0 rfl;gi_wp2;clear x0_0 x0_1 x0_2 x0_3 l0_;refine ⟨trivial,(c_W (rh Av nv cv Aa na ca At nt ct m vessel after fountain w0 (HM.out.up Ly.out.1))).mono ?_⟩;rintro e W1 ⟨pp,s1,s2,ee,rfl,hb,hc⟩;have HC:=lh hc;clear hc;replace Ly:=lyb Ly hb;clear hb;by_cases h0:ee=0
 ·
  subst h0;obtain ⟨h1,T,hTm,hok,ht,gU,A,n,c,rs,ms,q,k,rfl,rfl,rfl,hq4,hqi,hka,hkl,htr,hn,hcan⟩:=rc HC.out;have hkL:k<T.L.length:=by have:=hok.long;rw [hTm] at this;omega
  obtain ⟨all,hall⟩:∃ all,T.L[k]? =some all:=⟨_,List.getElem?_eq_getElem hkL⟩
  have HF:Hid (∀ lo hi:Int,fw (OfQ (cD m fountain T.L k) q) (lo,hi)→OfIs m vessel after fountain (lo,hi) 0∧fb m vessel after (au all (q:Int)) 0):=lh fun lo hi hs=>⟨.inr ⟨h1,T.L,by rw [← hTm];exact hok.all,.inr ⟨ht,rfl,hs.congr (sB hTm hok hqi hka hkl)⟩⟩,.inr ⟨rq h1,rfl,T.L,all,by rw [← hTm];exact hok.all,by rw [← hka];exact hall,by rw [hqi]⟩⟩
  have hkr:k<rs.length:=by have:=htr.rd.1;simp at this;omega
  have hkm:k<ms.length:=by have:=htr.len;omega
  have HRK:Hid (rs[k]? =some rs[k]):=lh (List.getElem?_eq_getElem hkr);have HMK:Hid (ms[k]? =some ms[k]):=lh (List.getElem?_eq_getElem hkm);have HCM:Hid (dl ms[k] (cD m fountain T.L k)):=lh (hcan k _ HMK.out);have HML:Hid (ms[k].length≤1000000):=lh (qA hTm hok hkl (htr.maps k _ _ HRK.out HMK.out) HCM.out);have HEX:Hid (∃ n,OfQ (cD m fountain T.L k) q n):=lh (rU hTm hok ht hkl);have hkl2:k<T.nl:=by have:=dY dF (by omega) htr.tb.all;omega
  obtain ⟨bl,ol,all',hAL,hbl,hall',hcl⟩:=dp dF (by omega) htr.tb.all hkl2;rw [hall] at hall';obtain rfl:all=all':=Option.some.inj hall';have HTR:=lh htr;have HTR0:=lh htr;have HQ4:=lh hq4;have HAL:=lh hAL;have HBL:=lh hbl;have HCE:=lh (hcl q _ (jQ all hq4));have HKL:=lh hkl2;clear HC h1 hTm hok ht hqi hka hkl htr hn hcan hq4 hkL hall hall' hAL hbl hcl hkl2;have B00:=lh (Below.refl W1.heap.size W1);gi_upto_region 4 with fail
  obtain ⟨V2,hV⟩:∃ V,(W1.alloc (.cells #[.int .i64 (q:Int),.int .i64 (k:Int)] 109))=V:=⟨_,rfl⟩
  rw [hV];have hb:=de hV;have hnew:=dc hV;have hge:=Ly.out.bel.size;replace Ly:=lyb Ly hb;replace HTR:=lh (HTR.out.below hb);replace B00:=lh (B00.out.trans (hb.mono B00.out.size));replace Ly:=lh (Ly.out.add hge hnew);clear hnew hge hb hV
  obtain ⟨G3,hG⟩:∃ g,W1.heap.size=g:=⟨_,rfl⟩
  rw [hG] at Ly ⊢;clear hG;replace Ly:=lh (show Lay w V2 [(w.heap.size,26,#[.int .i64 m.fountains,.slice Av nv cv,.slice Aa na ca,.slice At nt ct]),(G3,109,#[.int .i64 (q:Int),.int .i64 (k:Int)])] from Ly.out);have HLay0:=lh Ly.out;refine dy [([true,true,true,true,true,true,true,true,true,true,true,true,true,true,true,true],16)] [false,false,false,false,false,false,false,false,false,false,false,false,false,false,false,false,false,false,true] [false,false,false,false,false,false,false,false,false,false,false,false,false,false,false,false,false,false,false,true] 17 (fun b=>.pointer (some ⟨b,0,none⟩)) 54 #[.int .i64 0,.int .i64 0] (by kernel_rfl) (by kernel_rfl) (by kernel_rfl) (av b_R 1) rfl rfl rfl (fun _ _=>rfl) (fun _ _=>rfl) ?_;refine wpFlow_cons (A:=?AF1) rfl ?hq1 ?_
  case hq1 =>
   rintro σ hσ of hof hcl;have HOF:=lh hof;clear hof hcl;obtain ⟨c0_,c1_⟩:=lyz2 Ly HOF 1 rfl;have hfw:=hfT;have u0:∀ z,(of z).cell? ⟨gU,0,none⟩=some (.pointer (some ⟨T.g,0,none⟩)):=fun z=>(HTR0.out.blk.below (B00.out.trans ((HOF.out z).mono B00.out.size)) HTR0.out.blk.lt).cell 0;have t4:∀ z,(of z).cell? ⟨T.g,4,none⟩=some (.slice (some ⟨bl,ol,none⟩) T.nl T.cl):=fun z=>by have:=(HTR0.out.tb.below (B00.out.trans ((HOF.out z).mono B00.out.size))).blk.cell 4;rw [← HAL.out];exact this
   have ch:∀ z,(of z).cell? ⟨bl,ol+k * 4+q,none⟩=some (.int .i64 (au all (q:Int))):=fun z=>((B00.out.trans ((HOF.out z).mono B00.out.size)).cell (p:=⟨bl,ol+k * 4+q,none⟩) HBL.out).trans HCE.out;have hkl:=HKL.out;have hq4:=HQ4.out;simp only [bu]
   repeat (gi_big_quiet_step (fail))
   refine wpQuietIn_nil ?_;exact rfl
  intro W4 hW;replace Ly:=lyb Ly hW;replace HTR:=lh (HTR.out.below hW);replace B00:=lh (B00.out.trans (hW.mono B00.out.size));clear hW;gi_wp2;refine ⟨trivial,(c_W (of_in gU T fountain A n c rs ms q k rs[k] ms[k] (cD m fountain T.L k) W4 HTR.out HRK.out HMK.out HCM.out HML.out HQ4.out HEX.out)).mono ?_⟩;rintro e W5 ⟨lo,hi,rfl,hsp,hb⟩;have HSP:=lh (HF.out lo hi hsp);clear hsp;replace Ly:=lyb Ly hb;replace HTR:=lh (HTR.out.below hb);replace B00:=lh (B00.out.trans (hb.mono B00.out.size));gi_wp2;refine ⟨trivial,hb,?_⟩;clear hb;refine wpFlow_nil (A:=?AF2) ?hq2 ?_
  case hq2 =>
   rintro σ hσ of hof hcl;have HOF:=lh hof;clear hof hcl;obtain ⟨c0_,c1_⟩:=lyz2 Ly HOF 1 rfl;have hfw:=hfT;have u0:∀ z,(of z).cell? ⟨gU,0,none⟩=some (.pointer (some ⟨T.g,0,none⟩)):=fun z=>(HTR0.out.blk.below (B00.out.trans ((HOF.out z).mono B00.out.size)) HTR0.out.blk.lt).cell 0;have t4:∀ z,(of z).cell? ⟨T.g,4,none⟩=some (.slice (some ⟨bl,ol,none⟩) T.nl T.cl):=fun z=>by have:=(HTR0.out.tb.below (B00.out.trans ((HOF.out z).mono B00.out.size))).blk.cell 4;rw [← HAL.out];exact this
   have ch:∀ z,(of z).cell? ⟨bl,ol+k * 4+q,none⟩=some (.int .i64 (au all (q:Int))):=fun z=>((B00.out.trans ((HOF.out z).mono B00.out.size)).cell (p:=⟨bl,ol+k * 4+q,none⟩) HBL.out).trans HCE.out;have hkl:=HKL.out;have hq4:=HQ4.out;simp only [bu]
   repeat (gi_big_quiet_step (fail))
   refine wpQuietIn_nil ?_;exact rfl
  intro bN W6 hW hbg hbb hbi;replace Ly:=lyb Ly hW;replace HTR:=lh (HTR.out.below hW);replace B00:=lh (B00.out.trans (hW.mono B00.out.size));have c0:=hbb.cell 0;have z0:=hbb.frozen 0;have c1:=hbb.cell 1;have z1:=hbb.frozen 1;have hbl:=hbb.lt;have hbw:w.heap.size≤bN:=Nat.le_trans (HLay0.out.1.size) hbg;simp only [bu];refine dg ?_;gi_wp2;refine cA ?_;have R3:=ret2' hbb (Below.refl bN W6) n_R (.int .i64 lo) (.int .i64 hi);have HLay9:=lh (Lay.add (w:=w) (bs:=[(w.heap.size,26,#[.int .i64 m.fountains,.slice Av nv cv,.slice Aa na ca,.slice At nt ct]),(G3,109,#[.int .i64 (q:Int),.int .i64 (k:Int)])]) ⟨Ly.out.1.trans (R3.2.1.mono hbw),fun p hp=>⟨(Ly.out.2 p hp).1,(Ly.out.2 p hp).2.below R3.2.1 (by have:=(HLay0.out.2 p hp).2.lt;omega)⟩⟩ hbw R3.1);generalize ((W6.setCell ⟨bN,0,none⟩ (.int .i64 lo)).setCell ⟨bN,1,none⟩ (.int .i64 hi))=W99 at *;clear c0 z0 c1 z1 hbl hbb hW hbg R3;replace Ly:=HLay9;obtain ⟨x2_0,x2_1⟩:=lyc2 Ly 2 rfl;have l2_:=Ly.out.lt 2 rfl;gi_wp2;clear x2_0 x2_1 l2_;have e1:(lo==au all (q:Int))=decide (lo=au all (q:Int)):=by by_cases h:lo=au all (q:Int)<;>simp [h]
  have e2:(hi==au all (q:Int))=decide (hi=au all (q:Int)):=by by_cases h:hi=au all (q:Int)<;>simp [h]
  rw [e1,e2];refine ⟨trivial,(callsIn_wide.2 (o9 (decide (lo=au all (q:Int))) (decide (hi=au all (q:Int))) W99)).mono ?_⟩;rintro e W12 ⟨rfl,rfl⟩;clear e1 e2;gi_wp2;refine bodyPost_ret (v:=.tuple #[.int .u8 (iD (decide (lo=au all (q:Int))) (decide (hi=au all (q:Int)))),.int .i64 0]) (by simp [results,Tryz.results29,go_sem]) rfl ?_;exact .inr ⟨lo,hi,au all (q:Int),rfl,HSP.out.1,HSP.out.2,Ly.out.1⟩
 ·
  have h0b:(ee==0)=false:=by simpa using h0
  have h0c:(ee != 0)=true:=by simpa using h0
  have HF:Hid (OfIs m vessel after fountain (0,0) ee):=lh (qb HC.out h0);have H0:=lh h0;clear h0 HC;gi_upto_region 2 with fail
  obtain ⟨V7,hV⟩:∃ V,(W1.alloc (.cells #[.int .i64 s1,.int .i64 s2] 109))=V:=⟨_,rfl⟩
  rw [hV];have hb:=de hV;have hnew:=dc hV;have hge:=Ly.out.bel.size;replace Ly:=lyb Ly hb;replace Ly:=lh (Ly.out.add hge hnew);clear hnew hge hb hV
  obtain ⟨G8,hG⟩:∃ g,W1.heap.size=g:=⟨_,rfl⟩
  rw [hG] at Ly ⊢;clear hG;replace Ly:=lh (show Lay w V7 [(w.heap.size,26,#[.int .i64 m.fountains,.slice Av nv cv,.slice Aa na ca,.slice At nt ct]),(G8,109,#[.int .i64 s1,.int .i64 s2])] from Ly.out);gi_wp2;refine bodyPost_ret (v:=.tuple #[.int .u8 0,.int .i64 ee]) (by simp [results,Tryz.results29,go_sem]) rfl ?_;exact .inl ⟨ee,rfl,H0.out,HF.out,Ly.out.1⟩
end
section
open Go.RowKit
def ku (m:Mix)(v a f k e:Int):Prop:=(e≠0∧k=0∧OfIs m v a f (0,0) e)∨(e=0∧∃ lo hi n:Int,k=iD (decide (lo=n)) (decide (hi=n))∧OfIs m v a f (lo,hi) 0∧fb m v a n 0)
theorem ku.same {m:Mix}{v a f k e k' e':Int}(h:ku m v a f k e)(h':ku m v a f k' e'):k=k'∧e=e':=by
 rcases h with ⟨h0,rfl,h1⟩ | ⟨rfl,lo,hi,n,rfl,h1,h2⟩<;>rcases h' with ⟨k0,rfl,k1⟩ | ⟨rfl,lo',hi',n',rfl,k1,k2⟩
 ·exact ⟨rfl,(OfIs.same h1 k1).2⟩
 ·exact absurd (OfIs.same h1 k1).2 h0
 ·exact absurd (OfIs.same k1 h1).2 k0
 ·obtain ⟨e1,_⟩:=OfIs.same h1 k1
  obtain ⟨rfl,_⟩:=fb.same h2 k2
  obtain ⟨rfl,rfl⟩:lo=lo'∧hi=hi':=⟨congrArg Prod.fst e1,congrArg Prod.snd e1⟩
  exact ⟨rfl,rfl⟩
theorem lk {w:World}{m:Mix}{v a f:Int}{e:Ending}{w':World}(h:mD w m v a f e w'):∃ k ee:Int,e = .returned (.tuple #[.int .u8 k,.int .i64 ee])∧ku m v a f k ee∧Below w.heap.size w w':=by
 rcases h with ⟨ee,h1,h2,h3,h4⟩ | ⟨lo,hi,n,h1,h2,h3,h4⟩
 ·exact ⟨0,ee,h1,.inl ⟨h2,rfl,h3⟩,h4⟩
 ·exact ⟨_,0,h1,.inr ⟨rfl,lo,hi,n,rfl,h2,h3⟩,h4⟩
end
section
def ej (m:Mix)(a b f:Int):Int:=if cu m=true then (if idxV m.vessels a<0∨idxV m.vessels b<0 then 6 else if 1≤f∧f≤m.fountains then 0 else 2) else 40
def km (m:Mix)(a b n f k e:Int):Prop :=
 (ej m a b f≠0∧k=0∧e=ej m a b f)∨(ej m a b f=0∧(doM m ⟨2,a,b,n⟩).2≠0∧k=0∧e=(doM m ⟨2,a,b,n⟩).2) ∨
  (ej m a b f=0∧(doM m ⟨2,a,b,n⟩).2=0∧ku (doM m ⟨2,a,b,n⟩).1 b ((doM m ⟨2,a,b,n⟩).1.acts.length:Int) f k e)
theorem km.same {m:Mix}{a b n f k e k' e':Int}(h:km m a b n f k e)(h':km m a b n f k' e'):k=k'∧e=e':=by
 rcases h with ⟨h0,rfl,rfl⟩ | ⟨h0,h1,rfl,rfl⟩ | ⟨h0,h1,h2⟩<;>rcases h' with ⟨k0,rfl,rfl⟩ | ⟨k0,k1,rfl,rfl⟩ | ⟨k0,k1,k2⟩
 ·exact ⟨rfl,rfl⟩
 ·exact absurd k0 h0
 ·exact absurd k0 h0
 ·exact absurd h0 k0
 ·exact ⟨rfl,rfl⟩
 ·exact absurd k1 h1
 ·exact absurd h0 k0
 ·exact absurd h1 k1
 ·exact h2.same k2
theorem do_ok {m m':Mix}{x:MAct}(h:doM m x=(m',0)):cu m'=true∧m'=ey m (m.acts++[x])∧cu m=true∧m.acts.length≠12:=by
 unfold doM at h;by_cases hk:cu m=true
 ·rw [if_pos hk] at h
  by_cases h12:m.acts.length=12
  ·rw [if_pos h12] at h;cases h
  ·rw [if_neg h12] at h
   by_cases h2:cu (ey m (m.acts++[x]))=true
   ·rw [if_pos h2] at h
    cases h;exact ⟨h2,rfl,hk,h12⟩
   ·rw [if_neg h2] at h;cases h
 ·rw [if_neg hk] at h;cases h
end
section
open Go.RowKit Go.Shelf
theorem qD {W:World}{base n1 c1 n2 c2 n3 c3:Nat}{A1 A2 A3:Option Addr}{m:Mix}(h:di W base A1 n1 c1 A2 n2 c2 A3 n3 c3 m)(hk:cu m=true):n1≤1000∧n2≤1000∧n3≤1000∧(n2:Int)=m.acts.length:=by
 have hv:=dY gn (by omega) (h.v.reads n_R);have ha:=dY jw (by omega) (h.a.reads n_R);have ht:=dY gp (by omega) (h.t.reads n_R);have h1:=cI hk;omega
def py (w:World)(m:Mix)(a b n f:Int)(e:Ending)(w':World):Prop:=∃ k ee:Int,e = .returned (.tuple #[.int .u8 k,.int .i64 ee])∧km m a b n f k ee∧Below w.heap.size w w'
theorem sv (Av:Option Addr)(nv cv:Nat)(Aa:Option Addr)(na ca:Nat)(At:Option Addr)(nt ct:Nat)(m:Mix)(from_ to drops fountain:Int)(w:World)(h:MixS w Av nv Aa na At nt m) :
  CallsIn Fence.wide 9 Tryz.prog 16 #[.agg #[.int .i64 m.fountains,.slice Av nv cv,.slice Aa na ca,.slice At nt ct],.int .i64 from_,.int .i64 to,.int .i64 drops,.int .i64 fountain] w (py w m from_ to drops fountain):=by
 have HM:=lh h;clear h;refine callsIn_of_wp Tryz.func16 rfl trivial ?_ rfl;simp only [Tryz.ntmps16,es,Nat.reduceAdd,Nat.reduceSub];gi_upto_region 1 with fail
 have Ly:=lh (Lay.one w 26 #[.int .i64 m.fountains,.slice Av nv cv,.slice Aa na ca,.slice At nt ct]);generalize (w.alloc (.cells #[.int .i64 m.fountains,.slice Av nv cv,.slice Aa na ca,.slice At nt ct] 26))=w0 at *;obtain ⟨x0_0,x0_1,x0_2,x0_3⟩:=lyc4 Ly 0 rfl;have l0_:=Ly.out.lt 0 rfl;gi_wp2;clear x0_0 x0_1 x0_2 x0_3 l0_;refine ⟨trivial,(callsIn_wide.2 (MixS.laid (HM.out.up Ly.out.1))).mono ?_⟩;rintro e W1 ⟨p,rfl,hb,hp⟩;have HP:=lh hp;clear hp;replace Ly:=lyb Ly hb;clear hb
 cases hk:cu m with
 | false =>
  have HA:Hid (ej m from_ to fountain=40):=lh (by unfold ej;rw [hk];rfl);clear hk;gi_wp2;refine bodyPost_ret (v:=.tuple #[.int .u8 0,.int .i64 40]) (by simp [results,Tryz.results16,go_sem]) rfl ?_;exact ⟨0,40,rfl,.inl ⟨by rw [HA.out];decide,rfl,HA.out.symm⟩,Ly.out.1⟩
 | true =>
  obtain ⟨g,AA,nl,cl,L,rfl,hg,hL,hT⟩:=HP.out hk
  obtain ⟨T,hTT⟩:∃ T:Tb,T=⟨g,Av,nv,cv,Aa,na,ca,At,nt,ct,AA,nl,cl,m,L⟩:=⟨_,rfl⟩
  have hTg:g=T.g:=by rw [hTT]
  have hTm:T.m=m:=by rw [hTT]
  rw [← hTT] at hT;subst hTg;have HK:=lh hk;have HT:=lh hT;have HTM:=lh hTm;clear HP hTT hL hg hT hk hTm;gi_wp2;refine ⟨trivial,(callsIn_wide.2 (dQ T from_ W1 HT.out.at_)).mono ?_⟩;rintro e W2 ⟨rfl,hb⟩;replace Ly:=lyb Ly hb;replace HT:=lh (HT.out.below hb);clear hb;rw [HTM.out]
  obtain ⟨ix,hix⟩:∃ ix,idxV m.vessels from_=ix:=⟨_,rfl⟩
  rw [hix];have HIX:=lh hix;clear hix;by_cases h6:ix<0
  ·
   have HA:Hid (ej m from_ to fountain=6):=lh (by unfold ej;rw [if_pos HK.out,if_pos (.inl (by rw [HIX.out];exact h6))]);gi_wp2;refine ⟨trivial,?_⟩;gi_wp2;refine bodyPost_ret (v:=.tuple #[.int .u8 0,.int .i64 6]) (by simp [results,Tryz.results16,go_sem]) rfl ?_;exact ⟨0,6,rfl,.inl ⟨by rw [HA.out];decide,rfl,HA.out.symm⟩,Ly.out.1⟩
  ·
   have H6:=lh h6;gi_wp2;refine ⟨trivial,(callsIn_wide.2 (dQ T to W2 HT.out.at_)).mono ?_⟩;rintro e W3 ⟨rfl,hb⟩;replace Ly:=lyb Ly hb;replace HT:=lh (HT.out.below hb);clear hb;rw [HTM.out]
   obtain ⟨iy,hiy⟩:∃ iy,idxV m.vessels to=iy:=⟨_,rfl⟩
   rw [hiy];have HIY:=lh hiy;clear hiy h6;by_cases h7:iy<0
   ·
    have HA:Hid (ej m from_ to fountain=6):=lh (by unfold ej;rw [if_pos HK.out,if_pos (.inr (by rw [HIY.out];exact h7))]);gi_wp2;refine bodyPost_ret (v:=.tuple #[.int .u8 0,.int .i64 6]) (by simp [results,Tryz.results16,go_sem]) rfl ?_;exact ⟨0,6,rfl,.inl ⟨by rw [HA.out];decide,rfl,HA.out.symm⟩,Ly.out.1⟩
   ·
    have H7:=lh h7;have HN6:Hid (¬ (idxV m.vessels from_<0∨idxV m.vessels to<0)):=lh (by rw [HIX.out,HIY.out];have:=H6.out;have:=H7.out;omega);obtain ⟨x0_0,x0_1,x0_2,x0_3⟩:=lyc4 Ly 0 rfl;have l0_:=Ly.out.lt 0 rfl;gi_wp2;clear x0_0 x0_1 x0_2 x0_3 l0_;have Y:=cr.new W3 3 [fountain] (W3.heap.size+1) (by omega);have hb1:Below W3.heap.size W3 (W3.alloc (.cells #[.int .i64 fountain] 3)):=b_R.alloc n_R _;have hc:=ez 1 m.fountains (some ⟨W3.heap.size,0,none⟩) 1 1 [fountain] _ (Y.more (by simp)) (by decide);refine ⟨trivial,(callsIn_wide.2 hc).mono ?_⟩;clear hc Y;rintro e W8 ⟨rfl,hb⟩;have hbb:=hb1.trans (hb.mono hb1.size);clear hb hb1 h7;replace Ly:=lyb Ly hbb;replace HT:=lh (HT.out.below hbb);clear hbb;by_cases hr:1≤fountain∧fountain≤m.fountains
    ·
     have hi:inB 1 m.fountains [fountain]=true:=by rw [dT];exact decide_eq_true hr
     rw [hi];have HA:Hid (ej m from_ to fountain=0):=lh (by unfold ej;rw [if_pos HK.out,if_neg HN6.out,if_pos hr]);clear hr hi;obtain ⟨x0_0,x0_1,x0_2,x0_3⟩:=lyc4 Ly 0 rfl;have l0_:=Ly.out.lt 0 rfl;gi_wp2;clear x0_0 x0_1 x0_2 x0_3 l0_;refine ⟨trivial,(c_W (do_in Av nv cv Aa na ca At nt ct m ⟨2,from_,to,drops⟩ W8 (HM.out.up Ly.out.1))).mono ?_⟩;rintro e W4 ⟨A1,n1,c1,A2,n2,c2,A3,n3,c3,rfl,hmo,hn3,hb⟩;replace Ly:=lyb Ly hb;replace HT:=lh (HT.out.below hb);clear hb
     obtain ⟨mx,hmx⟩:∃ r,doM m ⟨2,from_,to,drops⟩=r:=⟨_,rfl⟩
     rw [hmx] at hmo ⊢;obtain ⟨m',ee⟩:=mx;dsimp only at hmo ⊢;have HMX:=lh hmx;have HMO:=lh hmo;clear hmx hmo hn3;gi_upto_region 9 with fail
     obtain ⟨V5,hV⟩:∃ V,(W4.alloc (.cells #[.int .i64 m'.fountains,.slice A1 n1 c1,.slice A2 n2 c2,.slice A3 n3 c3] 26))=V:=⟨_,rfl⟩
     rw [hV];have hb:=de hV;have hnew:=dc hV;have hge:=Ly.out.bel.size;replace Ly:=lyb Ly hb;replace HMO:=lh (HMO.out.below hb);replace Ly:=lh (Ly.out.add hge hnew);clear hnew hge hb hV
     obtain ⟨G6,hG⟩:∃ g,W4.heap.size=g:=⟨_,rfl⟩
     rw [hG] at Ly ⊢;clear hG;by_cases h0:ee=0
     ·
      subst h0;have HSM:=lh (qD HMO.out (do_ok HMX.out).1);obtain ⟨x1_0,x1_1,x1_2,x1_3⟩:=lyc4 Ly 1 rfl;have l1_:=Ly.out.lt 1 rfl;gi_wp2;clear x1_0 x1_1 x1_2 x1_3 l1_;refine ⟨trivial,(c_W ((qT A1 n1 c1 A2 n2 c2 A3 n3 c3 m' to (n2:Int) fountain V5 (HMO.out.s HSM.out.1 HSM.out.2.1 HSM.out.2.2.1)).mono fun _ _ h=>lk h)).mono ?_⟩;rintro e W7 ⟨k,e9,rfl,hpu,hb⟩;replace Ly:=lyb Ly hb;replace HMO:=lh (HMO.out.below hb);clear hb;gi_wp2;refine bodyPost_ret (v:=.tuple #[.int .u8 k,.int .i64 e9]) (by simp [results,Tryz.results16,go_sem]) rfl ?_;exact ⟨k,e9,rfl,.inr (.inr ⟨HA.out,by rw [HMX.out],by rw [HMX.out];rw [HSM.out.2.2.2] at hpu;exact hpu⟩),Ly.out.1⟩
     ·
      have h0b:(ee != 0)=true:=by simpa using h0
      have H0:=lh h0;clear h0;gi_wp2;refine bodyPost_ret (v:=.tuple #[.int .u8 0,.int .i64 ee]) (by simp [results,Tryz.results16,go_sem]) rfl ?_;exact ⟨0,ee,rfl,.inr (.inl ⟨HA.out,by rw [HMX.out];exact H0.out,rfl,by rw [HMX.out]⟩),Ly.out.1⟩
    ·
     have hi:inB 1 m.fountains [fountain]=false:=by rw [dT];exact decide_eq_false hr
     rw [hi];have HA:Hid (ej m from_ to fountain=2):=lh (by unfold ej;rw [if_pos HK.out,if_neg HN6.out,if_neg hr]);clear hr hi;gi_wp2;refine bodyPost_ret (v:=.tuple #[.int .u8 0,.int .i64 2]) (by simp [results,Tryz.results16,go_sem]) rfl ?_;exact ⟨0,2,rfl,.inl ⟨by rw [HA.out];decide,rfl,HA.out.symm⟩,Ly.out.1⟩
end
section
def cmpL:List Int→List Int→Int
 | [],[]=>0
 | [],_::_=>-1
 | _::_,[]=>1
 | x::a,y::b=>if x<y then -1 else if y<x then 1 else cmpL a b
theorem eQ (x y:Int)(a b:List Int):cmpL (x::a) (y::b)=if x<y then -1 else if y<x then 1 else cmpL a b:=rfl
theorem je (x:Int)(a b:List Int):cmpL (x::a) (x::b)=cmpL a b:=by rw [eQ,if_neg (by omega),if_neg (by omega)]
theorem ik:∀ a:List Int,cmpL a a=0
 | []=>rfl
 | x::a=>by rw [je];exact ik a
theorem pz:∀ {a b:List Int},cmpL a b=0→a=b
 | [],[],_=>rfl
 | [],_::_,h=>by simp [cmpL] at h
 | _::_,[],h=>by simp [cmpL] at h
 | x::a,y::b,h=>by
  rw [eQ] at h
  split at h
  ·omega
  ·split at h
   ·omega
   ·rw [pz h,show x=y by omega]
theorem lM:∀ a b:List Int,cmpL b a = - cmpL a b
 | [],[]=>rfl
 | [],_::_=>rfl
 | _::_,[]=>rfl
 | x::a,y::b=>by
  rw [eQ,eQ];have:=lM a b;by_cases h1:x<y
  ·rw [if_neg (by omega),if_pos h1,if_pos h1];rfl
  ·by_cases h2:y<x
   ·rw [if_pos h2,if_neg h1,if_pos h2]
   ·rw [if_neg h2,if_neg h1,if_neg h1,if_neg h2];exact this
theorem ld {a b:List Int}(h1:cmpL a b≤0)(h2:cmpL b a≤0):a=b:=by
 have:=lM a b;exact pz (by omega)
end
section
inductive eT (m:Mix) (A:List Held) (f:Int):Nat→Int→List Int→Prop
 | enter {t:Nat} {x:MAct} (hx:m.acts[t]? =some x) (hk:x.kind=1) (hf:x.fr=f):eT m A f (t+1) (idxV m.vessels x.to) [(t:Int)+1]
 | pour {t:Nat} {x:MAct} {v:Int} {l:List Int} (h:eT m A f t v l) (hx:m.acts[t]? =some x) (hk:x.kind=2) (hv:idxV m.vessels x.fr=v):eT m A f (t+1) (idxV m.vessels x.to) (l++[(t:Int)+1])
 | stay {t:Nat} {x:MAct} {v:Int} {l:List Int} {all:Held} (h:eT m A f t v l) (hx:m.acts[t]? =some x) (ha:A[t]? =some all) (hs:cp m x≠v∨cZ m all x≠au all v):eT m A f (t+1) v l
theorem eT.ne {m:Mix}{A:List Held}{f:Int}{t:Nat}{v:Int}{l:List Int}(h:eT m A f t v l):l≠[]:=by
 induction h with
 | enter=>simp
 | pour=>simp
 | stay _ _ _ _ ih=>exact ih
theorem eT.le {m:Mix}{A:List Held}{f:Int}{t:Nat}{v:Int}{l:List Int}(h:eT m A f t v l):∀ n∈l,1≤n∧n≤t:=by
 induction h with
 | enter=>intro n hn;simp at hn;omega
 | pour _ _ _ _ ih =>
  intro n hn;rcases List.mem_append.1 hn with hn | hn
  ·have:=ih n hn;omega
  ·simp at hn;omega
 | stay _ _ _ _ ih=>intro n hn;have:=ih n hn;omega
theorem eT.up {m:Mix}{A:List Held}{f:Int}{t:Nat}{v:Int}{l:List Int}(h:eT m A f t v l):l.Pairwise (·<·):=by
 induction h with
 | enter=>simp
 | pour h _ _ _ ih =>
  rw [List.pairwise_append];refine ⟨ih,by simp,fun a ha b hb=>?_⟩;have:=h.le a ha;simp at hb;omega
 | stay _ _ _ _ ih=>exact ih
def cmpS (a b:List Int):Int:=if a.length<b.length then -1 else if b.length<a.length then 1 else cmpL a b
theorem kR {a b:List Int}(h1:cmpS a b≤0)(h2:cmpS b a≤0):a=b:=by
 unfold cmpS at h1 h2;by_cases e1:a.length<b.length
 ·rw [if_neg (by omega),if_pos e1] at h2;omega
 ·by_cases e2:b.length<a.length
  ·rw [if_neg e1,if_pos e2] at h1;omega
  ·rw [if_neg e1,if_neg e2] at h1
   rw [if_neg e2,if_neg e1] at h2;exact ld h1 h2
def ei (P:List Int→Prop)(l:List Int):Prop:=P l∧∀ k,P k→cmpS l k≤0
theorem ei.same {P:List Int→Prop}{l k:List Int}(h:ei P l)(h':ei P k):l=k:=kR (h.2 k h'.1) (h'.2 l h.1)
end
section
def UpTo (a:Nat)(l:List Int):Prop:=l.Pairwise (·<·)∧∀ n∈l,1≤n∧n≤a
end
section
def cP (F:Int→Int)(f:Int)(l:List Int):List Int:=l.filter fun n=>decide (F n=f)
section
variable {F:Int→Int}
theorem ff (f n:Int)(l:List Int):cP F f (n::l)=if F n=f then n::cP F f l else cP F f l:=by
 unfold cP;rw [List.filter_cons];by_cases h:F n=f<;>simp [h]
theorem fU {f n:Int}{l:List Int}:n∈cP F f l↔n∈l∧F n=f:=by simp [cP]
theorem pk {f:Int}{l:List Int}(h:l.Pairwise (·<·)):(cP F f l).Pairwise (·<·):=h.sublist List.filter_sublist
theorem lN:∀ {u k:List Int},u.Pairwise (·<·)→k.Pairwise (·<·)→u.length=k.length→(∀ f,(cP F f u).length=(cP F f k).length)→(∀ f,cmpL (cP F f u) (cP F f k)≤0)→cmpL u k≤0
 | [],[],_,_,_,_,_=>by rw [ik];decide
 | [],_::_,_,_,h,_,_=>by simp at h
 | _::_,[],_,_,h,_,_=>by simp at h
 | a::u,b::k,hu,hk,hl,hn,hc=>by
  rw [eQ];by_cases e1:a<b
  ·rw [if_pos e1];decide
  ·by_cases e2:b<a
   ·exfalso
    have h1:=hc (F b);have h2:=hn (F b);have hk1:cP F (F b) (b::k)=b::cP F (F b) k:=by rw [ff,if_pos rfl]
    rw [hk1] at h1 h2
    cases h3:cP F (F b) (a::u) with
    | nil=>rw [h3] at h2;simp at h2
    | cons c w =>
     rw [h3,eQ] at h1;have hcm:c∈a::u:=(fU.1 (show c∈cP F (F b) (a::u) by rw [h3];simp)).1
     have hca:a≤c:=by
      rcases List.mem_cons.1 hcm with e | e
      ·omega
      ·have:=(List.pairwise_cons.1 hu).1 c e;omega
     rw [if_neg (by omega),if_pos (by omega)] at h1;omega
   ·have e:a=b:=by omega
    subst e;rw [if_neg e1,if_neg e2];refine lN (List.pairwise_cons.1 hu).2 (List.pairwise_cons.1 hk).2 (by simpa using hl) (fun f=>?_) (fun f=>?_)
    ·have:=hn f
     rw [ff,ff] at this
     split at this
     ·simpa using this
     ·exact this
    ·have:=hc f
     rw [ff,ff] at this
     split at this
     ·rwa [je] at this
     ·exact this
def cntF (F:Int→Int)(l:List Int):Nat→Nat
 | 0=>0
 | q+1=>cntF F l q+(cP F ((q:Int)+1) l).length
theorem nH (n:Int)(l:List Int):∀ q:Nat,cntF F (n::l) q=cntF F l q+if 1≤F n∧F n≤q then 1 else 0
 | 0=>by rw [if_neg (by omega)];rfl
 | q+1=>by
  unfold cntF;rw [nH n l q,ff];by_cases h:F n=(q:Int)+1
  ·rw [if_neg (by omega),if_pos h,if_pos (by omega),List.length_cons]
   omega
  ·rw [if_neg h]
   by_cases h1:1≤F n∧F n≤q
   ·rw [if_pos h1,if_pos (by omega)];omega
   ·rw [if_neg h1,if_neg (by omega)];omega
theorem gk {q:Nat}:∀ {l:List Int},(∀ n∈l,1≤F n∧F n≤q)→cntF F l q=l.length
 | [],_=>by
  have:∀ q:Nat,cntF F [] q=0:=by
   intro q
   induction q with
   | zero=>rfl
   | succ q ih=>unfold cntF;rw [ih];rfl
  exact this q
 | n::l,h=>by
  rw [nH,gk (fun x hx=>h x (by simp [hx])),if_pos (h n (by simp))];simp
theorem mf {u k:List Int}:∀ {q:Nat},(∀ f:Int,1≤f→f≤q→(cP F f u).length≤(cP F f k).length)→cntF F u q≤cntF F k q
 | 0,_=>n_R
 | q+1,h=>by
  unfold cntF;have h1:=mf (q:=q) fun f a b=>h f a (by omega);have h2:=h ((q:Int)+1) (by omega) (by omega);omega
theorem rN {u k:List Int}:∀ {q:Nat},(∀ f:Int,1≤f→f≤q→(cP F f u).length≤(cP F f k).length)→cntF F u q=cntF F k q→∀ f:Int,1≤f→f≤q→(cP F f u).length=(cP F f k).length
 | 0,_,_,f,h1,h2=>by omega
 | q+1,h,e,f,h1,h2=>by
  unfold cntF at e;have h3:=mf (q:=q) fun f a b=>h f a (by omega);have h4:=h ((q:Int)+1) (by omega) (by omega);by_cases hf:f≤q
  ·exact rN (fun f a b=>h f a (by omega)) (by omega) f h1 hf
  ·have:f=(q:Int)+1:=by omega
   subst this;omega
theorem nM {q:Nat}{own:Int→List Int→Prop}{P:List Int→Prop}{u:List Int}(hP:∀ l,P l↔l.Pairwise (·<·)∧(∀ n∈l,1≤F n∧F n≤q)∧∀ f:Int,1≤f→f≤q→own f (cP F f l))
  (hu:u.Pairwise (·<·)) (huf:∀ n∈u,1≤F n∧F n≤q) (h:∀ f:Int,1≤f→f≤q→ei (own f) (cP F f u)):ei P u:=by
 refine ⟨(hP u).2 ⟨hu,huf,fun f a b=>(h f a b).1⟩,fun k hk=>?_⟩;obtain ⟨k1,k2,k3⟩:=(hP k).1 hk
 have hle:∀ f:Int,1≤f→f≤q→(cP F f u).length≤(cP F f k).length∧((cP F f u).length=(cP F f k).length→cmpL (cP F f u) (cP F f k)≤0):=by
  intro f a b;have h1:=(h f a b).2 _ (k3 f a b);unfold cmpS at h1;by_cases e1:(cP F f u).length<(cP F f k).length
  ·exact ⟨by omega,fun e=>by omega⟩
  ·by_cases e2:(cP F f k).length<(cP F f u).length
   ·rw [if_neg e1,if_pos e2] at h1;omega
   ·rw [if_neg e1,if_neg e2] at h1
    exact ⟨by omega,fun _=>h1⟩
 have hcl:=mf (q:=q) fun f a b=>(hle f a b).1;rw [gk huf,gk k2] at hcl;unfold cmpS;by_cases e1:u.length<k.length
 ·rw [if_pos e1];decide
 ·rw [if_neg e1,if_neg (by omega)]
  have hlen:u.length=k.length:=by omega
  have hce:=rN (q:=q) (fun f a b=>(hle f a b).1) (by rw [gk huf,gk k2];exact hlen)
  have hout:∀ f:Int,¬ (1≤f∧f≤q)→cP F f u=[]∧cP F f k=[]:=by
   intro f hf;constructor
   ·refine List.filter_eq_nil_iff.2 fun n hn=>?_
    have:=huf n hn;simp;intro e;exact hf (by omega)
   ·refine List.filter_eq_nil_iff.2 fun n hn=>?_
    have:=k2 n hn;simp;intro e;exact hf (by omega)
  refine lN (F:=F) hu k1 hlen (fun f=>?_) (fun f=>?_)
  ·by_cases hf:1≤f∧f≤q
   ·exact hce f hf.1 hf.2
   ·rw [(hout f hf).1,(hout f hf).2]
  ·by_cases hf:1≤f∧f≤q
   ·exact (hle f hf.1 hf.2).2 (hce f hf.1 hf.2)
   ·rw [(hout f hf).1,(hout f hf).2,ik];decide
end
theorem ni {F:Int→Int}{f:Int}{u all r:List Int}(hp:u.Perm all)(hs:u.Pairwise (·≤·))(h:cP F f all=r)(hr:r.Pairwise (·<·)):cP F f u=r:=by
 have h1:(cP F f u).Perm r:=by rw [← h];exact hp.filter _
 have h2:(cP F f u).Nodup:=h1.nodup_iff.2 (hr.imp fun h=>by omega);have h3:(cP F f u).Pairwise (·<·):=((hs.sublist List.filter_sublist).and h2).imp fun ⟨a,b⟩=>by omega
 exact j9 h3 hr fun x=>h1.mem_iff
def dV:List Int→Nat→List (List Int)
 | _,0=>[[]]
 | [],_+1=>[]
 | x::r,n+1=>(dV r n).map (x::·)++dV r (n+1)
theorem d9:∀ (l:List Int) (n:Nat) (k:List Int),k∈dV l n↔k.Sublist l∧k.length=n
 | l,0,k=>by
  have:dV l 0=[[]]:=by cases l<;>rfl
  rw [this,List.mem_singleton];constructor
  ·rintro rfl;exact ⟨List.nil_sublist _,rfl⟩
  ·rintro ⟨_,h⟩;exact List.eq_nil_of_length_eq_zero h
 | [],n+1,k=>by
  unfold dV;constructor
  ·intro h;cases h
  ·rintro ⟨h1,h2⟩
   rw [List.sublist_nil.1 h1] at h2;cases h2
 | x::r,n+1,k=>by
  unfold dV;rw [List.mem_append,List.mem_map];constructor
  ·rintro (⟨p,hp,rfl⟩ | h)
   ·obtain ⟨h1,h2⟩:=(d9 r n p).1 hp
    exact ⟨h1.cons_cons x,by simp [h2]⟩
   ·obtain ⟨h1,h2⟩:=(d9 r (n+1) k).1 h
    exact ⟨h1.cons x,h2⟩
  ·rintro ⟨h1,h2⟩
   cases h1 with
   | cons _ h=>exact .inr ((d9 r (n+1) k).2 ⟨h,h2⟩)
   | cons_cons _ h=>exact .inl ⟨_,(d9 r n _).2 ⟨h,by simpa using h2⟩,rfl⟩
theorem gI:∀ (l:List Int) (n:Nat),l.Pairwise (·<·)→(dV l n).Pairwise fun x y=>cmpL x y<0
 | l,0,_=>by
  have:dV l 0=[[]]:=by cases l<;>rfl
  rw [this];simp
 | [],n+1,_=>by unfold dV;exact List.Pairwise.nil
 | x::r,n+1,h=>by
  unfold dV;have hx:=List.pairwise_cons.1 h;rw [List.pairwise_append];refine ⟨?_,gI r (n+1) hx.2,fun p hp q hq=>?_⟩
  ·rw [List.pairwise_map]
   exact (gI r n hx.2).imp fun {a b} hab=>by rw [je];exact hab
  ·obtain ⟨p',_,rfl⟩:=List.mem_map.1 hp
   obtain ⟨h1,h2⟩:=(d9 r (n+1) q).1 hq
   cases q with
   | nil=>cases h2
   | cons y q =>
    have:=hx.1 y (h1.subset (by simp));rw [eQ,if_pos this]
    decide
theorem ka {own:List Int}{P:List Int→Prop}{n i:Nat}{l:List Int}(ho:own.Pairwise (·<·))(hl:(dV own n)[i]? =some l)(hh:P l)(hi:∀ j y,j<i→(dV own n)[j]? =some y→¬ P y)
  (hk:∀ k<n,∀ y∈dV own k,¬ P y):ei (fun l=>l.Sublist own∧P l) l:=by
 have hm:=(d9 own n l).1 (List.mem_of_getElem? hl);refine ⟨⟨hm.1,hh⟩,fun y ⟨hy,hyh⟩=>?_⟩;unfold cmpS;by_cases e1:l.length<y.length
 ·rw [if_pos e1];decide
 ·by_cases e2:y.length<l.length
  ·exact absurd hyh (hk y.length (by omega) y ((d9 own _ y).2 ⟨hy,rfl⟩))
  ·rw [if_neg e1,if_neg e2]
   have hyk:y∈dV own n:=(d9 own n y).2 ⟨hy,by omega⟩;obtain ⟨j,hj⟩:=List.mem_iff_getElem?.1 hyk;by_cases e3:j<i
   ·exact absurd hyh (hi j y e3 hj)
   ·by_cases e4:j=i
    ·subst e4
     rw [hl] at hj;cases hj;rw [ik];decide
    ·obtain ⟨hi',e5⟩:=g_E hl
     obtain ⟨hj',e6⟩:=g_E hj;have:=List.pairwise_iff_getElem.1 (gI own n ho) i j hi' hj' (by omega);rw [e5,e6] at this;omega
end
section
theorem s6:∀ {l k:List Int},k.Sublist l→risB 0 l=true→risB 0 k=true:=fun {l k} hs h=>by
 obtain ⟨h1,h2⟩:=fh h;exact pG (h1.sublist hs) fun x hx=>h2 x (hs.subset hx)
theorem j3 {m:Mix}(h:cu m=true)(p:Tast→Bool):cu (fo m (m.tastes.filter p))=true:=by
 unfold cu at h ⊢;simp only [Bool.and_eq_true,decide_eq_true_eq] at h ⊢;have hs:(m.tastes.filter p).Sublist m.tastes:=List.filter_sublist;obtain ⟨⟨⟨⟨⟨⟨h1,h2,h3,h4⟩,h5⟩,h6⟩,h7⟩,h8⟩,h9⟩:=h;refine ⟨⟨⟨⟨⟨⟨h1,h2,h3,Nat.le_trans hs.length_le h4⟩,h5⟩,?_⟩,h7⟩,h8⟩,s6 (hs.map _) h9⟩;rw [List.all_eq_true] at h6 ⊢;exact fun x hx=>h6 x (hs.subset hx)
def ev (C:List (List Int))(P:List Int→Prop)(b:Bool)(r:List Int):Prop :=
 (b=true∧∃ i:Nat,C[i]? =some r∧P r∧∀ (j:Nat) (y:List Int),j<i→C[j]? =some y→¬ P y)∨(b=false∧∀ y∈C,¬ P y)
section
variable {C D:List (List Int)} {P:List Int→Prop} {b:Bool} {r:List Int}
theorem ny:ev [] P false r:=.inr ⟨rfl,fun y h=>by cases h⟩
theorem nT {l:List Int}(h:b=true↔P l):ev [l] P b l:=by
 cases b with
 | false=>exact .inr ⟨rfl,fun y hy hp=>by rw [List.mem_singleton.1 hy] at hp;exact absurd (h.2 hp) (by decide)⟩
 | true=>exact .inl ⟨rfl,0,rfl,h.1 rfl,fun j y hj=>absurd hj (Nat.not_lt_zero _)⟩
theorem fT (h:ev C P true r):ev (C++D) P true r:=by
 rcases h with ⟨_,i,h1,h2,h3⟩ | ⟨h,_⟩
 ·have hi:=(g_E h1).1
  refine .inl ⟨rfl,i,by rw [List.getElem?_append_left hi];exact h1,h2,fun j y hj hy=>h3 j y hj ?_⟩
  rwa [List.getElem?_append_left (by omega)] at hy
 ·cases h
theorem fj {r':List Int}(h:ev C P false r')(k:ev D P b r):ev (C++D) P b r:=by
 rcases h with ⟨h,_⟩ | ⟨_,h⟩
 ·cases h
 ·rcases k with ⟨rfl,i,k1,k2,k3⟩ | ⟨rfl,k⟩
  ·refine .inl ⟨rfl,C.length+i,by rw [List.getElem?_append_right (by omega)];rw [Nat.add_sub_cancel_left];exact k1,k2,fun j y hj hy=>?_⟩
   by_cases hc:j<C.length
   ·rw [List.getElem?_append_left hc] at hy
    exact h y (List.mem_of_getElem? hy)
   ·rw [List.getElem?_append_right (by omega)] at hy
    exact k3 (j - C.length) y (by omega) hy
  ·exact .inr ⟨rfl,fun y hy=>(List.mem_append.1 hy).elim (h y) (k y)⟩
end
def eU (own l:List Int)(i n:Nat):List (List Int):=(dV (own.drop i) n).map (l++·)
theorem j2 (own l:List Int)(i:Nat):eU own l i 0=[l]:=by
 have h:dV (own.drop i) 0=[[]]:=by cases own.drop i<;>rfl
 unfold eU;rw [h];simp
theorem fp {own l:List Int}{i n:Nat}{x:Int}(h:own[i]? =some x):eU own l i (n+1)=eU own (l++[x]) (i+1) n++eU own l (i+1) (n+1):=by
 obtain ⟨hi,hx⟩:=g_E h;unfold eU;rw [List.drop_eq_getElem_cons hi,hx];rw [dV,List.map_append,List.map_map]
 congr 1
 refine List.map_congr_left fun y _=>?_;simp
theorem lC {own l:List Int}{i n:Nat}(h:own.length≤i):eU own l i (n+1)=[]:=by
 unfold eU;rw [List.drop_of_length_le h];rfl
theorem jp (own:List Int)(n:Nat):eU own [] 0 n=dV own n:=by
 unfold eU;simp
def WrP (m:Mix)(A:List Held)(f:Int)(l:List Int):Prop:=cD (fo m (eK m.tastes l)) f A 0 cQ
def ownL (m:Mix)(f:Int):List Int:=(m.tastes.filter fun x=>decide (x.fountain=f)).map (·.num)
def oS (m:Mix)(A:List Held)(f:Int)(b:Bool)(r:List Int):Prop :=
 (b=true∧r.length≤3∧ei (fun l=>l.Sublist (ownL m f)∧WrP m A f l) r)∨(b=false∧∀ l,l.Sublist (ownL m f)→l.length≤3→¬ WrP m A f l)
theorem o7 {m:Mix}{A:List Held}{f:Int}{n:Nat}{r:List Int}(ho:(ownL m f).Pairwise (·<·))(hn:n≤3)(h:ev (dV (ownL m f) n) (WrP m A f) true r)(hk:∀ k<n,∀ y∈dV (ownL m f) k,¬ WrP m A f y):oS m A f true r:=by
 rcases h with ⟨_,i,h1,h2,h3⟩ | ⟨h,_⟩
 ·have hm:=(d9 _ _ _).1 (List.mem_of_getElem? h1)
  exact .inl ⟨rfl,by omega,ka ho h1 h2 h3 hk⟩
 ·cases h
theorem mW {m:Mix}{A:List Held}{f:Int}{r:List Int}(hk:∀ k<4,∀ y∈dV (ownL m f) k,¬ WrP m A f y):oS m A f false r :=
 .inr ⟨rfl,fun l hl h3=>hk l.length (by omega) l ((d9 _ _ _).2 ⟨hl,rfl⟩)⟩
end
section
open Go.RowKit
theorem pE (x:Tast):x.vals.length=6:=rfl
theorem pQ (w:World):(zeroValue 69).run Tryz.prog w = .ok (.agg #[.int .i64 0,.int .i64 0,.int .i64 0,.int .i64 0,.int .i64 0,.int .i64 0]) w:=by kernel_rfl
structure DelT (g:Nat)(e:TypeId)(sz:Nat)(l:List Tast)(p:Tast→Bool)(i j:Nat)(wr:World)(cur:Array Value):Prop where
 blk:Blk wr g e cur
 size:cur.size=sz
 num:((l.take j).filter fun x=>!p x).length=i
 kept:∀ (k:Nat) x,((l.take j).filter fun x=>!p x)[k]? =some x→ElAt cur 6 k x.vals
 left:∀ (k:Nat) x,j≤k→l[k]? =some x→ElAt cur 6 k x.vals
theorem DelT.later {g:Nat}{e:TypeId}{sz:Nat}{l:List Tast}{p:Tast→Bool}{i j:Nat}{wr w':World}{cur:Array Value}(h:DelT g e sz l p i j wr cur)(hb:Blk w' g e cur):DelT g e sz l p i j w' cur:=⟨hb,h.size,h.num,h.kept,h.left⟩
theorem DelT.skip {g:Nat}{e:TypeId}{sz:Nat}{l:List Tast}{p:Tast→Bool}{i j:Nat}{wr:World}{cur:Array Value}{x:Tast}(h:DelT g e sz l p i j wr cur)(hx:l[j]? =some x)(hp:p x=true):DelT g e sz l p i (j+1) wr cur:=by
 obtain ⟨hj,rfl⟩:=g_E hx
 have e1:((l.take (j+1)).filter fun x=>!p x)=(l.take j).filter fun x=>!p x:=by
  rw [List.take_succ_eq_append_getElem hj,List.filter_append];simp [hp]
 exact ⟨h.blk,h.size,by rw [e1];exact h.num,by rw [e1];exact h.kept,fun k y hk hy=>h.left k y (by omega) hy⟩
theorem DelT.keep {g:Nat}{e:TypeId}{sz:Nat}{l:List Tast}{p:Tast→Bool}{i j:Nat}{wr w':World}{cur:Array Value}{x:Tast}(h:DelT g e sz l p i j wr cur)(hx:l[j]? =some x)(hp:p x=false)(hij:i≤j)(hs:l.length * 6≤sz)
  (hb:Blk w' g e (wrt cur (i * 6) x.vals)):DelT g e sz l p (i+1) (j+1) w' (wrt cur (i * 6) x.vals):=by
 obtain ⟨hj,rfl⟩:=g_E hx
 have e1:((l.take (j+1)).filter fun x=>!p x)=((l.take j).filter fun x=>!p x)++[l[j]]:=by
  rw [List.take_succ_eq_append_getElem hj,List.filter_append];simp [hp]
 have hsz:=h.size;refine ⟨hb,by rw [kE];exact h.size,by rw [e1,List.length_append,h.num];rfl,?_,?_⟩
 ·intro k y hy
  rw [e1] at hy;have hn:=h.num;by_cases hk:k<i
  ·rw [List.getElem?_append_left (by omega)] at hy
   exact (h.kept k y hy).wrt_other rfl (by omega)
  ·rw [List.getElem?_append_right (by omega),hn] at hy
   have hk0:k - i=0:=by
    rcases Nat.eq_zero_or_pos (k - i) with h0 | h0
    ·exact h0
    ·rw [List.getElem?_eq_none (by simp;omega)] at hy;cases hy
   rw [hk0] at hy;simp at hy;subst hy;obtain rfl:k=i:=by omega
   exact ElAt.wrt_same rfl (by omega)
 ·intro k y hk hy
  exact (h.left k y (by omega) hy).wrt_other rfl (by omega)
theorem jI (base K:Nat)(F:FuncId)(C:Array Value)(p:Tast→Bool)(A:Option Addr)(n c:Nat)(l:List Tast)(w:World)(hO:Own w base 69 6 A n c (l.flatMap Tast.vals))(hK:K≤base)(hKw:K≤w.heap.size)(hp:lm w K F C p) :
  Calls Tryz.prog 121 #[.slice A n c,.func (.func F) #[] C] w fun e w'=>e = .returned (.slice A (l.filter fun x=>!p x).length c)∧Own w' base 69 6 A (l.filter fun x=>!p x).length c ((l.filter fun x=>!p x).flatMap Tast.vals)∧w.grownBy w' (A.map (·.block)):=by
 have hl:l.length=n:=by have:=hO.len;rw [flat_len' pE] at this;omega
 have hcap:=hO.cap_le;have hmax:c≤9223372036854775807:=by have:=hcap.2;unfold maxLen at this;omega
 have hcn:=hcap.1;have HI:=lh (kB K F C p A n c l w (hO.reads n_R) (by omega) hKw hp);have hE:=hp.enters;have HF:=lh hp;clear hp;by_cases hany:∀ y∈l,p y=false
 ·have hi:idxL p l = -1:=lQ hany
  have hfil:(l.filter fun x=>!p x)=l:=List.filter_eq_self.2 fun y hy=>by rw [hany y hy];rfl
  have HO:=lh hO;have HX:=lh hfil;rw [hi] at HI;clear hany hi hO hfil
  go_enter Tryz.func121,Tryz.ntmps121
  go_wp2_with fail
  refine HI.out.mono ?_;rintro e w1 ⟨rfl,hb⟩
  go_wp2_with fail
  go_ret
  rw [HX.out,hl];exact ⟨rfl,HO.out.below hb n_R,cO hb _⟩
 ·obtain ⟨k0,x0,hx0,hp0,hno⟩:∃ (k:Nat) (x:Tast),l[k]? =some x∧p x=true∧∀ y∈l.take k,p y=false:=by
   have h1:l.any p=true:=by
    rw [List.any_eq_true];refine Classical.byContradiction fun hc=>hany fun y hy=>?_
    cases hpy:p y with
    | false=>rfl
    | true=>exact absurd ⟨y,hy,hpy⟩ hc
   have h2:=List.findIdx_lt_length_of_exists (List.any_eq_true.1 h1);refine ⟨l.findIdx p,l[l.findIdx p],List.getElem?_eq_getElem h2,List.findIdx_getElem,fun y hy=>?_⟩;rw [List.mem_take_iff_getElem] at hy;obtain ⟨j,hj,rfl⟩:=hy;have:=List.not_of_lt_findIdx (xs:=l) (p:=p) (i:=j) (by omega);simpa using this
  have hi:idxL p l=(k0:Int):=ma hx0 hp0 hno;have hk0:k0<n:=by rw [← hl];exact (g_E hx0).1
  rw [hi] at HI
  rcases hO.form with ⟨rfl,rfl,rfl,_⟩ | ⟨g,cur,rfl,hbg,hblk,_,_,hsz,htake,_⟩
  ·omega
  have hcells:∀ k,k<l.length * 6→cur[k]? =(l.flatMap Tast.vals)[k]? :=by
   intro k hk;rw [← htake,List.getElem?_take,if_pos (by omega),Array.getElem?_toList]
  have hels:=nZ pE hcells;have hfil:((l.take k0).filter fun x=>!p x)=l.take k0:=List.filter_eq_self.2 fun y hy=>by rw [hno y hy];rfl
  have D0:DelT g 69 (c * 6) l p k0 k0 w cur:=⟨hblk,hsz,by rw [hfil,List.length_take];omega,fun k x h=>hels k x (by
   rw [hfil,List.getElem?_take] at h
   split at h
   ·exact h
   ·cases h),fun k x _ h=>hels k x h⟩
  have D1:=lh (D0.skip hx0 hp0);have HB:=lh hblk;have HN:=lh hl;have hlg:=hblk.lt;have hne:((k0:Int) == -1)=false:=by simp
  clear hany hi hO hno hp0 hx0 hcells hels hfil htake hsz D0 hl hblk
  go_enter Tryz.func121,Tryz.ntmps121
  go_wp2_with fail
  refine HI.out.mono ?_;rintro e w1 ⟨rfl,hb⟩
  go_wp2_with fail
  go_loopw [5,6] (fun vi vj wr=>∃ (i j:Nat) (cur:Array Value),vi = .int .i64 i∧vj = .int .i64 j∧i<j∧j≤n∧DelT g 69 (c * 6) l p i j wr cur∧w.grownBy wr (some g))
   (fun _ vj _=>n - (intOf vj).toNat)
  case atStart=>exact ⟨k0,k0+1,cur,rfl,by go_num,by omega,by omega,D1.out.later (HB.out.below hb hlg),cO hb _⟩
  case round =>
   obtain ⟨i,j,cur1,rfl,rfl,hij,hjn,hD,hg⟩:=hrel;by_cases hlt:j<n
   ·have hxj:l[j]? =some (l[j]'(by have:=HN.out;omega)):=List.getElem?_eq_getElem _
    generalize (l[j]'(by have:=HN.out;omega))=x at hxj;have e1:=hD.left j x n_R hxj;have c0:wr.cell? ⟨g,j * 6,none⟩=some (.int .i64 x.num):=(hD.blk.cell _).trans (e1 0 (by omega));have c1:wr.cell? ⟨g,j * 6+1,none⟩=some (.int .i64 x.vessel):=(hD.blk.cell _).trans (e1 1 (by omega));have c2:wr.cell? ⟨g,j * 6+2,none⟩=some (.int .i64 x.after):=(hD.blk.cell _).trans (e1 2 (by omega));have c3:wr.cell? ⟨g,j * 6+3,none⟩=some (.int .i64 x.fountain):=(hD.blk.cell _).trans (e1 3 (by omega));have c4:wr.cell? ⟨g,j * 6+4,none⟩=some (.int .i64 x.lo):=(hD.blk.cell _).trans (e1 4 (by omega));have c5:wr.cell? ⟨g,j * 6+5,none⟩=some (.int .i64 x.hi):=(hD.blk.cell _).trans (e1 5 (by omega));have HX:=lh hxj;have HD:=lh hD;have hgs:=hg.size;have HG:=lh hg;clear hxj hD hg e1
    go_wp2_with fail
    have hgl:=HD.out.blk.lt;have hKg:∀ k,some g=some k→K≤k:=fun k hk=>by cases hk;omega
    refine (HF.out.calls x _ (((kw HG.out hKg (by omega)).alloc (by omega) _))).mono ?_;rintro e w2 ⟨rfl,hb2⟩;have X2:=(Blk.new wr 69 #[.int .i64 x.num,.int .i64 x.vessel,.int .i64 x.after,.int .i64 x.fountain,.int .i64 x.lo,.int .i64 x.hi]).below hb2 (by simp);have G2:=(HD.out.blk.alloc (.cells #[.int .i64 x.num,.int .i64 x.vessel,.int .i64 x.after,.int .i64 x.fountain,.int .i64 x.lo,.int .i64 x.hi] 69)).below hb2 (by simp;omega);have hG2:=lh (dL (nc HG.out _) hb2);have hsz2:=hb2.size;rw [World.size_alloc] at hsz2;have D2:=lh (HD.out.later G2);clear HG HD c0 c1 c2 c3 c4 c5 hb2
    cases hp:p x with
    | true =>
     have HP:=lh hp;clear hp X2 G2
     go_wp2_with fail
     go_roundw
     case rel=>exact ⟨i,j+1,cur1,rfl,by go_num,by omega,by omega,D2.out.skip HX.out HP.out,hG2.out⟩
     case measure=>simp [intOf];omega
    | false =>
     have HP:=lh hp;have hsz:=D2.out.size;have x0:w2.cell? ⟨wr.heap.size,0,none⟩=some (.int .i64 x.num):=X2.cell 0;have x1:w2.cell? ⟨wr.heap.size,1,none⟩=some (.int .i64 x.vessel):=X2.cell 1;have x2:w2.cell? ⟨wr.heap.size,2,none⟩=some (.int .i64 x.after):=X2.cell 2;have x3:w2.cell? ⟨wr.heap.size,3,none⟩=some (.int .i64 x.fountain):=X2.cell 3;have x4:w2.cell? ⟨wr.heap.size,4,none⟩=some (.int .i64 x.lo):=X2.cell 4;have x5:w2.cell? ⟨wr.heap.size,5,none⟩=some (.int .i64 x.hi):=X2.cell 5;have f0:w2.frozen? ⟨g,i * 6,none⟩=false:=G2.frozen _;have f1:w2.frozen? ⟨g,i * 6+1,none⟩=false:=G2.frozen _;have f2:w2.frozen? ⟨g,i * 6+2,none⟩=false:=G2.frozen _;have f3:w2.frozen? ⟨g,i * 6+3,none⟩=false:=G2.frozen _;have f4:w2.frozen? ⟨g,i * 6+4,none⟩=false:=G2.frozen _;have f5:w2.frozen? ⟨g,i * 6+5,none⟩=false:=G2.frozen _
     obtain ⟨u0,g0⟩:∃ u,w2.cell? ⟨g,i * 6,none⟩=some u:=⟨_,by rw [G2.cell];exact Array.getElem?_eq_getElem (by omega)⟩
     obtain ⟨u1,g1⟩:∃ u,w2.cell? ⟨g,i * 6+1,none⟩=some u:=⟨_,by rw [G2.cell];exact Array.getElem?_eq_getElem (by omega)⟩
     obtain ⟨u2,g2⟩:∃ u,w2.cell? ⟨g,i * 6+2,none⟩=some u:=⟨_,by rw [G2.cell];exact Array.getElem?_eq_getElem (by omega)⟩
     obtain ⟨u3,g3⟩:∃ u,w2.cell? ⟨g,i * 6+3,none⟩=some u:=⟨_,by rw [G2.cell];exact Array.getElem?_eq_getElem (by omega)⟩
     obtain ⟨u4,g4⟩:∃ u,w2.cell? ⟨g,i * 6+4,none⟩=some u:=⟨_,by rw [G2.cell];exact Array.getElem?_eq_getElem (by omega)⟩
     obtain ⟨u5,g5⟩:∃ u,w2.cell? ⟨g,i * 6+5,none⟩=some u:=⟨_,by rw [G2.cell];exact Array.getElem?_eq_getElem (by omega)⟩
     have HGB:=lh G2;clear hp X2 hsz G2
     go_wp2_with fail
     go_roundw
     case rel =>
      exact ⟨i+1,j+1,wrt cur1 (i * 6) x.vals,by go_num,by go_num,by omega,by omega,D2.out.keep HX.out HP.out (by omega) (by have:=HN.out;omega) (Blk.setCells x.vals (i * 6) HGB.out),fz x.vals (i * 6) hG2.out (.inl rfl)⟩
     case measure=>simp [intOf];omega
   ·obtain rfl:j=n:=by omega
    have hfin:((l.take j).filter fun x=>!p x)=l.filter fun x=>!p x:=by rw [List.take_of_length_le (by have:=HN.out;omega)]
    have hsz:=hD.size;obtain ⟨vs,hvs,hclr⟩:=kQ (P:=Tryz.prog) (w:=wr) (g:=g) (t:=24) (ty:=0) hD.blk Tryz.underlying24 pQ (by intro u hu;simp [Value.cells] at hu;subst hu;rfl) (i * 6) (j - i) (c - i) (by simp [Value.cells];omega);have hnum:=hD.num;rw [hfin] at hnum;have HFin:=lh hfin;have HNum:=lh hnum;have HVs:=lh hvs;have HD:=lh hD;have HG:=lh hg;have HSz:=lh hsz;clear hfin hnum hvs hD hg hsz
    go_wp2_with fail
    go_ret
    have hv6:vs.length=(j - i) * 6:=HVs.out;refine ⟨?_,Own.mk_ hbg (Blk.setCells vs (i * 6) HD.out.blk) (by rw [HNum.out];omega) hcap.2 (by rw [kE];exact HSz.out) (by rw [flat_len' pE]) ?_,fz vs (i * 6) HG.out (.inl rfl)⟩
    ·rw [HNum.out];rfl
    ·intro k hk
     rw [HNum.out] at hk;rw [jM _ _ _ _ (.inl hk)];have hk':=HD.out.kept;rw [HFin.out] at hk';exact nL (by omega) pE hk' k (by rw [HNum.out];exact hk)
end
section
open Go.RowKit
theorem qe (A:Option Addr)(n c:Nat)(l:List Int)(x:Int)(w:World)(hr:cr w w.heap.size A n l)(hn:n≤maxLen) :
  Calls Tryz.prog 120 #[.slice A n c,.int .i64 x] w fun e w'=>e = .returned (.int .i64 (idx (fun y=>x==y) l))∧Below w.heap.size w w':=by
 unfold maxLen at hn
 go_enter Tryz.func120,Tryz.ntmps120
 go_wp2_with fail
 go_loopw [8,5] (fun i j wr=>∃ k:Nat,k≤n∧i = .int .i64 k∧(∀ y∈l.take k,(x==y)=false)∧Below w.heap.size w wr)
  (fun i _ _=>n - (intOf i).toNat)
 case atStart=>exact ⟨0,by omega,rfl,by simp,b_R⟩
 case round =>
  obtain ⟨k,hk,rfl,hno,hb⟩:=hrel;have HN:=lh hno;clear hno;by_cases hlt:k<n
  ·obtain ⟨b,off,y,rfl,hbB,hx,hc⟩:=(hr.below hb).cell hlt
   have HX:=lh hx;clear hx;by_cases he:x=y
   ·subst he
    go_wp2_with fail
    go_ret
    exact ⟨dE (n7 HX.out (by simp) HN.out).symm,hb⟩
   ·have he':(x==y)=false:=by simpa using he
    go_wp2_with fail
    go_roundw
    case rel=>exact ⟨k+1,by omega,by go_num,ew HX.out (by simpa using he) HN.out,hb⟩
    case measure=>simp [intOf];omega
  ·go_wp2_with fail
   go_ret
   exact ⟨dE (nV (by
    have:=HN.out
    rwa [List.take_of_length_le (by have:=hr.len;omega)] at this)).symm,hb⟩
end
section
open Go.RowKit
theorem mC (x:Int)(l:List Int):decide (0≤idx (fun y=>x==y) l)=l.contains x:=by
 rw [rv,Bool.eq_iff_iff];simp [List.any_eq_true]
def memI (l:List Int)(x:Int):Bool:=l.contains x
theorem mE (A:Option Addr)(n c:Nat)(l:List Int)(x:Int)(w:World)(hr:cr w w.heap.size A n l)(hn:n≤maxLen) :
  Calls Tryz.prog 85 #[.slice A n c,.int .i64 x] w fun e w'=>e = .returned (.bool (memI l x))∧Below w.heap.size w w':=by
 have H:=lh (qe A n c l x w hr hn);have HD:=tv (fun y=>x==y) l
 go_enter Tryz.func85,Tryz.ntmps85
 go_wp2_with fail
 refine H.out.mono ?_;rintro e w' ⟨rfl,hb⟩
 go_wp2_with fail
 go_ret
 exact ⟨cU (mC x l),hb⟩
end
section
open Go.RowKit
theorem jJ (args:Array Value)(W:World):(callFunc 122 args).run Tryz.prog W = .ok (.enter 122 args) W:=by
 simp [go_sem]
theorem mo (An:Option Addr)(nn cn:Nat)(ns:List Int)(x:Tast)(g:Nat)(w:World)(hc:w.cell? ⟨g,0,none⟩=some (.slice An nn cn))(hg:g<w.heap.size)(hn:cr w w.heap.size An nn ns)(hnn:nn≤1000) :
  Calls Tryz.prog 122 (#[.agg #[.int .i64 x.num,.int .i64 x.vessel,.int .i64 x.after,.int .i64 x.fountain,.int .i64 x.lo,.int .i64 x.hi]]++#[.pointer (some ⟨g,0,none⟩)]) w fun e w'=>e = .returned (.bool (memI ns x.num))∧Below w.heap.size w w':=by
 have HN:=lh hn;clear hn
 go_enter Tryz.func122,Tryz.ntmps122
 go_wp2_with fail
 have HB:=lh ((Below.refl w.heap.size w).alloc n_R (.cells #[.int .i64 x.num,.int .i64 x.vessel,.int .i64 x.after,.int .i64 x.fountain,.int .i64 x.lo,.int .i64 x.hi] 69));refine (mE An nn cn ns x.num _ ((HN.out.below HB.out).more HB.out.size) (by unfold maxLen;omega)).mono ?_;rintro e w' ⟨rfl,hb⟩;have HB2:=lh (HB.out.trans (hb.mono HB.out.size));clear hb
 go_wp2_with fail
 go_ret
 exact ⟨rfl,HB2.out⟩
def om (w:World)(nv na nt:Nat)(m:Mix)(ns:List Int)(e:Ending)(w':World):Prop :=
 ∃ A1 c1 A2 c2 A3 n3 c3,e = .returned (.agg #[.int .i64 m.fountains,.slice A1 nv c1,.slice A2 na c2,.slice A3 n3 c3])∧di w' w.heap.size A1 nv c1 A2 na c2 A3 n3 c3 (fo m (eK m.tastes ns))∧n3≤m.tastes.length∧Below w.heap.size w w'
theorem oH (Av:Option Addr)(nv cv:Nat)(Aa:Option Addr)(na ca:Nat)(At:Option Addr)(nt ct:Nat)(m:Mix)(An:Option Addr)(nn cn:Nat)(ns:List Int)(w:World)(h:MixS w Av nv Aa na At nt m)(hn:cr w w.heap.size An nn ns)(hnn:nn≤1000) :
  CallsIn Fence.wide 9 Tryz.prog 87 #[.agg #[.int .i64 m.fountains,.slice Av nv cv,.slice Aa na ca,.slice At nt ct],.slice An nn cn] w (om w nv na nt m ns):=by
 have HM:=lh h;have HLV:=lh h.at_.lenV;have HLA:=lh h.at_.lenA;have HLT:=lh h.at_.lenT;have hnv:=h.hv;have hna:=h.ha;have hnt:=h.ht;clear h;refine callsIn_of_wp Tryz.func87 rfl trivial ?_ rfl;simp only [Tryz.ntmps87,es,Nat.reduceAdd,Nat.reduceSub];gi_upto_region 1 with fail
 have Ly:=lh (Lay.three w 26 #[.int .i64 m.fountains,.slice Av nv cv,.slice Aa na ca,.slice At nt ct] 34 #[.slice An nn cn] 26 #[.int .i64 0,.slice none 0 0,.slice none 0 0,.slice none 0 0]);generalize (((w.alloc (.cells #[.int .i64 m.fountains,.slice Av nv cv,.slice Aa na ca,.slice At nt ct] 26)).alloc (.cells #[.slice An nn cn] 34)).alloc (.cells #[.int .i64 0,.slice none 0 0,.slice none 0 0,.slice none 0 0] 26))=w0 at *;have HN:=lh hn;clear hn;obtain ⟨x0_0,x0_1,x0_2,x0_3⟩:=lyc4 Ly 0 rfl;have l0_:=Ly.out.lt 0 rfl;gi_wp2;clear x0_0 x0_1 x0_2 x0_3 l0_;have HBL:Hid (w.heap.size<w0.heap.size):=lh (Ly.out.lt 0 rfl);have HBS:=lh (Ly.out.1.size);have HBL1:=lh (Ly.out.lt 1 rfl);have HBL2:=lh (Ly.out.lt 2 rfl);refine ⟨trivial,(c_W (lP Av nv cv Aa na ca At nt ct m w0 (HM.out.up Ly.out.1))).mono ?_⟩;rintro e W1 ⟨A1,c1,A2,c2,A3,c3,rfl,hmo,hb⟩;have HCB:=lh hb.size;replace Ly:=lyb Ly hb;clear hb;have HMO:=lh hmo;clear hmo;have x0_0:=lyc Ly 0 rfl 0;have z0_0:=lyf Ly 0 rfl 0;have x0_1:=lyc Ly 0 rfl 1;have z0_1:=lyf Ly 0 rfl 1;have x0_2:=lyc Ly 0 rfl 2;have z0_2:=lyf Ly 0 rfl 2;have x0_3:=lyc Ly 0 rfl 3;have z0_3:=lyf Ly 0 rfl 3;have l0_:=Ly.out.lt 0 rfl;gi_upto_region 2 with fail
 have R4:=ret4' (Ly.out.blk 0 rfl) (Below.refl w.heap.size W1) n_R (.int .i64 m.fountains) (.slice A1 nv c1) (.slice A2 na c2) (.slice A3 nt c3);have hl:=iL Ly.out (fun b hb=>by simp only [List.mem_cons,List.not_mem_nil,or_false] at hb;rcases hb with rfl | rfl<;>simp<;>omega) R4.2.2 R4.1;have HMO2:=lh (HMO.out.off R4.2.2 HBL.out);have HSZ:=lh (Nat.le_trans HCB.out R4.2.2.size);clear x0_0 z0_0 x0_1 z0_1 x0_2 z0_2 x0_3 z0_3 l0_;generalize ((((W1.setCell ⟨w.heap.size,0,none⟩ (.int .i64 m.fountains)).setCell ⟨w.heap.size,1,none⟩ (.slice A1 nv c1)).setCell ⟨w.heap.size,2,none⟩ (.slice A2 na c2)).setCell ⟨w.heap.size,3,none⟩ (.slice A3 nt c3))=V2 at *;replace Ly:=lh hl;replace HMO:=HMO2;clear R4 HMO2 hl;obtain ⟨x0_0,x0_1,x0_2,x0_3⟩:=lyc4 Ly 0 rfl;have l0_:=Ly.out.lt 0 rfl;have z0_3:=lyf Ly 0 rfl 3;have hmf:∀ (fn:Fn) (first cap:Array Value) (w:World),(Instr.makeFunc fn first cap).run Tryz.prog w = .ok (.func fn first cap) w:=fun _ _ _ _=>rfl;gi_wp2;clear x0_0 x0_1 x0_2 x0_3 l0_;clear z0_3 hmf
 have HP:Hid (lm V2 w0.heap.size 122 #[.pointer (some ⟨w.heap.size+1,0,none⟩)] (fun x=>memI ns x.num)):=lh ⟨jJ,fun x W hW=>by
  have hl:=(Ly.out.blk 1 rfl).below hW HBL1.out;have hN:=(HN.out.below Ly.out.1).below (hW.mono HBS.out);refine mo An nn cn ns x (w.heap.size+1) W (hl.cell 0) hl.lt (hN.more ?_) hnn;have h1:=HBS.out;have h2:=HSZ.out;have h3:=hl.lt
  omega⟩
 refine ⟨trivial,(callsIn_wide.2 (jI w0.heap.size w0.heap.size 122 #[.pointer (some ⟨w.heap.size+1,0,none⟩)] (fun x=>memI ns x.num) A3 nt c3 m.tastes V2 HMO.out.t n_R HSZ.out HP.out)).mono ?_⟩;rintro e V3 ⟨rfl,hown,hg⟩;have hrow:=dB HMO.out.t;have HLA2:=lh (Ly.out.row hg (fun r e=>⟨by have:=(hrow r e).1;have:=HBS.out;omega,fun b hb=>by have:=(hrow r e).1;have:=HBL1.out;have:=HBL2.out;have:=HBL.out;simp only [List.mem_cons,List.not_mem_nil,or_false] at hb;rcases hb with rfl | rfl | rfl<;>dsimp only<;>omega⟩));have HMO2:=lh (HMO.out.tasts hg hown (.inl rfl));replace Ly:=HLA2;clear hown hg hrow HLA2 HP;have x0_0:=lyc Ly 0 rfl 0;have z0_0:=lyf Ly 0 rfl 0;have x0_1:=lyc Ly 0 rfl 1;have z0_1:=lyf Ly 0 rfl 1;have x0_2:=lyc Ly 0 rfl 2;have z0_2:=lyf Ly 0 rfl 2;have x0_3:=lyc Ly 0 rfl 3;have z0_3:=lyf Ly 0 rfl 3;have l0_:=Ly.out.lt 0 rfl;gi_upto_region 3 with fail
 have hgs:=cC (row:=some w.heap.size) (cR V3 _) (p:=⟨w.heap.size,3,none⟩) (.inl rfl) (.slice A3 (m.tastes.filter fun x=>!memI ns x.num).length c3);have hl:=iL Ly.out (fun b hb=>by simp only [List.mem_cons,List.not_mem_nil,or_false] at hb;rcases hb with rfl | rfl<;>simp<;>omega) hgs ((Ly.out.blk 0 rfl).set_ 3 (.slice A3 (m.tastes.filter fun x=>!memI ns x.num).length c3));have HMO3:=lh (HMO2.out.off hgs HBL.out);clear x0_0 z0_0 x0_1 z0_1 x0_2 z0_2 x0_3 z0_3 l0_;generalize V3.setCell ⟨w.heap.size,3,none⟩ (.slice A3 (m.tastes.filter fun x=>!memI ns x.num).length c3)=V4 at *;replace Ly:=lh (show Lay w V4 [(w.heap.size,26,#[.int .i64 m.fountains,.slice A1 nv c1,.slice A2 na c2,.slice A3 (m.tastes.filter fun x=>!memI ns x.num).length c3]),(w.heap.size+1,34,#[.slice An nn cn]),(w.heap.size+1+1,26,#[.int .i64 0,.slice none 0 0,.slice none 0 0,.slice none 0 0])] from hl);replace HMO:=HMO3;clear hgs hl HMO2 HMO3;obtain ⟨x0_0,x0_1,x0_2,x0_3⟩:=lyc4 Ly 0 rfl;have l0_:=Ly.out.lt 0 rfl;have r0:=lyc Ly 2 rfl 0;have rz0:=lyf Ly 2 rfl 0;have r1:=lyc Ly 2 rfl 1;have rz1:=lyf Ly 2 rfl 1;have r2:=lyc Ly 2 rfl 2;have rz2:=lyf Ly 2 rfl 2;have r3:=lyc Ly 2 rfl 3;have rz3:=lyf Ly 2 rfl 3;have rl:=Ly.out.lt 2 rfl;gi_wp2;have R4:=ret4' (Ly.out.blk 2 rfl) Ly.out.1 (Ly.out.ge 2 rfl) (.int .i64 m.fountains) (.slice A1 nv c1) (.slice A2 na c2) (.slice A3 (m.tastes.filter fun x=>!memI ns x.num).length c3);have v0:=R4.1.cell 0;have v1:=R4.1.cell 1;have v2:=R4.1.cell 2;have v3:=R4.1.cell 3;refine bodyPost_ret (v:=.agg #[.int .i64 m.fountains,.slice A1 nv c1,.slice A2 na c2,.slice A3 (m.tastes.filter fun x=>!memI ns x.num).length c3]) (by simp [results,Tryz.results87,go_sem,v0,v1,v2,v3]) rfl ?_;exact ⟨_,_,_,_,_,_,_,rfl,(HMO.out.off R4.2.2 HBL2.out).mono HBS.out,List.length_filter_le _ _,R4.2.1⟩
end
section
open Go.RowKit
theorem lx (A:Option Addr)(n c:Nat)(l:List Int)(w:World)(hr:cr w w.heap.size A n l)(hn:n≤maxLen)(hby:n * 8≤140737488355328) :
  Calls Tryz.prog 86 #[.slice A n c] w fun e w'=>∃ A' c',e = .returned (.slice A' n c')∧Own w' w.heap.size 3 1 A' n c' (l.map (Value.int .i64))∧(A=none↔A'=none)∧Below w.heap.size w w':=by
 have HR:=lh hr;have hq:=n8
 cases A with
 | none =>
  have h0:n=0:=by
   rcases Nat.eq_zero_or_pos n with h | h
   ·exact h
   ·obtain ⟨_,h',_⟩:=hr.2 h;cases h'
  have hl:l=[]:=List.eq_nil_of_length_eq_zero (by rw [hr.len];exact h0);subst h0 hl
  go_enter Tryz.func86,Tryz.ntmps86
  go_wp2_with fail
  go_ret
  exact ⟨none,0,rfl,Own.none_ _ _ _ _,by simp,b_R⟩
 | some ad =>
  clear hr
  go_enter Tryz.func86,Tryz.ntmps86
  go_wp2_with (at_builtin;refine dA _ rfl _ _ rfl dP rfl (World.ownsRow_made w #[] 0 n_R (Nat.zero_le _) (by simp)) rfl (cB.alloc HR.out n_R _) (dO l) (by simpa using hn) (by simpa using hby) (by simp) ?_)
  rintro A' cap' w' hown hg hA
  go_wp2
  go_ret
  have hB:Below w.heap.size w w':=(b_R.alloc n_R _).grown hg (by simp) (by intro k hk;simp at hk;omega);refine ⟨A',cap',by simp,by simpa using hown,?_,hB⟩;constructor
  ·intro h;cases h
  ·intro h
   rcases hA with hA | hA<;>rw [hA] at h<;>cases h
end
section
open Go.RowKit Go.Shelf
attribute [local go_sem] Oper.semAt_some
def UpB (B:Nat)(A C:World):Prop:=A.heap.size≤C.heap.size∧(B≤A.heap.size→Below B A C)
instance upB_grows (B:Nat):Gr.Grows (UpB B) where
 refl:=fun W=>⟨n_R,fun _=>Below.refl _ W⟩
 trans:=fun {A X C} h k=>⟨Nat.le_trans h.1 k.1,fun hB=>(h.2 hB).trans (k.2 (Nat.le_trans hB h.1))⟩
 below:=fun {A C} h=>⟨h.size,fun hB=>h.mono hB⟩
 size:=fun h=>h.1
theorem UpB.of_below' {B:Nat}{A C:World}(h:Below A.heap.size A C):UpB B A C:=⟨h.size,fun hB=>h.mono hB⟩
@[reducible] def lessTb (T:Tb) (g:Nat) (A1:Option Addr) (c1:Nat) (A2:Option Addr) (c2:Nat) (A3:Option Addr) (n3 c3:Nat) (l:List Int):Tb:=⟨g,A1,T.nv,c1,A2,T.na,c2,A3,n3,c3,T.AA,T.nl,T.cl,fo T.m (eK T.m.tastes l),T.L⟩
theorem sF {T:Tb}(h:TbOk T)(l:List Int){g:Nat}{A1 A2 A3:Option Addr}{c1 c2 n3 c3:Nat}:TbOk (lessTb T g A1 c1 A2 c2 A3 n3 c3 l):=⟨j3 h.ok _,h.all⟩
theorem sN {W:World}{T:Tb}{g base:Nat}{A1 A2 A3:Option Addr}{c1 c2 n3 c3:Nat}{l:List Int}(h:TbAt W T)(hb:Blk W g 121 #[.int .i64 T.m.fountains,.slice A1 T.nv c1,.slice A2 T.na c2,.slice A3 n3 c3,.slice T.AA T.nl T.cl])
  (hm:di W base A1 T.nv c1 A2 T.na c2 A3 n3 c3 (fo T.m (eK T.m.tastes l))) (hn:n3≤8):TbAt W (lessTb T g A1 c1 A2 c2 A3 n3 c3 l) :=
 ⟨hb,⟨hm.v.reads n_R,hm.a.reads n_R,hm.t.reads n_R⟩,h.all,⟨h.small.1,h.small.2.1,hn,h.small.2.2.2⟩⟩
structure mU (W:World)(T:Tb)(f:Int)(g0 g1 g2 g3:Nat)(oA:Option Addr)(no oc:Nat)(own:List Int):Prop where
 tb:TbAt W T
 b0:Blk W g0 92 #[.pointer (some ⟨T.g,0,none⟩)]
 b1:Blk W g1 3 #[.int .i64 f]
 b2:Blk W g2 34 #[.slice oA no oc]
 b3:Blk W g3 162 #[.func (.func 95) #[] #[.pointer (some ⟨g0,0,none⟩),.pointer (some ⟨g1,0,none⟩),.pointer (some ⟨g2,0,none⟩),.pointer (some ⟨g3,0,none⟩)]]
 ow:cr W W.heap.size oA no own
 small:no≤8
theorem mU.below {W W':World}{T:Tb}{f:Int}{g0 g1 g2 g3:Nat}{oA:Option Addr}{no oc:Nat}{own:List Int}(h:mU W T f g0 g1 g2 g3 oA no oc own)(hb:Below W.heap.size W W'):mU W' T f g0 g1 g2 g3 oA no oc own :=
 ⟨h.tb.below hb,h.b0.below hb h.b0.lt,h.b1.below hb h.b1.lt,h.b2.below hb h.b2.lt,h.b3.below hb h.b3.lt,(h.ow.below hb).more hb.size,h.small⟩
def p8 (W:World)(P:List Int→Prop)(C:List (List Int))(e:Ending)(w':World):Prop :=
 ∃ A n c b r,e = .returned (.tuple #[.slice A n c,.bool b])∧Below W.heap.size W w'∧(b=true→cr w' w'.heap.size A n r∧n≤3)∧ev C P b r
inductive FrSk (v0 v2 v3 v4 v5 v6 v15:Value):Act→Prop
 | mk (a b c d e f g h i j k l m n o p q r s t w x y z A B C D E F G H I J K L M N O P Q R S T U V W X Y Z aa ab ac ad ae af ag ah ai:Value):FrSk v0 v2 v3 v4 v5 v6 v15 ⟨#[v0,a,v2,v3,v4,v5,v6,b,c,d,e,f,g,h,i,v15,j,k,l,m,n,o,p,q,r,s,t,w,x,y,z,A,B,C,D,E,F,G,H,I,J,K,L,M,N,O,P,Q,R,S,T,U,V,W,X,Y,Z,aa,ab,ac,ad,ae,af,ag,ah,ai],[]⟩
theorem qk (T:Tb)(f:Int)(hok:TbOk T)(g0 g1 g2 g3:Nat)(oA:Option Addr)(no oc:Nat)(own:List Int):∀ (more frm:Nat) (l:List Int) (A:Option Addr) (n c:Nat) (W:World),mU W T f g0 g1 g2 g3 oA no oc own→cr W W.heap.size A n l→n+more≤3→frm≤no →
  CallsIn Fence.wide 9 Tryz.prog 95 (#[.slice A n c,.int .i64 (frm:Int),.int .i64 (more:Int)]++#[.pointer (some ⟨g0,0,none⟩),.pointer (some ⟨g1,0,none⟩),.pointer (some ⟨g2,0,none⟩),.pointer (some ⟨g3,0,none⟩)]) W (p8 W (WrP T.m T.L f) (eU own l frm more)):=by
 intro more
 induction more with
 | zero =>
  intro frm l A n c W hbx hl hn hfr;have HBX:=lh hbx;have HIL:=lh hl;have hn3:n≤3:=by omega
  clear hbx hl hn hfr;refine callsIn_of_wp Tryz.func95 rfl trivial ?_ rfl;simp only [Tryz.ntmps95,es,Nat.reduceAdd,Nat.reduceSub];gi_upto_region 2 with fail
  refine wpIn_flow_old [([true,true,true,true,true,false,true,true,true,true],5),([false,false,false,false,false,false,false,false,false,false,true],11)] [false,false,false,false,false,false,false,false,false,false,false,false,true] [] (by kernel_rfl) (by kernel_rfl) (by kernel_rfl) (av b_R 1) ?_;refine wpFlow_cons (A:=?AW1) rfl ?hw1 ?_
  case hw1 =>
   rintro σ hσ of hof hcl;have HOF:=lh hof;clear hof hcl;have p0:∀ z,(of z).cell? ⟨g0,0,none⟩=some (.pointer (some ⟨T.g,0,none⟩)):=fun z=>(HBX.out.below (HOF.out z)).b0.cell 0;have t0:∀ z,(of z).cell? ⟨T.g,0,none⟩=some (.int .i64 T.m.fountains):=fun z=>(HBX.out.below (HOF.out z)).tb.blk.cell 0;have t1:∀ z,(of z).cell? ⟨T.g,1,none⟩=some (.slice T.Av T.nv T.cv):=fun z=>(HBX.out.below (HOF.out z)).tb.blk.cell 1;have t2:∀ z,(of z).cell? ⟨T.g,2,none⟩=some (.slice T.Aa T.na T.ca):=fun z=>(HBX.out.below (HOF.out z)).tb.blk.cell 2;have t3:∀ z,(of z).cell? ⟨T.g,3,none⟩=some (.slice T.At T.nt T.ct):=fun z=>(HBX.out.below (HOF.out z)).tb.blk.cell 3;have t4:∀ z,(of z).cell? ⟨T.g,4,none⟩=some (.slice T.AA T.nl T.cl):=fun z=>(HBX.out.below (HOF.out z)).tb.blk.cell 4;have hfw:=hfT;simp only [bu]
   repeat (gi_big_quiet_step (fail))
   refine wpQuietIn_nil ?_;exact rfl
  intro W1 hW;have HB1:=lh hW;have HX1:=lh (HBX.out.below hW);have HI1:=lh ((HIL.out.below hW).more hW.size);clear hW;gi_wp2;refine ⟨trivial,(c_W (oH T.Av T.nv T.cv T.Aa T.na T.ca T.At T.nt T.ct T.m A n c l W1 ⟨HX1.out.tb.mix,by have:=HX1.out.tb.small;omega,by have:=HX1.out.tb.small;omega,by have:=HX1.out.tb.small;omega⟩ HI1.out (by omega))).mono ?_⟩;rintro e W2 ⟨A1,c1,A2,c2,A3,n3,c3,rfl,hmo,hn9,hb⟩;have HMO:=lh hmo;have HN9:=lh hn9;have HB2:=lh (HB1.out.trans (hb.mono HB1.out.size));have HX2:=lh (HX1.out.below hb);clear hmo hn9;gi_wp2;refine ⟨trivial,hb,?_⟩;clear hb HX1 HI1;refine wpFlow_cons (A:=?AW2) rfl ?hw2 ?_
  case hw2 =>
   rintro σ hσ of hof hcl;have HOF:=lh hof;clear hof hcl;have hn3_:=hn3;have hfw:=hfT;simp only [bu]
   repeat (gi_big_quiet_step (fail))
   refine wpQuietIn_nil ?_;exact rfl
  intro W3 hW;have HB3:=lh (HB2.out.trans (hW.mono HB2.out.size));have HX3:=lh (HX2.out.below hW);have HMO3:=lh (HMO.out.below hW);clear hW HMO HX2 HB1 HB2;gi_wp2;have hb:Below W3.heap.size W3 (W3.alloc (.cells #[.int .i64 T.m.fountains,.slice A1 T.nv c1,.slice A2 T.na c2,.slice A3 n3 c3,.slice T.AA T.nl T.cl] 121)):=b_R.alloc n_R _;refine ⟨trivial,hb,?_⟩;have HTB:=lh (Blk.new W3 121 #[.int .i64 T.m.fountains,.slice A1 T.nv c1,.slice A2 T.na c2,.slice A3 n3 c3,.slice T.AA T.nl T.cl]);have HB4:=lh (HB3.out.trans (hb.mono HB3.out.size));have HX4:=lh (HX3.out.below hb);have HMO4:=lh (HMO3.out.below hb);clear hb HMO3 HX3 HB3;generalize (W3.alloc (.cells #[.int .i64 T.m.fountains,.slice A1 T.nv c1,.slice A2 T.na c2,.slice A3 n3 c3,.slice T.AA T.nl T.cl] 121))=W4 at *
  obtain ⟨gt,hgt⟩:∃ g,W3.heap.size=g:=⟨_,rfl⟩
  rw [hgt] at HTB ⊢;clear hgt;refine wpFlow_nil (A:=?AW3)  ?hw3 ?_
  case hw3 =>
   rintro σ hσ of hof hcl;have HOF:=lh hof;clear hof hcl;have hn3_:=hn3;have hfw:=hfT;simp only [bu]
   repeat (gi_big_quiet_step (fail))
   refine wpQuietIn_nil ?_;exact rfl
  intro W5 hW;simp only [bu];refine cA ?_;have HB5:=lh (HB4.out.trans (hW.mono HB4.out.size));have HX5:=lh (HX4.out.below hW);have HMO5:=lh (HMO4.out.below hW);have HTB5:=lh (HTB.out.below hW HTB.out.lt);clear hW HMO4 HX4 HB4 HTB;have HTA:Hid (TbAt W5 (lessTb T gt A1 c1 A2 c2 A3 n3 c3 l)):=lh (sN HX5.out.tb HTB5.out HMO5.out (by have:=HX5.out.tb.small;have:=HX5.out.tb.mix.lenT;have:=HN9.out;omega));have f0:=HX5.out.b1.cell 0;have fl:=HX5.out.b1.lt;gi_wp2;clear f0 fl;refine ⟨trivial,(c_W (pw (lessTb T gt A1 c1 A2 c2 A3 n3 c3 l) f W5 HTA.out (sF hok l))).mono ?_⟩;rintro e W6 ⟨gU,b,A9,n9,c9,rs,ms,rfl,hb,_,_,_,hbt⟩;have HBT:=lh hbt;have HB6:=lh (HB5.out.trans (hb.mono HB5.out.size));clear hb hbt;gi_wp2;refine bodyPost_ret (v:=.tuple #[.slice A n c,.bool b]) (by simp [results,Tryz.results95,go_sem]) rfl ?_;refine ⟨A,n,c,b,l,rfl,HB6.out,fun _=>⟨(HIL.out.below HB6.out).more HB6.out.size,hn3⟩,?_⟩;rw [j2];exact nT HBT.out
 | succ more ih =>
  intro frm l A n c W hbx hl hn hfr;have HIH:=lh ih;have HBX:=lh hbx;have HIL:=lh hl;have hnm:n+more≤2:=by omega
  have HFR:=lh hfr;clear ih hbx hl hn hfr;refine callsIn_of_wp Tryz.func95 rfl trivial ?_ rfl;simp only [Tryz.ntmps95,es,Nat.reduceAdd,Nat.reduceSub];have hmb:(((more+1:Nat):Int)==0)=false:=by rw [beq_eq_false_iff_ne];omega
  rw [show ((more+1:Nat):Int)=(more:Int)+1 from by omega] at hmb ⊢;gi_wp2;refine wpIn_loop (fun ac V=>∃ (i:Nat),Hid (i≤no∧(∀ b r,ev (eU own l i (more+1)) (WrP T.m T.L f) b r→ev (eU own l frm (more+1)) (WrP T.m T.L f) b r)∧Below W.heap.size W V)∧FrSk (.slice A n c) (.int .i64 ((more:Int)+1)) (.pointer (some ⟨g0,0,none⟩)) (.pointer (some ⟨g1,0,none⟩)) (.pointer (some ⟨g2,0,none⟩)) (.pointer (some ⟨g3,0,none⟩)) (.int .i64 (i:Int)) ac) (fun ac _=>no - (intOf (ac.tmps.getD 15 undef)).toNat) ?_ ?_
  ·exact ⟨frm,lh ⟨HFR.out,fun b r h=>h,b_R⟩,by constructor⟩
  rintro ac V ⟨i,HS,ha⟩;cases ha;have HBV:=lh HS.out.2.2;have HXV:=lh (HBX.out.below HBV.out);have HIV:=lh ((HIL.out.below HBV.out).more HBV.out.size);have q0:=HXV.out.b2.cell 0;have ql:=HXV.out.b2.lt;by_cases hin:i<no
  ·
   obtain ⟨bo,oo,x,hoA,hbo,hxo,hco⟩:=HXV.out.ow.cell hin;have HXO:=lh hxo;have HCO:=lh hco;have HBO:Hid (bo<V.heap.size):=lh hbo;have HOA:=lh hoA;have hno8:=HXV.out.small;gi_upto_region 8 with fail
   clear q0 ql hxo hco hbo;refine Tr.wpIn_region_tree (G:=UpB V.heap.size) (V0:=V) [([],[true,true,false,true,true,true,true,false,false,true,true,true,true],[2,7]),([2],[],[7]),([7],[],[2]),([2,7],[],[8]),([2,7,8],[],[13]),([2,7,8,13],[false,false,false,false,false,false,false,false,false,false,false,false,false,false,true,true,true,true,true],[])] 5 [] (by kernel_rfl) (by kernel_rfl) (by kernel_rfl) (av b_R 1) ?_;refine Tr.wpTree_two (A:=?AW4) rfl rfl rfl ?hw4 ?_ ?_
   case hw4 =>
    rintro σ hσ of hof hcl;have HOF:=lh hof;clear hof hcl;have hub:∀ z,Below V.heap.size V (of z):=fun z=>(HOF.out z).2 n_R;have q0:∀ z,(of z).cell? ⟨g2,0,none⟩=some (.slice (some ⟨bo,oo,none⟩) no oc):=fun z=>by rw [← HOA.out];exact (HXV.out.b2.below (hub z) HXV.out.b2.lt).cell 0
    have q3:∀ z,(of z).cell? ⟨g3,0,none⟩=some (.func (.func 95) #[] #[.pointer (some ⟨g0,0,none⟩),.pointer (some ⟨g1,0,none⟩),.pointer (some ⟨g2,0,none⟩),.pointer (some ⟨g3,0,none⟩)]):=fun z=>(HXV.out.b3.below (hub z) HXV.out.b3.lt).cell 0;have qo:∀ z,(of z).cell? ⟨bo,oo+i,none⟩=some (.int .i64 x):=fun z=>((hub z).cell (p:=⟨bo,oo+i,none⟩) HBO.out).trans HCO.out;clear hub;have hfw:=hfT;simp only [bu]
    repeat (gi_big_quiet_step (fail))
    refine wpQuietIn_nil ?_;exact rfl
   ·
    intro W4 hW;have HB4:=lh hW;clear hW;gi_wp2;refine ⟨trivial,(callsIn_wide.2 (lx A n c l W4 ((HIV.out.below HB4.out).more HB4.out.size) (by unfold maxLen;omega) (by omega))).mono ?_⟩;rintro e W5 ⟨A9,c9,rfl,hO,hCn,hb⟩;have HO:=lh (show Own W5 V.heap.size 3 1 A9 n c9 (l.map (Value.int .i64)) from hO.mono HB4.out.size);have HBc:=lh hb;clear hO hCn hb;gi_wp2
    first | refine ⟨trivial,UpB.of_below' HBc.out,?_⟩ | refine ⟨UpB.of_below' HBc.out,?_⟩
    refine Tr.wpTree_one (m:=[]) rfl rfl Gr.Quietly.none ?_;intro W6 hW;have HB6:=lh (show Below V.heap.size V W6 from HB4.out.trans ((HBc.out.trans (hW.mono HBc.out.size)).mono HB4.out.size));replace HO:=lh (HO.out.below hW n_R);clear hW HBc HB4;gi_wp2;have hbs:Below W6.heap.size W6 (W6.alloc (.cells #[.int .i64 x] 3)):=b_R.alloc n_R _
    first | refine ⟨trivial,UpB.of_below' hbs,?_⟩ | refine ⟨UpB.of_below' hbs,?_⟩
    have HSL:=lh (show cr (W6.alloc (.cells #[.int .i64 x] 3)) (W6.alloc (.cells #[.int .i64 x] 3)).heap.size (some ⟨W6.heap.size,0,none⟩) 1 [x] from cr.new W6 3 [x] _ (by simp));have HBs:=lh hbs;clear hbs;generalize (W6.alloc (.cells #[.int .i64 x] 3))=W7 at *
    obtain ⟨gb,hgb⟩:∃ g,W6.heap.size=g:=⟨_,rfl⟩
    rw [hgb] at HSL ⊢;clear hgb;refine Tr.wpTree_one (m:=[]) rfl rfl Gr.Quietly.none ?_;intro W8 hW;have HB8:=lh (show Below V.heap.size V W8 from HB6.out.trans ((HBs.out.trans (hW.mono HBs.out.size)).mono HB6.out.size));replace HO:=lh ((HO.out.below HBs.out n_R).below hW n_R);replace HSL:=lh ((HSL.out.below hW).more hW.size);clear hW HBs HB6
    gi_wp2_with (first | (gi_at_builtin;refine cG rfl _ _ rfl dP rfl HO.out rfl HSL.out (dO [x]) (by unfold maxLen;omega) (by omega) (HB8.out.size) ?_) | fail)
    intro A10 c10 W9 hown hg hA;have HO10:=lh (show Own W9 V.heap.size 3 1 A10 (n+1) c10 ((l++[x]).map (Value.int .i64)) from by rw [List.map_append];exact hown)
    have hup:UpB V.heap.size W8 W9:=⟨hg.size,fun hB=>b_R.grown hg hB (fun k e=>(dB HO.out k e).1)⟩
    have HBE9:=lh (show Below V.heap.size V W9 from HB8.out.grown hg HB8.out.size (fun k e=>(dB HO.out k e).1));clear hown hg hA;gi_wp2
    first | refine ⟨rfl,hup,?_⟩ | refine ⟨trivial,hup,?_⟩ | refine ⟨hup,?_⟩
    clear hup HO HSL HB8;refine Tr.wpTree_one (m:=[]) rfl rfl Gr.Quietly.none ?_;intro W10 hW;have HO11:=lh (HO10.out.below hW n_R);have HBE10:=lh (HBE9.out.trans (hW.mono HBE9.out.size));clear hW HO10 HBE9;gi_wp2;refine ⟨trivial,(c_W (HIH.out (i+1) (l++[x]) A10 (n+1) c10 W10 (HXV.out.below HBE10.out) (dM HO11.out n_R) (by omega) (by omega))).mono ?_⟩;rintro e W11 ⟨A12,n12,c12,b,r,rfl,hb,hin12,hfi⟩;have HI12:=lh hin12;have HFI:=lh hfi;have HB11:=lh (HBE10.out.trans (hb.mono HBE10.out.size));have hup:UpB V.heap.size W10 W11:=UpB.of_below' hb;clear hin12 hfi hb HBE10 HO11;gi_wp2
    first | refine ⟨rfl,hup,?_⟩ | refine ⟨trivial,hup,?_⟩ | refine ⟨hup,?_⟩
    clear hup;refine Tr.wpTree_end (A:=?AW5) rfl ?hw5 ?_
    case hw5 =>
     rintro σ hσ of hof hcl;have HOF:=lh hof;clear hof hcl;have hno_:=hno8;have hfw:=hfT;simp only [bu]
     repeat (gi_big_quiet_step (fail))
     refine wpQuietIn_nil ?_;exact rfl
    intro W12 hW;have HB12:=lh (HB11.out.trans (hW.mono HB11.out.size));replace HI12:=lh (show b=true→cr W12 W12.heap.size A12 n12 r∧n12≤3 from fun h=>⟨((HI12.out h).1.below hW).more hW.size,(HI12.out h).2⟩);clear hW HB11;simp only [bu];refine cA ?_;have HCS:=lh (fp (l:=l) (n:=more) HXO.out)
    cases b with
    | true =>
     gi_wp2;refine bodyPost_ret (v:=.tuple #[.slice A12 n12 c12,.bool true]) (by simp [results,Tryz.results95,go_sem]) rfl ?_;exact ⟨A12,n12,c12,true,r,rfl,HBV.out.trans (HB12.out.mono HBV.out.size),fun _=>HI12.out (by first | rfl | trivial),HS.out.2.1 _ _ (by rw [HCS.out];exact fT HFI.out)⟩
    | false =>
     gi_wp2;refine ⟨⟨i+1,lh ⟨hin,fun b9 r9 h9=>HS.out.2.1 b9 r9 (by rw [HCS.out];exact fj HFI.out h9),HBV.out.trans (HB12.out.mono HBV.out.size)⟩,by rw [show ((i+1:Nat):Int)=(i:Int)+1 from by omega];constructor⟩,?_⟩;simp [intOf]<;>omega
   ·
    intro W4 hW;have HB4:=lh hW;clear hW;gi_wp2;have hbs:Below W4.heap.size W4 (W4.alloc (.cells #[.int .i64 x] 3)):=b_R.alloc n_R _
    first | refine ⟨trivial,UpB.of_below' hbs,?_⟩ | refine ⟨UpB.of_below' hbs,?_⟩
    have HSL:=lh (show cr (W4.alloc (.cells #[.int .i64 x] 3)) (W4.alloc (.cells #[.int .i64 x] 3)).heap.size (some ⟨W4.heap.size,0,none⟩) 1 [x] from cr.new W4 3 [x] _ (by simp));have HBs:=lh hbs;clear hbs;generalize (W4.alloc (.cells #[.int .i64 x] 3))=W5 at *
    obtain ⟨gb,hgb⟩:∃ g,W4.heap.size=g:=⟨_,rfl⟩
    rw [hgb] at HSL ⊢;clear hgb;refine Tr.wpTree_one (m:=[]) rfl rfl Gr.Quietly.none ?_;intro W6 hW;have HB6:=lh (show Below V.heap.size V W6 from HB4.out.trans ((HBs.out.trans (hW.mono HBs.out.size)).mono HB4.out.size));replace HSL:=lh ((HSL.out.below hW).more hW.size);clear hW HBs HB4;gi_wp2;refine ⟨trivial,(callsIn_wide.2 (lx A n c l W6 ((HIV.out.below HB6.out).more HB6.out.size) (by unfold maxLen;omega) (by omega))).mono ?_⟩;rintro e W7 ⟨A9,c9,rfl,hO,hCn,hb⟩;have HO:=lh (show Own W7 V.heap.size 3 1 A9 n c9 (l.map (Value.int .i64)) from hO.mono HB6.out.size);have HBc:=lh hb;clear hO hCn hb;gi_wp2
    first | refine ⟨trivial,UpB.of_below' HBc.out,?_⟩ | refine ⟨UpB.of_below' HBc.out,?_⟩
    refine Tr.wpTree_one (m:=[]) rfl rfl Gr.Quietly.none ?_;intro W8 hW;have HB8:=lh (show Below V.heap.size V W8 from HB6.out.trans ((HBc.out.trans (hW.mono HBc.out.size)).mono HB6.out.size));replace HO:=lh (HO.out.below hW n_R);replace HSL:=lh (((HSL.out.below HBc.out).more HBc.out.size).below hW |>.more hW.size);clear hW HBc HB6
    gi_wp2_with (first | (gi_at_builtin;refine cG rfl _ _ rfl dP rfl HO.out rfl HSL.out (dO [x]) (by unfold maxLen;omega) (by omega) (HB8.out.size) ?_) | fail)
    intro A10 c10 W9 hown hg hA;have HO10:=lh (show Own W9 V.heap.size 3 1 A10 (n+1) c10 ((l++[x]).map (Value.int .i64)) from by rw [List.map_append];exact hown)
    have hup:UpB V.heap.size W8 W9:=⟨hg.size,fun hB=>b_R.grown hg hB (fun k e=>(dB HO.out k e).1)⟩
    have HBE9:=lh (show Below V.heap.size V W9 from HB8.out.grown hg HB8.out.size (fun k e=>(dB HO.out k e).1));clear hown hg hA;gi_wp2
    first | refine ⟨rfl,hup,?_⟩ | refine ⟨trivial,hup,?_⟩ | refine ⟨hup,?_⟩
    clear hup HO HSL HB8;refine Tr.wpTree_one (m:=[]) rfl rfl Gr.Quietly.none ?_;intro W10 hW;have HO11:=lh (HO10.out.below hW n_R);have HBE10:=lh (HBE9.out.trans (hW.mono HBE9.out.size));clear hW HO10 HBE9;gi_wp2;refine ⟨trivial,(c_W (HIH.out (i+1) (l++[x]) A10 (n+1) c10 W10 (HXV.out.below HBE10.out) (dM HO11.out n_R) (by omega) (by omega))).mono ?_⟩;rintro e W11 ⟨A12,n12,c12,b,r,rfl,hb,hin12,hfi⟩;have HI12:=lh hin12;have HFI:=lh hfi;have HB11:=lh (HBE10.out.trans (hb.mono HBE10.out.size));have hup:UpB V.heap.size W10 W11:=UpB.of_below' hb;clear hin12 hfi hb HBE10 HO11;gi_wp2
    first | refine ⟨rfl,hup,?_⟩ | refine ⟨trivial,hup,?_⟩ | refine ⟨hup,?_⟩
    clear hup;refine Tr.wpTree_end (A:=?AW6) rfl ?hw6 ?_
    case hw6 =>
     rintro σ hσ of hof hcl;have HOF:=lh hof;clear hof hcl;have hno_:=hno8;have hfw:=hfT;simp only [bu]
     repeat (gi_big_quiet_step (fail))
     refine wpQuietIn_nil ?_;exact rfl
    intro W12 hW;have HB12:=lh (HB11.out.trans (hW.mono HB11.out.size));replace HI12:=lh (show b=true→cr W12 W12.heap.size A12 n12 r∧n12≤3 from fun h=>⟨((HI12.out h).1.below hW).more hW.size,(HI12.out h).2⟩);clear hW HB11;simp only [bu];refine cA ?_;have HCS:=lh (fp (l:=l) (n:=more) HXO.out)
    cases b with
    | true =>
     gi_wp2;refine bodyPost_ret (v:=.tuple #[.slice A12 n12 c12,.bool true]) (by simp [results,Tryz.results95,go_sem]) rfl ?_;exact ⟨A12,n12,c12,true,r,rfl,HBV.out.trans (HB12.out.mono HBV.out.size),fun _=>HI12.out (by first | rfl | trivial),HS.out.2.1 _ _ (by rw [HCS.out];exact fT HFI.out)⟩
    | false =>
     gi_wp2;refine ⟨⟨i+1,lh ⟨hin,fun b9 r9 h9=>HS.out.2.1 b9 r9 (by rw [HCS.out];exact fj HFI.out h9),HBV.out.trans (HB12.out.mono HBV.out.size)⟩,by rw [show ((i+1:Nat):Int)=(i:Int)+1 from by omega];constructor⟩,?_⟩;simp [intOf]<;>omega
  ·
   obtain rfl:no=i:=by have:=HS.out.1;omega
   have hol:=HXV.out.ow.len;gi_wp2;refine bodyPost_ret (v:=.tuple #[.slice none 0 0,.bool false]) (by simp [results,Tryz.results95,go_sem]) rfl ?_;refine ⟨none,0,0,false,[],rfl,HBV.out,(fun h=>by cases h),HS.out.2.1 _ _ ?_⟩;rw [lC (by omega)];exact ny
end
section
open Go.RowKit
def SeqAt {α:Type}(F:Fence)(n:Nat)(P:Program)(g:Nat)(lb:Array Value)(encs:α→Array Value)(At:α→World→Prop)(Kp:World→World→Prop)(S:List α→Prop)(w:World):Prop :=
 ∀ (l:Nat) (J:List α→World→Prop) (W:World),Below w.heap.size w W→(∀ s A B,J s A→Below A.heap.size A B→J s B) →
  (∀ pre x W1,J pre W1→At x W1→YieldAt F (n - 1) P l (encs x) W1 fun e W'=>e = .returned (.bool true)∧J (pre++[x]) W'∧Kp W1 W') →
  J [] W→CallsIn F n P g (#[.func (.yield l) #[] #[]]++lb) W fun e W'=>(∃ v,e = .returned v)∧∃ xs,S xs∧J xs W'
end
section
open Go.RowKit
def rF:Obj→Prop
 | .cells _ t _=>t≠34∧t≠45
 | _=>True
def KpR (n0 n1:Nat)(W W':World):Prop:=W.heap.size≤W'.heap.size∧∀ (k:Nat) (o:Obj),(k<n0∨(n1≤k∧rF o))→W.heap[k]? =some o→(o.isCells=true∨o.isWalk=true)→W'.heap[k]? =some o
theorem KpR.trans {n0 n1:Nat}{A B C:World}(h:KpR n0 n1 A B)(k:KpR n0 n1 B C):KpR n0 n1 A C:=⟨Nat.le_trans h.1 k.1,fun i o hi ho hc=>k.2 i o hi (h.2 i o hi ho hc) hc⟩
theorem KpR.of_below {n0 n1:Nat}{A B:World}(h:Below A.heap.size A B):KpR n0 n1 A B:=⟨h.size,fun k o _ ho _=>(h.block k (Array.getElem?_eq_some_iff.1 ho).1).trans ho⟩
theorem KpR.put {n0 n1:Nat}(W:World)(l:Nat)(o o':Obj)(h:W.heap[l]? =some o)(hc:o.isCells=false)(hw:o.isWalk=false):KpR n0 n1 W (W.putObj l o') :=
 ⟨by simp,fun k o2 _ ho hk=>(World.putObj_heap_other (fun e=>by
  subst e;rw [h] at ho;cases ho;rw [hc,hw] at hk
  rcases hk with hk | hk<;>cases hk)).trans ho⟩
theorem KpR.setCell {n0 n1:Nat}(W:World)(p:Addr)(v:Value)(h0:n0≤p.block)(h1:p.block<n1):KpR n0 n1 W (W.setCell p v) :=
 ⟨by simp,fun k o hk ho _=>(Below.heap_setCell W p v k (by rcases hk with hk | ⟨hk,_⟩<;>omega)).trans ho⟩
theorem KpR.blk {n0 n1 g:Nat}{W W':World}{t:TypeId}{cs:Array Value}(h:KpR n0 n1 W W')(hg:g<n0∨n1≤g)(b:Blk W g t cs)(ht:t≠34∧t≠45:=by decide):Blk W' g t cs:=h.2 g _ (hg.imp id fun x=>⟨x,ht⟩) b (.inl rfl)
instance kpr_grows (n0 n1:Nat):Gr.Grows (KpR n0 n1) where
 refl:=fun W=>⟨n_R,fun _ _ _ h _=>h⟩
 trans:=fun h k=>KpR.trans h k
 below:=fun h=>KpR.of_below h
 size:=fun h=>h.1
def Safe (n1:Nat)(W:World)(A:Option Addr):Prop:=∀ a,A=some a→n1≤a.block∧∃ cs,Blk W a.block 3 cs
theorem Safe.kp {n0 n1:Nat}{W W':World}{A:Option Addr}(h:Safe n1 W A)(hk:KpR n0 n1 W W'):Safe n1 W' A:=fun a e=>⟨(h a e).1,by
 obtain ⟨h1,cs,hb⟩:=h a e
 exact ⟨cs,hk.blk (.inr h1) hb⟩⟩
theorem Safe.none_ {n1:Nat}{W:World}:Safe n1 W none:=fun a e=>by cases e
theorem Safe.own {w:World}{base n1 n cap:Nat}{A:Option Addr}{xs:List Value}(h:Own w base 3 1 A n cap xs)(hb:n1≤base):Safe n1 w A:=fun a e=>by
 subst e
 rcases h.form with ⟨h1,_⟩ | ⟨g,cur,h1,h2,h3,_⟩
 ·cases h1
 ·cases h1
  exact ⟨Nat.le_trans hb h2,cur,h3⟩
theorem cB.hold {w w':World}{B size n:Nat}{A:Option Addr}{xs:List Value}(h:cB w B size A n xs)(hk:∀ (b:Nat) (o:Obj),w.heap[b]? =some o→o.isCells=true→(∀ a,A=some a→a.block=b→w'.heap[b]? =some o)):cB w' B size A n xs:=by
 refine ⟨h.1,fun hn=>?_⟩;obtain ⟨ad,e,hb,hc⟩:=h.2 hn;refine ⟨ad,e,hb,fun j u hu=>?_⟩;have h1:=hc j u hu;obtain ⟨o,ho,hcell⟩:=cells_of_cell h1;rw [← h1];refine World.cell?_of_block ?_;rw [ho];exact hk _ _ ho hcell ad e (by rw [dN])
theorem cB.low {w w':World}{n0 n1 B size n:Nat}{A:Option Addr}{xs:List Value}(h:cB w B size A n xs)(hB:B≤n0)(hk:KpR n0 n1 w w'):cB w' B size A n xs:=by
 by_cases hn:n=0
 ·subst hn
  exact ⟨h.1,fun h0=>absurd h0 (by omega)⟩
 ·obtain ⟨ad,e,hb,_⟩:=h.2 (by omega)
  exact h.hold fun b o ho hc a ha hab=>hk.2 b o (.inl (by rw [e] at ha;cases ha;omega)) ho (.inl hc)
theorem cB.safe {w w':World}{n0 n1 size n:Nat}{A:Option Addr}{xs:List Value}(h:cB w w.heap.size size A n xs)(hs:Safe n1 w A)(hk:KpR n0 n1 w w'):cB w' w'.heap.size size A n xs :=
 cB.more (h.hold fun b o ho hc a ha hab=>by
  obtain ⟨h1,cs,hb⟩:=hs a ha;rw [hab] at h1 hb;unfold Blk at hb;rw [ho] at hb;cases hb
  exact hk.2 b _ (.inr ⟨h1,by decide,by decide⟩) ho (.inl hc)) hk.1
end
section
def b1 (b:Bool):Int:=if b then 1 else 0
def s9 (fr to:Int)(c:Int)(g:Bool):Int:=if g then (if fr<0 then to else if to<0 then -2 else to) else c
def ra (fr xf f c:Int)(g:Bool):Prop:=g=true→if fr<0 then c = -1∧xf=f else c=fr
def StepP (fr to n al xf f0 f1:Int)(c d:Int × Int):Prop :=
 ∃ g0 g1:Bool,ra fr xf f0 c.1 g0∧ra fr xf f1 c.2 g1∧d=(s9 fr to c.1 g0,s9 fr to c.2 g1) ∧
  (0≤fr→b1 g0+b1 g1≤n∧b1 (!g0 && decide (c.1=fr))+b1 (!g1 && decide (c.2=fr))≤al - n)
def NowP (m:Mix)(A:List Held)(f0 f1:Int):Nat→Int × Int→Prop
 | 0,c=>c=(-1,-1)
 | t+1,d=>∃ c x all,NowP m A f0 f1 t c∧m.acts[t]? =some x∧A[t]? =some all∧StepP (cp m x) (toI m x) (cZ m all x) (au all (cp m x)) x.fr f0 f1 c d
def Fills (m:Mix)(f:Int)(i:Nat):Prop:=∃ x,m.acts[i]? =some x∧x.kind=1∧x.fr=f
section
variable {m:Mix} {A:List Held} {f0 f1:Int}
def Came (m:Mix)(f:Int)(t:Nat)(c:Int)(i0:Option Nat):Prop:=match i0 with
 | none=>c = -1
 | some i=>c≠-1∧i<t∧Fills m f i
def mm (t:Nat)(i0:Option Nat)(i:Nat):Prop:=match i0 with
 | none=>t≤i
 | some j=>i=j
theorem Came.step {f:Int}{t:Nat}{c:Int}{i0:Option Nat}(h:Came m f t c i0)(d:Int)(hd:d = -1↔c = -1):Came m f (t+1) d i0:=by
 cases i0 with
 | none=>exact hd.2 h
 | some i=>exact ⟨fun e=>h.1 (hd.1 e),Nat.lt_succ_of_lt h.2.1,h.2.2⟩
theorem mm.back {f:Int}{t:Nat}{c:Int}{i0:Option Nat}{i:Nat}(hc:Came m f t c i0)(h:mm (t+1) i0 i):mm t i0 i∧i≠t:=by
 cases i0 with
 | none=>exact ⟨Nat.le_of_succ_le h,by unfold mm at h;omega⟩
 | some j =>
  have h':i=j:=h;exact ⟨h',by have:=hc.2.1;omega⟩
end
end
section
section
variable {m:Mix} {A:List Held} {f:Int}
inductive Ext (m:Mix) (A:List Held) (n:Nat) (s:Int) (l:List Int):Nat→Int→List Int→Prop
 | done:Ext m A n s l n s l
 | pour {t:Nat} {x:MAct} {v:Int} {w:List Int} (hx:m.acts[t]? =some x) (hk:x.kind=2) (hv:idxV m.vessels x.fr=v) (h:Ext m A n s l (t+1) (idxV m.vessels x.to) (w++[(t:Int)+1])):Ext m A n s l t v w
 | stay {t:Nat} {x:MAct} {v:Int} {w:List Int} {all:Held} (hx:m.acts[t]? =some x) (ha:A[t]? =some all) (hs:cp m x≠v∨cZ m all x≠au all v) (h:Ext m A n s l (t+1) v w):Ext m A n s l t v w
theorem Ext.way {n:Nat}{s:Int}{l:List Int}{t:Nat}{v:Int}{w:List Int}(h:Ext m A n s l t v w):eT m A f t v w→eT m A f n s l:=by
 induction h with
 | done=>exact id
 | pour hx hk hv _ ih=>exact fun h=>ih (.pour h hx hk hv)
 | stay hx ha hs _ ih=>exact fun h=>ih (.stay h hx ha hs)
theorem Ext.snoc {n n':Nat}{s s':Int}{l l':List Int}(h':Ext m A n' s' l' n s l){t:Nat}{v:Int}{w:List Int}(h:Ext m A n s l t v w):Ext m A n' s' l' t v w:=by
 induction h with
 | done=>exact h'
 | pour hx hk hv _ ih=>exact .pour hx hk hv ih
 | stay hx ha hs _ ih=>exact .stay hx ha hs ih
theorem Ext.le {n:Nat}{s:Int}{l:List Int}{t:Nat}{v:Int}{w:List Int}(h:Ext m A n s l t v w):t≤n:=by
 induction h with
 | done=>exact n_R
 | pour _ _ _ _ ih=>omega
 | stay _ _ _ _ ih=>omega
theorem Ext.inv {n:Nat}{s:Int}{l:List Int}{t:Nat}{v:Int}{w:List Int}(h:Ext m A n s l t v w)(hne:t≠n) :
  (∃ x,m.acts[t]? =some x∧x.kind=2∧idxV m.vessels x.fr=v∧Ext m A n s l (t+1) (idxV m.vessels x.to) (w++[(t:Int)+1])) ∨
  (∃ x all,m.acts[t]? =some x∧A[t]? =some all∧(cp m x≠v∨cZ m all x≠au all v)∧Ext m A n s l (t+1) v w):=by
 cases h with
 | done=>exact absurd rfl hne
 | pour hx hk hv h=>exact .inl ⟨_,hx,hk,hv,h⟩
 | stay hx ha hs h=>exact .inr ⟨_,_,hx,ha,hs,h⟩
end
end
section
def metM (m:Mix)(v a f0 f1:Int):Int:=if askM m v a [f0,f1]=0 then (if f0=f1 then 2 else 0) else askM m v a [f0,f1]
def rx (m:Mix)(v a f0 f1:Int)(b:Bool)(e:Int):Prop :=
 (metM m v a f0 f1≠0∧b=false∧e=metM m v a f0 f1)∨(metM m v a f0 f1=0∧e=0∧∃ A,allM m m.acts=some A∧(b=true↔NowP m A f0 f1 a.toNat (idxV m.vessels v,idxV m.vessels v)))
def gg (m:Mix)(v a f:Int)(P:List Held→List Int→Prop)(l:List Int)(e:Int):Prop :=
 (askM m v a [f]≠0∧l=[]∧e=askM m v a [f])∨(askM m v a [f]=0∧∃ A,allM m m.acts=some A ∧
  (((∀ k,¬ eT m A f a.toNat (idxV m.vessels v) k)∧l=[]∧e=6)∨((∃ k,eT m A f a.toNat (idxV m.vessels v) k)∧e=0∧ei (P A) l)))
def oy (m:Mix)(v a f:Int):List Int→Int→Prop:=gg m v a f fun A=>eT m A f a.toNat (idxV m.vessels v)
def tG (m:Mix)(v a f:Int)(A:List Held)(l:List Int):Prop:=UpTo a.toNat l∧∀ w,eT m A f a.toNat (idxV m.vessels v) w→∃ n∈w,n∈l
def mS (m:Mix)(v a f:Int):List Int→Int→Prop:=gg m v a f (tG m v a f)
section
variable {m:Mix} {v a f f0 f1 e e':Int} {l l':List Int} {b b':Bool} {P:List Held→List Int→Prop}
theorem rx.same (h:rx m v a f0 f1 b e)(h':rx m v a f0 f1 b' e'):b=b'∧e=e':=by
 rcases h with ⟨h0,rfl,rfl⟩ | ⟨h0,rfl,A,hA,h⟩<;>rcases h' with ⟨k0,rfl,rfl⟩ | ⟨k0,rfl,B,hB,k⟩
 ·exact ⟨rfl,rfl⟩
 ·exact absurd k0 h0
 ·exact absurd h0 k0
 ·rw [hA] at hB
  cases hB;refine ⟨?_,rfl⟩;cases b<;>cases b'<;>simp_all
theorem gg.same (h:gg m v a f P l e)(h':gg m v a f P l' e'):l=l'∧e=e':=by
 rcases h with ⟨h0,rfl,rfl⟩ | ⟨h0,A,hA,h⟩<;>rcases h' with ⟨k0,rfl,rfl⟩ | ⟨k0,B,hB,k⟩
 ·exact ⟨rfl,rfl⟩
 ·exact absurd k0 h0
 ·exact absurd h0 k0
 ·rw [hA] at hB
  cases hB
  rcases h with ⟨h1,rfl,rfl⟩ | ⟨⟨w,h1⟩,rfl,h2⟩<;>rcases k with ⟨k1,rfl,rfl⟩ | ⟨⟨u,k1⟩,rfl,k2⟩
  ·exact ⟨rfl,rfl⟩
  ·exact absurd k1 (h1 _)
  ·exact absurd h1 (k1 _)
  ·exact ⟨h2.same k2,rfl⟩
theorem oy.same (h:oy m v a f l e)(h':oy m v a f l' e'):l=l'∧e=e':=gg.same h h'
theorem mS.same (h:mS m v a f l e)(h':mS m v a f l' e'):l=l'∧e=e':=gg.same h h'
theorem ei.congr {P Q:List Int→Prop}(h:ei P l)(e:∀ k,P k↔Q k):ei Q l:=⟨(e l).1 h.1,fun k hk=>h.2 k ((e k).2 hk)⟩
end
end
section
open Go.RowKit Go.Shelf
attribute [local go_sem] Oper.semAt_some
structure Wy where
 l:List Int
 A:Option Addr
 n:Nat
 cap:Nat
@[reducible] def Wy.val (x:Wy):Value:=.slice x.A x.n x.cap
structure jZ (W:World)(B:Nat)(T:Tb):Prop where
 blk:Blk W T.g 121 T.cells
 g:T.g<B
 mix:dx W B T.Av T.nv T.Aa T.na T.At T.nt T.m
 all:cB W B 4 T.AA T.nl (T.L.flatMap dH)
 small:T.nv≤4∧T.na≤12∧T.nt≤8∧T.nl≤13
theorem jZ.at_ {W:World}{B:Nat}{T:Tb}(h:jZ W B T)(hB:B≤W.heap.size):TbAt W T:=⟨h.blk,h.mix.more hB,h.all.more hB,h.small⟩
theorem jZ.kp {W W':World}{n0 n1:Nat}{T:Tb}(h:jZ W n0 T)(hk:KpR n0 n1 W W'):jZ W' n0 T :=
 ⟨hk.blk (.inl h.g) h.blk,h.g,⟨h.mix.vessels.low n_R hk,h.mix.acts.low n_R hk,h.mix.tastes.low n_R hk⟩,h.all.low n_R hk,h.small⟩
theorem TbAt.low {W:World}{T:Tb}(h:TbAt W T):jZ W W.heap.size T:=⟨h.blk,h.blk.lt,h.mix,h.all,h.small⟩
structure si (n0 l' gs gy gt ge q k:Nat)(T:Tb)(W:World):Prop where
 tb:jZ W n0 T
 bs:Blk W gs 109 #[.int .i64 (q:Int),.int .i64 (k:Int)]
 bt:Blk W gt 92 #[.pointer (some ⟨T.g,0,none⟩)]
 by_:Blk W gy 181 #[.func (.yield l') #[] #[]]
 be:Blk W ge 182 #[.func (.func 114) #[] #[.pointer (some ⟨gs,0,none⟩),.pointer (some ⟨gy,0,none⟩),.pointer (some ⟨gt,0,none⟩),.pointer (some ⟨ge,0,none⟩)]]
structure WyPl (n0 n1 gs gy gt ge:Nat):Prop where
 s:gs<n0
 t:gt<n0
 y:n1≤gy
 e:n1≤ge
theorem si.kp {n0 n1 l' gs gy gt ge q k:Nat}{T:Tb}{W W':World}(h:si n0 l' gs gy gt ge q k T W)(hp:WyPl n0 n1 gs gy gt ge)(hk:KpR n0 n1 W W'):si n0 l' gs gy gt ge q k T W' :=
 ⟨h.tb.kp hk,hk.blk (.inl hp.s) h.bs,hk.blk (.inl hp.t) h.bt,hk.blk (.inr hp.y) h.by_,hk.blk (.inr hp.e) h.be⟩
def KpB (n0 n1 B:Nat)(W W':World):Prop:=W.heap.size≤W'.heap.size∧∀ (k:Nat) (o:Obj),k<B→(k<n0∨(n1≤k∧rF o))→W.heap[k]? =some o→(o.isCells=true∨o.isWalk=true)→W'.heap[k]? =some o
theorem KpB.of_below {n0 n1 B:Nat}{A C:World}(h:Below A.heap.size A C):KpB n0 n1 B A C:=⟨h.size,fun k o _ _ ho _=>(h.block k (Array.getElem?_eq_some_iff.1 ho).1).trans ho⟩
theorem KpB.kp {n0 n1:Nat}{A C:World}(h:KpB n0 n1 A.heap.size A C):KpR n0 n1 A C:=⟨h.1,fun k o hk ho hc=>h.2 k o (Array.getElem?_eq_some_iff.1 ho).1 hk ho hc⟩
instance kpb_grows (n0 n1 B:Nat):Gr.Grows (KpB n0 n1 B) where
 refl:=fun W=>⟨n_R,fun _ _ _ _ h _=>h⟩
 trans:=fun h k=>⟨Nat.le_trans h.1 k.1,fun i o hi h2 ho hc=>k.2 i o hi h2 (h.2 i o hi h2 ho hc) hc⟩
 below:=fun h=>KpB.of_below h
 size:=fun h=>h.1
theorem KpB.trans {n0 n1 B:Nat}{A C D:World}(h:KpB n0 n1 B A C)(k:KpB n0 n1 B C D):KpB n0 n1 B A D:=⟨Nat.le_trans h.1 k.1,fun i o hi h2 ho hc=>k.2 i o hi h2 (h.2 i o hi h2 ho hc) hc⟩
end
section
open Go.RowKit
theorem pS (x:Int)(w:World):Calls Tryz.prog 111 #[.int .i64 x] w fun e w'=>e = .returned (.bool false)∧w'=w:=by
 go_enter Tryz.func111,Tryz.ntmps111
 go_wp2_with fail
 go_ret
 exact ⟨rfl,rfl⟩
end
section
open Go.RowKit Go.Shelf
attribute [local go_sem] Oper.semAt_some
theorem pK {W W':World}{B n:Nat}{A:Option Addr}{l:List Int}(h:cr W B A n l)(hk:∀ (b:Nat) cs t fr,W.heap[b]? =some (.cells cs t fr)→b<B→W'.heap[b]? =some (.cells cs t fr)):cr W' B A n l:=by
 refine ⟨h.1,fun hn=>?_⟩;obtain ⟨ad,e,hb,hc⟩:=h.2 hn;refine ⟨ad,e,hb,fun j u hu=>?_⟩;have h1:=hc j u hu;obtain ⟨o,ho,hcell⟩:=cells_of_cell h1;rw [← h1];refine World.cell?_of_block ?_;rw [ho];cases o<;>simp [Obj.isCells] at hcell;exact hk _ _ _ _ ho (by rw [dN];exact hb)
theorem eo.drew {B:Nat}{w:World}{ds:List Deferred}(h:eo B w ds):eo B w.drew ds:=h.keep fun _ _ _ _ h0=>h0
theorem me {B:Nat}{W W':World}{A:Option Addr}{n:Nat}{l:List Int}(h:cr W W.heap.size A n l)(hs:Shut B W W'):cr W' W'.heap.size A n l :=
 (pK h (fun b cs ty fr hb _=>hs.cells _ _ _ _ hb)).more hs.below.size
abbrev tj:Wy:=⟨[],none,0,0⟩
def Wy.at_ (x:Wy)(w:World):Prop:=cr w w.heap.size x.A x.n x.l∧x.n≤13
theorem Wy.at_.below {x:Wy}{w w':World}(h:x.at_ w)(hb:Below w.heap.size w w'):x.at_ w':=⟨(h.1.below hb).more hb.size,h.2⟩
structure FwSt (w:World)(b:Option Wy)(S:Nat)(W:World):Prop where
 bel:Below w.heap.size w W
 ord:Blk W w.heap.size 146 #[.func (.func 80) #[] #[]]
 best:Blk W (w.heap.size+1) 34 #[(b.getD tj).val]
 fnd:Blk W (w.heap.size+1+1) 4 #[.bool b.isSome]
 sz:S≤W.heap.size
 at_:∀ x,b=some x→x.at_ W
 safe:∀ x,b=some x→∀ a,x.A=some a→S≤a.block
section
variable {w W W':World} {b:Option Wy} {S:Nat}
theorem FwSt.below (h:FwSt w b S W)(hb:Below W.heap.size W W'):FwSt w b S W' :=
 ⟨h.bel.trans (hb.mono h.bel.size),h.ord.below hb h.ord.lt,h.best.below hb h.best.lt,h.fnd.below hb h.fnd.lt,Nat.le_trans h.sz hb.size,fun x e=>(h.at_ x e).below hb,h.safe⟩
theorem FwSt.shut (h:FwSt w b S W)(hs:Shut S W W')(hS:w.heap.size≤S):FwSt w b S W' :=
 ⟨h.bel.trans (hs.below.mono hS),hs.blk h.ord,hs.blk h.best,hs.blk h.fnd,Nat.le_trans h.sz hs.below.size,fun x e=>⟨me (h.at_ x e).1 hs,(h.at_ x e).2⟩,h.safe⟩
end
abbrev putW (W:World)(g g':Nat)(y:Wy):World:=(W.setCell ⟨g,0,none⟩ (.slice y.A y.n y.cap)).setCell ⟨g',0,none⟩ (.bool true)
theorem FwSt.put {w W:World}{b:Option Wy}{S:Nat}(h:FwSt w b S W)(y:Wy)(hS:w.heap.size+3≤S)(hy:y.at_ W)(hyr:∀ a,y.A=some a→S≤a.block) :
  FwSt w (some y) S (putW W (w.heap.size+1) (w.heap.size+1+1) y)∧KeepsFrom S W (putW W (w.heap.size+1) (w.heap.size+1+1) y)∧KpR w.heap.size S W (putW W (w.heap.size+1) (w.heap.size+1+1) y):=by
 have ko:KeepsOthers W (putW W (w.heap.size+1) (w.heap.size+1+1) y):=(KeepsOthers.setCell W _ _).trans (KeepsOthers.setCell _ _ _);have hb3:Blk (W.setCell ⟨w.heap.size+1,0,none⟩ (.slice y.A y.n y.cap)) (w.heap.size+1) 34 #[y.val]:=h.best.set_ 0 _;have ho3:=h.ord.far (p:=⟨w.heap.size+1,0,none⟩) (by simp) (.slice y.A y.n y.cap);have hf3:=h.fnd.far (p:=⟨w.heap.size+1,0,none⟩) (by simp) (.slice y.A y.n y.cap);refine ⟨⟨?_,ho3.far (p:=⟨w.heap.size+1+1,0,none⟩) (by simp;omega) _,hb3.far (p:=⟨w.heap.size+1+1,0,none⟩) (by simp) _,hf3.set_ 0 _,Nat.le_trans h.sz (by simp),?_,fun x e=>by cases e;exact hyr⟩,ko.from S,?_⟩
 ·exact (h.bel.setCell (p:=⟨w.heap.size+1,0,none⟩) (by simp) _).setCell (p:=⟨w.heap.size+1+1,0,none⟩) (by simp;omega) _
 ·intro x e
  cases e
  have g1:W.grownBy (W.setCell ⟨w.heap.size+1,0,none⟩ (.slice y.A y.n y.cap)) (some (w.heap.size+1)) :=
   cC (cR W _) (p:=⟨w.heap.size+1,0,none⟩) (.inl rfl) _
  have h1:=cB.grown hy.1 g1 n_R (fun a ha e=>by have:=hyr a ha;have:=Option.some.inj e;omega);have h2:=cB.grown (h1.more g1.size) (cC (cR _ (some (w.heap.size+1+1))) (p:=⟨w.heap.size+1+1,0,none⟩) (.inl rfl) (.bool true)) n_R (fun a ha e=>by have:=hyr a ha;have:=Option.some.inj e;omega);exact ⟨h2.more (by simp),hy.2⟩
 ·exact (KpR.setCell _ _ _ (by simp) (by simp;omega)).trans (KpR.setCell _ _ _ (by simp;omega) (by simp;omega))
end
section
open Go.RowKit
def rH {α:Type}(F:Fence)(n:Nat)(P:Program)(g:Nat)(lb:Array Value)(encs:α→Array Value)(At:α→World→Prop)(Kp:World→World→Prop)(S:List α→Prop)(N:Nat)(w:World):Prop :=
 ∀ (l:Nat) (J:List α→World→Prop) (W:World),Below w.heap.size w W→(∀ s A B,J s A→Below A.heap.size A B→J s B) →
  (∀ pre x W1,J pre W1→pre.length<N→At x W1→YieldAt F (n - 1) P l (encs x) W1 fun e W'=>e = .returned (.bool true)∧J (pre++[x]) W'∧Kp W1 W') →
  J [] W→CallsIn F n P g (#[.func (.yield l) #[] #[]]++lb) W fun e W'=>(∃ v,e = .returned v)∧∃ xs,S xs∧J xs W'
theorem rH.plain {α:Type}{F:Fence}{n:Nat}{P:Program}{g:Nat}{lb:Array Value}{encs:α→Array Value}{At:α→World→Prop}{Kp:World→World→Prop}{S:List α→Prop}{N:Nat}{w:World}(h:rH F n P g lb encs At Kp S N w):SeqAt F n P g lb encs At Kp S w :=
 fun l J W hW hJ hY h0=>h l J W hW hJ (fun pre x W1 h1 _ h2=>hY pre x W1 h1 h2) h0
end
section
open Go.RowKit Go.Shelf
attribute [local go_sem] Oper.semAt_some
theorem mp {w:World}{base n cap size:Nat}{e:TypeId}{A:Option Addr}{xs:List Value}(h:Own w base e size A n cap xs){p:Addr}(hp:p.block<base)(u:Value):Own (w.setCell p u) base e size A n cap xs:=by
 refine ⟨h.1,?_⟩
 rcases h.2 with h' | ⟨g,cap',cur,hv,hb,hg,hr⟩
 ·exact .inl h'
 ·exact .inr ⟨g,cap',cur,hv,hb,(Below.heap_setCell w p u g (by omega)).trans hg,hr⟩
def Wy.own (n1:Nat)(x:Wy)(W:World):Prop:=x.at_ W∧Safe n1 W x.A
theorem Wy.own.below {n1:Nat}{x:Wy}{W W':World}(h:x.own n1 W)(hb:Below W.heap.size W W'):x.own n1 W':=⟨h.1.below hb,h.2.kp (n0:=0) (KpR.of_below hb)⟩
theorem Wy.own.kp {n0 n1:Nat}{x:Wy}{W W':World}(h:x.own n1 W)(hk:KpR n0 n1 W W'):x.own n1 W':=⟨⟨h.1.1.safe h.2 hk,h.1.2⟩,h.2.kp hk⟩
theorem Wy.own.shut {n1 B:Nat}{x:Wy}{W W':World}(h:x.own n1 W)(hs:Shut B W W'):x.own n1 W' :=
 ⟨⟨me h.1.1 hs,h.1.2⟩,fun a ha=>⟨(h.2 a ha).1,by obtain ⟨cs,hb⟩:=(h.2 a ha).2;exact ⟨cs,hs.blk hb⟩⟩⟩
end
end Go.Proofs.YthofngceiecniaaGreat
