/- Part 7 of the texts of this claim, joined. -/
import Derived.Test.YtjdgdeiedkickaaDoorTwT6
set_option linter.unusedVariables false
/- mix.asked. -/
namespace Go.Proofs.YtjdgdeiedkickaaDoor.Mx
open Go.RowKit

/-- What asked tells. -/
def AskedOut (w : World) (m : Mix) (vessel after fountain : Int) (e : Ending) (w' : World) : Prop :=
 ∃ p s1 s2 ee, e = .returned (.tuple #[.pointer p, .agg #[.int .i64 s1, .int .i64 s2], .int .i64 ee]) ∧ Below w.heap.size w w' ∧ ((askM m vessel after [fountain] ≠ 0 ∧ ee = askM m vessel after [fountain]) ∨ (askM m vessel after [fountain] = 0 ∧ ∃ T : Tb, T.m = m ∧ TbOk T ∧
  ((ee = 8 ∧ ¬ Truth m fountain T.L 0 zeroH) ∨ (ee = 0 ∧ Truth m fountain T.L 0 zeroH ∧ ∃ gU A n c rs ms, ∃ q k : Nat, p = some ⟨gU, 0, none⟩ ∧ s1 = (q : Int) ∧ s2 = (k : Int) ∧ q < 4 ∧ (q : Int) = idxV m.vessels vessel ∧ (k : Int) = after ∧ k ≤ m.acts.length ∧ TrAt w' gU T fountain A n c rs ms ∧ n = m.acts.length + 1 ∧ ∀ (i : Nat) (mi : List (D4 × Bool)), ms[i]? = some mi → CanIs mi (Truth m fountain T.L i)))))

set_option maxRecDepth 100000 in
set_option maxHeartbeats 8000000 in
theorem asked_in (Av : Option Addr) (nv cv : Nat) (Aa : Option Addr) (na ca : Nat) (At : Option Addr) (nt ct : Nat) (m : Mix) (vessel after fountain : Int) (w : World) (h : MixS w Av nv Aa na At nt m) :
  CallsIn Fence.wide 9 Tryd.prog 24 #[.agg #[.int .i64 m.fountains, .slice Av nv cv, .slice Aa na ca, .slice At nt ct], .int .i64 vessel, .int .i64 after, .int .i64 fountain] w (AskedOut w m vessel after fountain) := by
 have HM := Lib.hid h
 clear h
 refine callsIn_of_wp Tryd.func24 rfl trivial ?_ rfl
 simp only [Tryd.ntmps24, List.size_toArray, List.length_cons, List.length_nil, Nat.reduceAdd, Nat.reduceSub, Array.replicate_succ, Array.replicate_zero, List.push_toArray, List.append_toArray, List.nil_append, List.cons_append]
 gi_upto_region 1 with fail
 have HLay := Lib.hid (Lay.two w 47 #[.int .i64 m.fountains, .slice Av nv cv, .slice Aa na ca, .slice At nt ct] 70 #[.int .i64 0, .int .i64 0])
 generalize ((w.alloc (.cells #[.int .i64 m.fountains, .slice Av nv cv, .slice Aa na ca, .slice At nt ct] 47)).alloc (.cells #[.int .i64 0, .int .i64 0] 70)) = w0 at *
 have HG0 := Lib.hid (HLay.out.lt 1 rfl)
 have HB0 := Lib.hid HLay.out.1.size
 have x0_0 := (HLay.out.blk 0 rfl).cell 0
 have x0_1 := (HLay.out.blk 0 rfl).cell 1
 have x0_2 := (HLay.out.blk 0 rfl).cell 2
 have x0_3 := (HLay.out.blk 0 rfl).cell 3
 have l0_ := HLay.out.lt 0 rfl
 gi_wp2
 clear x0_0 x0_1 x0_2 x0_3 l0_
 have Y := IntsAt.new w0 3 [fountain] (w0.heap.size + 1) (by omega)
 have hb1 : Below w0.heap.size w0 (w0.alloc (.cells #[.int .i64 fountain] 3)) := (Below.refl _ _).alloc (Nat.le_refl _) _
 have hc := placed_in Av nv cv Aa na ca At nt ct m vessel after (some ⟨w0.heap.size, 0, none⟩) 1 1 [fountain] _ (HM.out.up (HLay.out.1.trans (hb1.mono HLay.out.1.size))) (Y.more (by simp)) (by decide)
 have hz1 : w0.heap.size ≤ (w0.alloc (.cells #[.int .i64 fountain] 3)).heap.size := by simp
 have HZ1 := Lib.hid hz1
 refine ⟨trivial, (callsIn_wide.2 (callsIn_wide.1 hc)).mono ?_⟩
 clear hc Y hz1
 generalize (w0.alloc (.cells #[.int .i64 fountain] 3)) = W00 at *
 rintro e W8 ⟨pp, s1, s2, rfl, hb, hp⟩
 have HP := Lib.hid hp
 have hbb := hb1.trans (hb.mono hb1.size)
 clear hb hb1 hp
 replace HLay := Lib.hid (HLay.out.below hbb)
 clear hbb
 obtain ⟨ee, hee⟩ : ∃ ee, askM m vessel after [fountain] = ee := ⟨_, rfl⟩
 rw [hee] at HP ⊢
 have HEE := Lib.hid hee
 clear hee
 by_cases h0 : ee = 0
 ·
  obtain ⟨hk, h1, h2, h3, h4, T, rfl, hTm, hTL, hTg, hT, hMX⟩ := HP.out h0
  have HMX := Lib.hid hMX
  subst h0
  subst h2
  obtain ⟨q, hq⟩ : ∃ q : Nat, s1 = q := ⟨s1.toNat, by omega⟩
  subst hq
  obtain ⟨k, hkk⟩ : ∃ k : Nat, s2 = k := ⟨s2.toNat, by omega⟩
  subst hkk
  have hv4 := (okMix_vess hk).1
  have HQ : Hid (q < 4 ∧ (q : Int) = idxV m.vessels vessel ∧ k ≤ m.acts.length) := Lib.hid ⟨by have := idxV_lt (l := m.vessels) (id := vessel) (by omega); omega, h1, by omega⟩
  have HOK : Hid (TbOk T) := Lib.hid ⟨by rw [hTm]; exact hk, by rw [hTm]; exact hTL⟩
  have HTM := Lib.hid hTm
  have HT := Lib.hid hT
  clear HP hk h1 h3 h4 hTm hTL hTg hT hv4 hMX
  gi_upto_region 2 with fail
  obtain ⟨V1, hV⟩ : ∃ V, (W8.alloc (.cells #[.int .i64 (q : Int), .int .i64 (k : Int)] 70)) = V := ⟨_, rfl⟩
  rw [hV]
  have hb := fbox_bel hV
  have hnew := fbox_blk hV
  have hge := HLay.out.bel.size
  replace HLay := Lib.hid (HLay.out.below hb)
  replace HT := Lib.hid (HT.out.below hb)
  replace HLay := Lib.hid (HLay.out.add hge hnew)
  clear hnew hge hb hV
  obtain ⟨G2, hG⟩ : ∃ g, W8.heap.size = g := ⟨_, rfl⟩
  rw [hG] at HLay ⊢
  clear hG
  replace HLay := Lib.hid (show Lay w V1 [(w.heap.size, 47, #[.int .i64 m.fountains, .slice Av nv cv, .slice Aa na ca, .slice At nt ct]), (w.heap.size + 1, 70, #[.int .i64 0, .int .i64 0]), (G2, 70, #[.int .i64 (q : Int), .int .i64 (k : Int)])] from HLay.out)
  gi_wp2
  have HTW := Lib.hid HT.out
  have HTD := Lib.hid HT.out.at_
  refine ⟨trivial, (callsIn_wide.2 (callsIn_wide.1 (told_in T fountain V1 HTD.out HOK.out))).mono ?_⟩
  rintro e W3 ⟨gU, b, A, n, c, rs, ms, rfl, hb, htr, hn, hcan, hb0⟩
  have HTR := Lib.hid htr
  have HN := Lib.hid hn
  have HCN := Lib.hid hcan
  have HBB := Lib.hid hb0
  clear htr hn hcan hb0
  replace HLay := Lib.hid (HLay.out.below hb)
  replace HT := Lib.hid (HT.out.below hb)
  clear hb
  cases b with
  | false =>
   have x1_0 := (HLay.out.blk 1 rfl).cell 0
   have z1_0 := (HLay.out.blk 1 rfl).frozen 0
   have x1_1 := (HLay.out.blk 1 rfl).cell 1
   have z1_1 := (HLay.out.blk 1 rfl).frozen 1
   have l1_ := HLay.out.lt 1 rfl
   have x2_0 := (HLay.out.blk 2 rfl).cell 0
   have x2_1 := (HLay.out.blk 2 rfl).cell 1
   have l2_ := HLay.out.lt 2 rfl
   gi_wp2
   gi_region
   all_goals gi_wp2
   all_goals
    have R2 := ret2' (HLay.out.blk 1 rfl) HLay.out.1 (HLay.out.ge 1 rfl) (.int .i64 ((q : Int))) (.int .i64 ((k : Int)))
    have v0 := R2.1.cell 0
    have v1 := R2.1.cell 1
    refine bodyPost_ret (v := .tuple #[.pointer none, .agg #[.int .i64 ((q : Int)), .int .i64 ((k : Int))], .int .i64 (8)]) (by simp [results, Tryd.results24, go_sem, v0, v1]) rfl ?_
    exact ⟨_, _, _, _, rfl, below_drewN R2.2.1 1, .inr ⟨HEE.out, T, HTM.out, HOK.out, .inl ⟨rfl, fun h => by have := HBB.out; rw [HTM.out] at this; have := this.2 h; cases this⟩⟩⟩
  | true =>
   have hg1 : w.heap.size + 1 < V1.heap.size := by have := HLay.out.lt 1 rfl; have := HG0.out; have := HTW.out.le.1; have := HZ1.out; omega
   have HG1 := Lib.hid hg1
   clear hg1
   have x1_0 := (HLay.out.blk 1 rfl).cell 0
   have z1_0 := (HLay.out.blk 1 rfl).frozen 0
   have x1_1 := (HLay.out.blk 1 rfl).cell 1
   have z1_1 := (HLay.out.blk 1 rfl).frozen 1
   have l1_ := HLay.out.lt 1 rfl
   have x2_0 := (HLay.out.blk 2 rfl).cell 0
   have x2_1 := (HLay.out.blk 2 rfl).cell 1
   have l2_ := HLay.out.lt 2 rfl
   gi_wp2
   gi_region
   all_goals gi_wp2
   all_goals
    have R2 := ret2' (HLay.out.blk 1 rfl) HLay.out.1 (HLay.out.ge 1 rfl) (.int .i64 ((q : Int))) (.int .i64 ((k : Int)))
    have v0 := R2.1.cell 0
    have v1 := R2.1.cell 1
    refine bodyPost_ret (v := .tuple #[.pointer (some ⟨gU, 0, none⟩), .agg #[.int .i64 ((q : Int)), .int .i64 ((k : Int))], .int .i64 (0)]) (by simp [results, Tryd.results24, go_sem, v0, v1]) rfl ?_
    have hTb := HT.out.off R2.2.2 (Nat.lt_of_lt_of_le HG0.out HZ1.out) (Nat.le_trans HB0.out HZ1.out) (HMX.out.1 _ _ (HM.out.at_.below R2.2.1))
    have hTr := ((HTR.out.off R2.2.2 HG1.out (HLay.out.blk 1 rfl)).at_ hTb.at_).below (below_drewN (Below.refl _ _) 1)
    refine ⟨_, _, _, _, rfl, below_drewN R2.2.1 1, .inr ⟨HEE.out, T, HTM.out, HOK.out, .inr ⟨rfl, by have := HBB.out; rw [HTM.out] at this; simpa using this, gU, A, n, c, rs, ms, q, k, rfl, rfl, rfl, HQ.out.1, HQ.out.2.1, rfl, HQ.out.2.2, hTr, by rw [← HTM.out]; exact HN.out, fun i mi hi => by rw [← HTM.out]; exact HCN.out i mi hi⟩⟩⟩
 ·
  have h0b : (ee == 0) = false := by simpa using h0
  have h0c : (ee != 0) = true := by simpa using h0
  have HE0 := Lib.hid h0
  clear h0 HP
  gi_upto_region 2 with fail
  obtain ⟨V4, hV⟩ : ∃ V, (W8.alloc (.cells #[.int .i64 s1, .int .i64 s2] 70)) = V := ⟨_, rfl⟩
  rw [hV]
  have hb := fbox_bel hV
  have hnew := fbox_blk hV
  have hge := HLay.out.bel.size
  replace HLay := Lib.hid (HLay.out.below hb)
  replace HLay := Lib.hid (HLay.out.add hge hnew)
  clear hnew hge hb hV
  obtain ⟨G5, hG⟩ : ∃ g, W8.heap.size = g := ⟨_, rfl⟩
  rw [hG] at HLay ⊢
  clear hG
  replace HLay := Lib.hid (show Lay w V4 [(w.heap.size, 47, #[.int .i64 m.fountains, .slice Av nv cv, .slice Aa na ca, .slice At nt ct]), (w.heap.size + 1, 70, #[.int .i64 0, .int .i64 0]), (G5, 70, #[.int .i64 s1, .int .i64 s2])] from HLay.out)
  have x1_0 := (HLay.out.blk 1 rfl).cell 0
  have z1_0 := (HLay.out.blk 1 rfl).frozen 0
  have x1_1 := (HLay.out.blk 1 rfl).cell 1
  have z1_1 := (HLay.out.blk 1 rfl).frozen 1
  have l1_ := HLay.out.lt 1 rfl
  have x2_0 := (HLay.out.blk 2 rfl).cell 0
  have x2_1 := (HLay.out.blk 2 rfl).cell 1
  have l2_ := HLay.out.lt 2 rfl
  gi_wp2
  gi_region
  all_goals gi_wp2
  all_goals
   have R2 := ret2' (HLay.out.blk 1 rfl) HLay.out.1 (HLay.out.ge 1 rfl) (.int .i64 (s1)) (.int .i64 (s2))
   have v0 := R2.1.cell 0
   have v1 := R2.1.cell 1
   refine bodyPost_ret (v := .tuple #[.pointer none, .agg #[.int .i64 (s1), .int .i64 (s2)], .int .i64 (ee)]) (by simp [results, Tryd.results24, go_sem, v0, v1]) rfl ?_
   exact ⟨_, _, _, _, rfl, below_drewN R2.2.1 1, .inl ⟨by rw [HEE.out]; exact HE0.out, HEE.out.symm⟩⟩

end Go.Proofs.YtjdgdeiedkickaaDoor.Mx
/- mix.Of, mix.Known, mix.Pure. -/
namespace Go.Proofs.YtjdgdeiedkickaaDoor.Mx
open Go.RowKit
theorem nodup_leN : ∀ {a b : List Nat}, a.Nodup → (∀ x ∈ a, x ∈ b) → a.length ≤ b.length
 | [], _, _, _ => by simp
 | x :: a, b, h, hs => by
  rw [List.nodup_cons] at h
  have hb : x ∈ b := hs x (by simp)
  have := nodup_leN (a := a) (b := b.erase x) h.2 (fun y hy => (List.mem_erase_of_ne (fun e => h.1 (by rw [← e]; exact hy))).2 (hs y (by simp [hy])))
  rw [List.length_erase_of_mem hb] at this
  have h0 : 0 < b.length := List.length_pos_of_mem hb
  simp; omega
def D4.num (x : D4) : Nat := x.a.toNat + 13 * x.b.toNat + 169 * x.c.toNat + 2197 * x.d.toNat
theorem can_len {m : List (D4 × Bool)} (hn : (m.map Prod.fst).Nodup) (h : ∀ p ∈ m, (0 ≤ p.1.a ∧ p.1.a ≤ 12) ∧ (0 ≤ p.1.b ∧ p.1.b ≤ 12) ∧ (0 ≤ p.1.c ∧ p.1.c ≤ 12) ∧ (0 ≤ p.1.d ∧ p.1.d ≤ 12)) : m.length ≤ 28561 := by
 have h1 : (m.map fun p => p.1.num).Nodup := by
  rw [List.Nodup, List.pairwise_map] at hn ⊢
  refine hn.imp_of_mem fun {p q} hp hq hne e => hne ?_
  have a := h p hp
  have b := h q hq
  obtain ⟨⟨x1, x2, x3, x4⟩, _⟩ := p
  obtain ⟨⟨y1, y2, y3, y4⟩, _⟩ := q
  unfold D4.num at e
  dsimp only at a b e ⊢
  congr 1 <;> omega
 have h2 := nodup_leN (b := List.range 28561) h1 (fun x hx => by
  obtain ⟨p, hp, rfl⟩ := List.mem_map.1 hx
  have a := h p hp
  unfold D4.num
  rw [List.mem_range]
  omega)
 simpa using h2
theorem can_small {m : Mix} {f : Int} {T : Tb} {k r : Nat} {W : World} {mk : List (D4 × Bool)} (hTm : T.m = m) (hok : TbOk T) (hk : k ≤ m.acts.length) (hm : CanMap W r mk) (hc : CanIs mk (Truth m f T.L k)) : mk.length ≤ 1000000 := by
 subst hTm
 have hL : k < T.L.length := by have := hok.long; omega
 have hr := allM_range hok.all hok.vess (okMix_ves hok.ok) (List.getElem?_eq_getElem hL)
 have := can_len (MapIs.nodup canTy hm) (fun p hp => by
  have h1 := (hc.keys p.1).1 ⟨p.2, hp⟩
  have h2 := h1.fits hok.all hok.vess (List.getElem?_eq_getElem hL)
  have a0 := h2.le 0 (by decide)
  have a1 := h2.le 1 (by decide)
  have a2 := h2.le 2 (by decide)
  have a3 := h2.le 3 (by decide)
  have b0 := hr.2 0
  have b1 := hr.2 1
  have b2 := hr.2 2
  have b3 := hr.2 3
  have e0 : heldAt p.1.toH (0 : Nat) = p.1.a := rfl
  have e1 : heldAt p.1.toH (1 : Nat) = p.1.b := rfl
  have e2 : heldAt p.1.toH (2 : Nat) = p.1.c := rfl
  have e3 : heldAt p.1.toH (3 : Nat) = p.1.d := rfl
  omega)
 omega
theorem ofq_ofp {m : Mix} {f vessel after : Int} {T : Tb} {q k : Nat} (hTm : T.m = m) (hok : TbOk T) (hqi : (q : Int) = idxV m.vessels vessel) (hka : (k : Int) = after) (hk : k ≤ m.acts.length) : ∀ n, OfQ (Truth m f T.L k) q n ↔ OfP m vessel after f T.L n := fun n => by
 subst hTm
 unfold OfQ OfP
 rw [← hqi, ← hka, Int.toNat_natCast]
 have hL : k < T.L.length := by have := hok.long; omega
 constructor
 ·rintro ⟨x, h1, h2⟩; exact ⟨_, h1, h2⟩
 ·rintro ⟨x, h1, h2⟩
  have e := toH_ofH (h1.fits hok.all hok.vess (List.getElem?_eq_getElem hL)).lh
  exact ⟨ofH x, by rw [e]; exact h1, by rw [e]; exact h2⟩
theorem ofq_some {m : Mix} {f : Int} {T : Tb} {q k : Nat} (hTm : T.m = m) (hok : TbOk T) (ht : Truth m f T.L 0 zeroH) (hk : k ≤ m.acts.length) : ∃ n, OfQ (Truth m f T.L k) q n := by
 subst hTm
 have hL : k < T.L.length := by have := hok.long; omega
 obtain ⟨s, hs⟩ := truth_all ht hk
 have e := toH_ofH (hs.fits hok.all hok.vess (List.getElem?_eq_getElem hL)).lh
 exact ⟨_, ofH s, by rw [e]; exact hs, rfl⟩
theorem ask_less {m : Mix} {vessel after : Int} {fs : List Int} (h : askM m vessel after fs = 0) : askM m vessel after [] = 0 := by
 unfold askM at h ⊢
 split at h
 ·rename_i h1
  rw [if_pos h1]
  split at h
  ·cases h
  ·rename_i h2
   rw [if_neg h2]
   split at h
   ·rename_i h3
    rw [if_pos ⟨h3.1, fun f hf => by cases hf⟩]
   ·cases h
 ·cases h
def AskAns (w' : World) (m : Mix) (vessel after fountain : Int) (p : Option Addr) (s1 s2 ee : Int) : Prop := (askM m vessel after [fountain] ≠ 0 ∧ ee = askM m vessel after [fountain]) ∨ (askM m vessel after [fountain] = 0 ∧ ∃ T : Tb, T.m = m ∧ TbOk T ∧
    ((ee = 8 ∧ ¬ Truth m fountain T.L 0 zeroH) ∨ (ee = 0 ∧ Truth m fountain T.L 0 zeroH ∧ ∃ gU A n c rs ms, ∃ q k : Nat, p = some ⟨gU, 0, none⟩ ∧ s1 = (q : Int) ∧ s2 = (k : Int) ∧ q < 4 ∧ (q : Int) = idxV m.vessels vessel ∧ (k : Int) = after ∧ k ≤ m.acts.length ∧ TrAt w' gU T fountain A n c rs ms ∧ n = m.acts.length + 1 ∧ ∀ (i : Nat) (mi : List (D4 × Bool)), ms[i]? = some mi → CanIs mi (Truth m fountain T.L i))))
theorem asked_ok {w' : World} {m : Mix} {vessel after fountain s1 s2 : Int} {p : Option Addr} (h : AskAns w' m vessel after fountain p s1 s2 0) : askM m vessel after [fountain] = 0 ∧ ∃ T : Tb, T.m = m ∧ TbOk T ∧ Truth m fountain T.L 0 zeroH ∧ ∃ gU A n c rs ms, ∃ q k : Nat, p = some ⟨gU, 0, none⟩ ∧ s1 = (q : Int) ∧ s2 = (k : Int) ∧ q < 4 ∧ (q : Int) = idxV m.vessels vessel ∧ (k : Int) = after ∧ k ≤ m.acts.length ∧ TrAt w' gU T fountain A n c rs ms ∧ n = m.acts.length + 1 ∧ ∀ (i : Nat) (mi : List (D4 × Bool)), ms[i]? = some mi → CanIs mi (Truth m fountain T.L i) := by
 rcases h with ⟨h0, h1⟩ | ⟨h0, T, h1, h2, ⟨h3, _⟩ | ⟨_, h4, h5⟩⟩
 ·exact absurd h1.symm h0
 ·cases h3
 ·exact ⟨h0, T, h1, h2, h4, h5⟩
theorem asked_bad {w' : World} {m : Mix} {vessel after fountain s1 s2 ee : Int} {p : Option Addr} (h : AskAns w' m vessel after fountain p s1 s2 ee) (he : ee ≠ 0) : OfIs m vessel after fountain (0, 0) ee := by
 rcases h with ⟨h0, h1⟩ | ⟨h0, T, h1, h2, ⟨h3, h4⟩ | ⟨h3, _⟩⟩
 ·exact .inl ⟨h0, rfl, h1⟩
 ·exact .inr ⟨h0, T.L, by rw [← h1]; exact h2.all, .inl ⟨h4, rfl, h3⟩⟩
 ·exact absurd h3 he
/-- What Of, Known and Pure hand back. -/
def OfOut (w : World) (m : Mix) (vessel after fountain : Int) (e : Ending) (w' : World) : Prop := ∃ lo hi ee : Int, e = .returned (.tuple #[.agg #[.int .i64 lo, .int .i64 hi], .int .i64 ee]) ∧ OfIs m vessel after fountain (lo, hi) ee ∧ Below w.heap.size w w'
def PureOut (w : World) (m : Mix) (vessel after fountain : Int) (e : Ending) (w' : World) : Prop := (∃ ee : Int, e = .returned (.tuple #[.int .u8 0, .int .i64 ee]) ∧ ee ≠ 0 ∧ OfIs m vessel after fountain (0, 0) ee ∧ Below w.heap.size w w') ∨
 ∃ lo hi n : Int, e = .returned (.tuple #[.int .u8 (judgeI (decide (lo = n)) (decide (hi = n))), .int .i64 0]) ∧ OfIs m vessel after fountain (lo, hi) 0 ∧ HoldsIs m vessel after n 0 ∧ Below w.heap.size w w'

set_option maxRecDepth 100000 in
set_option maxHeartbeats 8000000 in
theorem of_any (Av : Option Addr) (nv cv : Nat) (Aa : Option Addr) (na ca : Nat) (At : Option Addr) (nt ct : Nat) (m : Mix) (vessel after fountain : Int) (w : World) (h : MixS w Av nv Aa na At nt m) :
  CallsIn Fence.wide 9 Tryd.prog 11 #[.agg #[.int .i64 m.fountains, .slice Av nv cv, .slice Aa na ca, .slice At nt ct], .int .i64 vessel, .int .i64 after, .int .i64 fountain] w (OfOut w m vessel after fountain) := by
 have HM := Lib.hid h
 clear h
 refine callsIn_of_wp Tryd.func11 rfl trivial ?_ rfl
 simp only [Tryd.ntmps11, List.size_toArray, List.length_cons, List.length_nil, Nat.reduceAdd, Nat.reduceSub, Array.replicate_succ, Array.replicate_zero, List.push_toArray, List.append_toArray, List.nil_append, List.cons_append]
 gi_upto_region 1 with fail
 have HLay := Lib.hid (Lay.two w 47 #[.int .i64 m.fountains, .slice Av nv cv, .slice Aa na ca, .slice At nt ct] 27 #[.int .i64 0, .int .i64 0])
 generalize ((w.alloc (.cells #[.int .i64 m.fountains, .slice Av nv cv, .slice Aa na ca, .slice At nt ct] 47)).alloc (.cells #[.int .i64 0, .int .i64 0] 27)) = w0 at *
 have x0_0 := (HLay.out.blk 0 rfl).cell 0
 have x0_1 := (HLay.out.blk 0 rfl).cell 1
 have x0_2 := (HLay.out.blk 0 rfl).cell 2
 have x0_3 := (HLay.out.blk 0 rfl).cell 3
 have l0_ := HLay.out.lt 0 rfl
 gi_wp2
 clear x0_0 x0_1 x0_2 x0_3 l0_
 refine ⟨trivial, (callsIn_wide.2 (callsIn_wide.1 (asked_in Av nv cv Aa na ca At nt ct m vessel after fountain w0 (HM.out.up HLay.out.1)))).mono ?_⟩
 rintro e W1 ⟨pp, s1, s2, ee, rfl, hb, hc⟩
 have HC := Lib.hid hc
 clear hc
 replace HLay := Lib.hid (HLay.out.below hb)
 clear hb
 by_cases h0 : ee = 0
 ·
  subst h0
  obtain ⟨h1, T, hTm, hok, ht, gU, A, n, c, rs, ms, q, k, rfl, rfl, rfl, hq4, hqi, hka, hkl, htr, hn, hcan⟩ := asked_ok HC.out
  have HF : Hid (∀ lo hi : Int, IsSpan (OfQ (Truth m fountain T.L k) q) (lo, hi) → OfIs m vessel after fountain (lo, hi) 0) := Lib.hid fun lo hi hs => .inr ⟨h1, T.L, by rw [← hTm]; exact hok.all, .inr ⟨ht, rfl, hs.congr (ofq_ofp hTm hok hqi hka hkl)⟩⟩
  have hkr : k < rs.length := by have := htr.rd.1; simp at this; omega
  have hkm : k < ms.length := by have := htr.len; omega
  have HRK : Hid (rs[k]? = some rs[k]) := Lib.hid (List.getElem?_eq_getElem hkr)
  have HMK : Hid (ms[k]? = some ms[k]) := Lib.hid (List.getElem?_eq_getElem hkm)
  have HCM : Hid (CanIs ms[k] (Truth m fountain T.L k)) := Lib.hid (hcan k _ HMK.out)
  have HML : Hid (ms[k].length ≤ 1000000) := Lib.hid (can_small hTm hok hkl (htr.maps k _ _ HRK.out HMK.out) HCM.out)
  have HEX : Hid (∃ n, OfQ (Truth m fountain T.L k) q n) := Lib.hid (ofq_some hTm hok ht hkl)
  have HTR := Lib.hid htr
  have HQ4 := Lib.hid hq4
  clear HC h1 hTm hok ht hqi hka hkl htr hn hcan hq4
  gi_upto_region 2 with fail
  obtain ⟨V2, hV⟩ : ∃ V, (W1.alloc (.cells #[.int .i64 (q : Int), .int .i64 (k : Int)] 70)) = V := ⟨_, rfl⟩
  rw [hV]
  have hb := fbox_bel hV
  have hnew := fbox_blk hV
  have hge := HLay.out.bel.size
  replace HLay := Lib.hid (HLay.out.below hb)
  replace HTR := Lib.hid (HTR.out.below hb)
  replace HLay := Lib.hid (HLay.out.add hge hnew)
  clear hnew hge hb hV
  obtain ⟨G3, hG⟩ : ∃ g, W1.heap.size = g := ⟨_, rfl⟩
  rw [hG] at HLay ⊢
  clear hG
  replace HLay := Lib.hid (show Lay w V2 [(w.heap.size, 47, #[.int .i64 m.fountains, .slice Av nv cv, .slice Aa na ca, .slice At nt ct]), (w.heap.size + 1, 27, #[.int .i64 0, .int .i64 0]), (G3, 70, #[.int .i64 (q : Int), .int .i64 (k : Int)])] from HLay.out)
  have x2_0 := (HLay.out.blk 2 rfl).cell 0
  have x2_1 := (HLay.out.blk 2 rfl).cell 1
  have l2_ := HLay.out.lt 2 rfl
  gi_wp2
  clear x2_0 x2_1 l2_
  refine ⟨trivial, (callsIn_wide.2 (callsIn_wide.1 (of_in gU T fountain A n c rs ms q k rs[k] ms[k] (Truth m fountain T.L k) V2 HTR.out HRK.out HMK.out HCM.out HML.out HQ4.out HEX.out))).mono ?_⟩
  rintro e W4 ⟨lo, hi, rfl, hsp, hb⟩
  have HSP := Lib.hid (HF.out lo hi hsp)
  clear hsp
  replace HLay := Lib.hid (HLay.out.below hb)
  replace HTR := Lib.hid (HTR.out.below hb)
  clear hb
  have x1_0 := (HLay.out.blk 1 rfl).cell 0
  have z1_0 := (HLay.out.blk 1 rfl).frozen 0
  have x1_1 := (HLay.out.blk 1 rfl).cell 1
  have z1_1 := (HLay.out.blk 1 rfl).frozen 1
  have l1_ := HLay.out.lt 1 rfl
  gi_wp2
  have R2 := ret2' (HLay.out.blk 1 rfl) HLay.out.1 (HLay.out.ge 1 rfl) (.int .i64 (lo)) (.int .i64 (hi))
  have v0 := R2.1.cell 0
  have v1 := R2.1.cell 1
  refine bodyPost_ret (v := .tuple #[.agg #[.int .i64 (lo), .int .i64 (hi)], .int .i64 (0)]) (by simp [results, Tryd.results11, go_sem, v0, v1]) rfl ?_
  exact ⟨lo, hi, 0, rfl, HSP.out, R2.2.1⟩
 ·
  have h0b : (ee == 0) = false := by simpa using h0
  have h0c : (ee != 0) = true := by simpa using h0
  have HF : Hid (OfIs m vessel after fountain (0, 0) ee) := Lib.hid (asked_bad HC.out h0)
  clear h0 HC
  gi_upto_region 2 with fail
  obtain ⟨V5, hV⟩ : ∃ V, (W1.alloc (.cells #[.int .i64 s1, .int .i64 s2] 70)) = V := ⟨_, rfl⟩
  rw [hV]
  have hb := fbox_bel hV
  have hnew := fbox_blk hV
  have hge := HLay.out.bel.size
  replace HLay := Lib.hid (HLay.out.below hb)
  replace HLay := Lib.hid (HLay.out.add hge hnew)
  clear hnew hge hb hV
  obtain ⟨G6, hG⟩ : ∃ g, W1.heap.size = g := ⟨_, rfl⟩
  rw [hG] at HLay ⊢
  clear hG
  replace HLay := Lib.hid (show Lay w V5 [(w.heap.size, 47, #[.int .i64 m.fountains, .slice Av nv cv, .slice Aa na ca, .slice At nt ct]), (w.heap.size + 1, 27, #[.int .i64 0, .int .i64 0]), (G6, 70, #[.int .i64 s1, .int .i64 s2])] from HLay.out)
  have x1_0 := (HLay.out.blk 1 rfl).cell 0
  have z1_0 := (HLay.out.blk 1 rfl).frozen 0
  have x1_1 := (HLay.out.blk 1 rfl).cell 1
  have z1_1 := (HLay.out.blk 1 rfl).frozen 1
  have l1_ := HLay.out.lt 1 rfl
  have x2_0 := (HLay.out.blk 2 rfl).cell 0
  have x2_1 := (HLay.out.blk 2 rfl).cell 1
  have l2_ := HLay.out.lt 2 rfl
  gi_wp2
  have R2 := ret2' (HLay.out.blk 1 rfl) HLay.out.1 (HLay.out.ge 1 rfl) (.int .i64 (0)) (.int .i64 (0))
  have v0 := R2.1.cell 0
  have v1 := R2.1.cell 1
  refine bodyPost_ret (v := .tuple #[.agg #[.int .i64 (0), .int .i64 (0)], .int .i64 (ee)]) (by simp [results, Tryd.results11, go_sem, v0, v1]) rfl ?_
  exact ⟨0, 0, ee, rfl, HF.out, R2.2.1⟩

theorem judged_any (a b : Bool) (w : World) : Calls Tryd.prog 26 #[.bool a, .bool b] w fun e w' => e = .returned (.int .u8 (judgeI a b)) ∧ w = w' := by
 cases a <;> cases b <;>
 ·go_enter Tryd.func26, Tryd.ntmps26
  go_wp2
  go_ret
  exact ⟨rfl, rfl⟩

set_option maxRecDepth 100000 in
set_option maxHeartbeats 8000000 in
theorem pure_any (Av : Option Addr) (nv cv : Nat) (Aa : Option Addr) (na ca : Nat) (At : Option Addr) (nt ct : Nat) (m : Mix) (vessel after fountain : Int) (w : World) (h : MixS w Av nv Aa na At nt m) :
  CallsIn Fence.wide 9 Tryd.prog 12 #[.agg #[.int .i64 m.fountains, .slice Av nv cv, .slice Aa na ca, .slice At nt ct], .int .i64 vessel, .int .i64 after, .int .i64 fountain] w (PureOut w m vessel after fountain) := by
 have HM := Lib.hid h
 clear h
 refine callsIn_of_wp Tryd.func12 rfl trivial ?_ rfl
 simp only [Tryd.ntmps12, List.size_toArray, List.length_cons, List.length_nil, Nat.reduceAdd, Nat.reduceSub, Array.replicate_succ, Array.replicate_zero, List.push_toArray, List.append_toArray, List.nil_append, List.cons_append]
 gi_upto_region 1 with fail
 have HLay := Lib.hid (Lay.one w 47 #[.int .i64 m.fountains, .slice Av nv cv, .slice Aa na ca, .slice At nt ct])
 generalize (w.alloc (.cells #[.int .i64 m.fountains, .slice Av nv cv, .slice Aa na ca, .slice At nt ct] 47)) = w0 at *
 have x0_0 := (HLay.out.blk 0 rfl).cell 0
 have x0_1 := (HLay.out.blk 0 rfl).cell 1
 have x0_2 := (HLay.out.blk 0 rfl).cell 2
 have x0_3 := (HLay.out.blk 0 rfl).cell 3
 have l0_ := HLay.out.lt 0 rfl
 gi_wp2
 clear x0_0 x0_1 x0_2 x0_3 l0_
 refine ⟨trivial, (callsIn_wide.2 (callsIn_wide.1 (asked_in Av nv cv Aa na ca At nt ct m vessel after fountain w0 (HM.out.up HLay.out.1)))).mono ?_⟩
 rintro e W1 ⟨pp, s1, s2, ee, rfl, hb, hc⟩
 have HC := Lib.hid hc
 clear hc
 replace HLay := Lib.hid (HLay.out.below hb)
 clear hb
 by_cases h0 : ee = 0
 ·
  subst h0
  obtain ⟨h1, T, hTm, hok, ht, gU, A, n, c, rs, ms, q, k, rfl, rfl, rfl, hq4, hqi, hka, hkl, htr, hn, hcan⟩ := asked_ok HC.out
  have hkL : k < T.L.length := by have := hok.long; rw [hTm] at this; omega
  obtain ⟨all, hall⟩ : ∃ all, T.L[k]? = some all := ⟨_, List.getElem?_eq_getElem hkL⟩
  have HF : Hid (∀ lo hi : Int, IsSpan (OfQ (Truth m fountain T.L k) q) (lo, hi) → OfIs m vessel after fountain (lo, hi) 0 ∧ HoldsIs m vessel after (heldAt all (q : Int)) 0) := Lib.hid fun lo hi hs => ⟨.inr ⟨h1, T.L, by rw [← hTm]; exact hok.all, .inr ⟨ht, rfl, hs.congr (ofq_ofp hTm hok hqi hka hkl)⟩⟩, .inr ⟨ask_less h1, rfl, T.L, all, by rw [← hTm]; exact hok.all, by rw [← hka]; exact hall, by rw [hqi]⟩⟩
  have hkr : k < rs.length := by have := htr.rd.1; simp at this; omega
  have hkm : k < ms.length := by have := htr.len; omega
  have HRK : Hid (rs[k]? = some rs[k]) := Lib.hid (List.getElem?_eq_getElem hkr)
  have HMK : Hid (ms[k]? = some ms[k]) := Lib.hid (List.getElem?_eq_getElem hkm)
  have HCM : Hid (CanIs ms[k] (Truth m fountain T.L k)) := Lib.hid (hcan k _ HMK.out)
  have HML : Hid (ms[k].length ≤ 1000000) := Lib.hid (can_small hTm hok hkl (htr.maps k _ _ HRK.out HMK.out) HCM.out)
  have HEX : Hid (∃ n, OfQ (Truth m fountain T.L k) q n) := Lib.hid (ofq_some hTm hok ht hkl)
  have hkl2 : k < T.nl := by have := recs_n heldC_k (by omega) htr.tb.all; omega
  obtain ⟨bl, ol, all', hAL, hbl, hall', hcl⟩ := recs_cell heldC_k (by omega) htr.tb.all hkl2
  rw [hall] at hall'
  obtain rfl : all = all' := Option.some.inj hall'
  have HTR := Lib.hid htr
  have HTR0 := Lib.hid htr
  have HQ4 := Lib.hid hq4
  have HAL := Lib.hid hAL
  have HBL := Lib.hid hbl
  have HCE := Lib.hid (hcl q _ (heldC_l all hq4))
  have HKL := Lib.hid hkl2
  clear HC h1 hTm hok ht hqi hka hkl htr hn hcan hq4 hkL hall hall' hAL hbl hcl hkl2
  have B00 := Lib.hid (Below.refl W1.heap.size W1)
  gi_upto_region 4 with fail
  obtain ⟨V2, hV⟩ : ∃ V, (W1.alloc (.cells #[.int .i64 (q : Int), .int .i64 (k : Int)] 70)) = V := ⟨_, rfl⟩
  rw [hV]
  have hb := fbox_bel hV
  have hnew := fbox_blk hV
  have hge := HLay.out.bel.size
  replace HLay := Lib.hid (HLay.out.below hb)
  replace HTR := Lib.hid (HTR.out.below hb)
  replace B00 := Lib.hid (B00.out.trans (hb.mono B00.out.size))
  replace HLay := Lib.hid (HLay.out.add hge hnew)
  clear hnew hge hb hV
  obtain ⟨G3, hG⟩ : ∃ g, W1.heap.size = g := ⟨_, rfl⟩
  rw [hG] at HLay ⊢
  clear hG
  replace HLay := Lib.hid (show Lay w V2 [(w.heap.size, 47, #[.int .i64 m.fountains, .slice Av nv cv, .slice Aa na ca, .slice At nt ct]), (G3, 70, #[.int .i64 (q : Int), .int .i64 (k : Int)])] from HLay.out)
  have HLay0 := Lib.hid HLay.out
  refine wpIn_flow_new [([true, true, true, true, true, true, true, true, true, true, true, true, true, true, true, true], 16)] [false, false, false, false, false, false, false, false, false, false, false, false, false, false, false, false, false, false, true] [false, false, false, false, false, false, false, false, false, false, false, false, false, false, false, false, false, false, false, true] 17 (fun b => .pointer (some ⟨b, 0, none⟩)) 27 #[.int .i64 0, .int .i64 0] (by kernel_rfl) (by kernel_rfl) (by kernel_rfl) (below_drewN (Below.refl _ _) 1) rfl rfl rfl (fun _ _ => rfl) (fun _ _ => rfl) ?_
  refine wpFlow_cons (A := ?AF1) rfl ?hq1 ?_
  case hq1 =>
   rintro σ hσ of hof hcl
   have HOF := Lib.hid hof
   have HCL := Lib.hid hcl
   clear hof hcl
   have c0_ : ∀ z, (of z).cell? ⟨G3, 0, none⟩ = some (.int .i64 (q : Int)) := fun z => ((HLay.out.below (HOF.out z)).blk 1 rfl).cell 0
   have c1_ : ∀ z, (of z).cell? ⟨G3, 1, none⟩ = some (.int .i64 (k : Int)) := fun z => ((HLay.out.below (HOF.out z)).blk 1 rfl).cell 1
   have hfw : ∀ f, Fence.wide.fn f := fun _ => trivial
   have u0 : ∀ z, (of z).cell? ⟨gU, 0, none⟩ = some (.pointer (some ⟨T.g, 0, none⟩)) := fun z => (HTR0.out.blk.below (B00.out.trans ((HOF.out z).mono B00.out.size)) HTR0.out.blk.lt).cell 0
   have t4 : ∀ z, (of z).cell? ⟨T.g, 4, none⟩ = some (.slice (some ⟨bl, ol, none⟩) T.nl T.cl) := fun z => by have := (HTR0.out.tb.below (B00.out.trans ((HOF.out z).mono B00.out.size))).blk.cell 4; rw [← HAL.out]; exact this
   have ch : ∀ z, (of z).cell? ⟨bl, ol + k * 4 + q, none⟩ = some (.int .i64 (heldAt all (q : Int))) := fun z => ((B00.out.trans ((HOF.out z).mono B00.out.size)).cell (p := ⟨bl, ol + k * 4 + q, none⟩) HBL.out).trans HCE.out
   have hkl := HKL.out
   have hq4 := HQ4.out
   simp only [pickB]
   repeat (gi_big_quiet_step (fail))
   refine wpQuietIn_nil ?_
   exact rfl
  intro W4 hW
  replace HLay := Lib.hid (HLay.out.below hW)
  replace HTR := Lib.hid (HTR.out.below hW)
  replace B00 := Lib.hid (B00.out.trans (hW.mono B00.out.size))
  clear hW
  gi_wp2
  refine ⟨trivial, (callsIn_wide.2 (callsIn_wide.1 (of_in gU T fountain A n c rs ms q k rs[k] ms[k] (Truth m fountain T.L k) W4 HTR.out HRK.out HMK.out HCM.out HML.out HQ4.out HEX.out))).mono ?_⟩
  rintro e W5 ⟨lo, hi, rfl, hsp, hb⟩
  have HSP := Lib.hid (HF.out lo hi hsp)
  clear hsp
  replace HLay := Lib.hid (HLay.out.below hb)
  replace HTR := Lib.hid (HTR.out.below hb)
  replace B00 := Lib.hid (B00.out.trans (hb.mono B00.out.size))
  gi_wp2
  refine ⟨trivial, hb, ?_⟩
  clear hb
  refine wpFlow_nil (A := ?AF2) ?hq2 ?_
  case hq2 =>
   rintro σ hσ of hof hcl
   have HOF := Lib.hid hof
   have HCL := Lib.hid hcl
   clear hof hcl
   have c0_ : ∀ z, (of z).cell? ⟨G3, 0, none⟩ = some (.int .i64 (q : Int)) := fun z => ((HLay.out.below (HOF.out z)).blk 1 rfl).cell 0
   have c1_ : ∀ z, (of z).cell? ⟨G3, 1, none⟩ = some (.int .i64 (k : Int)) := fun z => ((HLay.out.below (HOF.out z)).blk 1 rfl).cell 1
   have hfw : ∀ f, Fence.wide.fn f := fun _ => trivial
   have u0 : ∀ z, (of z).cell? ⟨gU, 0, none⟩ = some (.pointer (some ⟨T.g, 0, none⟩)) := fun z => (HTR0.out.blk.below (B00.out.trans ((HOF.out z).mono B00.out.size)) HTR0.out.blk.lt).cell 0
   have t4 : ∀ z, (of z).cell? ⟨T.g, 4, none⟩ = some (.slice (some ⟨bl, ol, none⟩) T.nl T.cl) := fun z => by have := (HTR0.out.tb.below (B00.out.trans ((HOF.out z).mono B00.out.size))).blk.cell 4; rw [← HAL.out]; exact this
   have ch : ∀ z, (of z).cell? ⟨bl, ol + k * 4 + q, none⟩ = some (.int .i64 (heldAt all (q : Int))) := fun z => ((B00.out.trans ((HOF.out z).mono B00.out.size)).cell (p := ⟨bl, ol + k * 4 + q, none⟩) HBL.out).trans HCE.out
   have hkl := HKL.out
   have hq4 := HQ4.out
   simp only [pickB]
   repeat (gi_big_quiet_step (fail))
   refine wpQuietIn_nil ?_
   exact rfl
  intro bN W6 hW hbg hbb hbi
  replace HLay := Lib.hid (HLay.out.below hW)
  replace HTR := Lib.hid (HTR.out.below hW)
  replace B00 := Lib.hid (B00.out.trans (hW.mono B00.out.size))
  have c0 := hbb.cell 0
  have z0 := hbb.frozen 0
  have c1 := hbb.cell 1
  have z1 := hbb.frozen 1
  have hbl := hbb.lt
  have hbw : w.heap.size ≤ bN := Nat.le_trans (HLay0.out.1.size) hbg
  simp only [pickB]
  refine wpT_cons ?_
  gi_wp2
  refine wpT_nil ?_
  have R3 := ret2' hbb (Below.refl bN W6) (Nat.le_refl _) (.int .i64 lo) (.int .i64 hi)
  have HLay9 := Lib.hid (Lay.add (w := w) (bs := [(w.heap.size, 47, #[.int .i64 m.fountains, .slice Av nv cv, .slice Aa na ca, .slice At nt ct]), (G3, 70, #[.int .i64 (q : Int), .int .i64 (k : Int)])]) ⟨HLay.out.1.trans (R3.2.1.mono hbw), fun p hp => ⟨(HLay.out.2 p hp).1, (HLay.out.2 p hp).2.below R3.2.1 (by have := (HLay0.out.2 p hp).2.lt; omega)⟩⟩ hbw R3.1)
  generalize ((W6.setCell ⟨bN, 0, none⟩ (.int .i64 lo)).setCell ⟨bN, 1, none⟩ (.int .i64 hi)) = W99 at *
  clear c0 z0 c1 z1 hbl hbb hW hbg R3
  replace HLay := HLay9
  have x2_0 := (HLay.out.blk 2 rfl).cell 0
  have x2_1 := (HLay.out.blk 2 rfl).cell 1
  have l2_ := HLay.out.lt 2 rfl
  gi_wp2
  clear x2_0 x2_1 l2_
  have e1 : (lo == heldAt all (q : Int)) = decide (lo = heldAt all (q : Int)) := by by_cases h : lo = heldAt all (q : Int) <;> simp [h]
  have e2 : (hi == heldAt all (q : Int)) = decide (hi = heldAt all (q : Int)) := by by_cases h : hi = heldAt all (q : Int) <;> simp [h]
  rw [e1, e2]
  refine ⟨trivial, (callsIn_wide.2 (judged_any (decide (lo = heldAt all (q : Int))) (decide (hi = heldAt all (q : Int))) W99)).mono ?_⟩
  rintro e W12 ⟨rfl, rfl⟩
  clear e1 e2
  gi_wp2
  refine bodyPost_ret (v := .tuple #[.int .u8 (judgeI (decide (lo = heldAt all (q : Int))) (decide (hi = heldAt all (q : Int)))), .int .i64 0]) (by simp [results, Tryd.results12, go_sem]) rfl ?_
  exact .inr ⟨lo, hi, heldAt all (q : Int), rfl, HSP.out.1, HSP.out.2, HLay.out.1⟩
 ·
  have h0b : (ee == 0) = false := by simpa using h0
  have h0c : (ee != 0) = true := by simpa using h0
  have HF : Hid (OfIs m vessel after fountain (0, 0) ee) := Lib.hid (asked_bad HC.out h0)
  have H0 := Lib.hid h0
  clear h0 HC
  gi_upto_region 2 with fail
  obtain ⟨V7, hV⟩ : ∃ V, (W1.alloc (.cells #[.int .i64 s1, .int .i64 s2] 70)) = V := ⟨_, rfl⟩
  rw [hV]
  have hb := fbox_bel hV
  have hnew := fbox_blk hV
  have hge := HLay.out.bel.size
  replace HLay := Lib.hid (HLay.out.below hb)
  replace HLay := Lib.hid (HLay.out.add hge hnew)
  clear hnew hge hb hV
  obtain ⟨G8, hG⟩ : ∃ g, W1.heap.size = g := ⟨_, rfl⟩
  rw [hG] at HLay ⊢
  clear hG
  replace HLay := Lib.hid (show Lay w V7 [(w.heap.size, 47, #[.int .i64 m.fountains, .slice Av nv cv, .slice Aa na ca, .slice At nt ct]), (G8, 70, #[.int .i64 s1, .int .i64 s2])] from HLay.out)
  gi_wp2
  refine bodyPost_ret (v := .tuple #[.int .u8 0, .int .i64 ee]) (by simp [results, Tryd.results12, go_sem]) rfl ?_
  exact .inl ⟨ee, rfl, H0.out, HF.out, HLay.out.1⟩

end Go.Proofs.YtjdgdeiedkickaaDoor.Mx
/- What Pure tells, as a predicate that one answer alone meets. -/
namespace Go.Proofs.YtjdgdeiedkickaaDoor.Mx
open Go.RowKit

def PureIs (m : Mix) (v a f k e : Int) : Prop := (e ≠ 0 ∧ k = 0 ∧ OfIs m v a f (0, 0) e) ∨ (e = 0 ∧ ∃ lo hi n : Int, k = judgeI (decide (lo = n)) (decide (hi = n)) ∧ OfIs m v a f (lo, hi) 0 ∧ HoldsIs m v a n 0)
theorem PureIs.same {m : Mix} {v a f k e k' e' : Int} (h : PureIs m v a f k e) (h' : PureIs m v a f k' e') : k = k' ∧ e = e' := by
 rcases h with ⟨h0, rfl, h1⟩ | ⟨rfl, lo, hi, n, rfl, h1, h2⟩ <;> rcases h' with ⟨k0, rfl, k1⟩ | ⟨rfl, lo', hi', n', rfl, k1, k2⟩
 ·exact ⟨rfl, (OfIs.same h1 k1).2⟩
 ·exact absurd (OfIs.same h1 k1).2 h0
 ·exact absurd (OfIs.same k1 h1).2 k0
 ·obtain ⟨e1, _⟩ := OfIs.same h1 k1
  obtain ⟨rfl, _⟩ := HoldsIs.same h2 k2
  obtain ⟨rfl, rfl⟩ : lo = lo' ∧ hi = hi' := ⟨congrArg Prod.fst e1, congrArg Prod.snd e1⟩
  exact ⟨rfl, rfl⟩
theorem pure_form {w : World} {m : Mix} {v a f : Int} {e : Ending} {w' : World} (h : PureOut w m v a f e w') : ∃ k ee : Int, e = .returned (.tuple #[.int .u8 k, .int .i64 ee]) ∧ PureIs m v a f k ee ∧ Below w.heap.size w w' := by
 rcases h with ⟨ee, h1, h2, h3, h4⟩ | ⟨lo, hi, n, h1, h2, h3, h4⟩
 ·exact ⟨0, ee, h1, .inl ⟨h2, rfl, h3⟩, h4⟩
 ·exact ⟨_, 0, h1, .inr ⟨rfl, lo, hi, n, rfl, h2, h3⟩, h4⟩
end Go.Proofs.YtjdgdeiedkickaaDoor.Mx
/- What Safe tells, as a predicate that one answer alone meets (plain). -/
namespace Go.Proofs.YtjdgdeiedkickaaDoor.Mx

def safeG (m : Mix) (a b f : Int) : Int := if okMix m = true then (if idxV m.vessels a < 0 ∨ idxV m.vessels b < 0 then 6 else if 1 ≤ f ∧ f ≤ m.fountains then 0 else 2) else 40
def SafeIs (m : Mix) (a b n f k e : Int) : Prop :=
 (safeG m a b f ≠ 0 ∧ k = 0 ∧ e = safeG m a b f) ∨ (safeG m a b f = 0 ∧ (doM m ⟨2, a, b, n⟩).2 ≠ 0 ∧ k = 0 ∧ e = (doM m ⟨2, a, b, n⟩).2) ∨
  (safeG m a b f = 0 ∧ (doM m ⟨2, a, b, n⟩).2 = 0 ∧ PureIs (doM m ⟨2, a, b, n⟩).1 b ((doM m ⟨2, a, b, n⟩).1.acts.length : Int) f k e)
theorem SafeIs.same {m : Mix} {a b n f k e k' e' : Int} (h : SafeIs m a b n f k e) (h' : SafeIs m a b n f k' e') : k = k' ∧ e = e' := by
 rcases h with ⟨h0, rfl, rfl⟩ | ⟨h0, h1, rfl, rfl⟩ | ⟨h0, h1, h2⟩ <;> rcases h' with ⟨k0, rfl, rfl⟩ | ⟨k0, k1, rfl, rfl⟩ | ⟨k0, k1, k2⟩
 ·exact ⟨rfl, rfl⟩
 ·exact absurd k0 h0
 ·exact absurd k0 h0
 ·exact absurd h0 k0
 ·exact ⟨rfl, rfl⟩
 ·exact absurd k1 h1
 ·exact absurd h0 k0
 ·exact absurd h1 k1
 ·exact h2.same k2
end Go.Proofs.YtjdgdeiedkickaaDoor.Mx
/- All drops followed one by one: of each fountain they make a run (plain). -/
namespace Go.Proofs.YtjdgdeiedkickaaDoor.Mx
set_option linter.unusedSectionVars false

/-- Of which fountains' drops the vessels hold. -/
abbrev Heaps := List (List Int)
def hpAt (H : Heaps) (i : Int) : List Int := (H[i.toNat]?).getD []
def sendH (H : Heaps) (fr to : Int) (left drops : List Int) : Heaps :=
 let H1 := if 0 ≤ fr then H.set fr.toNat left else H
 if 0 ≤ to then H1.set to.toNat (hpAt H1 to ++ drops) else H1
/-- An act has sent these drops, from one vessel to another. -/
def SentP (m : Mix) (x : MAct) (H : Heaps) (drops : List Int) (H' : Heaps) : Prop :=
 ∃ left, (x.kind = 1 → drops = List.replicate x.drops.toNat x.fr) ∧ (x.kind ≠ 1 → (drops ++ left).Perm (hpAt H (fromI m x))) ∧ (x.kind = 4 → left = []) ∧ (x.kind ≠ 4 → drops.length = x.drops.toNat) ∧ H' = sendH H (fromI m x) (toI m x) left drops
structure Went (m : Mix) (n : Nat) (H : Nat → Heaps) (Dr : Nat → List Int) : Prop where
 zero : H 0 = [[], [], [], []]
 step : ∀ {t : Nat} {x : MAct}, t < n → m.acts[t]? = some x → SentP m x (H t) (Dr t) (H (t + 1))
section
variable {m : Mix} {A : List Held} {f : Int} {H : Nat → Heaps} {Dr : Nat → List Int} {n : Nat}
theorem send_len (H : Heaps) (fr to : Int) (l d : List Int) : (sendH H fr to l d).length = H.length := by
 unfold sendH
 dsimp only
 split <;> split <;> simp
theorem hpAt_set {H : Heaps} {i j : Int} {l : List Int} (hi : 0 ≤ i) (hj : 0 ≤ j) (hl : i < H.length) : hpAt (H.set i.toNat l) j = if j = i then l else hpAt H j := by
 unfold hpAt
 rw [List.getElem?_set]
 by_cases e : j = i
 ·subst e
  rw [if_pos rfl, if_pos rfl, if_pos (by omega)]
  rfl
 ·rw [if_neg (by omega), if_neg e]
/-- Another vessel's. -/
theorem send_at {H : Heaps} {fr to : Int} {l d : List Int} (hH : H.length = 4) (hf : fr < 4) (ht : to < 4) (hne : fr ≠ to ∨ fr < 0) {i : Nat} (hi : i < 4) :
  hpAt (sendH H fr to l d) i = if (i : Int) = fr then l else if (i : Int) = to then hpAt H i ++ d else hpAt H i := by
 unfold sendH
 dsimp only
 by_cases h1 : 0 ≤ fr
 ·rw [if_pos h1]
  have hne' : to ≠ fr := by omega
  by_cases h2 : 0 ≤ to
  ·rw [if_pos h2, hpAt_set h2 (by omega) (by rw [List.length_set]; omega), hpAt_set h1 h2 (by omega), hpAt_set h1 (by omega) (by omega), if_neg hne']
   by_cases p : (i : Int) = to
   ·rw [if_pos p, if_neg (by omega), if_pos p, p]
   ·rw [if_neg p]
    by_cases q : (i : Int) = fr
    ·rw [if_pos q, if_pos q]
    ·rw [if_neg q, if_neg q, if_neg p]
  ·rw [if_neg h2, hpAt_set h1 (by omega) (by omega)]
   by_cases q : (i : Int) = fr
   ·rw [if_pos q, if_pos q]
   ·rw [if_neg q, if_neg q, if_neg (by omega)]
 ·rw [if_neg h1]
  by_cases h2 : 0 ≤ to
  ·rw [if_pos h2, hpAt_set h2 (by omega) (by omega)]
   by_cases p : (i : Int) = to
   ·rw [if_pos p, if_neg (by omega), if_pos p, p]
   ·rw [if_neg p, if_neg (by omega), if_neg p]
  ·rw [if_neg h2, if_neg (by omega), if_neg (by omega)]
theorem ends_apart {all : Held} {x : MAct} (h : ActOk m all x) : fromI m x ≠ toI m x ∨ fromI m x < 0 := by
 unfold fromI toI
 by_cases e1 : x.kind = 1
 ·right; rw [if_pos e1]; decide
 ·by_cases e2 : x.kind = 2
  ·left
   have := h.apart e2
   simp only [e2]
   simpa using this
  ·left
   have := h.from_ e1
   rw [if_neg e1, if_neg (by omega)]
   omega
theorem Went.len (h : Went m n H Dr) (hn : n ≤ m.acts.length) : ∀ {t : Nat}, t ≤ n → (H t).length = 4
 | 0, _ => by rw [h.zero]; rfl
 | t + 1, ht => by
  have hx : m.acts[t]? = some (m.acts[t]'(by omega)) := List.getElem?_eq_getElem (by omega)
  obtain ⟨left, _, _, _, _, e⟩ := h.step (by omega) hx
  rw [e, send_len]
  exact h.len hn (by omega)
/-- As many drops as the vessels hold. -/
theorem Went.holds (hA : allM m m.acts = some A) (hv : m.vessels.length ≤ 4) (h : Went m n H Dr) (hn : n ≤ m.acts.length) : ∀ {t : Nat} {a : Held} {i : Nat}, t ≤ n → A[t]? = some a → i < 4 → ((hpAt (H t) i).length : Int) = heldAt a i
 | 0, a, i, _, ha, hi => by
  rw [allM_zero hA] at ha
  cases ha
  rw [h.zero]
  match i, hi with
  | 0, _ => rfl
  | 1, _ => rfl
  | 2, _ => rfl
  | 3, _ => rfl
 | t + 1, a', i, ht, ha, hi => by
  have hl := allM_len m m.acts A hA
  have hx : m.acts[t]? = some (m.acts[t]'(by omega)) := List.getElem?_eq_getElem (by omega)
  have h0 : A[t]? = some (A[t]'(by omega)) := List.getElem?_eq_getElem (by omega)
  obtain ⟨hok, hnext⟩ := act_ok hA hv hx h0
  rw [ha] at hnext
  have e := Option.some.inj hnext
  rw [e, shift_get hv _ (allM_long hA hv h0) _ hi]
  have hih := fun (j : Nat) (hj : j < 4) => h.holds hA hv hn (i := j) (Nat.le_of_succ_le ht) h0 hj
  obtain ⟨left, k1, k2, k3, k4, k5⟩ := h.step (by omega) hx
  rw [k5, send_at (h.len hn (by omega)) (fromI_small hv _) (toI_small hv _) (ends_apart hok) hi]
  generalize m.acts[t]'(by omega) = x at *
  have hsz := hok.size
  by_cases e1 : x.kind = 1
  ·have hd := k1 e1
   have hf : fromI m x = -1 := by unfold fromI; rw [if_pos e1]
   have hs : sizeA m (A[t]'(by omega)) x = x.drops := by unfold sizeA; rw [if_neg (by omega)]
   have h1 := hsz.1 e1
   rw [hf, hs, if_neg (by omega)]
   have h2 := hih i hi
   have h3 : (Dr t).length = x.drops.toNat := by rw [hd]; simp
   by_cases p : (i : Int) = toI m x
   ·rw [if_pos p, if_pos p.symm, if_neg (by omega), List.length_append]
    omega
   ·rw [if_neg p, if_neg (fun q => p q.symm), if_neg (by omega)]
    omega
  ·have hp := (k2 e1).length_eq
   rw [List.length_append] at hp
   have hf0 : 0 ≤ fromI m x := by unfold fromI; rw [if_neg e1]; exact hok.from_ e1
   have hf4 := fromI_small hv x
   have hfi : fromI m x = ((fromI m x).toNat : Int) := by omega
   have h4 := hih (fromI m x).toNat (by omega)
   rw [← hfi] at h4
   have h2 := hih i hi
   have hsd : ((Dr t).length : Int) = sizeA m (A[t]'(by omega)) x := by
    unfold sizeA
    by_cases e4 : x.kind = 4
    ·rw [if_pos e4, ← h4]
     rw [k3 e4] at hp
     simp at hp
     omega
    ·rw [if_neg e4, k4 e4]
     have := hsz.2 (by have := hok.kind; omega)
     omega
   have hap := ends_apart hok
   by_cases q : (i : Int) = fromI m x
   ·rw [if_pos q, if_neg (by omega), if_pos q.symm]
    rw [← q] at h4 hp
    omega
   ·rw [if_neg q]
    by_cases p : (i : Int) = toI m x
    ·rw [if_pos p, if_pos p.symm, if_neg (fun r => q r.symm), List.length_append]
     omega
    ·rw [if_neg p, if_neg (fun r => p r.symm), if_neg (fun r => q r.symm)]
     omega
/-- How many are of a fountain. -/
def cntH (f : Int) (H : Heaps) : Held := H.map fun l => (l.count f : Int)
theorem cntH_at (f : Int) (H : Heaps) (i : Int) : heldAt (cntH f H) i = ((hpAt H i).count f : Int) := by
 unfold heldAt cntH hpAt
 rw [List.getElem?_map]
 cases H[i.toNat]? <;> rfl
theorem count_rep (f g : Int) (k : Nat) : (List.replicate k g).count f = if g = f then k else 0 := by
 rw [List.count_replicate]
 by_cases e : g = f <;> simp [e]
/-- A FOUNTAIN'S DROPS MAKE A RUN. -/
theorem Went.run (hA : allM m m.acts = some A) (hv : m.vessels.length ≤ 4) (h : Went m m.acts.length H Dr) (ht : ∀ {t : Nat}, t ≤ m.acts.length → tastedB m f t (cntH f (H t)) = true) :
  Run m f A (fun t => cntH f (H t)) (fun t => ((Dr t).count f : Int)) := by
 refine ⟨by show cntH f (H 0) = zeroH; rw [h.zero]; rfl, ?_, ht⟩
 intro t x all hx ha
 have htl := (List.getElem?_eq_some_iff.1 hx).1
 obtain ⟨hok, hnext⟩ := act_ok hA hv hx ha
 obtain ⟨left, k1, k2, k3, k4, k5⟩ := h.step htl hx
 have hl4 := h.len (Nat.le_refl _) (Nat.le_of_lt htl)
 have hl5 : (cntH f (H t)).length = 4 := by unfold cntH; rw [List.length_map]; exact hl4
 have hap := ends_apart hok
 have hs3 : cntH f (H (t + 1)) = shiftH (cntH f (H t)) (fromI m x) (toI m x) ((Dr t).count f : Int) := by
  refine held_ext (by unfold cntH; rw [List.length_map]; exact h.len (Nat.le_refl _) htl) (by rw [shift_len]; exact hl5) fun i hi => ?_
  rw [shift_get hv x hl5 _ hi, cntH_at, cntH_at, k5, send_at hl4 (fromI_small hv _) (toI_small hv _) hap hi]
  by_cases e1 : x.kind = 1
  ·have hf : fromI m x = -1 := by unfold fromI; rw [if_pos e1]
   rw [hf, if_neg (by omega), if_neg (show ¬ ((-1 : Int) = (i : Int)) by omega)]
   by_cases p : (i : Int) = toI m x
   ·rw [if_pos p, if_pos p.symm, List.count_append]; omega
   ·rw [if_neg p, if_neg (fun q => p q.symm)]; omega
  ·have hp := (k2 e1).count_eq f
   rw [List.count_append] at hp
   by_cases q : (i : Int) = fromI m x
   ·rw [if_pos q, if_neg (by omega), if_pos q.symm]
    rw [← q] at hp
    omega
   ·rw [if_neg q]
    by_cases p : (i : Int) = toI m x
    ·rw [if_pos p, if_pos p.symm, if_neg (fun r => q r.symm), List.count_append]; omega
    ·rw [if_neg p, if_neg (fun r => p r.symm), if_neg (fun r => q r.symm)]; omega
 have hbd : (spanP m x f all (cntH f (H t))).1 ≤ ((Dr t).count f : Int) ∧ ((Dr t).count f : Int) ≤ (spanP m x f all (cntH f (H t))).2 := by
  have hcl : (Dr t).count f ≤ (Dr t).length := List.count_le_length
  unfold spanP
  by_cases e1 : x.kind = 1
  ·have hf : fromI m x = -1 := by unfold fromI; rw [if_pos e1]
   have hs : sizeA m all x = x.drops := by unfold sizeA; rw [if_neg (by omega)]
   have h1 := hok.size.1 e1
   rw [hf, if_neg (by omega), hs, k1 e1, count_rep]
   by_cases e : x.fr = f
   ·rw [if_pos e, if_pos e]; dsimp only; omega
   ·rw [if_neg e, if_neg e]; dsimp only; omega
  ·have hf0 : 0 ≤ fromI m x := by unfold fromI; rw [if_neg e1]; exact hok.from_ e1
   have hf4 := fromI_small hv x
   have hfi : fromI m x = ((fromI m x).toNat : Int) := by omega
   have hp := (k2 e1).count_eq f
   rw [List.count_append] at hp
   have hp' := (k2 e1).length_eq
   rw [List.length_append] at hp'
   have h4 := h.holds hA hv (Nat.le_refl _) (Nat.le_of_lt htl) ha (i := (fromI m x).toNat) (by omega)
   rw [← hfi] at h4
   have hcl2 : left.count f ≤ left.length := List.count_le_length
   have hsd : ((Dr t).length : Int) = sizeA m all x := by
    unfold sizeA
    by_cases e4 : x.kind = 4
    ·rw [if_pos e4, ← h4]
     rw [k3 e4] at hp'
     simp at hp'
     omega
    ·rw [if_neg e4, k4 e4]
     have := hok.size.2 (by have := hok.kind; omega)
     omega
   rw [if_pos hf0, cntH_at]
   dsimp only
   omega
 exact ⟨hbd.1, hbd.2, hs3⟩
end
end Go.Proofs.YtjdgdeiedkickaaDoor.Mx
/- A pouring more: what is pure behind it (plain). -/
namespace Go.Proofs.YtjdgdeiedkickaaDoor.Mx
set_option linter.unusedSectionVars false

section
variable {m : Mix} {A : List Held} {f : Int} {x z : MAct} {all has : Held}
/-- A valid act can move some number of a fountain's drops. -/
theorem span_some (h : ActOk m all x) (hf : Fits all has) (hv : m.vessels.length ≤ 4) : (spanP m x f all has).1 ≤ (spanP m x f all has).2 := by
 unfold spanP
 by_cases h0 : 0 ≤ fromI m x
 ·rw [if_pos h0]
  have h4 := fromI_small hv x
  have hb := hf.le (fromI m x).toNat (by omega)
  rw [Int.toNat_of_nonneg h0] at hb
  have hs : 0 ≤ sizeA m all x ∧ sizeA m all x ≤ heldAt all (fromI m x) := by
   unfold sizeA
   by_cases e4 : x.kind = 4
   ·rw [if_pos e4]; omega
   ·rw [if_neg e4]
    have hk := h.kind
    have h1 : x.kind ≠ 1 := fun e => by unfold fromI at h0; rw [if_pos e] at h0; omega
    have := h.size.2 (by omega)
    unfold fromI
    rw [if_neg h1]
    omega
  dsimp only
  omega
 ·rw [if_neg h0]
  split <;> exact Int.le_refl _
end
section
variable {m : Mix} {A A' : List Held} {f : Int} {z : MAct} {a' : Held}
end
theorem pureIs_open {m : Mix} {v t f k e : Int} {A : List Held} (hok : okMix m = true) (hA : allM m m.acts = some A) (hv : 0 ≤ idxV m.vessels v) (ht : 0 ≤ t ∧ t ≤ m.acts.length) (hf : 1 ≤ f ∧ f ≤ m.fountains) (h : PureIs m v t f k e) :
  (e = 8 ∧ k = 0 ∧ ¬ Truth m f A 0 zeroH) ∨ (e = 0 ∧ Truth m f A 0 zeroH ∧ ∃ s a, IsSpan (OfP m v t f A) s ∧ A[t.toNat]? = some a ∧ k = judgeI (decide (s.1 = heldAt a (idxV m.vessels v))) (decide (s.2 = heldAt a (idxV m.vessels v)))) := by
 rcases h with ⟨h0, rfl, h1⟩ | ⟨rfl, lo, hi, n, rfl, h1, h2⟩
 ·have o := tell_both hA (ofIs_open hok hv ht hf h1) (ofIs_open hok hv ht hf h1)
  rcases o.2 with ⟨c1, _⟩ | ⟨c1, c2, _⟩
  ·exact absurd c1 h0
  ·exact .inl ⟨c1, rfl, c2⟩
 ·have o := tell_both hA (ofIs_open hok hv ht hf h1) (ofIs_open hok hv ht hf h1)
  rcases o.2 with ⟨c1, c2, c3, _⟩ | ⟨c1, _⟩
  ·obtain ⟨_, A1, a, hA1, ha, rfl⟩ := holdsIs_open hok hv ht h2
   rw [hA] at hA1
   cases hA1
   exact .inr ⟨rfl, c2, (lo, hi), a, c3, ha, rfl⟩
  ·omega
theorem judge_two {p q : Prop} [Decidable p] [Decidable q] : judgeI (decide p) (decide q) = 2 ↔ p := by
 unfold judgeI
 by_cases hp : p <;> by_cases hq : q <;> simp [hp, hq]
end Go.Proofs.YtjdgdeiedkickaaDoor.Mx
/- Whether two drops can have met, plain Lean: the program's couples and the answer's, for each two fillings. -/
namespace Go.Proofs.YtjdgdeiedkickaaDoor.Mx

def b1 (b : Bool) : Int := if b then 1 else 0
/-- Where a drop of a fountain is after an act, if it goes, or stays; -1: not there yet, -2: gone. The program's. -/
def dropP (fr to : Int) (c : Int) (g : Bool) : Int := if g then (if fr < 0 then to else if to < 0 then -2 else to) else c
def rightP (fr xf f c : Int) (g : Bool) : Prop := g = true → if fr < 0 then c = -1 ∧ xf = f else c = fr
def StepP (fr to n al xf f0 f1 : Int) (c d : Int × Int) : Prop :=
 ∃ g0 g1 : Bool, rightP fr xf f0 c.1 g0 ∧ rightP fr xf f1 c.2 g1 ∧ d = (dropP fr to c.1 g0, dropP fr to c.2 g1) ∧
  (0 ≤ fr → b1 g0 + b1 g1 ≤ n ∧ b1 (!g0 && decide (c.1 = fr)) + b1 (!g1 && decide (c.2 = fr)) ≤ al - n)
def NowP (m : Mix) (A : List Held) (f0 f1 : Int) : Nat → Int × Int → Prop
 | 0, c => c = (-1, -1)
 | t + 1, d => ∃ c x all, NowP m A f0 f1 t c ∧ m.acts[t]? = some x ∧ A[t]? = some all ∧ StepP (fromI m x) (toI m x) (sizeA m all x) (heldAt all (fromI m x)) x.fr f0 f1 c d
/-- A filling of a fountain. -/
def Fills (m : Mix) (f : Int) (i : Nat) : Prop := ∃ x, m.acts[i]? = some x ∧ x.kind = 1 ∧ x.fr = f
section
variable {m : Mix} {A : List Held} {f0 f1 : Int}
theorem from_fill {x : MAct} (h : x.kind = 1) : fromI m x = -1 := by unfold fromI; rw [if_pos h]
theorem from_other {x : MAct} {all : Held} (h : ActOk m all x) (hk : x.kind ≠ 1) : 0 ≤ fromI m x := by unfold fromI; rw [if_neg hk]; exact h.from_ hk
theorem toI_ge1 {x : MAct} : -1 ≤ toI m x := by
 unfold toI
 split
 ·unfold idxV; split <;> omega
 ·omega
/-- Where a drop stands, by when it came in: none: not yet. -/
def Came (m : Mix) (f : Int) (t : Nat) (c : Int) (i0 : Option Nat) : Prop := match i0 with
 | none => c = -1
 | some i => c ≠ -1 ∧ i < t ∧ Fills m f i
def Agrees (t : Nat) (i0 : Option Nat) (i : Nat) : Prop := match i0 with
 | none => t ≤ i
 | some j => i = j
theorem Came.step {f : Int} {t : Nat} {c : Int} {i0 : Option Nat} (h : Came m f t c i0) (d : Int) (hd : d = -1 ↔ c = -1) : Came m f (t + 1) d i0 := by
 cases i0 with
 | none => exact hd.2 h
 | some i => exact ⟨fun e => h.1 (hd.1 e), Nat.lt_succ_of_lt h.2.1, h.2.2⟩
theorem Agrees.back {f : Int} {t : Nat} {c : Int} {i0 : Option Nat} {i : Nat} (hc : Came m f t c i0) (h : Agrees (t + 1) i0 i) : Agrees t i0 i ∧ i ≠ t := by
 cases i0 with
 | none => exact ⟨Nat.le_of_succ_le h, by unfold Agrees at h; omega⟩
 | some j =>
  have h' : i = j := h
  exact ⟨h', by have := hc.2.1; omega⟩
end
end Go.Proofs.YtjdgdeiedkickaaDoor.Mx
/- All drops are of some fountain: without tastes (plain). -/
namespace Go.Proofs.YtjdgdeiedkickaaDoor.Mx
set_option linter.unusedSectionVars false

theorem bare_tasted {m : Mix} (h : m.tastes = []) {f : Int} {t : Nat} {s : Held} : tastedB m f t s = true := by unfold tastedB; rw [h]; rfl
section
variable {m : Mix} {A : List Held} {f : Int}
/-- Drops can go in some way. -/
theorem went_some (hA : allM m m.acts = some A) (hv : m.vessels.length ≤ 4) : ∀ n : Nat, n ≤ m.acts.length → ∃ H Dr, Went m n H Dr
 | 0, _ => ⟨fun _ => [[], [], [], []], fun _ => [], rfl, fun {t} {x} h => by omega⟩
 | n + 1, hn => by
  obtain ⟨H, Dr, h⟩ := went_some hA hv n (by omega)
  obtain ⟨x, hx⟩ : ∃ x, m.acts[n]? = some x := ⟨_, List.getElem?_eq_getElem (by omega)⟩
  obtain ⟨a, _, ha, _, _⟩ := allM_step hA hx
  obtain ⟨hok, _⟩ := act_ok hA hv hx ha
  have hs : ∃ drops H', SentP m x (H n) drops H' := by
   by_cases e1 : x.kind = 1
   ·exact ⟨List.replicate x.drops.toNat x.fr, _, [], fun _ => rfl, fun e => absurd e1 e, fun _ => rfl, fun _ => by simp, rfl⟩
   ·by_cases e4 : x.kind = 4
    ·exact ⟨hpAt (H n) (fromI m x), _, [], fun e => absurd e e1, fun _ => by simp, fun _ => rfl, fun e => absurd e4 e, rfl⟩
    ·refine ⟨(hpAt (H n) (fromI m x)).take x.drops.toNat, _, (hpAt (H n) (fromI m x)).drop x.drops.toNat, fun e => absurd e e1, fun _ => by rw [List.take_append_drop], fun e => absurd e e4, fun _ => ?_, rfl⟩
     have hf0 : 0 ≤ fromI m x := by unfold fromI; rw [if_neg e1]; exact hok.from_ e1
     have hf4 := fromI_small hv x
     have h1 := h.holds hA hv (by omega) (Nat.le_refl _) ha (i := (fromI m x).toNat) (by omega)
     rw [show (((fromI m x).toNat : Nat) : Int) = fromI m x by omega] at h1
     have h2 := hok.size.2 (by have := hok.kind; omega)
     have h3 : fromI m x = idxV m.vessels x.fr := by unfold fromI; rw [if_neg e1]
     rw [← h3] at h2
     rw [List.length_take]
     omega
  obtain ⟨drops, H', hs⟩ := hs
  refine ⟨fun t => if t ≤ n then H t else H', fun t => if t < n then Dr t else drops, ?_, fun {t} {y} ht hy => ?_⟩
  ·show (if 0 ≤ n then H 0 else H') = _
   rw [if_pos (Nat.zero_le _)]
   exact h.zero
  ·by_cases hlt : t < n
   ·rw [if_pos (show t ≤ n by omega), if_pos hlt, if_pos (show t + 1 ≤ n by omega)]
    exact h.step hlt hy
   ·obtain rfl : t = n := by omega
    rw [hx] at hy
    cases hy
    rw [if_pos (Nat.le_refl _), if_neg (by omega), if_neg (by omega)]
    exact hs
end
section
variable {m : Mix} {A : List Held} {f : Int}
end
/-- Without tastes each fountain has a truth. -/
theorem bare_truth {m : Mix} {A : List Held} {f : Int} (hA : allM m m.acts = some A) (hv : m.vessels.length ≤ 4) (hb : m.tastes = []) : Truth m f A 0 zeroH := by
 obtain ⟨H, Dr, hw⟩ := went_some hA hv m.acts.length (Nat.le_refl _)
 have hr := hw.run hA hv (f := f) (fun _ => bare_tasted hb)
 have := hr.truth hA (t := 0) (Nat.zero_le _)
 rwa [hr.zero] at this
end Go.Proofs.YtjdgdeiedkickaaDoor.Mx
/- How two lists of numbers stand: plain Lean. -/
namespace Go.Proofs.YtjdgdeiedkickaaDoor

/-- How two lists stand. -/
def cmpL : List Int → List Int → Int
 | [], [] => 0
 | [], _ :: _ => -1
 | _ :: _, [] => 1
 | x :: a, y :: b => if x < y then -1 else if y < x then 1 else cmpL a b

theorem cmpL_cons (x y : Int) (a b : List Int) : cmpL (x :: a) (y :: b) = if x < y then -1 else if y < x then 1 else cmpL a b := rfl
theorem cmpL_same (x : Int) (a b : List Int) : cmpL (x :: a) (x :: b) = cmpL a b := by rw [cmpL_cons, if_neg (by omega), if_neg (by omega)]
theorem cmpL_refl : ∀ a : List Int, cmpL a a = 0
 | [] => rfl
 | x :: a => by rw [cmpL_same]; exact cmpL_refl a
theorem cmpL_three : ∀ a b : List Int, cmpL a b = -1 ∨ cmpL a b = 0 ∨ cmpL a b = 1
 | [], [] => by simp [cmpL]
 | [], _ :: _ => by simp [cmpL]
 | _ :: _, [] => by simp [cmpL]
 | x :: a, y :: b => by
  rw [cmpL_cons]
  have := cmpL_three a b
  split
  ·simp
  ·split
   ·simp
   ·exact this
theorem cmpL_eq : ∀ {a b : List Int}, cmpL a b = 0 → a = b
 | [], [], _ => rfl
 | [], _ :: _, h => by simp [cmpL] at h
 | _ :: _, [], h => by simp [cmpL] at h
 | x :: a, y :: b, h => by
  rw [cmpL_cons] at h
  split at h
  ·omega
  ·split at h
   ·omega
   ·rw [cmpL_eq h, show x = y by omega]
theorem cmpL_swap : ∀ a b : List Int, cmpL b a = - cmpL a b
 | [], [] => rfl
 | [], _ :: _ => rfl
 | _ :: _, [] => rfl
 | x :: a, y :: b => by
  rw [cmpL_cons, cmpL_cons]
  have := cmpL_swap a b
  by_cases h1 : x < y
  ·rw [if_neg (by omega), if_pos h1, if_pos h1]; rfl
  ·by_cases h2 : y < x
   ·rw [if_pos h2, if_neg h1, if_pos h2]
   ·rw [if_neg h2, if_neg h1, if_neg h1, if_neg h2]; exact this
theorem cmpL_trans : ∀ {a b c : List Int}, cmpL a b ≤ 0 → cmpL b c ≤ 0 → cmpL a c ≤ 0
 | [], _, [], _, _ => by simp [cmpL]
 | [], _, _ :: _, _, _ => by simp [cmpL]
 | _ :: _, [], _, h, _ => by simp [cmpL] at h
 | _ :: _, _ :: _, [], _, h => by simp [cmpL] at h
 | x :: a, y :: b, z :: c, h1, h2 => by
  rw [cmpL_cons] at h1 h2 ⊢
  have ih := @cmpL_trans a b c
  by_cases p1 : x < y
  ·by_cases q1 : y < z
   ·rw [if_pos (by omega)]; omega
   ·rw [if_neg q1] at h2
    by_cases q2 : z < y
    ·rw [if_pos q2] at h2; omega
    ·rw [if_pos (by omega)]; omega
  ·rw [if_neg p1] at h1
   by_cases p2 : y < x
   ·rw [if_pos p2] at h1; omega
   ·rw [if_neg p2] at h1
    by_cases q1 : y < z
    ·rw [if_pos (by omega)]; omega
    ·rw [if_neg q1] at h2
     by_cases q2 : z < y
     ·rw [if_pos q2] at h2; omega
     ·rw [if_neg q2] at h2
      rw [if_neg (by omega), if_neg (by omega)]; exact ih h1 h2
theorem cmpL_antisymm {a b : List Int} (h1 : cmpL a b ≤ 0) (h2 : cmpL b a ≤ 0) : a = b := by
 have := cmpL_swap a b
 exact cmpL_eq (by omega)
theorem cmpL_le_lt {a b c : List Int} (h1 : cmpL a b ≤ 0) (h2 : cmpL b c < 0) : cmpL a c < 0 := by
 have h3 := cmpL_trans h1 (show cmpL b c ≤ 0 by omega)
 rcases cmpL_three a c with h | h | h
 ·omega
 ·have := cmpL_eq h
  subst this
  have := cmpL_swap a b
  omega
 ·omega
theorem cmpL_append : ∀ {a b : List Int} (x y : List Int), a.length = b.length → cmpL (a ++ x) (b ++ y) = if cmpL a b = 0 then cmpL x y else cmpL a b
 | [], [], x, y, _ => by simp [cmpL]
 | [], _ :: _, x, y, h => by simp at h
 | _ :: _, [], x, y, h => by simp at h
 | p :: a, q :: b, x, y, h => by
  rw [List.cons_append, List.cons_append, cmpL_cons, cmpL_cons, cmpL_append x y (by simpa using h)]
  by_cases h1 : p < q
  ·simp [h1]
  ·by_cases h2 : q < p
   ·simp [h1, h2]
   ·simp [h1, h2]
end Go.Proofs.YtjdgdeiedkickaaDoor
/- Ways of a drop, plain Lean: what leads to a place; the first of several lists. -/
namespace Go.Proofs.YtjdgdeiedkickaaDoor.Mx

/-- A drop of a fountain is in a vessel (an index) after so many acts, by these acts (numbers). -/
inductive WayTo (m : Mix) (A : List Held) (f : Int) : Nat → Int → List Int → Prop
 | enter {t : Nat} {x : MAct} (hx : m.acts[t]? = some x) (hk : x.kind = 1) (hf : x.fr = f) : WayTo m A f (t + 1) (idxV m.vessels x.to) [(t : Int) + 1]
 | pour {t : Nat} {x : MAct} {v : Int} {l : List Int} (h : WayTo m A f t v l) (hx : m.acts[t]? = some x) (hk : x.kind = 2) (hv : idxV m.vessels x.fr = v) : WayTo m A f (t + 1) (idxV m.vessels x.to) (l ++ [(t : Int) + 1])
 | stay {t : Nat} {x : MAct} {v : Int} {l : List Int} {all : Held} (h : WayTo m A f t v l) (hx : m.acts[t]? = some x) (ha : A[t]? = some all) (hs : fromI m x ≠ v ∨ sizeA m all x ≠ heldAt all v) : WayTo m A f (t + 1) v l
theorem WayTo.ne {m : Mix} {A : List Held} {f : Int} {t : Nat} {v : Int} {l : List Int} (h : WayTo m A f t v l) : l ≠ [] := by
 induction h with
 | enter => simp
 | pour => simp
 | stay _ _ _ _ ih => exact ih
theorem WayTo.le {m : Mix} {A : List Held} {f : Int} {t : Nat} {v : Int} {l : List Int} (h : WayTo m A f t v l) : ∀ n ∈ l, 1 ≤ n ∧ n ≤ t := by
 induction h with
 | enter => intro n hn; simp at hn; omega
 | pour _ _ _ _ ih =>
  intro n hn
  rcases List.mem_append.1 hn with hn | hn
  ·have := ih n hn; omega
  ·simp at hn; omega
 | stay _ _ _ _ ih => intro n hn; have := ih n hn; omega
theorem WayTo.up {m : Mix} {A : List Held} {f : Int} {t : Nat} {v : Int} {l : List Int} (h : WayTo m A f t v l) : l.Pairwise (· < ·) := by
 induction h with
 | enter => simp
 | pour h _ _ _ ih =>
  rw [List.pairwise_append]
  refine ⟨ih, by simp, fun a ha b hb => ?_⟩
  have := h.le a ha
  simp at hb
  omega
 | stay _ _ _ _ ih => exact ih
/-- The order of lists: the shorter first, then the one whose first number that differs is less. -/
def cmpS (a b : List Int) : Int := if a.length < b.length then -1 else if b.length < a.length then 1 else cmpL a b
theorem cmpS_antisymm {a b : List Int} (h1 : cmpS a b ≤ 0) (h2 : cmpS b a ≤ 0) : a = b := by
 unfold cmpS at h1 h2
 by_cases e1 : a.length < b.length
 ·rw [if_neg (by omega), if_pos e1] at h2; omega
 ·by_cases e2 : b.length < a.length
  ·rw [if_neg e1, if_pos e2] at h1; omega
  ·rw [if_neg e1, if_neg e2] at h1
   rw [if_neg e2, if_neg e1] at h2
   exact cmpL_antisymm h1 h2
/-- The first one of those with a property; it is the only one. -/
def FirstS (P : List Int → Prop) (l : List Int) : Prop := P l ∧ ∀ k, P k → cmpS l k ≤ 0
theorem FirstS.same {P : List Int → Prop} {l k : List Int} (h : FirstS P l) (h' : FirstS P k) : l = k := cmpS_antisymm (h.2 k h'.1) (h'.2 l h.1)
end Go.Proofs.YtjdgdeiedkickaaDoor.Mx
/- The fewest acts to be watched, plain Lean: lists of numbers that increase, level by level, in order; the first that hits all ways. -/
namespace Go.Proofs.YtjdgdeiedkickaaDoor.Mx

/-- Increasing, from 1 to a. -/
def UpTo (a : Nat) (l : List Int) : Prop := l.Pairwise (· < ·) ∧ ∀ n ∈ l, 1 ≤ n ∧ n ≤ a
end Go.Proofs.YtjdgdeiedkickaaDoor.Mx
/- All ways of a drop, plain Lean: the program's search and the answer's lists have the same ways. -/
namespace Go.Proofs.YtjdgdeiedkickaaDoor.Mx

section
variable {m : Mix} {A : List Held} {f : Int}
/-- From a vessel, after some acts, on to another one. -/
inductive Ext (m : Mix) (A : List Held) (n : Nat) (s : Int) (l : List Int) : Nat → Int → List Int → Prop
 | done : Ext m A n s l n s l
 | pour {t : Nat} {x : MAct} {v : Int} {w : List Int} (hx : m.acts[t]? = some x) (hk : x.kind = 2) (hv : idxV m.vessels x.fr = v) (h : Ext m A n s l (t + 1) (idxV m.vessels x.to) (w ++ [(t : Int) + 1])) : Ext m A n s l t v w
 | stay {t : Nat} {x : MAct} {v : Int} {w : List Int} {all : Held} (hx : m.acts[t]? = some x) (ha : A[t]? = some all) (hs : fromI m x ≠ v ∨ sizeA m all x ≠ heldAt all v) (h : Ext m A n s l (t + 1) v w) : Ext m A n s l t v w
theorem Ext.way {n : Nat} {s : Int} {l : List Int} {t : Nat} {v : Int} {w : List Int} (h : Ext m A n s l t v w) : WayTo m A f t v w → WayTo m A f n s l := by
 induction h with
 | done => exact id
 | pour hx hk hv _ ih => exact fun h => ih (.pour h hx hk hv)
 | stay hx ha hs _ ih => exact fun h => ih (.stay h hx ha hs)
theorem Ext.snoc {n n' : Nat} {s s' : Int} {l l' : List Int} (h' : Ext m A n' s' l' n s l) {t : Nat} {v : Int} {w : List Int} (h : Ext m A n s l t v w) : Ext m A n' s' l' t v w := by
 induction h with
 | done => exact h'
 | pour hx hk hv _ ih => exact .pour hx hk hv ih
 | stay hx ha hs _ ih => exact .stay hx ha hs ih
theorem Ext.le {n : Nat} {s : Int} {l : List Int} {t : Nat} {v : Int} {w : List Int} (h : Ext m A n s l t v w) : t ≤ n := by
 induction h with
 | done => exact Nat.le_refl _
 | pour _ _ _ _ ih => omega
 | stay _ _ _ _ ih => omega
theorem Ext.inv {n : Nat} {s : Int} {l : List Int} {t : Nat} {v : Int} {w : List Int} (h : Ext m A n s l t v w) (hne : t ≠ n) :
  (∃ x, m.acts[t]? = some x ∧ x.kind = 2 ∧ idxV m.vessels x.fr = v ∧ Ext m A n s l (t + 1) (idxV m.vessels x.to) (w ++ [(t : Int) + 1])) ∨
  (∃ x all, m.acts[t]? = some x ∧ A[t]? = some all ∧ (fromI m x ≠ v ∨ sizeA m all x ≠ heldAt all v) ∧ Ext m A n s l (t + 1) v w) := by
 cases h with
 | done => exact absurd rfl hne
 | pour hx hk hv h => exact .inl ⟨_, hx, hk, hv, h⟩
 | stay hx ha hs h => exact .inr ⟨_, _, hx, ha, hs, h⟩
end
end Go.Proofs.YtjdgdeiedkickaaDoor.Mx
/- What Met, Path and Watch tell, as predicates that one answer alone meets (plain). -/
namespace Go.Proofs.YtjdgdeiedkickaaDoor.Mx

def metM (m : Mix) (v a f0 f1 : Int) : Int := if askM m v a [f0, f1] = 0 then (if f0 = f1 then 2 else 0) else askM m v a [f0, f1]
def MetIs (m : Mix) (v a f0 f1 : Int) (b : Bool) (e : Int) : Prop :=
 (metM m v a f0 f1 ≠ 0 ∧ b = false ∧ e = metM m v a f0 f1) ∨ (metM m v a f0 f1 = 0 ∧ e = 0 ∧ ∃ A, allM m m.acts = some A ∧ (b = true ↔ NowP m A f0 f1 a.toNat (idxV m.vessels v, idxV m.vessels v)))
/-- The first one of some lists, or none. -/
def FirstIs (m : Mix) (v a f : Int) (P : List Held → List Int → Prop) (l : List Int) (e : Int) : Prop :=
 (askM m v a [f] ≠ 0 ∧ l = [] ∧ e = askM m v a [f]) ∨ (askM m v a [f] = 0 ∧ ∃ A, allM m m.acts = some A ∧
  (((∀ k, ¬ WayTo m A f a.toNat (idxV m.vessels v) k) ∧ l = [] ∧ e = 6) ∨ ((∃ k, WayTo m A f a.toNat (idxV m.vessels v) k) ∧ e = 0 ∧ FirstS (P A) l)))
def PathIs (m : Mix) (v a f : Int) : List Int → Int → Prop := FirstIs m v a f fun A => WayTo m A f a.toNat (idxV m.vessels v)
def WatchP (m : Mix) (v a f : Int) (A : List Held) (l : List Int) : Prop := UpTo a.toNat l ∧ ∀ w, WayTo m A f a.toNat (idxV m.vessels v) w → ∃ n ∈ w, n ∈ l
def WatchIs (m : Mix) (v a f : Int) : List Int → Int → Prop := FirstIs m v a f (WatchP m v a f)
section
variable {m : Mix} {v a f f0 f1 e e' : Int} {l l' : List Int} {b b' : Bool} {P : List Held → List Int → Prop}
theorem MetIs.same (h : MetIs m v a f0 f1 b e) (h' : MetIs m v a f0 f1 b' e') : b = b' ∧ e = e' := by
 rcases h with ⟨h0, rfl, rfl⟩ | ⟨h0, rfl, A, hA, h⟩ <;> rcases h' with ⟨k0, rfl, rfl⟩ | ⟨k0, rfl, B, hB, k⟩
 ·exact ⟨rfl, rfl⟩
 ·exact absurd k0 h0
 ·exact absurd h0 k0
 ·rw [hA] at hB
  cases hB
  refine ⟨?_, rfl⟩
  cases b <;> cases b' <;> simp_all
theorem FirstIs.same (h : FirstIs m v a f P l e) (h' : FirstIs m v a f P l' e') : l = l' ∧ e = e' := by
 rcases h with ⟨h0, rfl, rfl⟩ | ⟨h0, A, hA, h⟩ <;> rcases h' with ⟨k0, rfl, rfl⟩ | ⟨k0, B, hB, k⟩
 ·exact ⟨rfl, rfl⟩
 ·exact absurd k0 h0
 ·exact absurd h0 k0
 ·rw [hA] at hB
  cases hB
  rcases h with ⟨h1, rfl, rfl⟩ | ⟨⟨w, h1⟩, rfl, h2⟩ <;> rcases k with ⟨k1, rfl, rfl⟩ | ⟨⟨u, k1⟩, rfl, k2⟩
  ·exact ⟨rfl, rfl⟩
  ·exact absurd k1 (h1 _)
  ·exact absurd h1 (k1 _)
  ·exact ⟨h2.same k2, rfl⟩
theorem PathIs.same (h : PathIs m v a f l e) (h' : PathIs m v a f l' e') : l = l' ∧ e = e' := FirstIs.same h h'
theorem WatchIs.same (h : WatchIs m v a f l e) (h' : WatchIs m v a f l' e') : l = l' ∧ e = e' := FirstIs.same h h'
theorem FirstS.congr {P Q : List Int → Prop} (h : FirstS P l) (e : ∀ k, P k ↔ Q k) : FirstS Q l := ⟨(e l).1 h.1, fun k hk => h.2 k ((e k).2 hk)⟩
end
end Go.Proofs.YtjdgdeiedkickaaDoor.Mx
/- Lists of acts that are ways of a drop; where a way leads there can be a drop; each watched act is needed (plain). -/
namespace Go.Proofs.YtjdgdeiedkickaaDoor.Mx
set_option linter.unusedSectionVars false

section
variable {m : Mix} {A : List Held} {f : Int}
end
section
variable {m : Mix} {A : List Held} {f : Int}
/-- Without tastes all goes on. -/
theorem fwd_truth (hA : allM m m.acts = some A) (hv : m.vessels.length ≤ 4) (hb : m.tastes = []) : ∀ {k t : Nat} {s : Held}, m.acts.length - t = k → t ≤ m.acts.length → Fwd m f A t s → Truth m f A t s
 | 0, t, s, hk, ht, h => by
  obtain rfl : t = m.acts.length := by omega
  exact Truth.last.2 h
 | k + 1, t, s, hk, ht, h => by
  have hlt : t < m.acts.length := by omega
  obtain ⟨x, hx⟩ : ∃ x, m.acts[t]? = some x := ⟨_, List.getElem?_eq_getElem hlt⟩
  obtain ⟨all, _, ha, _, _⟩ := allM_step hA hx
  have hok := (act_ok hA hv hx ha).1
  have hg : Goes m f A t s (shiftH s (fromI m x) (toI m x) (spanP m x f all s).1) := ⟨x, all, _, hx, ha, Int.le_refl _, span_some hok (fwd_fits hA hv h ha) hv, rfl⟩
  exact (Truth.iff_next hlt).2 ⟨h, _, hg, fwd_truth hA hv hb (k := k) (t := t + 1) (by omega) (by omega) ⟨⟨s, h, hg⟩, bare_tasted hb⟩⟩
/-- Where a way leads there can be a drop. -/
theorem way_drop (hA : allM m m.acts = some A) (hv : m.vessels.length ≤ 4) (hb : m.tastes = []) {t : Nat} {v : Int} {l : List Int} (h : WayTo m A f t v l) : t ≤ m.acts.length ∧ (0 ≤ v ∧ v < 4) ∧ ∃ s, Fwd m f A t s ∧ 1 ≤ heldAt s v := by
 have hT := bare_truth (f := f) hA hv hb
 induction h with
 | @enter t x hx hk hf =>
  have hlt := (List.getElem?_eq_some_iff.1 hx).1
  obtain ⟨all, _, ha, _, _⟩ := allM_step hA hx
  have hok := (act_ok hA hv hx ha).1
  obtain ⟨s, hs⟩ := truth_all hT (t := t) (by omega)
  have h1 := Fin.fwd hs
  have hft := fwd_fits hA hv h1 ha
  have h0 := hok.to_ (.inl hk)
  have h4 := idxV_small (id := x.to) hv
  have hfr : fromI m x = -1 := from_fill hk
  have hto : toI m x = idxV m.vessels x.to := by unfold toI; rw [if_pos (.inl hk)]
  have hsp : spanP m x f all s = (x.drops, x.drops) := by
   unfold spanP
   rw [hfr, if_neg (by omega), if_pos hf]
   unfold sizeA
   rw [if_neg (by omega)]
  refine ⟨hlt, ⟨h0, h4⟩, _, ⟨⟨s, h1, x, all, x.drops, hx, ha, by rw [hsp]; exact Int.le_refl _, by rw [hsp]; exact Int.le_refl _, rfl⟩, bare_tasted hb⟩, ?_⟩
  have := shift_get hv x hft.lh x.drops (i := (idxV m.vessels x.to).toNat) (by omega)
  have hb2 := (hft.le (idxV m.vessels x.to).toNat (by omega)).1
  rw [Int.toNat_of_nonneg h0] at this hb2
  rw [this, hto, if_pos rfl, hfr, if_neg (by omega)]
  have := hok.size.1 hk
  omega
 | @pour t x v l h hx hk hf ih =>
  obtain ⟨_, ⟨v0, v4⟩, s, h1, h2⟩ := ih
  have hlt := (List.getElem?_eq_some_iff.1 hx).1
  obtain ⟨all, _, ha, _, _⟩ := allM_step hA hx
  have hok := (act_ok hA hv hx ha).1
  have hft := fwd_fits hA hv h1 ha
  have h0 := hok.to_ (.inr hk)
  have h4 := idxV_small (id := x.to) hv
  have hfr : fromI m x = v := by unfold fromI; rw [if_neg (by omega)]; exact hf
  have hto : toI m x = idxV m.vessels x.to := by unfold toI; rw [if_pos (.inr hk)]
  have hap := hok.apart hk
  rw [hf] at hap
  have hsz := hok.size.2 (.inl hk)
  rw [hf] at hsz
  have hbv := hft.le v.toNat (by omega)
  rw [Int.toNat_of_nonneg v0] at hbv
  have hsp : spanP m x f all s = (max 0 (x.drops - (heldAt all v - heldAt s v)), min x.drops (heldAt s v)) := by
   unfold spanP
   rw [hfr, if_pos v0]
   unfold sizeA
   rw [if_neg (by omega)]
  refine ⟨hlt, ⟨h0, h4⟩, _, ⟨⟨s, h1, x, all, min x.drops (heldAt s v), hx, ha, by rw [hsp]; dsimp only; omega, by rw [hsp]; exact Int.le_refl _, rfl⟩, bare_tasted hb⟩, ?_⟩
  have := shift_get hv x hft.lh (min x.drops (heldAt s v)) (i := (idxV m.vessels x.to).toNat) (by omega)
  have hb2 := (hft.le (idxV m.vessels x.to).toNat (by omega)).1
  rw [Int.toNat_of_nonneg h0] at this hb2
  rw [this, hto, if_pos rfl, hfr, if_neg hap]
  omega
 | @stay t x v l all h hx ha hs ih =>
  obtain ⟨_, ⟨v0, v4⟩, s, h1, h2⟩ := ih
  have hlt := (List.getElem?_eq_some_iff.1 hx).1
  have hok := (act_ok hA hv hx ha).1
  have hft := fwd_fits hA hv h1 ha
  have hsome := span_some (f := f) hok hft hv
  have hmv := fits_moves (f := f) hok hft hv ⟨Int.le_refl _, hsome⟩
  refine ⟨hlt, ⟨v0, v4⟩, _, ⟨⟨s, h1, x, all, (spanP m x f all s).1, hx, ha, Int.le_refl _, hsome, rfl⟩, bare_tasted hb⟩, ?_⟩
  have := shift_get hv x hft.lh (spanP m x f all s).1 (i := v.toNat) (by omega)
  rw [Int.toNat_of_nonneg v0] at this
  rw [this]
  by_cases q : fromI m x = v
  ·rw [if_pos q]
   have hap := ends_apart hok
   rw [if_neg (by omega)]
   have hsz : sizeA m all x ≠ heldAt all v := hs.resolve_left (fun h => h q)
   have hbv := hft.le v.toNat (by omega)
   rw [Int.toNat_of_nonneg v0] at hbv
   have hle : sizeA m all x ≤ heldAt all v := by
    have hk1 : x.kind ≠ 1 := fun e => by rw [from_fill e] at q; omega
    unfold sizeA
    by_cases e4 : x.kind = 4
    ·rw [if_pos e4, q]; exact Int.le_refl _
    ·rw [if_neg e4]
     have := hok.size.2 (by have := hok.kind; omega)
     have h3 : fromI m x = idxV m.vessels x.fr := by unfold fromI; rw [if_neg hk1]
     rw [← h3, q] at this
     omega
   unfold spanP
   rw [q, if_pos v0]
   dsimp only
   omega
  ·rw [if_neg q]
   have := hmv.1
   split <;> omega
end
section
variable {m : Mix} {v t f e g : Int} {l path : List Int} {s : Int × Int}
end
end Go.Proofs.YtjdgdeiedkickaaDoor.Mx
/- Two fountains' drops in one vessel, as drops went, have met; where two can have met there are ways, and two drops (plain). -/
namespace Go.Proofs.YtjdgdeiedkickaaDoor.Mx

section
variable {m : Mix} {A : List Held} {f f0 f1 : Int} {H : Nat → Heaps} {Dr : Nat → List Int}
/-- Where they can have met, both have ways. -/
theorem now_way (hA : allM m m.acts = some A) (hv : m.vessels.length ≤ 4) : ∀ {t : Nat} {c : Int × Int}, NowP m A f0 f1 t c → (0 ≤ c.1 → ∃ l, WayTo m A f0 t c.1 l) ∧ (0 ≤ c.2 → ∃ l, WayTo m A f1 t c.2 l)
 | 0, c, h => by
  have h' : c = (-1, -1) := h
  subst h'
  exact ⟨fun h => by simp at h, fun h => by simp at h⟩
 | t + 1, d, h => by
  obtain ⟨c, x, all, hc, hx, ha, g0, g1, r0, r1, rfl, hn⟩ := h
  obtain ⟨i0, i1⟩ := now_way hA hv hc
  obtain ⟨hok, _⟩ := act_ok hA hv hx ha
  have key : ∀ (f c : Int) (g : Bool), (0 ≤ c → ∃ l, WayTo m A f t c l) → rightP (fromI m x) x.fr f c g → (0 ≤ fromI m x → g = false → c = fromI m x → sizeA m all x ≠ heldAt all c) → 0 ≤ dropP (fromI m x) (toI m x) c g → ∃ l, WayTo m A f (t + 1) (dropP (fromI m x) (toI m x) c g) l := by
   intro f c g hi hr hs hd
   cases g with
   | false =>
    have e : dropP (fromI m x) (toI m x) c false = c := rfl
    rw [e] at hd ⊢
    obtain ⟨l, hl⟩ := hi hd
    refine ⟨l, .stay hl hx ha ?_⟩
    by_cases q : fromI m x = c
    ·exact .inr (hs (by omega) rfl q.symm)
    ·exact .inl q
   | true =>
    have hr' := hr rfl
    unfold dropP at hd ⊢
    rw [if_pos rfl] at hd ⊢
    by_cases q : fromI m x < 0
    ·rw [if_pos q] at hr' hd ⊢
     have hk : x.kind = 1 := Classical.byContradiction fun e => by have := from_other hok e; omega
     have e : toI m x = idxV m.vessels x.to := by unfold toI; rw [if_pos (.inl hk)]
     rw [e]
     exact ⟨_, .enter hx hk hr'.2⟩
    ·rw [if_neg q] at hr' hd ⊢
     by_cases q2 : toI m x < 0
     ·rw [if_pos q2] at hd; omega
     ·rw [if_neg q2] at hd ⊢
      have hk1 : x.kind ≠ 1 := fun e => by rw [from_fill e] at q; omega
      have hk2 : x.kind = 2 := by
       refine Classical.byContradiction fun e => ?_
       unfold toI at q2
       rw [if_neg (by omega)] at q2
       omega
      have e : toI m x = idxV m.vessels x.to := by unfold toI; rw [if_pos (.inr hk2)]
      rw [e]
      obtain ⟨l, hl⟩ := hi (by omega)
      exact ⟨_, .pour hl hx hk2 (by rw [hr']; unfold fromI; rw [if_neg hk1])⟩
  dsimp only at r0 r1 hn ⊢
  constructor
  ·refine key f0 c.1 g0 i0 r0 (fun q1 q2 q3 => ?_)
   have := (hn q1).2
   have p0 : 0 ≤ b1 (!g1 && decide (c.2 = fromI m x)) := by unfold b1; split <;> omega
   rw [q2, q3] at this
   simp [b1] at this p0
   rw [q3]
   omega
  ·refine key f1 c.2 g1 i1 r1 (fun q1 q2 q3 => ?_)
   have := (hn q1).2
   have p0 : 0 ≤ b1 (!g0 && decide (c.1 = fromI m x)) := by unfold b1; split <;> omega
   rw [q2, q3] at this
   simp [b1] at this p0
   rw [q3]
   omega
end
end Go.Proofs.YtjdgdeiedkickaaDoor.Mx
/- What is told, reckoned: lists of states, for mixed water that is written out (plain). -/
namespace Go.Proofs.YtjdgdeiedkickaaDoor.Mx

def goesL (m : Mix) (f : Int) (A : List Held) (t : Nat) (s : Held) : List Held := match m.acts[t]?, A[t]? with
 | some x, some all => (List.range ((spanP m x f all s).2 - (spanP m x f all s).1 + 1).toNat).map fun i : Nat => shiftH s (fromI m x) (toI m x) ((spanP m x f all s).1 + (i : Int))
 | _, _ => []
def fwdL (m : Mix) (f : Int) (A : List Held) : Nat → List Held
 | 0 => if tastedB m f 0 zeroH then [zeroH] else []
 | t + 1 => ((fwdL m f A t).flatMap (goesL m f A t)).filter (tastedB m f (t + 1))
def finB (m : Mix) (f : Int) (A : List Held) : Nat → Nat → Held → Bool
 | 0, _, _ => true
 | k + 1, t, s => (goesL m f A t s).any fun s' => tastedB m f (t + 1) s' && finB m f A k (t + 1) s'
def truthL (m : Mix) (f : Int) (A : List Held) (t : Nat) : List Held := (fwdL m f A t).filter (finB m f A (m.acts.length - t) t)
section
variable {m : Mix} {f : Int} {A : List Held}
theorem mem_goesL {t : Nat} {s s' : Held} : s' ∈ goesL m f A t s ↔ Goes m f A t s s' := by
 unfold goesL Goes
 constructor
 ·intro h
  split at h
  ·rename_i x all hx ha
   obtain ⟨i, h1, h2⟩ := List.mem_map.1 h
   have := List.mem_range.1 h1
   exact ⟨x, all, _, hx, ha, by omega, by omega, h2.symm⟩
  ·cases h
 ·rintro ⟨x, all, k, hx, ha, h1, h2, rfl⟩
  rw [hx, ha]
  exact List.mem_map.2 ⟨(k - (spanP m x f all s).1).toNat, List.mem_range.2 (by omega), by rw [show (spanP m x f all s).1 + ((k - (spanP m x f all s).1).toNat : Int) = k from by omega]⟩
theorem mem_fwdL : ∀ {t : Nat} {s : Held}, s ∈ fwdL m f A t ↔ Fwd m f A t s
 | 0, s => by
  unfold fwdL Fwd
  constructor
  ·intro h
   split at h
   ·rename_i h1
    obtain rfl := List.mem_singleton.1 h
    exact ⟨rfl, h1⟩
   ·cases h
  ·rintro ⟨rfl, h⟩
   rw [if_pos h]
   simp
 | t + 1, s => by
  unfold fwdL Fwd
  rw [List.mem_filter, List.mem_flatMap]
  constructor
  ·rintro ⟨⟨s0, h1, h2⟩, h3⟩
   exact ⟨⟨s0, mem_fwdL.1 h1, mem_goesL.1 h2⟩, h3⟩
  ·rintro ⟨⟨s0, h1, h2⟩, h3⟩
   exact ⟨⟨s0, mem_fwdL.2 h1, mem_goesL.2 h2⟩, h3⟩
theorem finB_iff : ∀ {k t : Nat} {s : Held}, Fwd m f A t s → (finB m f A k t s = true ↔ Fin m f A k t s)
 | 0, t, s, h => by
  unfold finB Fin
  simp [h]
 | k + 1, t, s, h => by
  unfold finB Fin
  rw [List.any_eq_true]
  constructor
  ·rintro ⟨s', h1, h2⟩
   rw [Bool.and_eq_true] at h2
   have h3 : Fwd m f A (t + 1) s' := ⟨⟨s, h, mem_goesL.1 h1⟩, h2.1⟩
   exact ⟨h, s', mem_goesL.1 h1, (finB_iff h3).1 h2.2⟩
  ·rintro ⟨_, s', h1, h2⟩
   have h3 := Fin.fwd h2
   exact ⟨s', mem_goesL.2 h1, by rw [Bool.and_eq_true]; exact ⟨h3.2, (finB_iff h3).2 h2⟩⟩
theorem mem_truthL {t : Nat} {s : Held} : s ∈ truthL m f A t ↔ Truth m f A t s := by
 unfold truthL Truth
 rw [List.mem_filter, mem_fwdL]
 constructor
 ·rintro ⟨h1, h2⟩
  exact (finB_iff h1).1 h2
 ·intro h
  exact ⟨Fin.fwd h, (finB_iff (Fin.fwd h)).2 h⟩
end
/-- Is this the span of a list? -/
def isSpanB (l : List Int) (s : Int × Int) : Bool := l.contains s.1 && l.contains s.2 && l.all fun n => decide (s.1 ≤ n) && decide (n ≤ s.2)
theorem isSpan_of {l : List Int} {s : Int × Int} {P : Int → Prop} (hP : ∀ n, P n ↔ n ∈ l) (h : isSpanB l s = true) : IsSpan P s := by
 unfold isSpanB at h
 simp only [Bool.and_eq_true, List.contains_iff_mem, List.all_eq_true, decide_eq_true_eq] at h
 exact ⟨(hP _).2 h.1.1, (hP _).2 h.1.2, fun n hn => h.2 n ((hP n).1 hn)⟩
/-- Is this what is told, by a list of what it can be? -/
def tellB (m : Mix) (g f : Int) (L : List Held → List Int) (s : Int × Int) (e : Int) : Bool :=
 if g = 0 then match allM m m.acts with
  | some A => if (truthL m f A 0).contains zeroH then decide (e = 0) && isSpanB (L A) s else decide (s = (0, 0)) && decide (e = 8)
  | none => false
 else decide (s = (0, 0)) && decide (e = g)
theorem tell_of {m : Mix} {g f e : Int} {L : List Held → List Int} {P : List Held → Int → Prop} {s : Int × Int} (hP : ∀ A n, P A n ↔ n ∈ L A) (h : tellB m g f L s e = true) : GuardIs g (TellIs m f P) s e := by
 unfold tellB at h
 split at h
 ·rename_i hg
  split at h
  ·rename_i A hA
   right
   refine ⟨hg, A, hA, ?_⟩
   split at h
   ·rename_i h1
    rw [List.contains_iff_mem] at h1
    simp only [Bool.and_eq_true, decide_eq_true_eq] at h
    exact .inr ⟨mem_truthL.1 h1, h.1, isSpan_of (hP A) h.2⟩
   ·rename_i h1
    rw [List.contains_iff_mem] at h1
    simp only [Bool.and_eq_true, decide_eq_true_eq] at h
    exact .inl ⟨fun h2 => h1 (mem_truthL.2 h2), h.1, h.2⟩
  ·cases h
 ·rename_i hg
  simp only [Bool.and_eq_true, decide_eq_true_eq] at h
  exact .inl ⟨hg, h.1, h.2⟩
def ofB (m : Mix) (v a f : Int) (s : Int × Int) (e : Int) : Bool := tellB m (askM m v a [f]) f (fun A => (truthL m f A a.toNat).map fun x => heldAt x (idxV m.vessels v)) s e
theorem of_of {m : Mix} {v a f e : Int} {s : Int × Int} (h : ofB m v a f s e = true) : OfIs m v a f s e := by
 refine tell_of (fun A n => ?_) h
 unfold OfP
 rw [List.mem_map]
 exact ⟨fun ⟨x, h1, h2⟩ => ⟨x, mem_truthL.2 h1, h2⟩, fun ⟨x, h1, h2⟩ => ⟨x, mem_truthL.1 h1, h2⟩⟩
/-- Where two drops can be. -/
def rightB (fr xf f c : Int) (g : Bool) : Bool := !g || (if fr < 0 then decide (c = -1) && decide (xf = f) else decide (c = fr))
theorem rightB_iff {fr xf f c : Int} {g : Bool} : rightB fr xf f c g = true ↔ rightP fr xf f c g := by
 unfold rightB rightP
 cases g
 ·simp
 ·by_cases h : fr < 0 <;> simp [h]
def stepB (fr to n al xf f0 f1 : Int) (c : Int × Int) (g : Bool × Bool) : Bool :=
 rightB fr xf f0 c.1 g.1 && rightB fr xf f1 c.2 g.2 && (decide (fr < 0) || (decide (b1 g.1 + b1 g.2 ≤ n) && decide (b1 (!g.1 && decide (c.1 = fr)) + b1 (!g.2 && decide (c.2 = fr)) ≤ al - n)))
def sets4 : List (Bool × Bool) := [(false, false), (false, true), (true, false), (true, true)]
def stepL (fr to n al xf f0 f1 : Int) (c : Int × Int) : List (Int × Int) := (sets4.filter (stepB fr to n al xf f0 f1 c)).map fun g => (dropP fr to c.1 g.1, dropP fr to c.2 g.2)
theorem mem_stepL {fr to n al xf f0 f1 : Int} {c d : Int × Int} : d ∈ stepL fr to n al xf f0 f1 c ↔ StepP fr to n al xf f0 f1 c d := by
 have key : ∀ g0 g1 : Bool, stepB fr to n al xf f0 f1 c (g0, g1) = true ↔ rightP fr xf f0 c.1 g0 ∧ rightP fr xf f1 c.2 g1 ∧ (0 ≤ fr → b1 g0 + b1 g1 ≤ n ∧ b1 (!g0 && decide (c.1 = fr)) + b1 (!g1 && decide (c.2 = fr)) ≤ al - n) := fun g0 g1 => by
  unfold stepB
  simp only [Bool.and_eq_true, Bool.or_eq_true, decide_eq_true_eq, rightB_iff, and_assoc]
  refine and_congr Iff.rfl (and_congr Iff.rfl ?_)
  by_cases h : fr < 0
  ·simp [h]; omega
  ·simp [h]; omega
 unfold stepL StepP
 rw [List.mem_map]
 constructor
 ·rintro ⟨⟨g0, g1⟩, h1, rfl⟩
  obtain ⟨a, b, c⟩ := (key g0 g1).1 (List.mem_filter.1 h1).2
  exact ⟨g0, g1, a, b, rfl, c⟩
 ·rintro ⟨g0, g1, a, b, rfl, c⟩
  refine ⟨(g0, g1), List.mem_filter.2 ⟨?_, (key g0 g1).2 ⟨a, b, c⟩⟩, rfl⟩
  cases g0 <;> cases g1 <;> decide
def nowL (m : Mix) (A : List Held) (f0 f1 : Int) : Nat → List (Int × Int)
 | 0 => [(-1, -1)]
 | t + 1 => match m.acts[t]?, A[t]? with
  | some x, some all => (nowL m A f0 f1 t).flatMap (stepL (fromI m x) (toI m x) (sizeA m all x) (heldAt all (fromI m x)) x.fr f0 f1)
  | _, _ => []
theorem mem_nowL {m : Mix} {A : List Held} {f0 f1 : Int} : ∀ {t : Nat} {d : Int × Int}, d ∈ nowL m A f0 f1 t ↔ NowP m A f0 f1 t d
 | 0, d => by simp [nowL, NowP]
 | t + 1, d => by
  unfold nowL NowP
  constructor
  ·intro h
   split at h
   ·rename_i x all hx ha
    obtain ⟨c, h1, h2⟩ := List.mem_flatMap.1 h
    exact ⟨c, x, all, mem_nowL.1 h1, hx, ha, mem_stepL.1 h2⟩
   ·cases h
  ·rintro ⟨c, x, all, h1, hx, ha, h2⟩
   rw [hx, ha]
   exact List.mem_flatMap.2 ⟨c, mem_nowL.2 h1, mem_stepL.2 h2⟩
def metB (m : Mix) (v a f0 f1 : Int) (b : Bool) (e : Int) : Bool :=
 if metM m v a f0 f1 = 0 then match allM m m.acts with
  | some A => decide (e = 0) && (b == (nowL m A f0 f1 a.toNat).contains (idxV m.vessels v, idxV m.vessels v))
  | none => false
 else !b && decide (e = metM m v a f0 f1)
theorem met_of {m : Mix} {v a f0 f1 e : Int} {b : Bool} (h : metB m v a f0 f1 b e = true) : MetIs m v a f0 f1 b e := by
 unfold metB at h
 split at h
 ·rename_i hg
  split at h
  ·rename_i A hA
   simp only [Bool.and_eq_true, decide_eq_true_eq, beq_iff_eq] at h
   exact .inr ⟨hg, h.1, A, hA, by rw [h.2, List.contains_iff_mem]; exact mem_nowL⟩
  ·cases h
 ·rename_i hg
  simp only [Bool.and_eq_true, decide_eq_true_eq, Bool.not_eq_true'] at h
  exact .inl ⟨hg, h.1, h.2⟩
end Go.Proofs.YtjdgdeiedkickaaDoor.Mx
/- A jar into which a skin is poured out: all is told to a drop (plain). -/
namespace Go.Proofs.YtjdgdeiedkickaaDoor.Mx

/-- Two fountains, a skin and a jar. -/
def jarM (D : Int) (l : List MAct) : Mix := ⟨2, [⟨1, D⟩, ⟨2, 12⟩], l, []⟩
/-- A fountain's drops go one way alone. -/
structure Frc (D : Int) (l : List MAct) (A : List Held) (f : Int) (S : Nat → Held) (K : Nat → Int) : Prop where
 zero : S 0 = zeroH
 step : ∀ {t : Nat} {x : MAct} {all : Held}, l[t]? = some x → A[t]? = some all → spanP (jarM D l) x f all (S t) = (K t, K t) ∧ S (t + 1) = shiftH (S t) (fromI (jarM D l) x) (toI (jarM D l) x) (K t)
section
variable {D : Int} {l : List MAct} {A : List Held} {f : Int} {S : Nat → Held} {K : Nat → Int}
theorem Frc.run (h : Frc D l A f S K) : Run (jarM D l) f A S K :=
 ⟨h.zero, fun {t} {x} {all} hx ha => by
  obtain ⟨h1, h2⟩ := h.step hx ha
  rw [h1]
  exact ⟨Int.le_refl _, Int.le_refl _, h2⟩, fun {t} ht => rfl⟩
theorem Frc.one (h : Frc D l A f S K) (hl : A.length = l.length + 1) {S' : Nat → Held} {K' : Nat → Int} (h' : Run (jarM D l) f A S' K') : ∀ {t : Nat}, t ≤ l.length → S' t = S t
 | 0, _ => h'.zero.trans h.zero.symm
 | t + 1, ht => by
  have ih := h.one hl h' (t := t) (by omega)
  have hx : l[t]? = some (l[t]'(by omega)) := List.getElem?_eq_getElem (by omega)
  have ha : A[t]? = some (A[t]'(by omega)) := List.getElem?_eq_getElem (by omega)
  obtain ⟨h1, h2⟩ := h.step hx ha
  obtain ⟨k1, k2, k3⟩ := h'.step (m := jarM D l) hx ha
  rw [ih, h1] at k1 k2
  have e : K' t = K t := Int.le_antisymm k2 k1
  rw [k3, ih, e, h2]
theorem Frc.truth (h : Frc D l A f S K) (hA : allM (jarM D l) l = some A) {t : Nat} (ht : t ≤ l.length) (s : Held) : Truth (jarM D l) f A t s ↔ s = S t := by
 have hl := allM_len _ _ _ hA
 constructor
 ·intro h1
  obtain ⟨S', K', h2, h3⟩ := h1.run ht
  rw [← h3]
  exact h.one hl h2 ht
 ·rintro rfl
  exact h.run.truth hA ht
theorem Frc.snoc (h : Frc D l A f S K) (hl : A.length = l.length + 1) {x : MAct} {a a' s s' : Held} {k : Int} (ha : A[l.length]? = some a) (hs : S l.length = s) (h1 : spanP (jarM D []) x f a s = (k, k)) (h2 : shiftH s (fromI (jarM D []) x) (toI (jarM D []) x) k = s') :
  ∃ S' K', Frc D (l ++ [x]) (A ++ [a']) f S' K' ∧ S' (l ++ [x]).length = s' := by
 refine ⟨fun t => if t ≤ l.length then S t else s', fun t => if t < l.length then K t else k, ⟨?_, ?_⟩, ?_⟩
 ·show (if 0 ≤ l.length then S 0 else s') = zeroH
  rw [if_pos (Nat.zero_le _)]
  exact h.zero
 ·intro t y all hy hal
  have ht := (List.getElem?_eq_some_iff.1 hy).1
  rw [List.length_append] at ht
  simp only [List.length_cons, List.length_nil] at ht
  by_cases hlt : t < l.length
  ·rw [List.getElem?_append_left hlt] at hy
   rw [List.getElem?_append_left (by omega)] at hal
   simp only [if_pos (show t ≤ l.length by omega), if_pos hlt, if_pos (show t + 1 ≤ l.length by omega)]
   exact h.step hy hal
  ·obtain rfl : t = l.length := by omega
   rw [List.getElem?_append_right (Nat.le_refl _)] at hy
   rw [List.getElem?_append_left (by omega)] at hal
   have e1 : x = y := by simpa using hy
   subst e1
   rw [ha] at hal
   cases hal
   simp only [if_pos (Nat.le_refl l.length), if_neg (Nat.lt_irrefl l.length), if_neg (show ¬ l.length + 1 ≤ l.length by omega), hs]
   exact ⟨h1, h2.symm⟩
 ·show (if (l ++ [x]).length ≤ l.length then S (l ++ [x]).length else s') = s'
  rw [if_neg (by rw [List.length_append]; simp)]
end
/-- What is known behind some acts: the skin's drops, and the jar's of either fountain; where two drops can be. -/
structure JarSt (D : Int) (l : List MAct) (p q1 q2 : Int) (c : Option (Int × Int)) : Prop where
 ex : ∃ A S1 K1 S2 K2, allM (jarM D l) l = some A ∧ A[l.length]? = some [p, q1 + q2, 0, 0] ∧ Frc D l A 1 S1 K1 ∧ S1 l.length = [p, q1, 0, 0] ∧ Frc D l A 2 S2 K2 ∧ S2 l.length = [0, q2, 0, 0] ∧ ∀ y, c = some y → NowP (jarM D l) A 1 2 l.length y
theorem now_acts {D : Int} {l : List MAct} {x : MAct} {A : List Held} {a : Held} (hl : A.length = l.length + 1) : ∀ {t : Nat} {y : Int × Int}, t ≤ l.length → NowP (jarM D l) A 1 2 t y → NowP (jarM D (l ++ [x])) (A ++ [a]) 1 2 t y
 | 0, y, _, h => h
 | t + 1, y, ht, h => by
  obtain ⟨c, z, all, h1, h2, h3, h4⟩ := h
  have h2' : l[t]? = some z := h2
  refine ⟨c, z, all, now_acts hl (by omega) h1, ?_, ?_, h4⟩
  ·show (l ++ [x])[t]? = some z
   rw [List.getElem?_append_left (by omega)]
   exact h2'
  ·rw [List.getElem?_append_left (by omega)]
   exact h3
theorem JarSt.snoc {D p q1 q2 p' q1' q2' k1 k2 : Int} {l : List MAct} {c c' : Option (Int × Int)} {x : MAct} (h : JarSt D l p q1 q2 c) (hd : doneM (jarM D []) [p, q1 + q2, 0, 0] x = some [p', q1' + q2', 0, 0])
  (h1 : spanP (jarM D []) x 1 [p, q1 + q2, 0, 0] [p, q1, 0, 0] = (k1, k1)) (e1 : shiftH [p, q1, 0, 0] (fromI (jarM D []) x) (toI (jarM D []) x) k1 = [p', q1', 0, 0])
  (h2 : spanP (jarM D []) x 2 [p, q1 + q2, 0, 0] [0, q2, 0, 0] = (k2, k2)) (e2 : shiftH [0, q2, 0, 0] (fromI (jarM D []) x) (toI (jarM D []) x) k2 = [0, q2', 0, 0])
  (hc : ∀ y', c' = some y' → ∃ y, c = some y ∧ StepP (fromI (jarM D []) x) (toI (jarM D []) x) (sizeA (jarM D []) [p, q1 + q2, 0, 0] x) (heldAt [p, q1 + q2, 0, 0] (fromI (jarM D []) x)) x.fr 1 2 y y') : JarSt D (l ++ [x]) p' q1' q2' c' := by
 obtain ⟨A, S1, K1, S2, K2, hA, ha, f1, s1, f2, s2, hn⟩ := h.ex
 have hl := allM_len _ _ _ hA
 have hlast : A.getLast?.getD [] = [p, q1 + q2, 0, 0] := by rw [List.getLast?_eq_getElem?, show A.length - 1 = l.length by omega, ha]; rfl
 obtain ⟨S1', K1', f1', s1'⟩ := f1.snoc hl ha s1 (a' := [p', q1' + q2', 0, 0]) h1 e1
 obtain ⟨S2', K2', f2', s2'⟩ := f2.snoc hl ha s2 (a' := [p', q1' + q2', 0, 0]) h2 e2
 refine ⟨A ++ [[p', q1' + q2', 0, 0]], S1', K1', S2', K2', ?_, ?_, f1', s1', f2', s2', fun y' hy' => ?_⟩
 ·rw [allM_snoc]
  have hA' : allM (jarM D (l ++ [x])) l = some A := hA
  rw [hA']
  show (doneM (jarM D []) (A.getLast?.getD []) x).map (fun s => A ++ [s]) = _
  rw [hlast, hd]
  rfl
 ·rw [List.getElem?_append_right (by rw [List.length_append, hl]; exact Nat.le_refl _), List.length_append, hl]
  simp
 ·obtain ⟨y, e3, h3⟩ := hc y' hy'
  rw [List.length_append]
  refine ⟨y, x, _, now_acts hl (Nat.le_refl _) (hn y e3), ?_, ?_, h3⟩
  ·show (l ++ [x])[l.length]? = some x
   simp
  ·rw [List.getElem?_append_left (by omega)]
   exact ha
theorem JarSt.start (D : Int) : JarSt D [] 0 0 0 (some (-1, -1)) :=
 ⟨[zeroH], fun _ => zeroH, fun _ => 0, fun _ => zeroH, fun _ => 0, rfl, rfl, ⟨rfl, fun {t} {x} {all} hx => by simp at hx⟩, rfl, ⟨rfl, fun {t} {x} {all} hx => by simp at hx⟩, rfl, fun y hy => by cases hy; rfl⟩
theorem idx_two (D : Int) (l : List MAct) : idxV (jarM D l).vessels 2 = 1 := rfl
section
variable {D p q1 q2 n : Int} {l : List MAct} {c : Option (Int × Int)}
theorem jar_fill (hD : 1 ≤ D ∧ D ≤ 12) : JarSt D [⟨1, 1, 1, D⟩] D 0 0 (some (0, -1)) := by
 have h := JarSt.start D
 refine h.snoc (x := ⟨1, 1, 1, D⟩) (k1 := D) (k2 := 0) ?_ ?_ ?_ ?_ ?_ ?_
 ·have e : doneM (jarM D []) [0, 0 + 0, 0, 0] ⟨1, 1, 1, D⟩ = if ((1 : Int) ≤ 1 ∧ (1 : Int) ≤ 2) ∧ (0 : Int) ≤ 0 ∧ 1 ≤ D ∧ D ≤ D - 0 then some [0 + D, 0, 0, 0] else none := rfl
  rw [e, if_pos (by omega)]
  simp
 ·rfl
 ·show [0 + D, 0, 0, 0] = [D, 0, 0, 0]
  simp
 ·rfl
 ·rfl
 ·intro y' hy'
  cases hy'
  refine ⟨(-1, -1), rfl, true, false, fun _ => ?_, (fun h => by cases h), rfl, fun h => ?_⟩
  ·exact ⟨rfl, rfl⟩
  ·exact absurd h (show ¬ ((0 : Int) ≤ -1) by decide)
theorem jar_lose (h : JarSt D l p q1 q2 c) (hc : c = none ∨ c = some (0, -1)) (hn : 1 ≤ n ∧ n ≤ p) : JarSt D (l ++ [⟨3, 1, 0, n⟩]) (p - n) q1 q2 (if n < p then c else none) := by
 refine h.snoc (x := ⟨3, 1, 0, n⟩) (k1 := n) (k2 := 0) ?_ ?_ ?_ ?_ ?_ ?_
 ·have e : doneM (jarM D []) [p, q1 + q2, 0, 0] ⟨3, 1, 0, n⟩ = if (0 : Int) = 0 ∧ 1 ≤ n ∧ n ≤ p then some [p - n, q1 + q2, 0, 0] else none := rfl
  rw [e, if_pos (by omega)]
 ·have e : spanP (jarM D []) ⟨3, 1, 0, n⟩ 1 [p, q1 + q2, 0, 0] [p, q1, 0, 0] = (max 0 (n - (p - p)), min n p) := rfl
  rw [e]
  congr 1 <;> omega
 ·rfl
 ·have e : spanP (jarM D []) ⟨3, 1, 0, n⟩ 2 [p, q1 + q2, 0, 0] [0, q2, 0, 0] = (max 0 (n - (p - 0)), min n 0) := rfl
  rw [e]
  congr 1 <;> omega
 ·show [(0 : Int) - 0, q2, 0, 0] = [0, q2, 0, 0]
  simp
 ·intro y' hy'
  split at hy'
  ·rename_i hlt
   rcases hc with rfl | rfl
   ·cases hy'
   ·cases hy'
    refine ⟨(0, -1), rfl, false, false, (fun h => by cases h), (fun h => by cases h), rfl, fun _ => ?_⟩
    show (0 : Int) + 0 ≤ n ∧ (1 : Int) + 0 ≤ p - n
    omega
  ·cases hy'
theorem jar_more (h : JarSt D l p q1 q2 c) (hc : c = none ∨ c = some (0, -1)) (hn : 1 ≤ n ∧ q1 + q2 + n ≤ 12) : JarSt D (l ++ [⟨1, 2, 2, n⟩]) p q1 (q2 + n) (if c = some (0, -1) then some (0, 1) else none) := by
 refine h.snoc (x := ⟨1, 2, 2, n⟩) (k1 := 0) (k2 := n) ?_ ?_ ?_ ?_ ?_ ?_
 ·have e : doneM (jarM D []) [p, q1 + q2, 0, 0] ⟨1, 2, 2, n⟩ = if ((1 : Int) ≤ 2 ∧ (2 : Int) ≤ 2) ∧ (0 : Int) ≤ 1 ∧ 1 ≤ n ∧ n ≤ 12 - (q1 + q2) then some [p, q1 + q2 + n, 0, 0] else none := rfl
  rw [e, if_pos (by omega), Int.add_assoc]
 ·rfl
 ·show [p, q1 + 0, 0, 0] = [p, q1, 0, 0]
  simp
 ·rfl
 ·rfl
 ·intro y' hy'
  rcases hc with rfl | rfl
  ·simp at hy'
  ·simp at hy'
   subst hy'
   refine ⟨(0, -1), rfl, false, true, (fun h => by cases h), fun _ => ⟨rfl, rfl⟩, rfl, fun h => ?_⟩
   exact absurd h (show ¬ ((0 : Int) ≤ -1) by decide)
theorem jar_pour (h : JarSt D l p q1 q2 c) (hc : c = none ∨ c = some (0, 1)) (hn : 1 ≤ p ∧ q1 + q2 + p ≤ 12) (hq : c = none ∨ 1 ≤ q2) : JarSt D (l ++ [⟨2, 1, 2, p⟩]) 0 (q1 + p) q2 (if c = some (0, 1) then some (1, 1) else none) := by
 refine h.snoc (x := ⟨2, 1, 2, p⟩) (k1 := p) (k2 := 0) ?_ ?_ ?_ ?_ ?_ ?_
 ·have e : doneM (jarM D []) [p, q1 + q2, 0, 0] ⟨2, 1, 2, p⟩ = if (1 : Int) ≠ 2 ∧ (1 ≤ p ∧ p ≤ p) ∧ (0 : Int) ≤ 1 ∧ p ≤ 12 - (q1 + q2) then some [p - p, q1 + q2 + p, 0, 0] else none := rfl
  rw [e, if_pos (by omega), show p - p = 0 by omega, show q1 + q2 + p = q1 + p + q2 by omega]
 ·have e : spanP (jarM D []) ⟨2, 1, 2, p⟩ 1 [p, q1 + q2, 0, 0] [p, q1, 0, 0] = (max 0 (p - (p - p)), min p p) := rfl
  rw [e]
  congr 1 <;> omega
 ·show [p - p, q1 + p, 0, 0] = [0, q1 + p, 0, 0]
  simp
 ·have e : spanP (jarM D []) ⟨2, 1, 2, p⟩ 2 [p, q1 + q2, 0, 0] [0, q2, 0, 0] = (max 0 (p - (p - 0)), min p 0) := rfl
  rw [e]
  congr 1 <;> omega
 ·show [(0 : Int) - 0, q2 + 0, 0, 0] = [0, q2, 0, 0]
  simp
 ·intro y' hy'
  rcases hc with rfl | rfl
  ·simp at hy'
  ·simp at hy'
   subst hy'
   refine ⟨(0, 1), rfl, true, false, fun _ => rfl, (fun h => by cases h), rfl, fun _ => ?_⟩
   show (1 : Int) + 0 ≤ p ∧ (0 : Int) + 0 ≤ p - p
   omega
end
/-- All that is done: the skin is filled, loses some, the jar holds some, the rest is poured. -/
def jarL (lost rest other : Int) : List MAct := (([⟨1, 1, 1, lost + rest⟩] ++ if 0 < lost then [⟨3, 1, 0, lost⟩] else []) ++ if 0 < other then [⟨1, 2, 2, other⟩] else []) ++ if 0 < rest then [⟨2, 1, 2, rest⟩] else []
theorem jar_all {lost rest other : Int} (h0 : 0 ≤ lost) (h1 : 0 ≤ rest) (h2 : 0 ≤ other) (h3 : 1 ≤ lost + rest ∧ lost + rest ≤ 12) (h4 : rest + other ≤ 12) :
  ∃ c, JarSt (lost + rest) (jarL lost rest other) 0 rest other c ∧ (0 < rest → 0 < other → c = some (1, 1)) := by
 have a1 := jar_fill h3
 have a2 : ∃ c, JarSt (lost + rest) ([⟨1, 1, 1, lost + rest⟩] ++ if 0 < lost then [⟨3, 1, 0, lost⟩] else []) rest 0 0 c ∧ (c = none ∨ c = some (0, -1)) ∧ (0 < rest → c = some (0, -1)) := by
  by_cases e : 0 < lost
  ·rw [if_pos e]
   have := jar_lose a1 (.inr rfl) (n := lost) (by omega)
   rw [show lost + rest - lost = rest by omega] at this
   refine ⟨_, this, ?_, fun h => ?_⟩
   ·by_cases e2 : lost < lost + rest
    ·rw [if_pos e2]; exact .inr rfl
    ·rw [if_neg e2]; exact .inl rfl
   ·rw [if_pos (by omega)]
  ·rw [if_neg e, List.append_nil]
   obtain rfl : lost = 0 := by omega
   rw [show (0 : Int) + rest = rest by omega] at a1 ⊢
   exact ⟨_, a1, .inr rfl, fun _ => rfl⟩
 obtain ⟨c2, a2, b2, g2⟩ := a2
 have a3 : ∃ c, JarSt (lost + rest) (([⟨1, 1, 1, lost + rest⟩] ++ if 0 < lost then [⟨3, 1, 0, lost⟩] else []) ++ if 0 < other then [⟨1, 2, 2, other⟩] else []) rest 0 other c ∧ (0 < other → (c = none ∨ c = some (0, 1))) ∧ (0 < rest → 0 < other → c = some (0, 1)) := by
  by_cases e : 0 < other
  ·rw [if_pos e]
   have := jar_more a2 b2 (n := other) (by omega)
   rw [show (0 : Int) + other = other by omega] at this
   refine ⟨_, this, fun _ => ?_, fun hr _ => ?_⟩
   ·by_cases e2 : c2 = some (0, -1)
    ·rw [if_pos e2]; exact .inr rfl
    ·rw [if_neg e2]; exact .inl rfl
   ·rw [if_pos (g2 hr)]
  ·rw [if_neg e, List.append_nil]
   obtain rfl : other = 0 := by omega
   exact ⟨_, a2, fun h => absurd h e, fun _ h => absurd h e⟩
 obtain ⟨c3, a3, b3, g3⟩ := a3
 unfold jarL
 by_cases e : 0 < rest
 ·rw [if_pos e]
  by_cases e2 : 0 < other
  ·have := jar_pour a3 (b3 e2) (by omega) (.inr (by omega))
   rw [show (0 : Int) + rest = rest by omega, if_pos (g3 e e2)] at this
   exact ⟨_, this, fun _ _ => rfl⟩
  ·have a4 : JarSt (lost + rest) (([⟨1, 1, 1, lost + rest⟩] ++ if 0 < lost then [⟨3, 1, 0, lost⟩] else []) ++ if 0 < other then [⟨1, 2, 2, other⟩] else []) rest 0 other none := by
    obtain ⟨A, S1, K1, S2, K2, k1, k2, k3, k4, k5, k6, _⟩ := a3.ex
    exact ⟨A, S1, K1, S2, K2, k1, k2, k3, k4, k5, k6, fun y hy => by cases hy⟩
   have := jar_pour a4 (.inl rfl) (by omega) (.inl rfl)
   rw [show (0 : Int) + rest = rest by omega] at this
   exact ⟨_, this, fun _ h => absurd h e2⟩
 ·rw [if_neg e, List.append_nil]
  obtain rfl : rest = 0 := by omega
  exact ⟨_, a3, fun h => absurd h e⟩
theorem jar_len (lost rest other : Int) : (jarL lost rest other).length ≤ 4 := by
 unfold jarL
 by_cases e1 : 0 < lost <;> by_cases e2 : 0 < other <;> by_cases e3 : 0 < rest <;> simp [e1, e2, e3]
theorem jar_filled (lost rest other : Int) : filledM (jarM (lost + rest) (jarL lost rest other)) 1 = lost + rest := by
 show (jarL lost rest other).foldl (fun n x => if x.kind = 1 ∧ x.fr = 1 then n + x.drops else n) 0 = lost + rest
 unfold jarL
 by_cases e1 : 0 < lost <;> by_cases e2 : 0 < other <;> by_cases e3 : 0 < rest <;> simp [e1, e2, e3]
theorem jar_ok {D : Int} {l : List MAct} {A : List Held} (hD : 1 ≤ D ∧ D ≤ 12) (hl : l.length ≤ 4) (hA : allM (jarM D l) l = some A) : okMix (jarM D l) = true := by
 have e : okMix (jarM D l) = (decide ((1 : Int) ≤ 2 ∧ (2 : Int) ≤ 4) && decide ((2 : Nat) ≤ 4 ∧ l.length ≤ 12 ∧ (0 : Nat) ≤ 8) && (decide (1 ≤ D ∧ D ≤ 12) && (decide ((1 : Int) ≤ 12 ∧ (12 : Int) ≤ 12) && true)) && true && (allM (jarM D l) l).isSome && (decide ((0 : Int) + 1 ≤ 1 ∧ (1 : Int) ≤ 9999) && (decide ((1 : Int) + 1 ≤ 2 ∧ (2 : Int) ≤ 9999) && true)) && true) := rfl
 rw [e, hA, decide_eq_true hD, decide_eq_true (show (2 : Nat) ≤ 4 ∧ l.length ≤ 12 ∧ (0 : Nat) ≤ 8 by omega)]
 rfl
theorem span_one {P : Int → Prop} {n : Int} {s : Int × Int} (h : IsSpan P s) (hP : ∀ k, P k ↔ k = n) : s = (n, n) := by
 have h1 := (hP _).1 h.1
 have h2 := (hP _).1 h.2.1
 exact Prod.ext h1 h2
/-- No way, where there is never a drop. -/
theorem way_of_truth {m : Mix} {A : List Held} {v t f z : Int} {l : List Int} (hok : okMix m = true) (hA : allM m m.acts = some A) (hv : 0 ≤ idxV m.vessels v) (ht : 0 ≤ t ∧ t ≤ m.acts.length) (hf : 1 ≤ f ∧ f ≤ m.fountains) (hb : m.tastes = [])
  (hP : ∀ q, OfP m v t f A q ↔ q = z) (hz : ¬ 0 < z) (hw : WayTo m A f t.toNat (idxV m.vessels v) l) : False := by
 have hv4 := (okMix_vess hok).1
 obtain ⟨_, _, y, hy, hy1⟩ := way_drop hA hv4 hb hw
 have := (hP _).1 ⟨y, fwd_truth hA hv4 hb rfl (by omega) hy, rfl⟩
 omega
/-- WHAT GETS INTO THE JAR. -/
theorem jar_law {lost rest other n all e f k i g j h pv : Int} {a b gone : Int × Int} {met : Bool} (h0 : 0 ≤ lost) (h1 : 0 ≤ rest) (h2 : 0 ≤ other) (h3 : 1 ≤ lost + rest ∧ lost + rest ≤ 12) (h4 : rest + other ≤ 12)
  (hn : n = ((jarL lost rest other).length : Int)) (k1 : HoldsIs (jarM (lost + rest) (jarL lost rest other)) 2 n all e) (k2 : OfIs (jarM (lost + rest) (jarL lost rest other)) 2 n 1 a f) (k3 : OfIs (jarM (lost + rest) (jarL lost rest other)) 2 n 2 b g)
  (k4 : PureIs (jarM (lost + rest) (jarL lost rest other)) 2 n 1 pv h) (k5 : MetIs (jarM (lost + rest) (jarL lost rest other)) 2 n 1 2 met i) (k6 : GoneIs (jarM (lost + rest) (jarL lost rest other)) 1 gone k) :
  e = 0 ∧ f = 0 ∧ g = 0 ∧ h = 0 ∧ i = 0 ∧ k = 0 ∧ all = rest + other ∧ a = (rest, rest) ∧ b = (other, other) ∧ (pv = 2 ↔ other = 0) ∧ (met = true ↔ 0 < rest ∧ 0 < other) ∧ gone = (lost, lost) := by
 obtain ⟨c, hj, hc⟩ := jar_all h0 h1 h2 h3 h4
 have hlen := jar_len lost rest other
 have hfil := jar_filled lost rest other
 obtain ⟨A, S1, K1, S2, K2, hA, ha, f1, s1, f2, s2, hnow⟩ := hj.ex
 generalize jarL lost rest other = l at *
 have hok := jar_ok h3 hlen hA
 have hv : 0 ≤ idxV (jarM (lost + rest) l).vessels 2 := by rw [idx_two]; decide
 have ht : 0 ≤ n ∧ n ≤ (jarM (lost + rest) l).acts.length := by show 0 ≤ n ∧ n ≤ l.length; omega
 have htn : n.toNat = l.length := by omega
 have hF1 : (1 : Int) ≤ 1 ∧ (1 : Int) ≤ (jarM (lost + rest) l).fountains := ⟨by decide, show (1 : Int) ≤ 2 by decide⟩
 have hF2 : (1 : Int) ≤ 2 ∧ (2 : Int) ≤ (jarM (lost + rest) l).fountains := ⟨by decide, show (2 : Int) ≤ 2 by decide⟩
 have t1 : ∀ s, Truth (jarM (lost + rest) l) 1 A l.length s ↔ s = [0, rest, 0, 0] := fun s => by rw [f1.truth hA (Nat.le_refl _), s1]
 have t2 : ∀ s, Truth (jarM (lost + rest) l) 2 A l.length s ↔ s = [0, other, 0, 0] := fun s => by rw [f2.truth hA (Nat.le_refl _), s2]
 have z1 : Truth (jarM (lost + rest) l) 1 A 0 zeroH := (f1.truth hA (Nat.zero_le _) _).2 f1.zero.symm
 have z2 : Truth (jarM (lost + rest) l) 2 A 0 zeroH := (f2.truth hA (Nat.zero_le _) _).2 f2.zero.symm
 have p1 : ∀ q, OfP (jarM (lost + rest) l) 2 n 1 A q ↔ q = rest := fun q => by
  unfold OfP
  rw [htn, idx_two]
  constructor
  ·rintro ⟨s, hs, rfl⟩
   rw [(t1 s).1 hs]
   rfl
  ·rintro rfl
   exact ⟨_, (t1 _).2 rfl, rfl⟩
 have p2 : ∀ q, OfP (jarM (lost + rest) l) 2 n 2 A q ↔ q = other := fun q => by
  unfold OfP
  rw [htn, idx_two]
  constructor
  ·rintro ⟨s, hs, rfl⟩
   rw [(t2 s).1 hs]
   rfl
  ·rintro rfl
   exact ⟨_, (t2 _).2 rfl, rfl⟩
 obtain ⟨he, A', a', hA', ha', hall⟩ := holdsIs_open hok hv ht k1
 have hAA : A = A' := Option.some.inj (hA.symm.trans hA')
 subst hAA
 rw [htn, ha] at ha'
 cases ha'
 have hall' : all = rest + other := hall
 have o1 := ofIs_open hok hv ht hF1 k2
 have o2 := ofIs_open hok hv ht hF2 k3
 have hf : f = 0 ∧ a = (rest, rest) := by
  rcases (tell_both hA o1 o1).2 with ⟨d1, _, d2, _⟩ | ⟨_, d2, _⟩
  ·exact ⟨d1, span_one d2 p1⟩
  ·exact absurd z1 d2
 have hg : g = 0 ∧ b = (other, other) := by
  rcases (tell_both hA o2 o2).2 with ⟨d1, _, d2, _⟩ | ⟨_, d2, _⟩
  ·exact ⟨d1, span_one d2 p2⟩
  ·exact absurd z2 d2
 have hgo : k = 0 ∧ gone = (lost, lost) := by
  have o3 := goneIs_open hok hF1 k6
  rcases (tell_both hA o3 o3).2 with ⟨d1, _, d2, _⟩ | ⟨_, d2, _⟩
  ·refine ⟨d1, span_one d2 fun q => ?_⟩
   constructor
   ·rintro ⟨s, hs, rfl⟩
    have e1 := (t1 s).1 hs
    rw [e1, hfil]
    show lost + rest - (0 + rest + 0 + 0) = lost
    omega
   ·rintro rfl
    refine ⟨_, (t1 _).2 rfl, ?_⟩
    rw [hfil]
    show q = q + rest - (0 + rest + 0 + 0)
    omega
  ·exact absurd z1 d2
 have hpu : h = 0 ∧ (pv = 2 ↔ other = 0) := by
  rcases pureIs_open hok hA hv ht hF1 k4 with ⟨_, _, d⟩ | ⟨d1, _, s, y, d2, d3, d4⟩
  ·exact absurd z1 d
  ·rw [htn, ha] at d3
   cases d3
   rw [span_one d2 p1] at d4
   have e2 : heldAt [0, rest + other, 0, 0] (idxV (jarM (lost + rest) l).vessels 2) = rest + other := rfl
   rw [e2] at d4
   refine ⟨d1, ?_⟩
   rw [d4, judge_two]
   constructor <;> (intro q; dsimp only at *; omega)
 have hm : i = 0 ∧ (met = true ↔ 0 < rest ∧ 0 < other) := by
  have q0 : metM (jarM (lost + rest) l) 2 n 1 2 = 0 := by
   have q1 : askM (jarM (lost + rest) l) 2 n [1, 2] = 0 := by
    unfold askM
    rw [if_pos hok, if_neg (by omega), if_pos ⟨ht, by simp; exact ⟨hF1.2, hF2.2⟩⟩]
   unfold metM
   rw [if_pos q1, if_neg (by decide)]
  rcases k5 with ⟨d, _⟩ | ⟨_, d1, A2, d2, d3⟩
  ·exact absurd q0 d
  have hAA : A = A2 := Option.some.inj (hA.symm.trans d2)
  subst hAA
  refine ⟨d1, d3.trans ⟨fun q => ?_, fun q => ?_⟩⟩
  ·obtain ⟨w1, w2⟩ := now_way hA (show 2 ≤ 4 by decide) q
   obtain ⟨l1, w1⟩ := w1 hv
   obtain ⟨l2, w2⟩ := w2 hv
   refine ⟨?_, ?_⟩
   ·by_cases hr : 0 < rest
    ·exact hr
    ·exfalso
     have q2 := way_of_truth (f := 1) hok hA hv ht hF1 rfl p1 hr w1
     exact q2
   ·by_cases hr : 0 < other
    ·exact hr
    ·exfalso
     exact way_of_truth (f := 2) hok hA hv ht hF2 rfl p2 hr w2
  ·rw [htn]
   exact hnow _ (hc q.1 q.2)
 exact ⟨he, hf.1, hg.1, hpu.1, hm.1, hgo.1, hall', hf.2, hg.2, hpu.2, hm.2, hgo.2⟩
end Go.Proofs.YtjdgdeiedkickaaDoor.Mx
/- slices.Index and slices.Contains at ints. -/
namespace Go.Proofs.YtjdgdeiedkickaaDoor
open Go.RowKit

theorem any_contains (l : List Int) (x : Int) : (l.any fun y => y == x) = l.contains x := by
 rw [Bool.eq_iff_iff]; simp [List.any_eq_true]

set_option maxHeartbeats 1000000 in
theorem index_int (A : Option Addr) (n c : Nat) (l : List Int) (x : Int) (w : World) (hr : IntsAt w w.heap.size A n l) (hn : n ≤ maxLen) :
  Calls Tryd.prog 76 #[.slice A n c, .int .i64 x] w fun e w' => e = .returned (.int .i64 (idx (fun y => x == y) l)) ∧ Below w.heap.size w w' := by
 unfold maxLen at hn
 go_enter Tryd.func76, Tryd.ntmps76
 go_wp2_with fail
 go_loopw [8, 5] (fun i j wr => ∃ k : Nat, k ≤ n ∧ i = .int .i64 k ∧ (∀ y ∈ l.take k, (x == y) = false) ∧ Below w.heap.size w wr)
  (fun i _ _ => n - (intOf i).toNat)
 case atStart => exact ⟨0, by omega, rfl, by simp, Below.refl _ _⟩
 case round =>
  obtain ⟨k, hk, rfl, hno, hb⟩ := hrel
  have HN := Lib.hid hno
  clear hno
  by_cases hlt : k < n
  ·obtain ⟨b, off, y, rfl, hbB, hx, hc⟩ := (hr.below hb).cell hlt
   have HX := Lib.hid hx
   clear hx
   by_cases he : x = y
   ·subst he
    go_wp2_with fail
    go_ret
    exact ⟨ret_int (idx_some HX.out (by simp) HN.out).symm, hb⟩
   ·have he' : (x == y) = false := by simpa using he
    go_wp2_with fail
    go_roundw
    case rel => exact ⟨k + 1, by omega, by go_num, take_snoc_all HX.out (by simpa using he) HN.out, hb⟩
    case measure => simp [intOf]; omega
  ·go_wp2_with fail
   go_ret
   exact ⟨ret_int (idx_none (by
    have := HN.out
    rwa [List.take_of_length_le (by have := hr.len; omega)] at this)).symm, hb⟩
end Go.Proofs.YtjdgdeiedkickaaDoor
/- slices.Contains at ints. -/
namespace Go.Proofs.YtjdgdeiedkickaaDoor
open Go.RowKit

theorem idx_contains (x : Int) (l : List Int) : decide (0 ≤ idx (fun y => x == y) l) = l.contains x := by
 rw [idx_ge, Bool.eq_iff_iff]
 simp [List.any_eq_true]

/-- A word that simp does not open. -/
def memI (l : List Int) (x : Int) : Bool := l.contains x
theorem contains_int (A : Option Addr) (n c : Nat) (l : List Int) (x : Int) (w : World) (hr : IntsAt w w.heap.size A n l) (hn : n ≤ maxLen) :
  Calls Tryd.prog 53 #[.slice A n c, .int .i64 x] w fun e w' => e = .returned (.bool (memI l x)) ∧ Below w.heap.size w w' := by
 have H := Lib.hid (index_int A n c l x w hr hn)
 have HD := idx_bd (fun y => x == y) l
 go_enter Tryd.func53, Tryd.ntmps53
 go_wp2_with fail
 refine H.out.mono ?_
 rintro e w' ⟨rfl, hb⟩
 go_wp2_with fail
 go_ret
 exact ⟨ret_bool (idx_contains x l), hb⟩
end Go.Proofs.YtjdgdeiedkickaaDoor
/- The walks of climb.in. -/
namespace Go.Proofs.YtjdgdeiedkickaaDoor
open Go.RowKit

theorem out1_any (x lo hi : Int) (b1 b2 : Nat) (w : World) (h1 : w.cell? ⟨b1, 0, none⟩ = some (.int .i64 lo)) (h2 : w.cell? ⟨b2, 0, none⟩ = some (.int .i64 hi)) :
  Calls Tryd.prog 54 (#[.int .i64 x] ++ #[.pointer (some ⟨b1, 0, none⟩), .pointer (some ⟨b2, 0, none⟩)]) w fun e w' => e = .returned (.bool (decide (x < lo) || decide (hi < x))) ∧ Below w.heap.size w w' := by
 by_cases h : x < lo
 all_goals
  go_enter Tryd.func54, Tryd.ntmps54
  go_wp2
  go_ret
  refine ⟨ret_bool ?_, Below.refl _ _⟩
  by_cases q : x < lo <;> simp [q] <;> omega

theorem enters_in1 (args : Array Value) (W : World) : (callFunc 54 args).run Tryd.prog W = .ok (.enter 54 args) W := by
 simp [go_sem]

/-- Whether all numbers are from lo to hi. -/
def inB (lo hi : Int) (l : List Int) : Bool := !l.any fun n => decide (n < lo) || decide (hi < n)

theorem in_any (lo hi : Int) (A : Option Addr) (n c : Nat) (l : List Int) (w : World) (hr : IntsAt w w.heap.size A n l) (hn : n ≤ maxLen) :
  Calls Tryd.prog 36 #[.int .i64 lo, .int .i64 hi, .slice A n c] w fun e w' => e = .returned (.bool (inB lo hi l)) ∧ Below w.heap.size w w' := by
 have hmf : ∀ (fn : Fn) (first cap : Array Value) (w : World), (Instr.makeFunc fn first cap).run Tryd.prog w = .ok (.func fn first cap) w := fun _ _ _ _ => rfl
 go_enter Tryd.func36, Tryd.ntmps36
 go_wp2_with fail
 have hb : Below w.heap.size w ((w.alloc (.cells #[.int .i64 lo] 3)).alloc (.cells #[.int .i64 hi] 3)) := ((Below.refl _ _).alloc (Nat.le_refl _) _).alloc (by simp) _
 refine (containsFunc_int 54 _ (fun n => decide (n < lo) || decide (hi < n)) A n c l _ ((hr.below hb).more (by simp; omega)) hn enters_in1 ?_).mono ?_
 ·intro x _ W hW
  exact out1_any x lo hi _ _ W ((hW.cell (p := ⟨w.heap.size, 0, none⟩) (by simp; omega)).trans (by simp [go_sem])) ((hW.cell (p := ⟨w.heap.size + 1, 0, none⟩) (by simp)).trans (by simp [go_sem]))
 ·rintro e w' ⟨rfl, hb'⟩
  go_wp2_with fail
  go_ret
  exact ⟨rfl, hb.trans (hb'.mono (by simp; omega))⟩
theorem in1_any (lo hi x : Int) (g : Nat) (w : World) (hg : g < w.heap.size) (hc : w.cell? ⟨g, 0, none⟩ = some (.int .i64 x)) :
  Calls Tryd.prog 36 #[.int .i64 lo, .int .i64 hi, .slice (some ⟨g, 0, none⟩) 1 1] w fun e w' => e = .returned (.bool (inB lo hi [x])) ∧ Below w.heap.size w w' :=
 in_any lo hi _ 1 1 [x] w ⟨rfl, fun _ => ⟨_, rfl, hg, fun j u hu => by
  cases j with
  | zero => simp at hu; rw [← hu]; simpa [Addr.add] using hc
  | succ j => simp at hu⟩⟩ (by decide)
end Go.Proofs.YtjdgdeiedkickaaDoor
/- Towns, walks and their order: plain Lean, no program in sight. -/
namespace Go.Proofs.YtjdgdeiedkickaaDoor

structure Link where
 id : Int
 fr : Int
 to : Int
 steps : Int
 paces : Int
 deriving DecidableEq

structure Town where
 places : List Int
 links : List Link
 deriving DecidableEq

structure Cost where
 a : Int
 b : Int
 c : Int
 d : Int
 deriving DecidableEq

structure Price where
 pace : Int
 up : Int
 step : Int
 deriving DecidableEq

def Cost.list (c : Cost) : List Int := [c.a, c.b, c.c, c.d]
def addC (x y : Cost) : Cost := ⟨x.a + y.a, x.b + y.b, x.c + y.c, x.d + y.d⟩
def zeroC : Cost := ⟨0, 0, 0, 0⟩
theorem addC_zero (x : Cost) : addC x zeroC = x := by simp [addC, zeroC]
theorem zero_addC (x : Cost) : addC zeroC x = x := by simp [addC, zeroC]
theorem addC_assoc (x y z : Cost) : addC (addC x y) z = addC x (addC y z) := by simp [addC]; omega
theorem addC_comm (x y : Cost) : addC x y = addC y x := by simp [addC]; omega

/-- What walks are ordered by. -/
def key (c : Cost) (l : List Int) : List Int := c.list ++ l
theorem key_inj {c d : Cost} {l m : List Int} (h : key c l = key d m) : c = d ∧ l = m := by
 obtain ⟨a1, a2, a3, a4⟩ := c
 obtain ⟨b1, b2, b3, b4⟩ := d
 simp [key, Cost.list] at h
 obtain ⟨rfl, rfl, rfl, rfl, rfl⟩ := h
 exact ⟨rfl, rfl⟩
theorem cmp_key (c d : Cost) (l m : List Int) : cmpL (key c l) (key d m) = if cmpL c.list d.list = 0 then cmpL l m else cmpL c.list d.list := cmpL_append l m rfl
theorem list_eq {c d : Cost} (h : cmpL c.list d.list = 0) : c = d := by
 have := cmpL_eq h
 obtain ⟨a1, a2, a3, a4⟩ := c
 obtain ⟨b1, b2, b3, b4⟩ := d
 simp [Cost.list] at this
 obtain ⟨rfl, rfl, rfl, rfl⟩ := this
 rfl
theorem cmpC_unf (c d : Cost) : cmpL c.list d.list = if c.a < d.a then -1 else if d.a < c.a then 1 else if c.b < d.b then -1 else if d.b < c.b then 1 else if c.c < d.c then -1 else if d.c < c.c then 1 else if c.d < d.d then -1 else if d.d < c.d then 1 else 0 := rfl
theorem cmpC_add (c d x : Cost) : cmpL (addC c x).list (addC d x).list = cmpL c.list d.list := by
 rw [cmpC_unf, cmpC_unf]
 unfold addC
 have e : ∀ u v w : Int, (u + w < v + w) = (u < v) := fun u v w => propext ⟨fun h => by omega, fun h => by omega⟩
 simp only [e]
theorem cmpC_add' (c d x : Cost) : cmpL (addC x c).list (addC x d).list = cmpL c.list d.list := by rw [addC_comm x c, addC_comm x d]; exact cmpC_add c d x
theorem cmpC_grow (c x : Cost) (ha : 0 ≤ x.a) (hb : 0 ≤ x.b) (hc : 0 < x.c) : cmpL c.list (addC c x).list = -1 := by
 rw [cmpC_unf]
 unfold addC
 split
 ·rfl
 ·rw [if_neg (by simp; omega)]
  split
  ·rfl
  ·rw [if_neg (by simp; omega), if_pos (by simp; omega)]
/-- A link more at the end, or at the head. -/
theorem key_snoc (c d x : Cost) (l m : List Int) (i : Int) (h1 : c.d = l.length) (h2 : d.d = m.length) : cmpL (key (addC c x) (l ++ [i])) (key (addC d x) (m ++ [i])) = cmpL (key c l) (key d m) := by
 rw [cmp_key, cmp_key, cmpC_add]
 split
 ·rename_i h
  have := list_eq h
  subst this
  rw [cmpL_append _ _ (by omega), cmpL_refl]
  split
  ·rename_i h3; rw [h3]
  ·rfl
 ·rfl
theorem key_cons (c d x : Cost) (l m : List Int) (i : Int) : cmpL (key (addC x c) (i :: l)) (key (addC x d) (i :: m)) = cmpL (key c l) (key d m) := by
 rw [cmp_key, cmp_key, cmpC_add', cmpL_same]
theorem key_grow (c x : Cost) (l m : List Int) (ha : 0 ≤ x.a) (hb : 0 ≤ x.b) (hc : 0 < x.c) : cmpL (key c l) (key (addC c x) m) < 0 := by
 rw [cmp_key, cmpC_grow c x ha hb hc, if_neg (by decide)]; decide

/-- The place to which a link leads from one, and what it costs. -/
def leads (dk : Bool) (p : Price) (x : Link) (v : Int) : Option (Int × Cost) :=
 if dk = true ∧ 0 < x.steps then none
 else if x.fr = v then some (x.to, ⟨x.paces * p.pace + x.steps * (p.up + p.step), x.steps, x.paces, 1⟩)
 else if x.to = v then some (x.fr, ⟨x.paces * p.pace + x.steps * p.step, 0, x.paces, 1⟩)
 else none

inductive Walk (t : Town) (dk : Bool) (p : Price) : Int → Int → Cost → List Int → Prop
 | nil (v : Int) : Walk t dk p v v zeroC []
 | cons {u m v : Int} {x : Link} {c d : Cost} {l : List Int} (hx : x ∈ t.links) (hl : leads dk p x u = some (m, c)) (h : Walk t dk p m v d l) : Walk t dk p u v (addC c d) (x.id :: l)

/-- What is right about a town, for walks; and about a price. -/
structure Fine (t : Town) : Prop where
 steps : ∀ x ∈ t.links, 0 ≤ x.steps ∧ x.steps ≤ 500
 paces : ∀ x ∈ t.links, 1 ≤ x.paces ∧ x.paces ≤ 2000
 ends : ∀ x ∈ t.links, x.fr ∈ t.places ∧ x.to ∈ t.places
 ids : t.links.Pairwise fun x y => x.id < y.id
 size : t.places.length ≤ 9
structure Fair (p : Price) : Prop where
 pace : 0 ≤ p.pace ∧ p.pace ≤ 50
 up : 0 ≤ p.up
 step : 0 ≤ p.step
 both : p.up + p.step ≤ 50

section
variable {t : Town} {dk : Bool} {p : Price} {u v m : Int} {c d : Cost} {l k : List Int} {x : Link}
theorem leads_cost (hx : x ∈ t.links) (ht : Fine t) (hp : Fair p) (h : leads dk p x u = some (m, c)) : 0 ≤ c.a ∧ c.a ≤ 125000 ∧ 0 ≤ c.b ∧ c.b ≤ 500 ∧ 1 ≤ c.c ∧ c.c ≤ 2000 ∧ c.d = 1 := by
 have h1 := ht.steps x hx
 have h2 := ht.paces x hx
 obtain ⟨hp1, hp2, hp3, hp4⟩ := hp
 have m1 : 0 ≤ x.paces * p.pace ∧ x.paces * p.pace ≤ 2000 * 50 := ⟨Int.mul_nonneg (by omega) (by omega), Int.mul_le_mul (by omega) (by omega) (by omega) (by omega)⟩
 have m2 : 0 ≤ x.steps * (p.up + p.step) ∧ x.steps * (p.up + p.step) ≤ 500 * 50 := ⟨Int.mul_nonneg (by omega) (by omega), Int.mul_le_mul (by omega) (by omega) (by omega) (by omega)⟩
 have m3 : 0 ≤ x.steps * p.step ∧ x.steps * p.step ≤ 500 * 50 := ⟨Int.mul_nonneg (by omega) (by omega), Int.mul_le_mul (by omega) (by omega) (by omega) (by omega)⟩
 unfold leads at h
 split at h
 ·cases h
 ·split at h
  ·cases h; refine ⟨?_, ?_, ?_, ?_, ?_, ?_, rfl⟩ <;> simp <;> omega
  ·split at h
   ·cases h; refine ⟨?_, ?_, ?_, ?_, ?_, ?_, rfl⟩ <;> simp <;> omega
   ·cases h
theorem leads_ends (hx : x ∈ t.links) (ht : Fine t) (h : leads dk p x u = some (m, c)) : u ∈ t.places ∧ m ∈ t.places := by
 have := ht.ends x hx
 unfold leads at h
 split at h
 ·cases h
 ·split at h
  ·rename_i e; cases h; subst e; exact ⟨this.1, this.2⟩
  ·split at h
   ·rename_i e; cases h; subst e; exact ⟨this.2, this.1⟩
   ·cases h
theorem Walk.append (h : Walk t dk p u v c l) : ∀ {m : Int} {d : Cost} {k : List Int}, Walk t dk p v m d k → Walk t dk p u m (addC c d) (l ++ k) := by
 induction h with
 | nil v => intro m d k h; rw [zero_addC]; exact h
 | cons hx hl _ ih => intro m d k h; rw [addC_assoc]; exact .cons hx hl (ih h)
theorem Walk.snoc (h : Walk t dk p u v c l) (hx : x ∈ t.links) (hl : leads dk p x v = some (m, d)) : Walk t dk p u m (addC c d) (l ++ [x.id]) := by
 have := h.append (.cons hx hl (.nil m))
 rwa [addC_zero] at this
theorem Walk.bound (h : Walk t dk p u v c l) (ht : Fine t) (hp : Fair p) : 0 ≤ c.a ∧ c.a ≤ 125000 * l.length ∧ 0 ≤ c.b ∧ c.b ≤ 500 * l.length ∧ l.length ≤ c.c ∧ c.c ≤ 2000 * l.length ∧ c.d = l.length := by
 induction h with
 | nil v => simp [zeroC]
 | cons hx hl _ ih =>
  have := leads_cost hx ht hp hl
  obtain ⟨i1, i2, i3, i4, i5, i6, i7⟩ := ih
  simp only [addC, List.length_cons]
  omega
theorem Walk.ends (h : Walk t dk p u v c l) (ht : Fine t) : (u = v ∧ l = []) ∨ (u ∈ t.places ∧ v ∈ t.places) := by
 induction h with
 | nil v => exact .inl ⟨rfl, rfl⟩
 | cons hx hl _ ih =>
  have := leads_ends hx ht hl
  rcases ih with ⟨rfl, _⟩ | ih
  ·exact .inr this
  ·exact .inr ⟨this.1, ih.2⟩
/-- Out of a set of places. -/
theorem Walk.cross (S : Int → Prop) (h : Walk t dk p u v c l) : S u → ¬ S v → ∃ m n x c1 c2 c3 l1 l2, Walk t dk p u m c1 l1 ∧ S m ∧ x ∈ t.links ∧ leads dk p x m = some (n, c2) ∧ ¬ S n ∧ Walk t dk p n v c3 l2 ∧ c = addC (addC c1 c2) c3 ∧ l = (l1 ++ [x.id]) ++ l2 := by
 induction h with
 | nil v => intro h1 h2; exact absurd h1 h2
 | @cons u m v x c d l hx hl hw ih =>
  intro h1 h2
  by_cases hm : S m
  ·obtain ⟨m', n, y, c1, c2, c3, l1, l2, w1, s1, hy, ly, sn, w2, e1, e2⟩ := ih hm h2
   refine ⟨m', n, y, addC c c1, c2, c3, x.id :: l1, l2, .cons hx hl w1, s1, hy, ly, sn, w2, ?_, ?_⟩
   ·rw [e1, addC_assoc, addC_assoc, addC_assoc]
   ·rw [e2]; simp
  ·exact ⟨u, m, x, zeroC, c, d, [], l, .nil u, h1, hx, hl, hm, hw, by rw [zero_addC], by simp⟩
end

/-- r tells the walk before all others; none: there is none. -/
def First (t : Town) (dk : Bool) (p : Price) (u v : Int) : Option (Cost × List Int) → Prop
 | none => ∀ c l, ¬ Walk t dk p u v c l
 | some (c, l) => Walk t dk p u v c l ∧ ∀ c' l', Walk t dk p u v c' l' → cmpL (key c l) (key c' l') ≤ 0

section
variable {t : Town} {dk : Bool} {p : Price} {u v m : Int} {c d : Cost} {l k : List Int} {x : Link}
/-- Each link more costs more. -/
theorem Walk.longer (h : Walk t dk p u v c l) (ht : Fine t) (hp : Fair p) (d : Cost) (k m : List Int) : cmpL (key d k) (key (addC d c) m) < 0 ∨ (l = [] ∧ c = zeroC ∧ u = v) := by
 have hb := h.bound ht hp
 cases h with
 | nil v => exact .inr ⟨rfl, rfl, rfl⟩
 | cons hx hl hw =>
  refine .inl (key_grow d _ k m hb.1 hb.2.2.1 ?_)
  have := hb.2.2.2.2.1
  simp at this ⊢
  omega
theorem Walk.longer' (h : Walk t dk p u v c l) (ht : Fine t) (hp : Fair p) (d : Cost) (k : List Int) : cmpL (key d k) (key (addC d c) (k ++ l)) ≤ 0 := by
 rcases h.longer ht hp d k (k ++ l) with h1 | ⟨rfl, rfl, _⟩
 ·omega
 ·rw [addC_zero, List.append_nil, cmpL_refl]; omega

/-- THE STEP: the least of all open walks is the first one to its place. -/
structure DInv (t : Town) (dk : Bool) (p : Price) (s : Int) (S O : Int → Option (Cost × List Int)) : Prop where
 disj : ∀ v, O v ≠ none → S v = none
 sFirst : ∀ v r, S v = some r → First t dk p s v (some r)
 oWalk : ∀ v c l, O v = some (c, l) → Walk t dk p s v c l
 cross : ∀ u c l, S u = some (c, l) → ∀ x ∈ t.links, ∀ n d, leads dk p x u = some (n, d) → S n ≠ none ∨ ∃ c' l', O n = some (c', l') ∧ cmpL (key c' l') (key (addC c d) (l ++ [x.id])) ≤ 0
 start : S s ≠ none ∨ O s = some (zeroC, [])

theorem DInv.least {s : Int} {S O : Int → Option (Cost × List Int)} (h : DInv t dk p s S O) (ht : Fine t) (hp : Fair p) {c : Cost} {l : List Int} (ho : O v = some (c, l))
  (hmin : ∀ v' c' l', O v' = some (c', l') → cmpL (key c l) (key c' l') ≤ 0) : First t dk p s v (some (c, l)) := by
 refine ⟨h.oWalk _ _ _ ho, fun c' l' hw => ?_⟩
 rcases h.start with hs | hs
 ·have hv : ¬ S v ≠ none := fun hc => hc (h.disj v (by rw [ho]; simp))
  obtain ⟨m, n, x, c1, c2, c3, l1, l2, w1, sm, hx, lx, sn, w2, rfl, rfl⟩ := hw.cross (fun v => S v ≠ none) hs hv
  cases hm : S m with
  | none => exact absurd hm sm
  | some r =>
   obtain ⟨cm, lm⟩ := r
   have fm := h.sFirst m _ hm
   rcases h.cross m cm lm hm x hx n c2 lx with hn | ⟨cn, ln, hn, hle⟩
   ·exact absurd hn sn
   ·have k1 := hmin n cn ln hn
    have k2 := fm.2 _ _ w1
    have k3 : cmpL (key (addC cm c2) (lm ++ [x.id])) (key (addC c1 c2) (l1 ++ [x.id])) ≤ 0 := by
     rw [key_snoc _ _ _ _ _ _ (fm.1.bound ht hp).2.2.2.2.2.2 (w1.bound ht hp).2.2.2.2.2.2]; exact k2
    exact cmpL_trans (cmpL_trans (cmpL_trans k1 hle) k3) (w2.longer' ht hp _ _)
 ·have k1 := hmin s _ _ hs
  have := hw.longer' ht hp zeroC []
  rw [zero_addC, List.nil_append] at this
  exact cmpL_trans k1 this

theorem DInv.over {s : Int} {S O : Int → Option (Cost × List Int)} (h : DInv t dk p s S O) (hO : ∀ v, O v = none) (v : Int) : First t dk p s v (S v) := by
 cases hv : S v with
 | some r => exact h.sFirst v r hv
 | none =>
  intro c l hw
  rcases h.start with hs | hs
  ·obtain ⟨m, n, x, c1, c2, c3, l1, l2, w1, sm, hx, lx, sn, _⟩ := hw.cross (fun v => S v ≠ none) hs (by simp [hv])
   cases hm : S m with
   | none => exact absurd hm sm
   | some r =>
    obtain ⟨cm, lm⟩ := r
    rcases h.cross m cm lm hm x hx n c2 lx with hn | ⟨cn, ln, hn, _⟩
    ·exact absurd hn sn
    ·rw [hO n] at hn; cases hn
  ·rw [hO s] at hs; cases hs

/-- Within the round: the links of w (at place a) up to k are done. -/
structure DMid (t : Town) (dk : Bool) (p : Price) (s a : Int) (cw : Cost) (lw : List Int) (k : Nat) (S O : Int → Option (Cost × List Int)) : Prop where
 disj : ∀ v, O v ≠ none → S v = none
 sFirst : ∀ v r, S v = some r → First t dk p s v (some r)
 oWalk : ∀ v c l, O v = some (c, l) → Walk t dk p s v c l
 cross : ∀ u c l, S u = some (c, l) → u ≠ a → ∀ x ∈ t.links, ∀ n d, leads dk p x u = some (n, d) → S n ≠ none ∨ ∃ c' l', O n = some (c', l') ∧ cmpL (key c' l') (key (addC c d) (l ++ [x.id])) ≤ 0
 now : ∀ x ∈ t.links.take k, ∀ n d, leads dk p x a = some (n, d) → S n ≠ none ∨ ∃ c' l', O n = some (c', l') ∧ cmpL (key c' l') (key (addC cw d) (lw ++ [x.id])) ≤ 0
 start : S s ≠ none
 here : S a = some (cw, lw)

def setF {β : Type} (f : Int → Option β) (v : Int) (r : Option β) : Int → Option β := fun u => if u = v then r else f u
theorem setF_same {β : Type} (f : Int → Option β) (v : Int) (r : Option β) : setF f v r v = r := by simp [setF]
theorem setF_other {β : Type} (f : Int → Option β) {v u : Int} (r : Option β) (h : u ≠ v) : setF f v r u = f u := by simp [setF, h]

theorem DInv.enter {s a : Int} {S O : Int → Option (Cost × List Int)} (h : DInv t dk p s S O) (ht : Fine t) (hp : Fair p) {c : Cost} {l : List Int} (ho : O a = some (c, l))
  (hmin : ∀ v' c' l', O v' = some (c', l') → cmpL (key c l) (key c' l') ≤ 0) : DMid t dk p s a c l 0 (setF S a (some (c, l))) (setF O a none) := by
 have hf := h.least ht hp ho hmin
 refine ⟨?_, ?_, ?_, ?_, ?_, ?_, setF_same _ _ _⟩
 ·intro v hv
  by_cases e : v = a
  ·subst e; rw [setF_same] at hv; exact absurd rfl hv
  ·rw [setF_other _ _ e] at hv ⊢; exact h.disj v hv
 ·intro v r hr
  by_cases e : v = a
  ·subst e; rw [setF_same] at hr; cases hr; exact hf
  ·rw [setF_other _ _ e] at hr; exact h.sFirst v r hr
 ·intro v c' l' hr
  by_cases e : v = a
  ·subst e; rw [setF_same] at hr; cases hr
  ·rw [setF_other _ _ e] at hr; exact h.oWalk v _ _ hr
 ·intro u c' l' hu hne x hx n d hl
  rw [setF_other _ _ hne] at hu
  by_cases e : n = a
  ·subst e; left; rw [setF_same]; simp
  ·rw [setF_other _ _ e, setF_other _ _ e]
   exact h.cross u c' l' hu x hx n d hl
 ·intro x hx; simp at hx
 ·by_cases e : s = a
  ·subst e; rw [setF_same]; simp
  ·rw [setF_other _ _ e]
   rcases h.start with hs | hs
   ·exact hs
   ·exfalso
    have h1 := hmin s _ _ hs
    have h2 := (h.oWalk a _ _ ho).longer ht hp zeroC [] l
    rw [zero_addC] at h2
    rcases h2 with h2 | ⟨_, _, h2⟩
    ·have := cmpL_swap (key c l) (key zeroC [])
     omega
    ·exact e h2

/-- A link that leads nowhere new. -/
theorem DMid.skip {s a : Int} {S O : Int → Option (Cost × List Int)} {cw : Cost} {lw : List Int} {k : Nat} (h : DMid t dk p s a cw lw k S O) (hx : t.links[k]? = some x)
  (hno : ∀ n d, leads dk p x a = some (n, d) → S n ≠ none ∨ ∃ c' l', O n = some (c', l') ∧ cmpL (key c' l') (key (addC cw d) (lw ++ [x.id])) ≤ 0) : DMid t dk p s a cw lw (k + 1) S O := by
 refine ⟨h.disj, h.sFirst, h.oWalk, h.cross, ?_, h.start, h.here⟩
 intro y hy n d hl
 obtain ⟨hk, rfl⟩ := List.getElem?_eq_some_iff.1 hx
 rw [List.take_succ_eq_append_getElem hk, List.mem_append] at hy
 rcases hy with hy | hy
 ·exact h.now y hy n d hl
 ·simp at hy; subst hy; exact hno n d hl

/-- A link that leads to a place by a walk that is before. -/
theorem DMid.take {s a n : Int} {S O : Int → Option (Cost × List Int)} {cw dx : Cost} {lw : List Int} {k : Nat} (h : DMid t dk p s a cw lw k S O) (hx : t.links[k]? = some x) (hl : leads dk p x a = some (n, dx)) (hn : S n = none)
  (hbe : ∀ c' l', O n = some (c', l') → cmpL (key (addC cw dx) (lw ++ [x.id])) (key c' l') ≤ 0) : DMid t dk p s a cw lw (k + 1) S (setF O n (some (addC cw dx, lw ++ [x.id]))) := by
 have hxm : x ∈ t.links := List.mem_of_getElem? hx
 have hw : Walk t dk p s n (addC cw dx) (lw ++ [x.id]) := (h.sFirst a _ h.here).1.snoc hxm hl
 have old : ∀ {m : Int} {K : List Int}, (S m ≠ none ∨ ∃ c' l', O m = some (c', l') ∧ cmpL (key c' l') K ≤ 0) → S m ≠ none ∨ ∃ c' l', setF O n (some (addC cw dx, lw ++ [x.id])) m = some (c', l') ∧ cmpL (key c' l') K ≤ 0 := by
  intro m K h1
  rcases h1 with h1 | ⟨c', l', h1, h2⟩
  ·exact .inl h1
  ·by_cases e : m = n
   ·subst e
    exact .inr ⟨_, _, setF_same _ _ _, cmpL_trans (hbe _ _ h1) h2⟩
   ·exact .inr ⟨c', l', by rw [setF_other _ _ e]; exact h1, h2⟩
 refine ⟨?_, h.sFirst, ?_, ?_, ?_, h.start, h.here⟩
 ·intro v hv
  by_cases e : v = n
  ·subst e; exact hn
  ·rw [setF_other _ _ e] at hv; exact h.disj v hv
 ·intro v c' l' hr
  by_cases e : v = n
  ·subst e; rw [setF_same] at hr; cases hr; exact hw
  ·rw [setF_other _ _ e] at hr; exact h.oWalk v _ _ hr
 ·intro u c' l' hu hne y hy m d hl'
  exact old (h.cross u c' l' hu hne y hy m d hl')
 ·intro y hy m d hl'
  obtain ⟨hk, rfl⟩ := List.getElem?_eq_some_iff.1 hx
  rw [List.take_succ_eq_append_getElem hk, List.mem_append] at hy
  rcases hy with hy | hy
  ·exact old (h.now y hy m d hl')
  ·simp at hy; subst hy
   rw [hl] at hl'
   cases hl'
   exact .inr ⟨_, _, setF_same _ _ _, by rw [cmpL_refl]; omega⟩

end
end Go.Proofs.YtjdgdeiedkickaaDoor
/- Towns: what they are, and how they lie in memory. climb.has, climb.ids. -/
namespace Go.Proofs.YtjdgdeiedkickaaDoor
open Go.RowKit

def Link.vals (x : Link) : List Value := [.int .i64 x.id, .int .i64 x.fr, .int .i64 x.to, .int .i64 x.steps, .int .i64 x.paces]
/-- A slice of links. -/
def LinksAt (w : World) (B : Nat) (A : Option Addr) (n : Nat) (l : List Link) : Prop := Reads w B 5 A n (l.flatMap Link.vals)

theorem flat_len (l : List Link) : (l.flatMap Link.vals).length = l.length * 5 := by
 induction l with
 | nil => rfl
 | cons x l ih => rw [List.flatMap_cons, List.length_append, ih, List.length_cons]; simp [Link.vals]; omega

theorem flat_at {l : List Link} {k j : Nat} {x : Link} (h : l[k]? = some x) (hj : j < 5) : (l.flatMap Link.vals)[k * 5 + j]? = x.vals[j]? := by
 induction l generalizing k with
 | nil => simp at h
 | cons y l ih =>
  rw [List.flatMap_cons]
  cases k with
  | zero =>
   simp at h; subst h
   rw [List.getElem?_append_left (by simp [Link.vals]; omega)]; simp
  | succ k =>
   rw [List.getElem?_append_right (by simp [Link.vals]; omega)]
   have : (k + 1) * 5 + j - y.vals.length = k * 5 + j := by simp [Link.vals]; omega
   rw [this]
   exact ih (by simpa using h)

section
variable {w w' : World} {B B' n : Nat} {A : Option Addr} {l : List Link}
theorem LinksAt.len (h : LinksAt w B A n l) : l.length = n := by have := h.1; rw [flat_len] at this; omega
theorem LinksAt.below (h : LinksAt w B A n l) (hb : Below B w w') : LinksAt w' B A n l := Reads.below h hb
theorem LinksAt.more (h : LinksAt w B A n l) (hB : B ≤ B') : LinksAt w B' A n l := Reads.more h hB
theorem LinksAt.cell (h : LinksAt w B A n l) {k : Nat} (hk : k < n) : ∃ b off x, A = some ⟨b, off, none⟩ ∧ b < B ∧ l[k]? = some x ∧
  w.cell? ⟨b, off + k * 5, none⟩ = some (.int .i64 x.id) ∧ w.cell? ⟨b, off + k * 5 + 1, none⟩ = some (.int .i64 x.fr) ∧ w.cell? ⟨b, off + k * 5 + 2, none⟩ = some (.int .i64 x.to)
   ∧ w.cell? ⟨b, off + k * 5 + 3, none⟩ = some (.int .i64 x.steps) ∧ w.cell? ⟨b, off + k * 5 + 4, none⟩ = some (.int .i64 x.paces) := by
 have hl := h.len
 obtain ⟨b, off, e, hb, hc⟩ := Reads.plain h (by rw [flat_len]; omega)
 have hx : l[k]? = some l[k] := List.getElem?_eq_getElem (by omega)
 refine ⟨b, off, _, e, hb, hx, ?_, ?_, ?_, ?_, ?_⟩
 ·have := hc (k * 5) (.int .i64 l[k].id) (by have := flat_at (j := 0) hx (by omega); simpa [Link.vals] using this); exact this
 ·have := hc (k * 5 + 1) (.int .i64 l[k].fr) (by have := flat_at (j := 1) hx (by omega); simpa [Link.vals] using this); exact this
 ·have := hc (k * 5 + 2) (.int .i64 l[k].to) (by have := flat_at (j := 2) hx (by omega); simpa [Link.vals] using this); exact this
 ·have := hc (k * 5 + 3) (.int .i64 l[k].steps) (by have := flat_at (j := 3) hx (by omega); simpa [Link.vals] using this); exact this
 ·have := hc (k * 5 + 4) (.int .i64 l[k].paces) (by have := flat_at (j := 4) hx (by omega); simpa [Link.vals] using this); exact this
end

structure TownAt (w : World) (B : Nat) (A : Option Addr) (n : Nat) (A' : Option Addr) (m : Nat) (t : Town) : Prop where
 places : IntsAt w B A n t.places
 links : LinksAt w B A' m t.links
section
variable {w w' : World} {B B' n m : Nat} {A A' : Option Addr} {t : Town}
theorem TownAt.below (h : TownAt w B A n A' m t) (hb : Below B w w') : TownAt w' B A n A' m t := ⟨h.places.below hb, h.links.below hb⟩
theorem TownAt.more (h : TownAt w B A n A' m t) (hB : B ≤ B') : TownAt w B' A n A' m t := ⟨h.places.more hB, h.links.more hB⟩
end

theorem has1_any (A : Option Addr) (n c : Nat) (A' : Option Addr) (m d : Nat) (t : Town) (x : Int) (g : Nat) (w : World) (hn : n ≤ maxLen)
  (ht : TownAt w w.heap.size A n A' m t) (h0 : w.cell? ⟨g, 0, none⟩ = some (.slice A n c)) :
  Calls Tryd.prog 52 (#[.int .i64 x] ++ #[.pointer (some ⟨g, 0, none⟩)]) w fun e w' => e = .returned (.bool (!memI t.places x)) ∧ Below w.heap.size w w' := by
 have H := Lib.hid (contains_int A n c t.places x w ht.places hn)
 go_enter Tryd.func52, Tryd.ntmps52
 go_wp2_with fail
 refine H.out.mono ?_
 rintro e w' ⟨rfl, hb⟩
 go_wp2_with fail
 go_ret
 exact ⟨rfl, hb⟩

theorem enters_has1 (args : Array Value) (W : World) : (callFunc 52 args).run Tryd.prog W = .ok (.enter 52 args) W := by
 simp [go_sem]

/-- Whether all are places. -/
def hasB (t : Town) (l : List Int) : Bool := !l.any fun x => !memI t.places x

theorem has_any (A : Option Addr) (n c : Nat) (A' : Option Addr) (m d : Nat) (t : Town) (A2 : Option Addr) (k e : Nat) (l : List Int) (w : World) (hn : n ≤ maxLen) (hk : k ≤ maxLen)
  (ht : TownAt w w.heap.size A n A' m t) (hr : IntsAt w w.heap.size A2 k l) :
  Calls Tryd.prog 35 #[.agg #[.slice A n c, .slice A' m d], .slice A2 k e] w fun e w' => e = .returned (.bool (hasB t l)) ∧ Below w.heap.size w w' := by
 have hmf : ∀ (fn : Fn) (first cap : Array Value) (w : World), (Instr.makeFunc fn first cap).run Tryd.prog w = .ok (.func fn first cap) w := fun _ _ _ _ => rfl
 go_enter Tryd.func35, Tryd.ntmps35
 go_wp2_with fail
 have hb : Below w.heap.size w (w.alloc (.cells #[.slice A n c, .slice A' m d] 25)) := (Below.refl _ _).alloc (Nat.le_refl _) _
 refine (containsFunc_int 52 _ (fun x => !memI t.places x) A2 k e l _ ((hr.below hb).more (by simp)) hk enters_has1 ?_).mono ?_
 ·intro x _ W hW
  have hW' : Below w.heap.size w W := hb.trans (hW.mono (by simp))
  exact has1_any A n c A' m d t x _ W hn ((ht.below hW').more hW'.size) ((hW.cell (p := ⟨w.heap.size, 0, none⟩) (by simp)).trans (by simp [go_sem]))
 ·rintro e w' ⟨rfl, hb'⟩
  go_wp2_with fail
  go_ret
  exact ⟨rfl, hb.trans (hb'.mono (by simp))⟩
end Go.Proofs.YtjdgdeiedkickaaDoor
