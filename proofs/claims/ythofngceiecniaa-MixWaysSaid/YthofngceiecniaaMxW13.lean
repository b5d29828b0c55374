/- Part 13 of the texts of this claim, joined. -/
import Derived.Sort.CutIn
import Derived.Scope
import Derived.Lib.RabinKarpLaws
import Derived.Test.YthofngceiecniaaMxW12
set_option linter.unusedVariables false
/- The first way of a drop: mix.table.ways and mix.Path. -/
namespace Go.Proofs.Ythofngceiecniaa
section
open Go.RowKit Go.Shelf
attribute [local go_sem] Oper.semAt_some
set_option maxRecDepth 100000 in
set_option maxHeartbeats 8000000 in
theorem ways_any (g : Nat) (q k f : Int) (w : World) :
  Calls Try.prog 67 #[.pointer (some ⟨g, 0, none⟩), .agg #[.int .i64 q, .int .i64 k], .int .i64 f] w fun e w' =>
   e = .returned (.func (.func 97) #[] #[.pointer (some ⟨w.heap.size + 1, 0, none⟩), .pointer (some ⟨w.heap.size, 0, none⟩), .pointer (some ⟨w.heap.size + 1 + 1, 0, none⟩)]) ∧
   Lay w w' [(w.heap.size, 82, #[.pointer (some ⟨g, 0, none⟩)]), (w.heap.size + 1, 118, #[.int .i64 q, .int .i64 k]), (w.heap.size + 1 + 1, 3, #[.int .i64 f])] := by
 have hmf : ∀ (fn : Fn) (first cap : Array Value) (w : World), (Instr.makeFunc fn first cap).run Try.prog w = .ok (.func fn first cap) w := fun _ _ _ _ => rfl
 go_enter Try.func67, Try.ntmps67
 go_wp2_with fail
 go_ret
 exact ⟨rfl, Lay.three w _ _ _ _ _ _⟩
def PathOut (w : World) (m : Mix) (v a f : Int) (e : Ending) (w' : World) : Prop :=
 ∃ l A n c x, e = .returned (.tuple #[.slice A n c, .int .i64 x]) ∧ PathIs m v a f l x ∧ IntsAt w' w'.heap.size A n l ∧ n ≤ 13 ∧ Below w.heap.size w w' ∧ ∀ ad, A = some ad → w.heap.size ≤ ad.block
set_option maxRecDepth 100000 in
set_option maxHeartbeats 16000000 in
theorem path_in (Av : Option Addr) (nv cv : Nat) (Aa : Option Addr) (na ca : Nat) (At : Option Addr) (nt ct : Nat) (m : Mix) (vessel after fountain : Int) (w : World) (h : MixS w Av nv Aa na At nt m) (hca : na ≤ ca ∧ ca ≤ maxLen) :
  CallsIn Fence.wide 9 Try.prog 26 #[.agg #[.int .i64 m.fountains, .slice Av nv cv, .slice Aa na ca, .slice At nt ct], .int .i64 vessel, .int .i64 after, .int .i64 fountain] w (PathOut w m vessel after fountain) := by
 have HM := lh h
 have HCA := lh hca
 clear h hca
 refine callsIn_of_wp Try.func26 rfl trivial ?_ rfl
 simp only [Try.ntmps26, List.size_toArray, List.length_cons, List.length_nil, Nat.reduceAdd, Nat.reduceSub, Array.replicate_succ, Array.replicate_zero, List.push_toArray, List.append_toArray, List.nil_append, List.cons_append]
 gi_upto_region 1 with fail
 have Ly := lh (Lay.one w 26 #[.int .i64 m.fountains, .slice Av nv cv, .slice Aa na ca, .slice At nt ct])
 generalize (w.alloc (.cells #[.int .i64 m.fountains, .slice Av nv cv, .slice Aa na ca, .slice At nt ct] 26)) = w0 at *
 obtain ⟨x0_0, x0_1, x0_2, x0_3⟩ := lyc4 Ly 0 rfl
 have l0_ := Ly.out.lt 0 rfl
 gi_wp2
 clear x0_0 x0_1 x0_2 x0_3 l0_
 have Y := IntsAt.new w0 3 [fountain] (w0.heap.size + 1) (by omega)
 have hb1 : Below w0.heap.size w0 (w0.alloc (.cells #[.int .i64 fountain] 3)) := (Below.refl _ _).alloc (Nat.le_refl _) _
 have hc := placed_in Av nv cv Aa na ca At nt ct m vessel after (some ⟨w0.heap.size, 0, none⟩) 1 1 [fountain] _ (HM.out.up (Ly.out.1.trans (hb1.mono Ly.out.1.size))) (Y.more (by simp)) (by decide)
 refine ⟨trivial, (callsIn_wide.2 (callsIn_wide.1 hc)).mono ?_⟩
 clear hc Y
 generalize (w0.alloc (.cells #[.int .i64 fountain] 3)) = W00 at *
 rintro e W8 ⟨pp, s1, s2, rfl, hb, hp⟩
 have HP := lh hp
 have hbb := hb1.trans (hb.mono hb1.size)
 clear hb hb1 hp
 have HB8 := lh (Ly.out.1.trans (hbb.mono Ly.out.1.size))
 clear hbb Ly
 obtain ⟨ee, hee⟩ : ∃ ee, askM m vessel after [fountain] = ee := ⟨_, rfl⟩
 rw [hee] at HP ⊢
 have HEE := lh hee
 clear hee
 gi_upto_region 2 with fail
 have HS1 := lh (Blk.new W8 118 #[.int .i64 s1, .int .i64 s2])
 have hb9 : Below W8.heap.size W8 (W8.alloc (.cells #[.int .i64 s1, .int .i64 s2] 118)) := (Below.refl _ _).alloc (Nat.le_refl _) _
 have HB9 := lh hb9
 clear hb9
 generalize (W8.alloc (.cells #[.int .i64 s1, .int .i64 s2] 118)) = V1 at *
 obtain ⟨G2, hG⟩ : ∃ g, W8.heap.size = g := ⟨_, rfl⟩
 have HBE := lh (HB8.out.trans (HB9.out.mono HB8.out.size))
 rw [hG] at HS1 ⊢
 clear hG
 by_cases h0 : ee = 0
 ·obtain ⟨hk, h1, h2, h3, h4, T, rfl, hTm, hTL, hTg, hT, hMA, hTc⟩ := HP.out h0
  subst h0
  subst h2
  obtain ⟨q, hq⟩ : ∃ q : Nat, s1 = q := ⟨s1.toNat, by omega⟩
  subst hq
  obtain ⟨k, hkk⟩ : ∃ k : Nat, s2 = k := ⟨s2.toNat, by omega⟩
  subst hkk
  have HQ : Hid ((q : Int) = idxV m.vessels vessel ∧ k ≤ m.acts.length ∧ m.acts.length ≤ 12 ∧ m.vessels.length ≤ 4) := lh ⟨h1, by omega, (okMix_vess hk).2.1, (okMix_vess hk).1⟩
  have HOK : Hid (TbOk T) := lh ⟨by rw [hTm]; exact hk, by rw [hTm]; exact hTL⟩
  have HTM := lh hTm
  have HTL := lh hTL
  have HT := lh (hT.at_.below HB9.out)
  have HTC : Hid (T.na ≤ T.ca ∧ T.ca ≤ maxLen) := lh (by
   have h5 := hT.at_.mix.lenA
   have h6 := HM.out.at_.lenA
   rw [hTm] at h5
   rw [hTc]
   have h7 := HCA.out
   omega)
  clear HP hk h1 h3 h4 hTm hTL hTg hT hMA hTc HB9
  have d0 := HS1.out.cell 0
  have d1 := HS1.out.cell 1
  have dl := HS1.out.lt
  gi_wp2
  clear d0 d1 dl
  refine ⟨trivial, (callsIn_wide.2 (ways_any T.g q k fountain V1)).mono ?_⟩
  rintro e V2 ⟨rfl, hL⟩
  have HL := lh hL
  have HT2 := lh (HT.out.below hL.1)
  clear hL
  have HSQ := lh (fun v hv => SeqAtN.plain (ways1_seq (V1.heap.size + 1) V1.heap.size (V1.heap.size + 1 + 1) q k fountain T V2 v hv HOK.out (by rw [HTM.out]; exact HQ.out.2.1) HTC.out HT2.out (HL.out.blk 1 rfl) (HL.out.blk 0 rfl) (HL.out.blk 2 rfl)))
  have HFR := lh (firstW_in 97 #[.pointer (some ⟨V1.heap.size + 1, 0, none⟩), .pointer (some ⟨V1.heap.size, 0, none⟩), .pointer (some ⟨V1.heap.size + 1 + 1, 0, none⟩)] _ V2 (enters_of Try.func97 (by kernel_rfl) rfl) HSQ.out)
  have HB2 := lh (HBE.out.trans (HL.out.1.mono HBE.out.size))
  gi_wp2
  refine ⟨trivial, (callsIn_wide.2 (callsIn_wide.1 HFR.out)).mono ?_⟩
  clear HFR HSQ
  unfold FirstWOut
  rintro e V3 ⟨xs, hxs, hb3, b, hfold, rfl, hat⟩
  have hmem : ∀ l, l ∈ waysP T.m T.L fountain q k ↔ WayTo m T.L fountain (k : Int).toNat (idxV m.vessels vessel) l := fun l => by
   rw [← HQ.out.1, Int.toNat_natCast, HTM.out]
   exact mem_waysP HTL.out HQ.out.2.2.2 HQ.out.2.1
  rw [hxs] at hfold
  have HMEM := lh hmem
  have HFOLD := lh hfold
  have HAT := lh hat
  have HB3 := lh (HB2.out.trans (hb3.mono HB2.out.size))
  clear hmem hfold hat hb3 hxs
  cases b with
  | none =>
   gi_wp2
   refine bodyPost_ret (v := .tuple #[.slice none 0 0, .int .i64 6]) (by simp [results, Try.results26, go_sem]) rfl ?_
   refine ⟨[], none, 0, 0, 6, rfl, .inr ⟨HEE.out, T.L, HTL.out, .inl ⟨fun l hl => ?_, rfl, rfl⟩⟩, Reads.none_, by omega, HB3.out, fun a h => by cases h⟩
   have h1 := (HMEM.out l).2 hl
   rcases first_fold (l := waysP T.m T.L fountain q k) with ⟨h2, _⟩ | ⟨r, h2, _⟩
   ·rw [h2] at h1; cases h1
   ·rw [HFOLD.out] at h2; cases h2
  | some x =>
   gi_wp2
   refine bodyPost_ret (v := .tuple #[.slice x.A x.n x.cap, .int .i64 0]) (by simp [results, Try.results26, go_sem]) rfl ?_
   have hx := HAT.out x rfl
   refine ⟨x.l, x.A, x.n, x.cap, 0, rfl, .inr ⟨HEE.out, T.L, HTL.out, .inr ?_⟩, hx.1.1, hx.1.2, HB3.out, fun a h => by have h1 := hx.2 a h; have h2 := HB2.out.size; omega⟩
   rcases first_fold (l := waysP T.m T.L fountain q k) with ⟨_, h2⟩ | ⟨r, h2, h3⟩
   ·rw [HFOLD.out] at h2; cases h2
   ·rw [HFOLD.out] at h2
    obtain rfl : x.l = r := Option.some.inj h2
    exact ⟨⟨x.l, (HMEM.out _).1 h3.1⟩, rfl, h3.congr HMEM.out⟩
 ·have h0b : (ee != 0) = true := by simpa using h0
  have H0 := lh h0
  clear h0
  gi_wp2
  refine bodyPost_ret (v := .tuple #[.slice none 0 0, .int .i64 ee]) (by simp [results, Try.results26, go_sem]) rfl ?_
  exact ⟨[], none, 0, 0, ee, rfl, .inl ⟨by rw [HEE.out]; exact H0.out, rfl, HEE.out.symm⟩, Reads.none_, by omega, HBE.out, fun a h => by cases h⟩
end
section
open Go.RowKit Go.Shelf
attribute [local go_sem] Oper.semAt_some
structure Er2 {α : Type} (P : α → Prop) : Prop where
 ex : ∃ a, P a
inductive FrRpA (v4 v11 v26 v27 v28 : Value) : Act → Prop
 | mk (u0 u1 u2 u3 u5 u6 u7 u8 u9 u10 u12 u13 u14 u15 u16 u17 u18 u19 u20 u21 u22 u23 u24 u25 u29 u30 u31 u32 u33 u34 u35 u36 u37 u38 u39 u40 u41 u42 u43 : Value) : FrRpA v4 v11 v26 v27 v28 { tmps := #[u0, u1, u2, u3, v4, u5, u6, u7, u8, u9, u10, v11, u12, u13, u14, u15, u16, u17, u18, u19, u20, u21, u22, u23, u24, u25, v26, v27, v28, u29, u30, u31, u32, u33, u34, u35, u36, u37, u38, u39, u40, u41, u42, u43], defers := [] }
set_option maxRecDepth 100000 in
set_option maxHeartbeats 16000000 in
theorem rpath_in (Av : Option Addr) (nv cv : Nat) (Aa : Option Addr) (na ca : Nat) (At : Option Addr) (nt ct : Nat) (m : Mix) (vessel after fountain : Int) (w : World) (h : MixS w Av nv Aa na At nt m) :
  CallsIn Fence.wide 9 Try.prog 27 #[.agg #[.int .i64 m.fountains, .slice Av nv cv, .slice Aa na ca, .slice At nt ct], .int .i64 vessel, .int .i64 after, .int .i64 fountain] w (PathOut w m vessel after fountain) := by
 have HM := lh h
 clear h
 refine callsIn_of_wp Try.func27 rfl trivial ?_ rfl
 simp only [Try.ntmps27, List.size_toArray, List.length_cons, List.length_nil, Nat.reduceAdd, Nat.reduceSub, Array.replicate_succ, Array.replicate_zero, List.push_toArray, List.append_toArray, List.nil_append, List.cons_append]
 gi_upto_region 1 with fail
 have Ly := lh (Lay.one w 26 #[.int .i64 m.fountains, .slice Av nv cv, .slice Aa na ca, .slice At nt ct])
 generalize (w.alloc (.cells #[.int .i64 m.fountains, .slice Av nv cv, .slice Aa na ca, .slice At nt ct] 26)) = w0 at *
 obtain ⟨x0_0, x0_1, x0_2, x0_3⟩ := lyc4 Ly 0 rfl
 have l0_ := Ly.out.lt 0 rfl
 gi_wp2
 clear x0_0 x0_1 x0_2 x0_3 l0_
 refine ⟨trivial, (callsIn_wide.2 (callsIn_wide.1 (rasked_in Av nv cv Aa na ca At nt ct m vessel after fountain w0 (HM.out.up Ly.out.1)))).mono ?_⟩
 rintro e W1 ⟨rfl, hb⟩
 replace Ly := lyb Ly hb
 clear hb
 obtain ⟨ee, hee⟩ : ∃ e, askM m vessel after [fountain] = e := ⟨_, rfl⟩
 rw [hee]
 have HEE := lh hee
 clear hee
 by_cases h0 : ee = 0
 ·
  subst h0
  have hok := ask_ok1 HEE.out
  have HOK := lh hok
  have HV := lh (okMix_vess hok.1)
  obtain ⟨L, hL⟩ := okMix_all hok.1
  have HL := lh hL
  obtain ⟨k, hk⟩ : ∃ k : Nat, after = (k : Int) := ⟨after.toNat, by have := hok.2.2.1; omega⟩
  obtain ⟨q, hq⟩ : ∃ q : Nat, idxV m.vessels vessel = (q : Int) := ⟨(idxV m.vessels vessel).toNat, by have := hok.2.1; omega⟩
  subst hk
  have hql : q < m.vessels.length := by have h1 := idxV_lt hok.2.1; omega
  have hq4 : q < 4 := by have h3 := HV.out.1; omega
  have hkl : k ≤ m.acts.length := by have := hok.2.2.1; omega
  have HIQ := lh hq
  have HQ4 := lh hq4
  have HKL := lh hkl
  have HMEM : Hid (∀ l, l ∈ listR m L fountain k q ↔ WayTo m L fountain (k : Int).toNat (idxV m.vessels vessel) l) := lh (fun l => by
   rw [HIQ.out, Int.toNat_natCast]
   exact mem_listR HL.out HV.out.1 (Int.natCast_nonneg _) HKL.out)
  clear hok hL hq hql hq4 hkl
  obtain ⟨x0_0, x0_1, x0_2, x0_3⟩ := lyc4 Ly 0 rfl
  have l0_ := Ly.out.lt 0 rfl
  gi_wp2
  clear x0_0 x0_1 x0_2 x0_3 l0_
  have hsz0 := Ly.out.1.size
  refine ⟨trivial, (callsIn_wide.2 (callsIn_wide.1 (rways_in Av nv cv Aa na ca At nt ct m vessel fountain q k L W1 (HM.out.up Ly.out.1) HOK.out.1 HL.out ⟨HIQ.out.symm, HQ4.out⟩ HKL.out))).mono ?_⟩
  rintro e W2 ⟨b9, B, c, xs, rfl, hxs, hown, hall, hbw, hb⟩
  replace Ly := lyb Ly hb
  clear hb
  have HXS := lh hxs
  have HOWN := lh hown
  have HALL := lh hall
  have HBW := lh (Nat.le_trans hsz0 hbw)
  have hxl : xs.length ≤ 4096 := by
   rw [← List.length_map (f := Wy.l), hxs]
   exact listR_small (by have h1 := HKL.out; have h2 := HV.out; omega)
  have HNE : Hid (∀ x ∈ xs, x.l ≠ [] ∧ ∃ ad, x.A = some ad) := lh (fun x hx => by
   have h1 := (HMEM.out x.l).1 (by rw [← hxs]; exact List.mem_map.2 ⟨x, hx, rfl⟩)
   refine ⟨h1.ne, ?_⟩
   have h2 := (hall x hx).1.1
   have h3 := h2.len
   have h4 : 0 < x.l.length := List.length_pos_iff.2 h1.ne
   obtain ⟨b, off, y, h5, _⟩ := h2.cell (k := 0) (by omega)
   exact ⟨_, h5⟩)
  clear hxs hown hall hbw hsz0
  obtain ⟨N, hN⟩ : ∃ N, xs.length = N := ⟨_, rfl⟩
  have HN := lh hN
  rw [hN] at hxl ⊢
  clear hN
  have hen := eql_nil_int
  gi_wp2
  refine wpIn_loop (fun a W => ∃ (j : Nat) (bA : Option Addr) (bn bc : Nat), Hid (Er2 fun (bst : Option Wy) => j ≤ N ∧ ((xs.take j).map Wy.l).foldl stepS none = bst.map Wy.l ∧ Below W2.heap.size W2 W ∧ (bst.getD zeroWy).val = .slice bA bn bc ∧ (∀ x, bst = some x → x ∈ xs)) ∧ FrRpA (.pointer (some ⟨w.heap.size, 0, none⟩)) (.slice bA bn bc) (.slice B N c) (.int .i64 (N : Int)) (.int .i64 (j : Int)) a) (fun a _ => N - (intOf (a.tmps.getD 28 undef)).toNat) ?_ ?_
  ·exact ⟨0, none, 0, 0, lh ⟨none, Nat.zero_le _, rfl, Below.refl _ _, rfl, fun x h => by cases h⟩, by constructor⟩
  rintro a W ⟨j, bA, bn, bc, HS, ha⟩
  cases ha
  obtain ⟨bst, hs9⟩ := HS.out
  replace HS := lh hs9
  clear hs9
  have HBE := lh HS.out.2.2.1
  by_cases hjn : j < N
  ·
   have hjl : j < xs.length := by rw [HN.out]; exact hjn
   obtain ⟨wy, hwy⟩ : ∃ wy, xs[j]? = some wy := ⟨_, List.getElem?_eq_getElem hjl⟩
   have HWX := lh hwy
   have HWM := lh (List.mem_of_getElem? hwy)
   have hor := (HOWN.out.below HBE.out (Nat.le_refl _)).reads (Nat.le_refl _)
   obtain ⟨bf, of_, hAf, hbf, hcf⟩ := hor.plain (by rw [List.length_map]; omega)
   have cv : W.cell? ⟨bf, of_ + j, none⟩ = some wy.val := hcf j _ (by rw [List.getElem?_map, hwy]; rfl)
   have HAF := lh hAf
   have HWY := lh ((HALL.out wy HWM.out).below HBE.out)
   rw [hAf]
   clear hwy hor hcf hAf
   gi_upto_region 8 with fail
   rw [← HAF.out]
   clear cv hbf
   cases bst with
   | none =>
    obtain ⟨rfl, rfl, rfl⟩ : bA = none ∧ bn = 0 ∧ bc = 0 := by have h1 := HS.out.2.2.2.1; cases h1; exact ⟨rfl, rfl, rfl⟩
    gi_wp2
    refine ⟨trivial, ?_⟩
    gi_wp2
    refine ⟨⟨j + 1, wy.A, wy.n, wy.cap, lh ⟨some wy, by omega, ?_, HBE.out, rfl, fun x h => by cases h; exact HWM.out⟩, by rw [show ((j + 1 : Nat) : Int) = (j : Int) + 1 from by omega]; first | constructor | (rw [HAF.out]; constructor)⟩, ?_⟩
    ·rw [List.take_add_one, List.map_append, List.foldl_append, HS.out.2.1, HWX.out]
     rfl
    ·simp [intOf] <;> omega
   | some y =>
    have hym := HS.out.2.2.2.2 y rfl
    obtain ⟨rfl, rfl, rfl⟩ : y.A = bA ∧ y.n = bn ∧ y.cap = bc := by have h1 := HS.out.2.2.2.1; cases h1; exact ⟨rfl, rfl, rfl⟩
    obtain ⟨ady, hady⟩ := (HNE.out y hym).2
    have HYY := lh ((HALL.out y hym).below HBE.out)
    have hyn : y.A.isNone = false := by rw [hady]; rfl
    clear hady
    gi_wp2
    refine ⟨trivial, (callsIn_wide.2 (callsIn_wide.1 (rbefore_in wy.A wy.n wy.cap wy.l y.A y.n y.cap y.l _ HWY.out.1.1 HYY.out.1.1 (by have := HWY.out.1.2; omega) (by have := HYY.out.1.2; omega)))).mono ?_⟩
    rintro e W9 ⟨rfl, hb⟩
    have hb9 := lh (HBE.out.trans (hb.mono HBE.out.size))
    clear hb
    have HYM := lh hym
    clear hym
    by_cases hc : cmpS wy.l y.l < 0
    ·
     have HC := lh hc
     rw [decide_eq_true hc]
     clear hc
     gi_wp2
     refine ⟨⟨j + 1, wy.A, wy.n, wy.cap, lh ⟨some wy, by omega, ?_, hb9.out, rfl, fun x h => by cases h; exact HWM.out⟩, by rw [show ((j + 1 : Nat) : Int) = (j : Int) + 1 from by omega]; first | constructor | (rw [HAF.out]; constructor)⟩, ?_⟩
     ·rw [List.take_add_one, List.map_append, List.foldl_append, HS.out.2.1, HWX.out]
      show (if cmpS wy.l y.l < 0 then some wy.l else some y.l) = _
      rw [if_pos HC.out]
      rfl
     ·simp [intOf] <;> omega
    ·
     have HC := lh hc
     rw [decide_eq_false hc]
     clear hc
     gi_wp2
     refine ⟨⟨j + 1, y.A, y.n, y.cap, lh ⟨some y, by omega, ?_, hb9.out, rfl, fun x h => by cases h; exact HYM.out⟩, by rw [show ((j + 1 : Nat) : Int) = (j : Int) + 1 from by omega]; first | constructor | (rw [HAF.out]; constructor)⟩, ?_⟩
     ·rw [List.take_add_one, List.map_append, List.foldl_append, HS.out.2.1, HWX.out]
      show (if cmpS wy.l y.l < 0 then some wy.l else some y.l) = _
      rw [if_neg (by have := HC.out; omega)]
      rfl
     ·simp [intOf] <;> omega
  ·
   obtain rfl : j = N := by have := HS.out.1; omega
   have HFD : Hid ((listR m L fountain k q).foldl stepS none = bst.map Wy.l) := lh (by rw [← HXS.out, ← HS.out.2.1, List.take_of_length_le (by rw [HN.out]; exact Nat.le_refl _)])
   cases bst with
   | none =>
    obtain ⟨rfl, rfl, rfl⟩ : bA = none ∧ bn = 0 ∧ bc = 0 := by have h1 := HS.out.2.2.2.1; cases h1; exact ⟨rfl, rfl, rfl⟩
    gi_wp2
    refine bodyPost_ret (v := .tuple #[.slice none 0 0, .int .i64 6]) (by simp [results, Try.results27, go_sem]) rfl ?_
    refine ⟨[], none, 0, 0, 6, rfl, .inr ⟨HEE.out, L, HL.out, .inl ⟨fun l hl => ?_, rfl, rfl⟩⟩, Reads.none_, by omega, Ly.out.1.trans (HBE.out.mono Ly.out.1.size), fun a h => by cases h⟩
    have h1 := (HMEM.out l).2 hl
    rcases first_fold (l := listR m L fountain k q) with ⟨h2, _⟩ | ⟨r, h2, _⟩
    ·rw [h2] at h1; cases h1
    ·rw [HFD.out] at h2; cases h2
   | some y =>
    have hym := HS.out.2.2.2.2 y rfl
    obtain ⟨rfl, rfl, rfl⟩ : y.A = bA ∧ y.n = bn ∧ y.cap = bc := by have h1 := HS.out.2.2.2.1; cases h1; exact ⟨rfl, rfl, rfl⟩
    obtain ⟨ady, hady⟩ := (HNE.out y hym).2
    have HYY := lh ((HALL.out y hym).below HBE.out)
    have hyn : y.A.isNone = false := by rw [hady]; rfl
    clear hady
    gi_wp2
    refine bodyPost_ret (v := .tuple #[.slice y.A y.n y.cap, .int .i64 0]) (by simp [results, Try.results27, go_sem]) rfl ?_
    refine ⟨y.l, y.A, y.n, y.cap, 0, rfl, .inr ⟨HEE.out, L, HL.out, .inr ?_⟩, HYY.out.1.1, HYY.out.1.2, Ly.out.1.trans (HBE.out.mono Ly.out.1.size), fun a h => by have h1 := (HYY.out.2 a h).1; have h2 := HBW.out; have h3 := Ly.out.1.size; omega⟩
    rcases first_fold (l := listR m L fountain k q) with ⟨_, h2⟩ | ⟨r, h2, h3⟩
    ·rw [HFD.out] at h2; cases h2
    ·rw [HFD.out] at h2
     obtain rfl : y.l = r := Option.some.inj h2
     exact ⟨⟨y.l, (HMEM.out _).1 h3.1⟩, rfl, h3.congr HMEM.out⟩
 ·
  have h0b : (ee != 0) = true := by simpa using h0
  have H0 := lh h0
  clear h0
  gi_wp2
  refine bodyPost_ret (v := .tuple #[.slice none 0 0, .int .i64 ee]) (by simp [results, Try.results27, go_sem]) rfl ?_
  exact ⟨[], none, 0, 0, ee, rfl, .inl ⟨by rw [HEE.out]; exact H0.out, rfl, HEE.out.symm⟩, Reads.none_, by omega, Ly.out.1, fun a h => by cases h⟩
end
section
def bitsL (a s : Nat) : List Int := ((List.range a).filter fun k => s.testBit k).map fun k : Nat => (k : Int) + 1
theorem bitsL_succ (a s : Nat) : bitsL (a + 1) s = bitsL a s ++ if s.testBit a then [(a : Int) + 1] else [] := by
 unfold bitsL
 rw [List.range_succ, List.filter_append, List.map_append]
 congr 1
 cases h : s.testBit a <;> simp [h]
theorem bitsL_mem {a s : Nat} {n : Int} : n ∈ bitsL a s ↔ 1 ≤ n ∧ n ≤ a ∧ s.testBit (n - 1).toNat = true := by
 unfold bitsL
 simp only [List.mem_map, List.mem_filter, List.mem_range]
 constructor
 ·rintro ⟨k, ⟨h1, h2⟩, rfl⟩
  exact ⟨by omega, by omega, by rw [show ((k : Int) + 1 - 1).toNat = k by omega]; exact h2⟩
 ·rintro ⟨h1, h2, h3⟩
  exact ⟨(n - 1).toNat, ⟨by omega, h3⟩, by omega⟩
theorem bitsL_up (a s : Nat) : UpTo a (bitsL a s) := by
 refine ⟨?_, fun n hn => by have := bitsL_mem.1 hn; omega⟩
 unfold bitsL
 rw [List.pairwise_map]
 exact (List.pairwise_lt_range.filter _).imp fun {i j} h => by omega
theorem bitsL_congr {a s r : Nat} (h : ∀ k, k < a → s.testBit k = r.testBit k) : bitsL a s = bitsL a r := by
 unfold bitsL
 rw [List.filter_congr]
 intro k hk
 rw [h k (List.mem_range.1 hk)]
theorem bitsL_all : ∀ {a : Nat} {l : List Int}, UpTo a l → ∃ s, s < 2 ^ a ∧ bitsL a s = l
 | 0, l, h => by
  refine ⟨0, by decide, ?_⟩
  cases l with
  | nil => rfl
  | cons n l => have := h.2 n (by simp); omega
 | a + 1, l, h => by
  have hp : 2 ^ (a + 1) = 2 ^ a + 2 ^ a := by rw [Nat.pow_succ]; omega
  by_cases hl : ∃ p, l = p ++ [(a : Int) + 1]
  ·obtain ⟨p, rfl⟩ := hl
   obtain ⟨h1, h2, h3⟩ := upTo_snoc.1 h
   have h4 : UpTo a p := ⟨h1.1, fun n hn => ⟨(h1.2 n hn).1, by have := lastI_max h1 n hn; omega⟩⟩
   obtain ⟨s, hs, rfl⟩ := bitsL_all h4
   refine ⟨2 ^ a + s, by omega, ?_⟩
   rw [bitsL_succ, Nat.testBit_two_pow_add_eq, Nat.testBit_lt_two_pow hs]
   rw [bitsL_congr (r := s) fun k hk => Nat.testBit_two_pow_add_gt hk s]
   simp
  ·have h4 : UpTo a l := ⟨h.1, fun n hn => by
    have h5 := h.2 n hn
    refine ⟨h5.1, ?_⟩
    rcases Int.lt_or_le (a : Int) n with h6 | h6
    ·exfalso
     have h7 : n = (a : Int) + 1 := by omega
     subst h7
     have h8 := lastI_max h _ hn
     have h9 := lastI_le h
     have h10 : l ≠ [] := fun e => by subst e; cases hn
     refine hl ⟨l.dropLast, ?_⟩
     have e := (List.dropLast_concat_getLast h10).symm
     have e2 : lastI l = l.getLast h10 := by unfold lastI; rw [List.getLast?_eq_some_getLast h10]; rfl
     rw [← e2, show lastI l = (a : Int) + 1 by omega] at e
     exact e
    ·exact h6⟩
   obtain ⟨s, hs, rfl⟩ := bitsL_all h4
   exact ⟨s, by omega, by rw [bitsL_succ, Nat.testBit_lt_two_pow hs]; simp⟩
def hitZ (s : Nat) (w : List Int) : Bool := w.any fun n => s.testBit (n - 1).toNat
def hitsZ (s : Nat) (ways : List (List Int)) : Bool := ways.all (hitZ s)
theorem hitsZ_iff {a s : Nat} {ways : List (List Int)} (h : ∀ w ∈ ways, ∀ n ∈ w, 1 ≤ n ∧ n ≤ (a : Int)) : hitsZ s ways = true ↔ Hits ways (bitsL a s) := by
 unfold hitsZ hitZ Hits
 rw [List.all_eq_true]
 refine forall_congr' fun w => forall_congr' fun hw => ?_
 rw [List.any_eq_true]
 exact ⟨fun ⟨n, hn, hb⟩ => ⟨n, hn, bitsL_mem.2 ⟨(h w hw n hn).1, (h w hw n hn).2, hb⟩⟩, fun ⟨n, hn, hb⟩ => ⟨n, hn, (bitsL_mem.1 hb).2.2⟩⟩
def candL (ways : List (List Int)) (a s : Nat) : List (List Int) := ((List.range s).filter fun s => decide (1 ≤ s) && hitsZ s ways).map (bitsL a)
theorem candL_succ (ways : List (List Int)) (a s : Nat) (hs : 1 ≤ s) : candL ways a (s + 1) = candL ways a s ++ if hitsZ s ways then [bitsL a s] else [] := by
 unfold candL
 rw [List.range_succ, List.filter_append, List.map_append]
 congr 1
 cases h : hitsZ s ways <;> simp [h, hs]
theorem candL_mem {ways : List (List Int)} {a : Nat} (h : ∀ w ∈ ways, w ≠ [] ∧ ∀ n ∈ w, 1 ≤ n ∧ n ≤ (a : Int)) (hne : ways ≠ []) (l : List Int) : l ∈ candL ways a (2 ^ a) ↔ UpTo a l ∧ Hits ways l := by
 have h2 : ∀ w ∈ ways, ∀ n ∈ w, 1 ≤ n ∧ n ≤ (a : Int) := fun w hw => (h w hw).2
 unfold candL
 simp only [List.mem_map, List.mem_filter, List.mem_range, Bool.and_eq_true, decide_eq_true_eq]
 constructor
 ·rintro ⟨s, ⟨h3, h4, h5⟩, rfl⟩
  exact ⟨bitsL_up a s, (hitsZ_iff h2).1 h5⟩
 ·rintro ⟨h3, h4⟩
  obtain ⟨s, hs, rfl⟩ := bitsL_all h3
  refine ⟨s, ⟨hs, ?_, (hitsZ_iff h2).2 h4⟩, rfl⟩
  rcases Nat.eq_zero_or_pos s with e | e
  ·exfalso
   subst e
   obtain ⟨w, hw⟩ := List.exists_mem_of_ne_nil ways hne
   obtain ⟨n, _, hn⟩ := h4 w hw
   have := (bitsL_mem.1 hn).2.2
   simp at this
  ·exact e
theorem cand_first {ways : List (List Int)} {a : Nat} (h : ∀ w ∈ ways, w ≠ [] ∧ ∀ n ∈ w, 1 ≤ n ∧ n ≤ (a : Int)) (hne : ways ≠ []) : ∃ r, (candL ways a (2 ^ a)).foldl stepS none = some r ∧ FirstS (fun l => UpTo a l ∧ Hits ways l) r := by
 rcases first_fold (l := candL ways a (2 ^ a)) with ⟨h1, _⟩ | ⟨r, h1, h2⟩
 ·exfalso
  have h3 := (candL_mem h hne ((List.range a).map fun i : Nat => (i : Int) + 1)).2 ⟨⟨?_, ?_⟩, all_hits h⟩
  ·rw [h1] at h3; cases h3
  ·rw [List.pairwise_map]; exact List.pairwise_lt_range.imp fun {i j} h => by omega
  ·intro n hn
   obtain ⟨i, hi, rfl⟩ := List.mem_map.1 hn
   have := List.mem_range.1 hi
   omega
 ·exact ⟨r, h1, ⟨(candL_mem h hne r).1 h2.1, fun k hk => h2.2 k ((candL_mem h hne k).2 hk)⟩⟩
theorem bitsL_len (a s : Nat) : (bitsL a s).length ≤ a := by
 unfold bitsL
 rw [List.length_map]
 exact Nat.le_trans (List.length_filter_le _ _) (by simp)
theorem bitsL_ne {a s : Nat} (h1 : 1 ≤ s) (h2 : s < 2 ^ a) : bitsL a s ≠ [] := by
 intro e
 have h3 : ∀ k, s.testBit k = false := fun k => by
  by_cases hk : k < a
  ·cases hb : s.testBit k with
   | false => rfl
   | true =>
    have h4 : ((k : Int) + 1) ∈ bitsL a s := bitsL_mem.2 ⟨by omega, by omega, by rw [show ((k : Int) + 1 - 1).toNat = k by omega]; exact hb⟩
    rw [e] at h4
    cases h4
  ·exact Nat.testBit_lt_two_pow (Nat.lt_of_lt_of_le h2 (Nat.pow_le_pow_right (by omega) (by omega)))
 have h4 : s = 0 := Nat.eq_of_testBit_eq fun k => by rw [h3 k]; simp
 omega
end
section
open Go.RowKit
set_option maxHeartbeats 1000000 in
theorem index_int (A : Option Addr) (n c : Nat) (l : List Int) (x : Int) (w : World) (hr : IntsAt w w.heap.size A n l) (hn : n ≤ maxLen) :
  Calls Try.prog 103 #[.slice A n c, .int .i64 x] w fun e w' => e = .returned (.int .i64 (idx (fun y => x == y) l)) ∧ Below w.heap.size w w' := by
 unfold maxLen at hn
 go_enter Try.func103, Try.ntmps103
 go_wp2_with fail
 go_loopw [8, 5] (fun i j wr => ∃ k : Nat, k ≤ n ∧ i = .int .i64 k ∧ (∀ y ∈ l.take k, (x == y) = false) ∧ Below w.heap.size w wr)
  (fun i _ _ => n - (intOf i).toNat)
 case atStart => exact ⟨0, by omega, rfl, by simp, Below.refl _ _⟩
 case round =>
  obtain ⟨k, hk, rfl, hno, hb⟩ := hrel
  have HN := lh hno
  clear hno
  by_cases hlt : k < n
  ·obtain ⟨b, off, y, rfl, hbB, hx, hc⟩ := (hr.below hb).cell hlt
   have HX := lh hx
   clear hx
   by_cases he : x = y
   ·subst he
    go_wp2_with fail
    go_ret
    exact ⟨ret_int (idx_some HX.out (by simp) HN.out).symm, hb⟩
   ·have he' : (x == y) = false := by simpa using he
    go_wp2_with fail
    go_roundw
    case rel => exact ⟨k + 1, by omega, by go_num, take_snoc_all HX.out (by simpa using he) HN.out, hb⟩
    case measure => simp [intOf]; omega
  ·go_wp2_with fail
   go_ret
   exact ⟨ret_int (idx_none (by
    have := HN.out
    rwa [List.take_of_length_le (by have := hr.len; omega)] at this)).symm, hb⟩
end
section
open Go.RowKit
theorem idx_contains (x : Int) (l : List Int) : decide (0 ≤ idx (fun y => x == y) l) = l.contains x := by
 rw [idx_ge, Bool.eq_iff_iff]
 simp [List.any_eq_true]
def memI (l : List Int) (x : Int) : Bool := l.contains x
theorem memI_iff {l : List Int} {x : Int} : memI l x = true ↔ x ∈ l := by simp [memI]
theorem contains_int (A : Option Addr) (n c : Nat) (l : List Int) (x : Int) (w : World) (hr : IntsAt w w.heap.size A n l) (hn : n ≤ maxLen) :
  Calls Try.prog 74 #[.slice A n c, .int .i64 x] w fun e w' => e = .returned (.bool (memI l x)) ∧ Below w.heap.size w w' := by
 have H := lh (index_int A n c l x w hr hn)
 have HD := idx_bd (fun y => x == y) l
 go_enter Try.func74, Try.ntmps74
 go_wp2_with fail
 refine H.out.mono ?_
 rintro e w' ⟨rfl, hb⟩
 go_wp2_with fail
 go_ret
 exact ⟨ret_bool (idx_contains x l), hb⟩
end
section
open Go.RowKit Go.Shelf
set_option maxRecDepth 100000 in
set_option maxHeartbeats 4000000 in
theorem watch1_any (g : Nat) (A : Option Addr) (n c : Nat) (l : List Int) (x : Int) (w : World) (hg : Blk w g 57 #[.slice A n c]) (hr : IntsAt w w.heap.size A n l) (hn : n ≤ 1000) :
  Calls Try.prog 73 (#[.int .i64 x] ++ #[.pointer (some ⟨g, 0, none⟩)]) w fun e w' => e = .returned (.bool (memI l x)) ∧ Below w.heap.size w w' := by
 have c0 := hg.cell 0
 have cl := hg.lt
 have H := lh (contains_int A n c l x w hr (Nat.le_trans hn (by unfold maxLen; omega)))
 clear hg hr
 go_enter Try.func73, Try.ntmps73
 go_wp2_with fail
 refine H.out.mono ?_
 rintro e w' ⟨rfl, hb⟩
 go_wp2_with fail
 go_ret
 exact ⟨rfl, hb⟩
def hitB (l way : List Int) : Bool := way.any (memI l)
theorem hitB_iff {l way : List Int} : hitB l way = true ↔ ∃ n ∈ way, n ∈ l := by
 unfold hitB
 rw [List.any_eq_true]
 constructor
 ·rintro ⟨n, h1, h2⟩; exact ⟨n, h1, memI_iff.1 h2⟩
 ·rintro ⟨n, h1, h2⟩; exact ⟨n, h1, memI_iff.2 h2⟩
theorem hit_any (g : Nat) (A : Option Addr) (n c : Nat) (l : List Int) (B : Option Addr) (m d : Nat) (way : List Int) (w : World) (hg : Blk w g 57 #[.slice A n c]) (hr : IntsAt w w.heap.size A n l) (hn : n ≤ 1000) (hw : IntsAt w w.heap.size B m way) (hm : m ≤ 1000) :
  Calls Try.prog 72 #[.slice B m d, .func (.func 73) #[] #[.pointer (some ⟨g, 0, none⟩)]] w fun e w' => e = .returned (.bool (hitB l way)) ∧ Below w.heap.size w w' :=
 containsFunc_int 73 #[.pointer (some ⟨g, 0, none⟩)] (memI l) B m d way w hw (Nat.le_trans hm (by unfold maxLen; omega)) (enters_of Try.func73 (by kernel_rfl) rfl)
  (fun x _ W hb => watch1_any g A n c l x W (hg.below hb hg.lt) ((hr.below hb).more hb.size) hn)
def LL (s b : Nat) (W : World) (A : Option Addr) (xs : List Wy) : Prop :=
 Reads W b 1 A xs.length (xs.map Wy.val) ∧ ∀ x ∈ xs, IntsAt W b x.A x.n x.l ∧ x.n ≤ 13 ∧ ∀ a, x.A = some a → s ≤ a.block
theorem LL.below {s b : Nat} {W W' : World} {A : Option Addr} {xs : List Wy} (h : LL s b W A xs) (hb : Below b W W') : LL s b W' A xs := ⟨h.1.below hb, fun x hx => ⟨(h.2 x hx).1.below hb, (h.2 x hx).2⟩⟩
theorem LL.more {s b b' : Nat} {W : World} {A : Option Addr} {xs : List Wy} (h : LL s b W A xs) (hb : b ≤ b') : LL s b' W A xs := ⟨h.1.more hb, fun x hx => ⟨(h.2 x hx).1.more hb, (h.2 x hx).2⟩⟩
theorem LL.cell {s b : Nat} {W : World} {A : Option Addr} {xs : List Wy} (h : LL s b W A xs) {i : Nat} (hi : i < xs.length) :
  ∃ g off x, A = some ⟨g, off, none⟩ ∧ g < b ∧ xs[i]? = some x ∧ W.cell? ⟨g, off + i, none⟩ = some x.val ∧ IntsAt W b x.A x.n x.l ∧ x.n ≤ 13 ∧ ∀ a, x.A = some a → s ≤ a.block := by
 obtain ⟨g, off, e, hb, hc⟩ := Reads.plain h.1 (by simp; omega)
 have hx : xs[i]? = some xs[i] := List.getElem?_eq_getElem hi
 exact ⟨g, off, _, e, hb, hx, hc i _ (by rw [List.getElem?_map, hx]; rfl), h.2 _ (List.mem_of_getElem? hx)⟩
theorem LL.own {s b base q : Nat} {W : World} {A : Option Addr} {xs : List Wy} (h : Own W base 57 1 A xs.length q (xs.map Wy.val)) (hx : ∀ x ∈ xs, x.own s W) (hb : W.heap.size ≤ b) : LL s b W A xs :=
 ⟨h.reads hb, fun x h' => ⟨(hx x h').1.1.more hb, (hx x h').1.2, fun a e => ((hx x h').2 a e).1⟩⟩
theorem LL.one (s : Nat) (W : World) (x : Wy) (h : x.A = none) (hl : x.l = []) (hn : x.n = 0) : LL s (W.heap.size + 1) (W.alloc (.cells #[x.val] 57)) (some ⟨W.heap.size, 0, none⟩) [x] := by
 have hB := Blk.new W 57 #[x.val]
 refine ⟨one_val (by omega) (hB.cell 0), fun y hy => ?_⟩
 rw [List.mem_singleton.1 hy, h, hl, hn]
 exact ⟨Reads.none_, by omega, fun a e => by cases e⟩
def lvlOf (a : Act) (W : World) : Nat := match a.tmps.getD 14 undef with
 | .slice (some ad) _ _ => (match W.cell? ad with | some (.slice _ k _) => k | _ => 0)
 | _ => 0
theorem lvl_ne {a k : Nat} (hk : k ≤ a) : lvlI a k ≠ [] := by
 intro h
 have h1 := (lvl_mem a k ((List.range k).map fun i : Nat => (i : Int) + 1)).2 ⟨by simp, ?_, ?_⟩
 ·rw [h] at h1; cases h1
 ·rw [List.pairwise_map]
  exact List.pairwise_lt_range.imp fun h => by omega
 ·intro n hn
  obtain ⟨i, hi, rfl⟩ := List.mem_map.1 hn
  have := List.mem_range.1 hi
  omega
theorem lvl_full {a : Nat} {ws : List (List Int)} (h : ∀ w ∈ ws, w ≠ [] ∧ ∀ n ∈ w, 1 ≤ n ∧ n ≤ (a : Int)) (hno : ∀ y ∈ lvlI a a, ¬ Hits ws y) : False := by
 refine hno _ ((lvl_mem a a ((List.range a).map fun i : Nat => (i : Int) + 1)).2 ⟨by simp, ?_, ?_⟩) (all_hits h)
 ·rw [List.pairwise_map]
  exact List.pairwise_lt_range.imp fun h => by omega
 ·intro n hn
  obtain ⟨i, hi, rfl⟩ := List.mem_map.1 hn
  have := List.mem_range.1 hi
  omega
theorem lvlOf_is {s b a k n c : Nat} {W : World} {A : Option Addr} {xs : List Wy} {t : Act} (h : LL s b W A xs) (hl : xs.map Wy.l = lvlI a k) (hk : k ≤ a) (ht : t.tmps.getD 14 undef = .slice A n c) : lvlOf t W = k := by
 have h0 : 0 < xs.length := by
  cases xs with
  | nil => exact absurd hl.symm (lvl_ne hk)
  | cons x xs => simp
 obtain ⟨g, off, x, rfl, _, hx, hc, hi, _⟩ := h.cell h0
 have h1 : x.l ∈ lvlI a k := by rw [← hl]; exact List.mem_map.2 ⟨x, List.mem_of_getElem? hx, rfl⟩
 have h2 := ((lvl_mem a k x.l).1 h1).1
 have h3 := hi.len
 unfold lvlOf
 rw [ht]
 have hc' : W.cell? ⟨g, off, none⟩ = some x.val := hc
 simp only [hc']
 omega
def extI (a : Nat) (l : List Int) : List (List Int) := (moreI a l).map fun n => l ++ [n]
theorem lvl_step {a k i : Nat} {l : List Int} (h : (lvlI a k)[i]? = some l) : ((lvlI a k).take (i + 1)).flatMap (extI a) = ((lvlI a k).take i).flatMap (extI a) ++ extI a l := by
 obtain ⟨hi, e⟩ := List.getElem?_eq_some_iff.1 h
 rw [List.take_succ_eq_append_getElem hi, e, List.flatMap_append]
 simp
theorem lvl_next {a k n : Nat} (h : (lvlI a k).length = n) : ((lvlI a k).take n).flatMap (extI a) = lvlI a (k + 1) := by
 rw [← h, List.take_length]
 rfl
theorem moreI_get {a : Nat} {l : List Int} {d : Nat} (h : d < a - (lastI l).toNat) : ((moreI a l).take (d + 1)).map (fun n => l ++ [n]) = ((moreI a l).take d).map (fun n => l ++ [n]) ++ [l ++ [lastI l + 1 + (d : Int)]] := by
 have h1 : d < (moreI a l).length := by unfold moreI; simpa using h
 rw [List.take_succ_eq_append_getElem h1, List.map_append]
 congr 2
 simp [moreI]
theorem moreI_all {a : Nat} {l : List Int} {d : Nat} (h : a - (lastI l).toNat ≤ d) : ((moreI a l).take d).map (fun n => l ++ [n]) = extI a l := by
 unfold extI
 rw [List.take_of_length_le (by unfold moreI; simpa using h)]
theorem lastI_at {l : List Int} {n : Nat} {x : Int} (hn : l.length = n) (h0 : 0 < n) (h : l[n - 1]? = some x) : lastI l = x := by
 unfold lastI
 rw [List.getLast?_eq_getElem?, hn, h]
 rfl
structure Kp2 (b : Nat) (W W' : World) : Prop where
 bel : Below b W W'
 kp : KpR b b W W'
theorem Kp2.refl {b : Nat} {W : World} : Kp2 b W W := ⟨Below.refl _ _, KpR.of_below (Below.refl _ _)⟩
theorem Kp2.trans {b : Nat} {A B C : World} (h : Kp2 b A B) (k : Kp2 b B C) : Kp2 b A C := ⟨h.bel.trans k.bel, h.kp.trans k.kp⟩
theorem Kp2.of_below {b : Nat} {A B : World} (h : Below A.heap.size A B) (hb : b ≤ A.heap.size) : Kp2 b A B := ⟨h.mono hb, KpR.of_below h⟩
structure NL (s b : Nat) (W : World) (A : Option Addr) (c : Nat) (ys : List Wy) : Prop where
 own : Own W b 57 1 A ys.length c (ys.map Wy.val)
 all : ∀ y ∈ ys, y.own b W
theorem NL.below {s b c : Nat} {W W' : World} {A : Option Addr} {ys : List Wy} (h : NL s b W A c ys) (hb : Below W.heap.size W W') : NL s b W' A c ys := ⟨h.own.below hb (Nat.le_refl _), fun y hy => (h.all y hy).below hb⟩
end
section
open Go.RowKit
section
variable {F : Fence} {n : Nat} {P : Program} {b : Frame} {a : Act} {k : List Item} {cs : List Frame} {w : World} {Q : Exit → Act → World → Prop}
theorem stepR_scope {c : Code} : step P (lone (b.atR a (.code (.scope c) :: k)) cs w) = .next (lone (b.atR a (.code c :: .inScope c :: k)) cs w) :=
 step_lone_go (by simp [stepG, stepG.exec, Frame.atR])
theorem stepR_inScope {c : Code} : step P (lone (b.atR a (.inScope c :: k)) cs w) = .next (lone (b.atR a k) cs w) :=
 step_lone_go (by simp [stepG, stepG.exec, Frame.atR])
theorem wpIn_scope_straight {c : Code} (h : c.wpIn F n P (Exit.noGoto Q) a w) : (Code.scope c).wpIn F n P Q a w := by
 intro b k cs hro hb hr
 have h0 : (lone (b.atR a (.code (.scope c) :: k)) cs w).fenced P F := fenced_calm hb hr rfl
 obtain ⟨e, a₁, w₁, hq, harr⟩ := h b (.inScope c :: k) cs hro hb hr
 cases e with
 | normal => exact ⟨.normal, a₁, w₁, hq, .head h0 stepR_scope (StepsIn.trans harr (.one (fenced_calm hb hr rfl) stepR_inScope))⟩
 | exit id =>
  have hx : exitTo id (.inScope c :: k) = exitTo id k := by simp [exitTo]
  exact ⟨.exit id, a₁, w₁, hq, fun k' hk => .head h0 stepR_scope (harr.1 k' (by rw [hx]; exact hk)),
   fun hr' hk => let ⟨k₁, h1, h2⟩ := harr.2 hr' (by rw [hx]; exact hk); ⟨k₁, h1, .head h0 stepR_scope h2⟩⟩
 | goto l => exact hq.elim
 | ret => exact ⟨_, a₁, w₁, hq, .of_steps (.one h0 stepR_scope) harr⟩
 | panic ch => exact ⟨_, a₁, w₁, hq, .of_steps (.one h0 stepR_scope) harr⟩
 | outgrown => exact ⟨_, a₁, w₁, hq, .of_steps (.one h0 stepR_scope) harr⟩
end
end
section
open Go.RowKit Go.Shelf
attribute [local go_sem] Oper.semAt_some
structure Ew2 {α β : Type} (P : α → β → Prop) : Prop where
 ex : ∃ a b, P a b
theorem fol_small {m : Mix} {A : List Held} {s : Int} : ∀ (d t : Nat) (v : Int) (w : List Int), (folP m A s d t v w).length ≤ 2 ^ d
 | 0, t, v, w => by
  unfold folP
  split <;> simp
 | d + 1, t, v, w => by
  have h2 : 2 ^ (d + 1) = 2 ^ d + 2 ^ d := by rw [Nat.pow_succ]; omega
  unfold folP
  split
  ·split
   ·have := fol_small (m := m) (A := A) (s := s) d (t + 1) v w
    omega
   ·rename_i x all _ _ _
    rw [List.length_append]
    have h3 := fol_small (m := m) (A := A) (s := s) d (t + 1) v w
    have h4 := fol_small (m := m) (A := A) (s := s) d (t + 1) (toI m x) (w ++ [(t : Int) + 1])
    split <;> split <;> (try simp only [List.length_nil]) <;> omega
  ·simp
theorem flat_small {α : Type} {g : Nat → List α} {K : Nat} : ∀ n : Nat, (∀ i < n, (g i).length ≤ K) → ((List.range n).flatMap g).length ≤ n * K
 | 0, _ => by simp
 | n + 1, h => by
  have h1 := flat_small n fun i hi => h i (by omega)
  have h2 := h n (by omega)
  have h3 : (n + 1) * K = n * K + K := Nat.succ_mul n K
  rw [List.range_succ, List.flatMap_append, List.length_append]
  simp only [List.flatMap_cons, List.flatMap_nil, List.append_nil]
  omega
theorem ways_small {m : Mix} {A : List Held} {f s : Int} {n : Nat} (hn : n ≤ m.acts.length) (ha : m.acts.length ≤ 12) : (waysP m A f s n).length ≤ 1000000 := by
 have h1 : ((List.range n).flatMap (waysG m A f s n)).length ≤ n * 4096 := flat_small n fun i hi => by
  unfold waysG
  split
  ·split
   ·rename_i x _ _
    have h2 := fol_small (m := m) (A := A) (s := s) (n - (i + 1)) (i + 1) (idxV m.vessels x.to) [(i : Int) + 1]
    have h3 : 2 ^ (n - (i + 1)) ≤ 2 ^ 12 := Nat.pow_le_pow_right (by omega) (by omega)
    omega
   ·simp
  ·simp
 rw [waysP_g]
 omega
theorem moreI_len (a : Nat) (l : List Int) : (moreI a l).length ≤ a := by
 unfold moreI
 simp
theorem ext_flat {a : Nat} (ha : a ≤ 12) : ∀ L : List (List Int), (L.flatMap (extI a)).length ≤ 12 * L.length
 | [] => by simp
 | x :: L => by
  have h1 := ext_flat ha L
  have h2 := moreI_len a x
  rw [List.flatMap_cons, List.length_append, List.length_cons]
  have h3 : (extI a x).length = (moreI a x).length := by unfold extI; simp
  omega
theorem lvl_all : ((List.range 13).all fun a => (List.range (a + 1)).all fun k => decide ((lvlI a k).length ≤ 1000000)) = true := by kernel_rfl
theorem lvl_small {a k : Nat} (ha : a ≤ 12) (hk : k ≤ a) : (lvlI a k).length ≤ 1000000 :=
 of_decide_eq_true (List.all_eq_true.1 (List.all_eq_true.1 lvl_all a (List.mem_range.2 (by omega))) k (List.mem_range.2 (by omega)))
inductive FrWatA (v2 v13 v14 : Value) : Act → Prop
 | mk (u0 u1 u3 u4 u5 u6 u7 u8 u9 u10 u11 u12 u15 u16 u17 u18 u19 u20 u21 u22 u23 u24 u25 u26 u27 u28 u29 u30 u31 u32 u33 u34 u35 u36 u37 u38 u39 u40 u41 u42 u43 u44 u45 u46 u47 u48 u49 u50 u51 u52 u53 u54 u55 u56 u57 u58 u59 u60 u61 u62 u63 u64 u65 u66 u67 u68 u69 u70 u71 u72 u73 u74 u75 u76 u77 u78 u79 u80 u81 u82 u83 u84 u85 u86 : Value) : FrWatA v2 v13 v14 { tmps := #[u0, u1, v2, u3, u4, u5, u6, u7, u8, u9, u10, u11, u12, v13, v14, u15, u16, u17, u18, u19, u20, u21, u22, u23, u24, u25, u26, u27, u28, u29, u30, u31, u32, u33, u34, u35, u36, u37, u38, u39, u40, u41, u42, u43, u44, u45, u46, u47, u48, u49, u50, u51, u52, u53, u54, u55, u56, u57, u58, u59, u60, u61, u62, u63, u64, u65, u66, u67, u68, u69, u70, u71, u72, u73, u74, u75, u76, u77, u78, u79, u80, u81, u82, u83, u84, u85, u86], defers := [] }
inductive FrWatB (v2 v13 v14 v15 v44 v45 v46 : Value) : Act → Prop
 | mk (u0 u1 u3 u4 u5 u6 u7 u8 u9 u10 u11 u12 u16 u17 u18 u19 u20 u21 u22 u23 u24 u25 u26 u27 u28 u29 u30 u31 u32 u33 u34 u35 u36 u37 u38 u39 u40 u41 u42 u43 u47 u48 u49 u50 u51 u52 u53 u54 u55 u56 u57 u58 u59 u60 u61 u62 u63 u64 u65 u66 u67 u68 u69 u70 u71 u72 u73 u74 u75 u76 u77 u78 u79 u80 u81 u82 u83 u84 u85 u86 : Value) : FrWatB v2 v13 v14 v15 v44 v45 v46 { tmps := #[u0, u1, v2, u3, u4, u5, u6, u7, u8, u9, u10, u11, u12, v13, v14, v15, u16, u17, u18, u19, u20, u21, u22, u23, u24, u25, u26, u27, u28, u29, u30, u31, u32, u33, u34, u35, u36, u37, u38, u39, u40, u41, u42, u43, v44, v45, v46, u47, u48, u49, u50, u51, u52, u53, u54, u55, u56, u57, u58, u59, u60, u61, u62, u63, u64, u65, u66, u67, u68, u69, u70, u71, u72, u73, u74, u75, u76, u77, u78, u79, u80, u81, u82, u83, u84, u85, u86], defers := [] }
inductive FrWatC (v2 v13 v14 v15 v17 v44 v45 v46 v50 v51 v52 : Value) : Act → Prop
 | mk (u0 u1 u3 u4 u5 u6 u7 u8 u9 u10 u11 u12 u16 u18 u19 u20 u21 u22 u23 u24 u25 u26 u27 u28 u29 u30 u31 u32 u33 u34 u35 u36 u37 u38 u39 u40 u41 u42 u43 u47 u48 u49 u53 u54 u55 u56 u57 u58 u59 u60 u61 u62 u63 u64 u65 u66 u67 u68 u69 u70 u71 u72 u73 u74 u75 u76 u77 u78 u79 u80 u81 u82 u83 u84 u85 u86 : Value) : FrWatC v2 v13 v14 v15 v17 v44 v45 v46 v50 v51 v52 { tmps := #[u0, u1, v2, u3, u4, u5, u6, u7, u8, u9, u10, u11, u12, v13, v14, v15, u16, v17, u18, u19, u20, u21, u22, u23, u24, u25, u26, u27, u28, u29, u30, u31, u32, u33, u34, u35, u36, u37, u38, u39, u40, u41, u42, u43, v44, v45, v46, u47, u48, u49, v50, v51, v52, u53, u54, u55, u56, u57, u58, u59, u60, u61, u62, u63, u64, u65, u66, u67, u68, u69, u70, u71, u72, u73, u74, u75, u76, u77, u78, u79, u80, u81, u82, u83, u84, u85, u86], defers := [] }
inductive FrWatD (v2 v13 v14 v15 v17 v21 v44 v45 v46 : Value) : Act → Prop
 | mk (u0 u1 u3 u4 u5 u6 u7 u8 u9 u10 u11 u12 u16 u18 u19 u20 u22 u23 u24 u25 u26 u27 u28 u29 u30 u31 u32 u33 u34 u35 u36 u37 u38 u39 u40 u41 u42 u43 u47 u48 u49 u50 u51 u52 u53 u54 u55 u56 u57 u58 u59 u60 u61 u62 u63 u64 u65 u66 u67 u68 u69 u70 u71 u72 u73 u74 u75 u76 u77 u78 u79 u80 u81 u82 u83 u84 u85 u86 : Value) : FrWatD v2 v13 v14 v15 v17 v21 v44 v45 v46 { tmps := #[u0, u1, v2, u3, u4, u5, u6, u7, u8, u9, u10, u11, u12, v13, v14, v15, u16, v17, u18, u19, u20, v21, u22, u23, u24, u25, u26, u27, u28, u29, u30, u31, u32, u33, u34, u35, u36, u37, u38, u39, u40, u41, u42, u43, v44, v45, v46, u47, u48, u49, u50, u51, u52, u53, u54, u55, u56, u57, u58, u59, u60, u61, u62, u63, u64, u65, u66, u67, u68, u69, u70, u71, u72, u73, u74, u75, u76, u77, u78, u79, u80, u81, u82, u83, u84, u85, u86], defers := [] }
def WatchOut (w : World) (m : Mix) (v a f : Int) (e : Ending) (w' : World) : Prop :=
 ∃ l A n c x, e = .returned (.tuple #[.slice A n c, .int .i64 x]) ∧ WatchIs m v a f l x ∧ IntsAt w' w'.heap.size A n l ∧ n ≤ 13 ∧ Below w.heap.size w w' ∧ ∀ ad, A = some ad → w.heap.size ≤ ad.block
set_option maxRecDepth 100000 in
set_option maxHeartbeats 16000000 in
theorem watch_in (Av : Option Addr) (nv cv : Nat) (Aa : Option Addr) (na ca : Nat) (At : Option Addr) (nt ct : Nat) (m : Mix) (vessel after fountain : Int) (w : World) (h : MixS w Av nv Aa na At nt m) (hca : na ≤ ca ∧ ca ≤ maxLen) :
  CallsIn Fence.wide 9 Try.prog 28 #[.agg #[.int .i64 m.fountains, .slice Av nv cv, .slice Aa na ca, .slice At nt ct], .int .i64 vessel, .int .i64 after, .int .i64 fountain] w (WatchOut w m vessel after fountain) := by
 have HM := lh h
 have HCA := lh hca
 clear h hca
 refine callsIn_of_wp Try.func28 rfl trivial ?_ rfl
 simp only [Try.ntmps28, List.size_toArray, List.length_cons, List.length_nil, Nat.reduceAdd, Nat.reduceSub, Array.replicate_succ, Array.replicate_zero, List.push_toArray, List.append_toArray, List.nil_append, List.cons_append]
 gi_upto_region 1 with fail
 have Ly := lh (Lay.one w 26 #[.int .i64 m.fountains, .slice Av nv cv, .slice Aa na ca, .slice At nt ct])
 generalize (w.alloc (.cells #[.int .i64 m.fountains, .slice Av nv cv, .slice Aa na ca, .slice At nt ct] 26)) = w0 at *
 obtain ⟨x0_0, x0_1, x0_2, x0_3⟩ := lyc4 Ly 0 rfl
 have l0_ := Ly.out.lt 0 rfl
 gi_wp2
 clear x0_0 x0_1 x0_2 x0_3 l0_
 have Y := IntsAt.new w0 3 [fountain] (w0.heap.size + 1) (by omega)
 have hb1 : Below w0.heap.size w0 (w0.alloc (.cells #[.int .i64 fountain] 3)) := (Below.refl _ _).alloc (Nat.le_refl _) _
 have hc := placed_in Av nv cv Aa na ca At nt ct m vessel after (some ⟨w0.heap.size, 0, none⟩) 1 1 [fountain] _ (HM.out.up (Ly.out.1.trans (hb1.mono Ly.out.1.size))) (Y.more (by simp)) (by decide)
 refine ⟨trivial, (callsIn_wide.2 (callsIn_wide.1 hc)).mono ?_⟩
 clear hc Y
 generalize (w0.alloc (.cells #[.int .i64 fountain] 3)) = W00 at *
 rintro e W8 ⟨pp, s1, s2, rfl, hb, hp⟩
 have HP := lh hp
 have hbb := hb1.trans (hb.mono hb1.size)
 clear hb hb1 hp
 have HB8 := lh (Ly.out.1.trans (hbb.mono Ly.out.1.size))
 clear hbb Ly
 obtain ⟨ee, hee⟩ : ∃ ee, askM m vessel after [fountain] = ee := ⟨_, rfl⟩
 rw [hee] at HP ⊢
 have HEE := lh hee
 clear hee
 gi_upto_region 2 with fail
 have HS1 := lh (Blk.new W8 118 #[.int .i64 s1, .int .i64 s2])
 have hb9 : Below W8.heap.size W8 (W8.alloc (.cells #[.int .i64 s1, .int .i64 s2] 118)) := (Below.refl _ _).alloc (Nat.le_refl _) _
 have HB9 := lh hb9
 clear hb9
 generalize (W8.alloc (.cells #[.int .i64 s1, .int .i64 s2] 118)) = V1 at *
 obtain ⟨G2, hG⟩ : ∃ g, W8.heap.size = g := ⟨_, rfl⟩
 have HBE := lh (HB8.out.trans (HB9.out.mono HB8.out.size))
 rw [hG] at HS1 ⊢
 clear hG
 by_cases h0 : ee = 0
 ·obtain ⟨hk, h1, h2, h3, h4, T, rfl, hTm, hTL, hTg, hT, hMA, hTc⟩ := HP.out h0
  subst h0
  subst h2
  obtain ⟨q, hq⟩ : ∃ q : Nat, s1 = q := ⟨s1.toNat, by omega⟩
  subst hq
  obtain ⟨k, hkk⟩ : ∃ k : Nat, s2 = k := ⟨s2.toNat, by omega⟩
  subst hkk
  have HQ : Hid ((q : Int) = idxV m.vessels vessel ∧ k ≤ m.acts.length ∧ m.acts.length ≤ 12 ∧ m.vessels.length ≤ 4) := lh ⟨h1, by omega, (okMix_vess hk).2.1, (okMix_vess hk).1⟩
  have HOK : Hid (TbOk T) := lh ⟨by rw [hTm]; exact hk, by rw [hTm]; exact hTL⟩
  have HTM := lh hTm
  have HTL := lh hTL
  have HT := lh (hT.at_.below HB9.out)
  have HTC : Hid (T.na ≤ T.ca ∧ T.ca ≤ maxLen) := lh (by
   have h5 := hT.at_.mix.lenA
   have h6 := HM.out.at_.lenA
   rw [hTm] at h5
   rw [hTc]
   have h7 := HCA.out
   omega)
  clear HP hk h1 h3 h4 hTm hTL hTg hT hMA hTc HB9
  have d0 := HS1.out.cell 0
  have d1 := HS1.out.cell 1
  have dl := HS1.out.lt
  gi_wp2
  clear d0 d1 dl
  refine ⟨trivial, (callsIn_wide.2 (ways_any T.g q k fountain V1)).mono ?_⟩
  rintro e V2 ⟨rfl, hL⟩
  have HL := lh hL
  have HT2 := lh (HT.out.below hL.1)
  clear hL
  have HWL : Hid ((waysP T.m T.L fountain q k).length ≤ 1000000) := lh (ways_small (by rw [HTM.out]; exact HQ.out.2.1) (by rw [HTM.out]; exact HQ.out.2.2.1))
  have HSQ := lh (fun v hv => ways1_seq (V1.heap.size + 1) V1.heap.size (V1.heap.size + 1 + 1) q k fountain T V2 v hv HOK.out (by rw [HTM.out]; exact HQ.out.2.1) HTC.out HT2.out (HL.out.blk 1 rfl) (HL.out.blk 0 rfl) (HL.out.blk 2 rfl))
  have HFR := lh (collectW_in 97 #[.pointer (some ⟨V1.heap.size + 1, 0, none⟩), .pointer (some ⟨V1.heap.size, 0, none⟩), .pointer (some ⟨V1.heap.size + 1 + 1, 0, none⟩)] _ _ V2 HWL.out (enters_of Try.func97 (by kernel_rfl) rfl) HSQ.out)
  have HB2 := lh (HBE.out.trans (HL.out.1.mono HBE.out.size))
  gi_wp2
  refine ⟨trivial, (callsIn_wide.2 HFR.out).mono ?_⟩
  clear HFR HSQ
  unfold CollectOut
  rintro e V3 ⟨xs, Bw, qw, hxs, hlen, rfl, hown, hall, hb3⟩
  have hmem : ∀ l, l ∈ waysP T.m T.L fountain q k ↔ WayTo m T.L fountain (k : Int).toNat (idxV m.vessels vessel) l := fun l => by
   rw [← HQ.out.1, Int.toNat_natCast, HTM.out]
   exact mem_waysP HTL.out HQ.out.2.2.2 HQ.out.2.1
  rw [← hxs] at hmem
  obtain ⟨ws, hws⟩ : ∃ ws, xs.map Wy.l = ws := ⟨_, rfl⟩
  rw [hws] at hmem
  have HWS := lh hws
  have HMEM := lh hmem
  have HB3 := lh (HB2.out.trans (hb3.mono HB2.out.size))
  have HLW := lh (LL.own hown hall (Nat.le_refl _))
  have hlw : xs.length ≤ 1000000 := by have := HWL.out; omega
  obtain ⟨nw, hnw⟩ : ∃ nw, xs.length = nw := ⟨_, rfl⟩
  rw [hnw] at hlw ⊢
  have HNW := lh hnw
  clear hmem hown hall hb3 hxs hlen hws hnw HL HT HT2 HWL
  by_cases h0 : nw = 0
  ·
   subst h0
   gi_wp2
   refine bodyPost_ret (v := .tuple #[.slice none 0 0, .int .i64 6]) (by simp [results, Try.results28, go_sem]) rfl ?_
   refine ⟨[], none, 0, 0, 6, rfl, .inr ⟨HEE.out, T.L, HTL.out, .inl ⟨fun l hl => ?_, rfl, rfl⟩⟩, Reads.none_, by omega, HB3.out, fun a h => by cases h⟩
   have h1 := (HMEM.out l).2 hl
   rw [← HWS.out, List.eq_nil_of_length_eq_zero HNW.out] at h1
   cases h1
  ·
   have h0b : (nw == 0) = false := by simpa using h0
   have h0c : ¬ (nw : Int) = 0 := by omega
   gi_upto_region 8 with fail
   have HL0 := lh (LL.one w.heap.size V3 ⟨[], none, 0, 0⟩ rfl rfl rfl)
   have hb4 : Below V3.heap.size V3 (V3.alloc (.cells #[.slice none 0 0] 57)) := (Below.refl _ _).alloc (Nat.le_refl _) _
   have HB4 := lh (HB3.out.trans (hb4.mono HB3.out.size))
   have HLW4 := lh (HLW.out.below hb4)
   have hz4 : (V3.alloc (.cells #[.slice none 0 0] 57)).heap.size = V3.heap.size + 1 := by simp
   have HZ4 := lh hz4
   have HV3 : Hid (w.heap.size ≤ V3.heap.size) := lh HB3.out.size
   clear hb4 hz4 HLW
   obtain ⟨b0, hb0⟩ : ∃ b, V3.heap.size = b := ⟨_, rfl⟩
   rw [hb0] at HL0 HLW4 HZ4 HV3 ⊢
   generalize (V3.alloc (.cells #[.slice none 0 0] 57)) = V4 at *
   clear hb0 HB3 HB2 HBE
   have HWB : Hid (∀ y ∈ ws, y ≠ [] ∧ ∀ n ∈ y, 1 ≤ n ∧ n ≤ (k : Int)) := lh fun y hy => by
    have h1 := (HMEM.out y).1 hy
    rw [Int.toNat_natCast] at h1
    exact ⟨h1.ne, h1.le⟩
   have hk12 : k ≤ 12 := by have := HQ.out; omega
   refine wpIn_loop (fun a W => ∃ (A : Option Addr) (n c : Nat), Hid (Ew2 fun (lv : Nat) (L : List Wy) => lv ≤ k ∧ L.map Wy.l = lvlI k lv ∧ L.length = n ∧ LL w.heap.size W.heap.size W A L ∧ Below b0 V4 W ∧ ∀ k' < lv, ∀ y ∈ lvlI k k', ¬ Hits ws y) ∧ FrWatA (.int .i64 (k : Int)) (.slice Bw nw qw) (.slice A n c) a) (fun a W => k - lvlOf a W) ?_ ?_
   ·exact ⟨some ⟨b0, 0, none⟩, 1, 1, lh ⟨0, _, Nat.zero_le _, rfl, rfl, by rw [HZ4.out]; exact HL0.out, Below.refl _ _, fun k' h => absurd h (Nat.not_lt_zero _)⟩, by constructor⟩
   clear HL0
   rintro a W ⟨A, n, c, HS, ha⟩
   have hlv9 : ∀ lv L, lv ≤ k → L.map Wy.l = lvlI k lv → LL w.heap.size W.heap.size W A L → lvlOf a W = lv := fun lv L h1 h2 h3 => lvlOf_is (n := n) (c := c) h3 h2 h1 (by cases ha; rfl)
   cases ha
   obtain ⟨lv, L, hs9⟩ := HS.out
   replace HS := lh hs9
   rw [hlv9 lv L hs9.1 hs9.2.1 hs9.2.2.2.1]
   clear hs9 hlv9
   have HN : Hid (n ≤ 1000000) := lh (by have h1 := congrArg List.length HS.out.2.1; rw [List.length_map, HS.out.2.2.1] at h1; rw [h1]; exact lvl_small hk12 HS.out.1)
   have HLB := lh HS.out.2.2.2.1
   have HWW := lh (HLW4.out.below HS.out.2.2.2.2.1)
   have HSZ : Hid (b0 + 1 ≤ W.heap.size) := lh (by rw [← HZ4.out]; exact HS.out.2.2.2.2.1.size)
   have hn6 := HN.out
   gi_wp2
   refine wpIn_scope_straight ?_
   gi_wp2
   refine wpIn_label ?_
   gi_wp2
   refine wpIn_loop (fun a W1 => ∃ (i : Nat) (A2 : Option Addr) (n2 c2 : Nat), Hid (Ew1 fun (ys : List Wy) => i ≤ n ∧ ys.length = n2 ∧ ys.map Wy.l = ((lvlI k lv).take i).flatMap (extI k) ∧ (∀ j y, j < i → (lvlI k lv)[j]? = some y → ¬ Hits ws y) ∧ NL w.heap.size W.heap.size W1 A2 c2 ys ∧ Kp2 W.heap.size W W1) ∧ FrWatB (.int .i64 (k : Int)) (.slice Bw nw qw) (.slice A n c) (.slice A2 n2 c2) (.slice A n c) (.int .i64 (n : Int)) (.int .i64 (i : Int)) a) (fun a _ => n - (intOf (a.tmps.getD 46 undef)).toNat) ?_ ?_
   ·exact ⟨0, none, 0, 0, lh ⟨[], Nat.zero_le _, rfl, rfl, fun j y h => absurd h (Nat.not_lt_zero _), ⟨Own.none_ _ _ _ _, fun y hy => by cases hy⟩, Kp2.refl⟩, by constructor⟩
   rintro a W1 ⟨i, A2, n2, c2, HI, ha⟩
   cases ha
   obtain ⟨ys, hs9⟩ := HI.out
   replace HI := lh hs9
   clear hs9
   by_cases hlt : i < n
   ·
    obtain ⟨ga, oa, x, hA, hga, hx, cx, hxi, hx13, hxs⟩ := (HLB.out.below HI.out.2.2.2.2.2.bel).cell (i := i) (by rw [HS.out.2.2.1]; exact hlt)
    have hxl : (lvlI k lv)[i]? = some x.l := by rw [← HS.out.2.1, List.getElem?_map, hx]; rfl
    have HXL := lh hxl
    have HXI := lh hxi
    have HXS := lh hxs
    have HAA := lh hA
    have hgl : ga < W1.heap.size := Nat.lt_of_lt_of_le hga HI.out.2.2.2.2.2.bel.size
    obtain ⟨xl, xA, xn, xc⟩ := x
    dsimp only [Wy.val] at *
    have hxn : xl.length = xn := hxi.len
    have HXN := lh hxn
    have HUP := lh ((lvl_mem k lv xl).1 (List.mem_of_getElem? hxl))
    rw [hA]
    clear hA hga hx hxl hxi hxs hxn
    gi_upto_region 12 with fail
    rw [← HAA.out]
    clear cx hgl
    have hbk : Blk (W1.alloc (.cells #[.slice xA xn xc] 57)) W1.heap.size 57 #[.slice xA xn xc] := Blk.new W1 57 _
    have hb2 : Below W1.heap.size W1 (W1.alloc (.cells #[.slice xA xn xc] 57)) := (Below.refl _ _).alloc (Nat.le_refl _) _
    have HBK := lh hbk
    have HB2 := lh hb2
    have HGX : Hid (∀ r, A2.map (·.block) = some r → r ≠ W1.heap.size) := lh fun r hr e => by
     have h1 := (own_typ HI.out.2.2.2.2.1.own r hr).2
     obtain ⟨cs, h1⟩ := h1
     have h2 := h1.lt
     omega
    clear hbk hb2
    obtain ⟨gx, hgx⟩ : ∃ g, W1.heap.size = g := ⟨_, rfl⟩
    rw [hgx] at HBK HGX ⊢
    have HGG : Hid (W.heap.size ≤ gx) := lh (by have := HI.out.2.2.2.2.2.bel.size; omega)
    generalize (W1.alloc (.cells #[.slice xA xn xc] 57)) = W2 at *
    have HK2 := lh (show Kp2 W.heap.size W W2 from HI.out.2.2.2.2.2.trans (Kp2.of_below (by rw [hgx]; rw [hgx] at HB2; exact HB2.out) HI.out.2.2.2.2.2.bel.size))
    have HN2 := lh (show NL w.heap.size W.heap.size W2 A2 c2 ys from HI.out.2.2.2.2.1.below (by rw [hgx]; rw [hgx] at HB2; exact HB2.out))
    have HXI2 := lh (show IntsAt W2 W.heap.size xA xn xl from HXI.out.below (show Below W.heap.size W1 W2 from by rw [hgx] at HB2; exact HB2.out.mono (by have := HI.out.2.2.2.2.2.bel.size; omega)))
    clear hgx HB2
    gi_wp2
    refine wpIn_loop (fun a W3 => ∃ (j : Nat), Hid (j ≤ nw ∧ (∀ y ∈ ws.take j, ∃ n ∈ y, n ∈ xl) ∧ Below W2.heap.size W2 W3) ∧ FrWatC (.int .i64 (k : Int)) (.slice Bw nw qw) (.slice A n c) (.slice A2 n2 c2) (.pointer (some ⟨gx, 0, none⟩)) (.slice A n c) (.int .i64 (n : Int)) (.int .i64 (i : Int)) (.slice Bw nw qw) (.int .i64 (nw : Int)) (.int .i64 (j : Int)) a) (fun a _ => nw - (intOf (a.tmps.getD 52 undef)).toNat) ?_ ?_
    ·exact ⟨0, lh ⟨Nat.zero_le _, (fun y hy => by cases hy), Below.refl _ _⟩, by constructor⟩
    rintro a W3 ⟨j, HJ, ha⟩
    cases ha
    have HK3 := lh (HK2.out.trans (Kp2.of_below HJ.out.2.2 HK2.out.bel.size))
    have HB3 := lh (HBK.out.below HJ.out.2.2 HBK.out.lt)
    by_cases hjt : j < nw
    ·
     obtain ⟨gb, ob, y, hB, hgb, hy, cy, hyi, hy13, _⟩ := ((HWW.out.below (HK3.out.bel.mono (by have := HSZ.out; omega)))).cell (i := j) (by rw [HNW.out]; exact hjt)
     have hyl : ws[j]? = some y.l := by rw [← HWS.out, List.getElem?_map, hy]; rfl
     have HYL := lh hyl
     have HBB := lh hB
     have hgl : gb < W3.heap.size := by have h1 := HK3.out.bel.size; have h2 := HSZ.out; omega
     obtain ⟨yl, yA, yn, yc⟩ := y
     dsimp only [Wy.val] at *
     have HX3 := lh (HXI2.out.below (HJ.out.2.2.mono HK2.out.bel.size))
     have hh := hit_any gx xA xn xc xl yA yn yc yl W3 HB3.out (HX3.out.more HK3.out.bel.size) (by omega) (hyi.more (by have h1 := HK3.out.bel.size; have h2 := HSZ.out; omega)) (by omega)
     obtain ⟨hb_, hhb⟩ : ∃ hb_, hitB xl yl = hb_ := ⟨_, rfl⟩
     rw [hhb] at hh
     have HH := lh hh
     have HHB := lh hhb
     rw [hB]
     have c17 := HB3.out.cell 0
     have l17 := HB3.out.lt
     clear hB hgb hy hyl hyi hh hhb
     gi_wp2
     refine ⟨trivial, (callsIn_wide.2 HH.out).mono ?_⟩
     rintro e W5 ⟨rfl, hb5⟩
     rw [← HBB.out]
     have HB5 := lh hb5
     have HB53 := lh (HB3.out.below hb5 HB3.out.lt)
     have HK5 := lh (HK3.out.trans (Kp2.of_below hb5 HK3.out.bel.size))
     have HX5 := lh (HX3.out.below (hb5.mono HK3.out.bel.size))
     clear cy hgl c17 l17 hb5 HH
     cases hb_ with
     | true =>
      gi_wp2
      refine ⟨⟨j + 1, lh ⟨hjt, fun y hy => ?_, HJ.out.2.2.trans (HB5.out.mono HJ.out.2.2.size)⟩, by rw [show ((j + 1 : Nat) : Int) = (j : Int) + 1 from by omega]; first | constructor | (rw [HBB.out]; constructor)⟩, ?_⟩
      ·obtain ⟨hj1, hj2⟩ := List.getElem?_eq_some_iff.1 HYL.out
       rw [List.take_succ_eq_append_getElem hj1, hj2] at hy
       rcases List.mem_append.1 hy with hy | hy
       ·exact HJ.out.2.1 y hy
       ·rw [List.mem_singleton.1 hy]
        exact hitB_iff.1 HHB.out
      ·simp [intOf] <;> omega
     | false =>
      have HNH : Hid (¬ Hits ws xl) := lh fun h => by
       have h1 := hitB_iff.2 (h yl (List.mem_of_getElem? HYL.out))
       rw [HHB.out] at h1
       cases h1
      have HLA := lh (lastI_le HUP.out.2)
      have HN5 := lh (HN2.out.below (HJ.out.2.2.trans (HB5.out.mono HJ.out.2.2.size)))
      obtain ⟨la, hla⟩ : ∃ la, lastI xl = la := ⟨_, rfl⟩
      rw [hla] at HLA
      have HLI := lh hla
      clear hla
      by_cases hx0 : xn = 0
      ·
       subst hx0
       obtain rfl : xl = [] := List.eq_nil_of_length_eq_zero HXN.out
       obtain rfl : la = 0 := HLI.out.symm
       have c17 := HB53.out.cell 0
       have l17 := HB53.out.lt
       gi_wp2
       clear c17 l17
       refine wpIn_loop (fun a W6 => ∃ (d : Nat) (t : Int) (A3 : Option Addr) (n3 c3 : Nat), Hid (Ew1 fun (zs : List Wy) => t = (0 : Int) + 1 + (d : Int) ∧ d ≤ k - ((0 : Int)).toNat ∧ zs.length = n3 ∧ zs.map Wy.l = ((lvlI k lv).take i).flatMap (extI k) ++ ((moreI k ([] : List Int)).take d).map (fun n => ([] : List Int) ++ [n]) ∧ NL w.heap.size W.heap.size W6 A3 c3 zs ∧ Kp2 W.heap.size W W6 ∧ Blk W6 gx 57 #[.slice xA 0 xc] ∧ (∀ r, A3.map (·.block) = some r → r ≠ gx) ∧ IntsAt W6 W.heap.size xA 0 ([] : List Int)) ∧ FrWatD (.int .i64 (k : Int)) (.slice Bw nw qw) (.slice A n c) (.slice A3 n3 c3) (.pointer (some ⟨gx, 0, none⟩)) (.int .i64 (t : Int)) (.slice A n c) (.int .i64 (n : Int)) (.int .i64 (i : Int)) a) (fun a _ => ((k : Int) + 1 - intOf (a.tmps.getD 21 undef)).toNat) ?_ ?_
       ·exact ⟨0, (0 : Int) + 1, A2, n2, c2, lh ⟨ys, by omega, Nat.zero_le _, HI.out.2.1, by rw [List.take_zero, List.map_nil, List.append_nil]; exact HI.out.2.2.1, HN5.out, HK5.out, HB53.out, HGX.out, HX5.out⟩, by constructor⟩
       rintro a W6 ⟨d, t, A3, n3, c3, HD, ha⟩
       cases ha
       obtain ⟨zs, hs9⟩ := HD.out
       replace HD := lh hs9
       obtain ⟨rfl, hd9⟩ := hs9
       clear hd9
       have hla0 : 0 ≤ (0 : Int) := HLA.out.1
       have hlak : (0 : Int) ≤ (k : Int) := HLA.out.2
       by_cases htk : (0 : Int) + 1 + (d : Int) ≤ (k : Int)
       ·
        have c17 := HD.out.2.2.2.2.2.2.1.cell 0
        have l17 := HD.out.2.2.2.2.2.2.1.lt
        have HIW := lh (HD.out.2.2.2.2.2.2.2.2.more HD.out.2.2.2.2.2.1.bel.size)
        have hxn12 : 0 ≤ 12 := by have h1 := HUP.out.1; have h2 := HXN.out; have h3 := HS.out.1; omega
        have HSW : Hid (W.heap.size ≤ W6.heap.size) := lh HD.out.2.2.2.2.2.1.bel.size
        have hzn : n3 ≤ 13000000 := by
         have h1 := congrArg List.length HD.out.2.2.2.1
         have h2 := ext_flat (a := k) hk12 ((lvlI k lv).take i)
         have h3 := HD.out.2.2.1
         have h4 := HD.out.2.1
         simp only [List.length_map, List.length_append, List.length_take] at h1 h2
         omega
        have HNL6 := lh (show Own W6 W.heap.size 57 1 A3 n3 c3 (zs.map Wy.val) from by have h1 := HD.out.2.2.2.2.1.own; rwa [HD.out.2.2.1] at h1)
        gi_wp2
        refine ⟨trivial, (callsIn_wide.2 (clone_int xA (0) xc (([] : List Int)) W6 HIW.out (by unfold maxLen; omega) (by omega))).mono ?_⟩
        rintro e W7 ⟨A9, c9, rfl, hO, hCn, hb7⟩
        have HO7 := lh (hO.alloc (.cells #[.int .i64 ((0 : Int) + 1 + (d : Int))] 3))
        have HOB : Hid (Blk (W7.alloc (.cells #[.int .i64 ((0 : Int) + 1 + (d : Int))] 3)) W7.heap.size 3 #[.int .i64 ((0 : Int) + 1 + (d : Int))]) := lh (Blk.new _ _ _)
        have hal : Below W6.heap.size W6 (W7.alloc (.cells #[.int .i64 ((0 : Int) + 1 + (d : Int))] 3)) := hb7.trans (((Below.refl _ _).alloc (Nat.le_refl _) _).mono hb7.size)
        have HAL := lh hal
        clear c17 l17 hO hCn hb7 hal
        gi_wp2_with (first | (gi_at_builtin; refine wpListIn_append_any rfl (.tmp 77) (.tmp 79) (by rfl) elem_int rfl HO7.out rfl (one_int (x := (0 : Int) + 1 + (d : Int)) HOB.out.lt (HOB.out.cell 0)) (ints_one _) (by unfold maxLen; omega) (by omega) HAL.out.size ?_) | fail)
        rintro A10 c10 W10 hown hg hA
        have hb10 : Below W6.heap.size W6 W10 := HAL.out.grown hg HAL.out.size (fun r e => (own_typ HO7.out r e).1)
        have HO10 := lh (show Own W10 W6.heap.size 3 1 A10 (0 + 1) c10 ((([] : List Int) ++ [(0 : Int) + 1 + (d : Int)]).map (Value.int .i64)) from by rw [List.map_append]; exact hown)
        have hb11 : Below W6.heap.size W6 (W10.alloc (.cells #[.slice A10 (0 + 1) c10] 57)) := hb10.trans (((Below.refl _ _).alloc (Nat.le_refl _) _).mono hb10.size)
        have HB11 := lh hb11
        have HO11 := lh (HO10.out.alloc (.cells #[.slice A10 (0 + 1) c10] 57))
        have HNL := lh (HNL6.out.below hb11 (Nat.le_refl _))
        have HOB2 : Hid (Blk (W10.alloc (.cells #[.slice A10 (0 + 1) c10] 57)) W10.heap.size 57 #[.slice A10 (0 + 1) c10]) := lh (Blk.new _ _ _)
        clear hown hg hA hb10 hb11 HAL HOB HO7 HO10
        gi_wp2_with (first | (gi_at_builtin; refine wpListIn_append_any rfl (.tmp 75) (.tmp 81) (by rfl) elem_roww rfl HNL.out rfl (one_val (x := .slice A10 (0 + 1) c10) HOB2.out.lt (HOB2.out.cell 0)) (fun u hu => by rw [List.mem_singleton.1 hu]; rfl) (by unfold maxLen; omega) (by omega) (Nat.le_trans HSW.out HB11.out.size) ?_) | fail)
        rintro A11 c11 W12 hown hg hA
        have hkr : KpR W.heap.size W.heap.size (W10.alloc (.cells #[.slice A10 (0 + 1) c10] 57)) W12 := KpR.of_row hg (fun r e => own_typ HNL.out r e)
        have hkp : Kp2 W.heap.size W6 W12 := ⟨(HB11.out.mono HSW.out).grown hg (Nat.le_trans HSW.out HB11.out.size) (fun r e => (own_typ HNL.out r e).1), (KpR.of_below HB11.out).trans hkr⟩
        have HKP := lh hkp
        have hgx0 := HD.out.2.2.2.2.2.2.1.below HB11.out HD.out.2.2.2.2.2.2.1.lt
        have HGX9 := lh (hgx0.grown hg (fun e => HD.out.2.2.2.2.2.2.2.1 gx e.symm rfl))
        have HGA : Hid (∀ r, A11.map (·.block) = some r → r ≠ gx) := lh fun r hr ee9 => by
         rcases hA with h1 | h1
         ·exact HD.out.2.2.2.2.2.2.2.1 r (by rw [← h1]; exact hr) ee9
         ·rw [h1] at hr
          have h2 : W10.heap.size + 1 = r := Option.some.inj hr
          have h3 := hgx0.lt
          rw [World.size_alloc] at h3
          omega
        have HNEW : Hid (Wy.own W.heap.size ⟨([] : List Int) ++ [(0 : Int) + 1 + (d : Int)], A10, 0 + 1, c10⟩ W12) := lh (Wy.own.kp ⟨⟨ints_of_own HO11.out (Nat.le_refl _), by dsimp only; omega⟩, Safe.own HO11.out HSW.out⟩ hkr)
        have HOWN := lh hown
        clear hown hg hA hkr hkp hgx0 HO11 HNL HOB2 HB11
        gi_wp2
        refine ⟨⟨d + 1, (0 : Int) + 1 + (d : Int) + 1, A11, n3 + 1, c11, lh ⟨zs ++ [⟨([] : List Int) ++ [(0 : Int) + 1 + (d : Int)], A10, 0 + 1, c10⟩], by omega, by omega, by rw [List.length_append, HD.out.2.2.1]; rfl, ?_, ⟨?_, ?_⟩, HD.out.2.2.2.2.2.1.trans HKP.out, HGX9.out, HGA.out, HD.out.2.2.2.2.2.2.2.2.below HKP.out.bel⟩, by constructor⟩, ?_⟩
        ·rw [List.map_append, HD.out.2.2.2.1, moreI_get (by rw [HLI.out]; omega), HLI.out, List.append_assoc]
         rfl
        ·have h1 := HOWN.out
         rw [List.length_append, HD.out.2.2.1, List.map_append]
         exact h1
        ·intro y hy
         rcases List.mem_append.1 hy with hy | hy
         ·exact (HD.out.2.2.2.2.1.all y hy).kp HKP.out.kp
         ·rw [List.mem_singleton.1 hy]
          exact HNEW.out
        ·simp [intOf]
         omega
       ·
        have hmap : zs.map Wy.l = ((lvlI k lv).take (i + 1)).flatMap (extI k) := by rw [HD.out.2.2.2.1, lvl_step HXL.out, moreI_all (by rw [HLI.out]; omega)]
        have HMAP := lh hmap
        clear hmap
        gi_wp2
        refine ⟨⟨i + 1, A3, n3, c3, lh ⟨zs, hlt, HD.out.2.2.1, HMAP.out, fun j y hj hy => ?_, HD.out.2.2.2.2.1, HD.out.2.2.2.2.2.1⟩, by rw [show ((i + 1 : Nat) : Int) = (i : Int) + 1 from by omega]; first | constructor | (rw [HBB.out]; constructor) | (rw [HAA.out]; constructor)⟩, ?_⟩
        ·by_cases e9 : j = i
         ·subst e9
          rw [HXL.out] at hy
          obtain rfl := Option.some.inj hy
          exact HNH.out
         ·exact HI.out.2.2.2.1 j y (by omega) hy
        ·simp [intOf] <;> omega
      ·
       obtain ⟨e, rfl⟩ : ∃ e, xn = e + 1 := ⟨xn - 1, by omega⟩
       obtain ⟨gz, oz, z, hzA, hzb, hz, cz⟩ := HX5.out.cell (k := e) (by omega)
       obtain rfl : la = z := by rw [← HLI.out]; exact lastI_at HXN.out (by omega) hz
       have c17 := HB53.out.cell 0
       have l17 := HB53.out.lt
       have hgz : gz < W5.heap.size := by have := HK5.out.bel.size; omega
       have HZA := lh hzA
       rw [hzA] at c17
       clear hzA hz hx0
       have la0_ : 0 ≤ la := HLA.out.1
       have la1_ : la ≤ 12 := by have := HLA.out.2; omega
       gi_wp2
       rw [← HZA.out]
       clear c17 l17 cz hzb hgz la0_ la1_
       refine wpIn_loop (fun a W6 => ∃ (d : Nat) (t : Int) (A3 : Option Addr) (n3 c3 : Nat), Hid (Ew1 fun (zs : List Wy) => t = la + 1 + (d : Int) ∧ d ≤ k - (la).toNat ∧ zs.length = n3 ∧ zs.map Wy.l = ((lvlI k lv).take i).flatMap (extI k) ++ ((moreI k xl).take d).map (fun n => xl ++ [n]) ∧ NL w.heap.size W.heap.size W6 A3 c3 zs ∧ Kp2 W.heap.size W W6 ∧ Blk W6 gx 57 #[.slice xA (e + 1) xc] ∧ (∀ r, A3.map (·.block) = some r → r ≠ gx) ∧ IntsAt W6 W.heap.size xA (e + 1) xl) ∧ FrWatD (.int .i64 (k : Int)) (.slice Bw nw qw) (.slice A n c) (.slice A3 n3 c3) (.pointer (some ⟨gx, 0, none⟩)) (.int .i64 (t : Int)) (.slice A n c) (.int .i64 (n : Int)) (.int .i64 (i : Int)) a) (fun a _ => ((k : Int) + 1 - intOf (a.tmps.getD 21 undef)).toNat) ?_ ?_
       ·exact ⟨0, la + 1, A2, n2, c2, lh ⟨ys, by omega, Nat.zero_le _, HI.out.2.1, by rw [List.take_zero, List.map_nil, List.append_nil]; exact HI.out.2.2.1, HN5.out, HK5.out, HB53.out, HGX.out, HX5.out⟩, by constructor⟩
       rintro a W6 ⟨d, t, A3, n3, c3, HD, ha⟩
       cases ha
       obtain ⟨zs, hs9⟩ := HD.out
       replace HD := lh hs9
       obtain ⟨rfl, hd9⟩ := hs9
       clear hd9
       have hla0 : 0 ≤ la := HLA.out.1
       have hlak : la ≤ (k : Int) := HLA.out.2
       by_cases htk : la + 1 + (d : Int) ≤ (k : Int)
       ·
        have c17 := HD.out.2.2.2.2.2.2.1.cell 0
        have l17 := HD.out.2.2.2.2.2.2.1.lt
        have HIW := lh (HD.out.2.2.2.2.2.2.2.2.more HD.out.2.2.2.2.2.1.bel.size)
        have hxn12 : (e + 1) ≤ 12 := by have h1 := HUP.out.1; have h2 := HXN.out; have h3 := HS.out.1; omega
        have HSW : Hid (W.heap.size ≤ W6.heap.size) := lh HD.out.2.2.2.2.2.1.bel.size
        have hzn : n3 ≤ 13000000 := by
         have h1 := congrArg List.length HD.out.2.2.2.1
         have h2 := ext_flat (a := k) hk12 ((lvlI k lv).take i)
         have h3 := HD.out.2.2.1
         have h4 := HD.out.2.1
         simp only [List.length_map, List.length_append, List.length_take] at h1 h2
         omega
        have HNL6 := lh (show Own W6 W.heap.size 57 1 A3 n3 c3 (zs.map Wy.val) from by have h1 := HD.out.2.2.2.2.1.own; rwa [HD.out.2.2.1] at h1)
        gi_wp2
        refine ⟨trivial, (callsIn_wide.2 (clone_int xA ((e + 1)) xc (xl) W6 HIW.out (by unfold maxLen; omega) (by omega))).mono ?_⟩
        rintro e W7 ⟨A9, c9, rfl, hO, hCn, hb7⟩
        have HO7 := lh (hO.alloc (.cells #[.int .i64 (la + 1 + (d : Int))] 3))
        have HOB : Hid (Blk (W7.alloc (.cells #[.int .i64 (la + 1 + (d : Int))] 3)) W7.heap.size 3 #[.int .i64 (la + 1 + (d : Int))]) := lh (Blk.new _ _ _)
        have hal : Below W6.heap.size W6 (W7.alloc (.cells #[.int .i64 (la + 1 + (d : Int))] 3)) := hb7.trans (((Below.refl _ _).alloc (Nat.le_refl _) _).mono hb7.size)
        have HAL := lh hal
        clear c17 l17 hO hCn hb7 hal
        gi_wp2_with (first | (gi_at_builtin; refine wpListIn_append_any rfl (.tmp 77) (.tmp 79) (by rfl) elem_int rfl HO7.out rfl (one_int (x := la + 1 + (d : Int)) HOB.out.lt (HOB.out.cell 0)) (ints_one _) (by unfold maxLen; omega) (by omega) HAL.out.size ?_) | fail)
        rintro A10 c10 W10 hown hg hA
        have hb10 : Below W6.heap.size W6 W10 := HAL.out.grown hg HAL.out.size (fun r e => (own_typ HO7.out r e).1)
        have HO10 := lh (show Own W10 W6.heap.size 3 1 A10 ((e + 1) + 1) c10 ((xl ++ [la + 1 + (d : Int)]).map (Value.int .i64)) from by rw [List.map_append]; exact hown)
        have hb11 : Below W6.heap.size W6 (W10.alloc (.cells #[.slice A10 ((e + 1) + 1) c10] 57)) := hb10.trans (((Below.refl _ _).alloc (Nat.le_refl _) _).mono hb10.size)
        have HB11 := lh hb11
        have HO11 := lh (HO10.out.alloc (.cells #[.slice A10 ((e + 1) + 1) c10] 57))
        have HNL := lh (HNL6.out.below hb11 (Nat.le_refl _))
        have HOB2 : Hid (Blk (W10.alloc (.cells #[.slice A10 ((e + 1) + 1) c10] 57)) W10.heap.size 57 #[.slice A10 ((e + 1) + 1) c10]) := lh (Blk.new _ _ _)
        clear hown hg hA hb10 hb11 HAL HOB HO7 HO10
        gi_wp2_with (first | (gi_at_builtin; refine wpListIn_append_any rfl (.tmp 75) (.tmp 81) (by rfl) elem_roww rfl HNL.out rfl (one_val (x := .slice A10 ((e + 1) + 1) c10) HOB2.out.lt (HOB2.out.cell 0)) (fun u hu => by rw [List.mem_singleton.1 hu]; rfl) (by unfold maxLen; omega) (by omega) (Nat.le_trans HSW.out HB11.out.size) ?_) | fail)
        rintro A11 c11 W12 hown hg hA
        have hkr : KpR W.heap.size W.heap.size (W10.alloc (.cells #[.slice A10 ((e + 1) + 1) c10] 57)) W12 := KpR.of_row hg (fun r e => own_typ HNL.out r e)
        have hkp : Kp2 W.heap.size W6 W12 := ⟨(HB11.out.mono HSW.out).grown hg (Nat.le_trans HSW.out HB11.out.size) (fun r e => (own_typ HNL.out r e).1), (KpR.of_below HB11.out).trans hkr⟩
        have HKP := lh hkp
        have hgx0 := HD.out.2.2.2.2.2.2.1.below HB11.out HD.out.2.2.2.2.2.2.1.lt
        have HGX9 := lh (hgx0.grown hg (fun e => HD.out.2.2.2.2.2.2.2.1 gx e.symm rfl))
        have HGA : Hid (∀ r, A11.map (·.block) = some r → r ≠ gx) := lh fun r hr ee9 => by
         rcases hA with h1 | h1
         ·exact HD.out.2.2.2.2.2.2.2.1 r (by rw [← h1]; exact hr) ee9
         ·rw [h1] at hr
          have h2 : W10.heap.size + 1 = r := Option.some.inj hr
          have h3 := hgx0.lt
          rw [World.size_alloc] at h3
          omega
        have HNEW : Hid (Wy.own W.heap.size ⟨xl ++ [la + 1 + (d : Int)], A10, (e + 1) + 1, c10⟩ W12) := lh (Wy.own.kp ⟨⟨ints_of_own HO11.out (Nat.le_refl _), by dsimp only; omega⟩, Safe.own HO11.out HSW.out⟩ hkr)
        have HOWN := lh hown
        clear hown hg hA hkr hkp hgx0 HO11 HNL HOB2 HB11
        gi_wp2
        refine ⟨⟨d + 1, la + 1 + (d : Int) + 1, A11, n3 + 1, c11, lh ⟨zs ++ [⟨xl ++ [la + 1 + (d : Int)], A10, (e + 1) + 1, c10⟩], by omega, by omega, by rw [List.length_append, HD.out.2.2.1]; rfl, ?_, ⟨?_, ?_⟩, HD.out.2.2.2.2.2.1.trans HKP.out, HGX9.out, HGA.out, HD.out.2.2.2.2.2.2.2.2.below HKP.out.bel⟩, by constructor⟩, ?_⟩
        ·rw [List.map_append, HD.out.2.2.2.1, moreI_get (by rw [HLI.out]; omega), HLI.out, List.append_assoc]
         rfl
        ·have h1 := HOWN.out
         rw [List.length_append, HD.out.2.2.1, List.map_append]
         exact h1
        ·intro y hy
         rcases List.mem_append.1 hy with hy | hy
         ·exact (HD.out.2.2.2.2.1.all y hy).kp HKP.out.kp
         ·rw [List.mem_singleton.1 hy]
          exact HNEW.out
        ·simp [intOf]
         omega
       ·
        have hmap : zs.map Wy.l = ((lvlI k lv).take (i + 1)).flatMap (extI k) := by rw [HD.out.2.2.2.1, lvl_step HXL.out, moreI_all (by rw [HLI.out]; omega)]
        have HMAP := lh hmap
        clear hmap
        gi_wp2
        refine ⟨⟨i + 1, A3, n3, c3, lh ⟨zs, hlt, HD.out.2.2.1, HMAP.out, fun j y hj hy => ?_, HD.out.2.2.2.2.1, HD.out.2.2.2.2.2.1⟩, by rw [show ((i + 1 : Nat) : Int) = (i : Int) + 1 from by omega]; first | constructor | (rw [HBB.out]; constructor) | (rw [HAA.out]; constructor)⟩, ?_⟩
        ·by_cases e9 : j = i
         ·subst e9
          rw [HXL.out] at hy
          obtain rfl := Option.some.inj hy
          exact HNH.out
         ·exact HI.out.2.2.2.1 j y (by omega) hy
        ·simp [intOf] <;> omega
    ·
     obtain rfl : j = nw := by have := HJ.out.1; omega
     have c17 := HB3.out.cell 0
     have l17 := HB3.out.lt
     gi_wp2
     clear c17 l17
     refine bodyPost_ret (v := .tuple #[.slice xA xn xc, .int .i64 0]) (by simp [results, Try.results28, go_sem]) rfl ?_
     have hhit : Hits ws xl := fun y hy => HJ.out.2.1 y (by rw [List.take_of_length_le (by rw [← HWS.out, List.length_map, HNW.out]; exact Nat.le_refl _)]; exact hy)
     have hfl := first_level HXL.out hhit HI.out.2.2.2.1 HS.out.2.2.2.2.2
     have hmem9 : ∀ l, l ∈ ws ↔ WayTo m T.L fountain (k : Int).toNat (idxV m.vessels vessel) l := HMEM.out
     refine ⟨xl, xA, xn, xc, 0, rfl, .inr ⟨HEE.out, T.L, HTL.out, .inr ⟨?_, rfl, ?_⟩⟩, (HXI2.out.below (HJ.out.2.2.mono HK2.out.bel.size)).more HK3.out.bel.size, hx13, HB4.out.trans ((HS.out.2.2.2.2.1.mono HV3.out).trans (HK3.out.bel.mono (by have h1 := HSZ.out; have h2 := HV3.out; omega))), HXS.out⟩
     ·obtain ⟨y, hy⟩ := List.exists_mem_of_ne_nil ws (fun h => h0 (by rw [← HNW.out, ← List.length_map (f := Wy.l), HWS.out, h]; rfl))
      exact ⟨y, (hmem9 y).1 hy⟩
     ·refine FirstS.congr (P := fun l => UpTo k l ∧ Hits ws l) hfl fun l => ?_
      have h9 := hits_ways (a := (k : Int)) (l := l) hmem9
      rw [Int.toNat_natCast] at h9
      exact h9
   ·
    obtain rfl : i = n := by have := HI.out.1; omega
    have hnl : (lvlI k lv).length = i := by rw [← HS.out.2.1, List.length_map]; exact HS.out.2.2.1
    have hmap : ys.map Wy.l = lvlI k (lv + 1) := by rw [HI.out.2.2.1]; exact lvl_next hnl
    have hno : ∀ k' < lv + 1, ∀ y ∈ lvlI k k', ¬ Hits ws y := fun k' hk' y hy => by
     by_cases e : k' = lv
     ·subst e
      obtain ⟨j, hj, e2⟩ := List.mem_iff_getElem.1 hy
      exact HI.out.2.2.2.1 j y (by omega) (by rw [← e2]; exact List.getElem?_eq_getElem hj)
     ·exact HS.out.2.2.2.2.2 k' (by omega) y hy
    have hlk : lv + 1 ≤ k := by
     by_cases e : lv = k
     ·exact (lvl_full HWB.out fun y hy => hno k (by omega) y hy).elim
     ·have := HS.out.1
      omega
    have hLL : LL w.heap.size W1.heap.size W1 A2 ys := LL.own HI.out.2.2.2.2.1.own (fun y hy => ⟨(HI.out.2.2.2.2.1.all y hy).1, fun a ha => ⟨by have h1 := ((HI.out.2.2.2.2.1.all y hy).2 a ha).1; have h2 := HSZ.out; have h3 := HV3.out; omega, ((HI.out.2.2.2.2.1.all y hy).2 a ha).2⟩⟩) (Nat.le_refl _)
    have HE := lh (ai hmap (ai hno (ai hlk hLL)))
    clear hnl hmap hno hlk hLL
    gi_wp2
    refine ⟨⟨A2, n2, c2, lh ⟨lv + 1, ys, HE.out.2.2.1, HE.out.1, HI.out.2.1, HE.out.2.2.2, HS.out.2.2.2.2.1.trans (HI.out.2.2.2.2.2.bel.mono (by have h1 := HSZ.out; omega)), HE.out.2.1⟩, by constructor⟩, ?_⟩
    rw [lvlOf_is (n := n2) (c := c2) HE.out.2.2.2 HE.out.1 HE.out.2.2.1 (by rfl)]
    have := HE.out.2.2.1
    omega
 ·have h0b : (ee != 0) = true := by simpa using h0
  have H0 := lh h0
  clear h0
  gi_wp2
  refine bodyPost_ret (v := .tuple #[.slice none 0 0, .int .i64 ee]) (by simp [results, Try.results28, go_sem]) rfl ?_
  exact ⟨[], none, 0, 0, ee, rfl, .inl ⟨by rw [HEE.out]; exact H0.out, rfl, HEE.out.symm⟩, Reads.none_, by omega, HBE.out, fun a h => by cases h⟩
end
section
open Go.RowKit Go.Shelf
attribute [local go_sem] Oper.semAt_some
structure Er3 {α : Type} (P : α → Prop) : Prop where
 ex : ∃ a, P a
inductive FrRwO (v2 v4 v11 v12 v13 : Value) : Act → Prop
 | mk (u0 u1 u3 u5 u6 u7 u8 u9 u10 u14 u15 u16 u17 u18 u19 u20 u21 u22 u23 u24 u25 u26 u27 u28 u29 u30 u31 u32 u33 u34 u35 u36 u37 u38 u39 u40 u41 u42 u43 u44 u45 u46 u47 u48 u49 u50 u51 u52 u53 u54 u55 u56 u57 u58 u59 u60 u61 u62 u63 u64 u65 u66 u67 u68 u69 u70 u71 u72 u73 u74 u75 u76 u77 u78 u79 u80 u81 u82 u83 u84 u85 u86 u87 u88 u89 u90 u91 u92 u93 u94 u95 u96 : Value) : FrRwO v2 v4 v11 v12 v13 { tmps := #[u0, u1, v2, u3, v4, u5, u6, u7, u8, u9, u10, v11, v12, v13, u14, u15, u16, u17, u18, u19, u20, u21, u22, u23, u24, u25, u26, u27, u28, u29, u30, u31, u32, u33, u34, u35, u36, u37, u38, u39, u40, u41, u42, u43, u44, u45, u46, u47, u48, u49, u50, u51, u52, u53, u54, u55, u56, u57, u58, u59, u60, u61, u62, u63, u64, u65, u66, u67, u68, u69, u70, u71, u72, u73, u74, u75, u76, u77, u78, u79, u80, u81, u82, u83, u84, u85, u86, u87, u88, u89, u90, u91, u92, u93, u94, u95, u96], defers := [] }
inductive FrRwW (v2 v4 v11 v12 v13 v14 v44 v45 v46 : Value) : Act → Prop
 | mk (u0 u1 u3 u5 u6 u7 u8 u9 u10 u15 u16 u17 u18 u19 u20 u21 u22 u23 u24 u25 u26 u27 u28 u29 u30 u31 u32 u33 u34 u35 u36 u37 u38 u39 u40 u41 u42 u43 u47 u48 u49 u50 u51 u52 u53 u54 u55 u56 u57 u58 u59 u60 u61 u62 u63 u64 u65 u66 u67 u68 u69 u70 u71 u72 u73 u74 u75 u76 u77 u78 u79 u80 u81 u82 u83 u84 u85 u86 u87 u88 u89 u90 u91 u92 u93 u94 u95 u96 : Value) : FrRwW v2 v4 v11 v12 v13 v14 v44 v45 v46 { tmps := #[u0, u1, v2, u3, v4, u5, u6, u7, u8, u9, u10, v11, v12, v13, v14, u15, u16, u17, u18, u19, u20, u21, u22, u23, u24, u25, u26, u27, u28, u29, u30, u31, u32, u33, u34, u35, u36, u37, u38, u39, u40, u41, u42, u43, v44, v45, v46, u47, u48, u49, u50, u51, u52, u53, u54, u55, u56, u57, u58, u59, u60, u61, u62, u63, u64, u65, u66, u67, u68, u69, u70, u71, u72, u73, u74, u75, u76, u77, u78, u79, u80, u81, u82, u83, u84, u85, u86, u87, u88, u89, u90, u91, u92, u93, u94, u95, u96], defers := [] }
inductive FrRwN (v2 v4 v11 v12 v13 v14 v16 v17 v44 v45 v46 v50 v51 v52 : Value) : Act → Prop
 | mk (u0 u1 u3 u5 u6 u7 u8 u9 u10 u15 u18 u19 u20 u21 u22 u23 u24 u25 u26 u27 u28 u29 u30 u31 u32 u33 u34 u35 u36 u37 u38 u39 u40 u41 u42 u43 u47 u48 u49 u53 u54 u55 u56 u57 u58 u59 u60 u61 u62 u63 u64 u65 u66 u67 u68 u69 u70 u71 u72 u73 u74 u75 u76 u77 u78 u79 u80 u81 u82 u83 u84 u85 u86 u87 u88 u89 u90 u91 u92 u93 u94 u95 u96 : Value) : FrRwN v2 v4 v11 v12 v13 v14 v16 v17 v44 v45 v46 v50 v51 v52 { tmps := #[u0, u1, v2, u3, v4, u5, u6, u7, u8, u9, u10, v11, v12, v13, v14, u15, v16, v17, u18, u19, u20, u21, u22, u23, u24, u25, u26, u27, u28, u29, u30, u31, u32, u33, u34, u35, u36, u37, u38, u39, u40, u41, u42, u43, v44, v45, v46, u47, u48, u49, v50, v51, v52, u53, u54, u55, u56, u57, u58, u59, u60, u61, u62, u63, u64, u65, u66, u67, u68, u69, u70, u71, u72, u73, u74, u75, u76, u77, u78, u79, u80, u81, u82, u83, u84, u85, u86, u87, u88, u89, u90, u91, u92, u93, u94, u95, u96], defers := [] }
inductive FrRwC (v2 v4 v11 v12 v13 v20 v21 : Value) : Act → Prop
 | mk (u0 u1 u3 u5 u6 u7 u8 u9 u10 u14 u15 u16 u17 u18 u19 u22 u23 u24 u25 u26 u27 u28 u29 u30 u31 u32 u33 u34 u35 u36 u37 u38 u39 u40 u41 u42 u43 u44 u45 u46 u47 u48 u49 u50 u51 u52 u53 u54 u55 u56 u57 u58 u59 u60 u61 u62 u63 u64 u65 u66 u67 u68 u69 u70 u71 u72 u73 u74 u75 u76 u77 u78 u79 u80 u81 u82 u83 u84 u85 u86 u87 u88 u89 u90 u91 u92 u93 u94 u95 u96 : Value) : FrRwC v2 v4 v11 v12 v13 v20 v21 { tmps := #[u0, u1, v2, u3, v4, u5, u6, u7, u8, u9, u10, v11, v12, v13, u14, u15, u16, u17, u18, u19, v20, v21, u22, u23, u24, u25, u26, u27, u28, u29, u30, u31, u32, u33, u34, u35, u36, u37, u38, u39, u40, u41, u42, u43, u44, u45, u46, u47, u48, u49, u50, u51, u52, u53, u54, u55, u56, u57, u58, u59, u60, u61, u62, u63, u64, u65, u66, u67, u68, u69, u70, u71, u72, u73, u74, u75, u76, u77, u78, u79, u80, u81, u82, u83, u84, u85, u86, u87, u88, u89, u90, u91, u92, u93, u94, u95, u96], defers := [] }
theorem bit_at (s : Nat) (hs : s < 2 ^ 63) (i : Nat) : (bits BinOp.and IntKind.i64 ((s : Int) / 2 ^ i) 1 == 1) = s.testBit i := by
 have h1 : ((s : Int) / 2 ^ i) = ((s / 2 ^ i : Nat) : Int) := by norm_cast
 have h2 : s / 2 ^ i < 9223372036854775808 := Nat.lt_of_le_of_lt (Nat.div_le_self _ _) hs
 rw [h1, and_one _ h2, Nat.testBit_eq_decide_div_mod_eq]
 by_cases e : s / 2 ^ i % 2 = 1
 ·rw [e]; rfl
 ·have e0 : s / 2 ^ i % 2 = 0 := by omega
  rw [e0]; rfl
theorem hitZ_step {s i e : Nat} {l : List Int} (h : l[i]? = some ((e : Int) + 1)) : hitZ s (l.take (i + 1)) = (hitZ s (l.take i) || s.testBit e) := by
 unfold hitZ
 rw [List.take_add_one, h, List.any_append]
 congr 1
 simp
theorem hitsZ_step {s j : Nat} {ws : List (List Int)} {w : List Int} (h : ws[j]? = some w) : hitsZ s (ws.take (j + 1)) = (hitsZ s (ws.take j) && hitZ s w) := by
 unfold hitsZ
 rw [List.take_add_one, h, List.all_append]
 congr 1
 simp
set_option maxRecDepth 100000 in
set_option maxHeartbeats 16000000 in
theorem rwatch_in (Av : Option Addr) (nv cv : Nat) (Aa : Option Addr) (na ca : Nat) (At : Option Addr) (nt ct : Nat) (m : Mix) (vessel after fountain : Int) (w : World) (h : MixS w Av nv Aa na At nt m) :
  CallsIn Fence.wide 9 Try.prog 29 #[.agg #[.int .i64 m.fountains, .slice Av nv cv, .slice Aa na ca, .slice At nt ct], .int .i64 vessel, .int .i64 after, .int .i64 fountain] w (WatchOut w m vessel after fountain) := by
 have HM := lh h
 clear h
 refine callsIn_of_wp Try.func29 rfl trivial ?_ rfl
 simp only [Try.ntmps29, List.size_toArray, List.length_cons, List.length_nil, Nat.reduceAdd, Nat.reduceSub, Array.replicate_succ, Array.replicate_zero, List.push_toArray, List.append_toArray, List.nil_append, List.cons_append]
 gi_upto_region 1 with fail
 have Ly := lh (Lay.one w 26 #[.int .i64 m.fountains, .slice Av nv cv, .slice Aa na ca, .slice At nt ct])
 generalize (w.alloc (.cells #[.int .i64 m.fountains, .slice Av nv cv, .slice Aa na ca, .slice At nt ct] 26)) = w0 at *
 obtain ⟨x0_0, x0_1, x0_2, x0_3⟩ := lyc4 Ly 0 rfl
 have l0_ := Ly.out.lt 0 rfl
 gi_wp2
 clear x0_0 x0_1 x0_2 x0_3 l0_
 refine ⟨trivial, (callsIn_wide.2 (callsIn_wide.1 (rasked_in Av nv cv Aa na ca At nt ct m vessel after fountain w0 (HM.out.up Ly.out.1)))).mono ?_⟩
 rintro e W1 ⟨rfl, hb⟩
 replace Ly := lyb Ly hb
 clear hb
 obtain ⟨ee, hee⟩ : ∃ e, askM m vessel after [fountain] = e := ⟨_, rfl⟩
 rw [hee]
 have HEE := lh hee
 clear hee
 by_cases h0 : ee = 0
 ·
  subst h0
  have hok := ask_ok1 HEE.out
  have HOK := lh hok
  have HV := lh (okMix_vess hok.1)
  obtain ⟨L, hL⟩ := okMix_all hok.1
  have HL := lh hL
  obtain ⟨k, hk⟩ : ∃ k : Nat, after = (k : Int) := ⟨after.toNat, by have := hok.2.2.1; omega⟩
  obtain ⟨q, hq⟩ : ∃ q : Nat, idxV m.vessels vessel = (q : Int) := ⟨(idxV m.vessels vessel).toNat, by have := hok.2.1; omega⟩
  subst hk
  have hql : q < m.vessels.length := by have h1 := idxV_lt hok.2.1; omega
  have hq4 : q < 4 := by have h3 := HV.out.1; omega
  have hkl : k ≤ m.acts.length := by have := hok.2.2.1; omega
  have HIQ := lh hq
  have HQ4 := lh hq4
  have HKL := lh hkl
  have HMEM : Hid (∀ l, l ∈ listR m L fountain k q ↔ WayTo m L fountain (k : Int).toNat (idxV m.vessels vessel) l) := lh (fun l => by
   rw [HIQ.out, Int.toNat_natCast]
   exact mem_listR HL.out HV.out.1 (Int.natCast_nonneg _) HKL.out)
  clear hok hL hq hql hq4 hkl
  obtain ⟨x0_0, x0_1, x0_2, x0_3⟩ := lyc4 Ly 0 rfl
  have l0_ := Ly.out.lt 0 rfl
  gi_wp2
  clear x0_0 x0_1 x0_2 x0_3 l0_
  have hsz0 := Ly.out.1.size
  refine ⟨trivial, (callsIn_wide.2 (callsIn_wide.1 (rways_in Av nv cv Aa na ca At nt ct m vessel fountain q k L W1 (HM.out.up Ly.out.1) HOK.out.1 HL.out ⟨HIQ.out.symm, HQ4.out⟩ HKL.out))).mono ?_⟩
  rintro e W2 ⟨b9, B, c, xs, rfl, hxs, hown, hall, hbw, hb⟩
  replace Ly := lyb Ly hb
  clear hb
  have HXS := lh hxs
  have HOWN := lh hown
  have HALL := lh hall
  have HBW := lh (Nat.le_trans hsz0 hbw)
  have hxl : xs.length ≤ 4096 := by
   rw [← List.length_map (f := Wy.l), hxs]
   exact listR_small (by have h1 := HKL.out; have h2 := HV.out; omega)
  have HNE : Hid (∀ x ∈ xs, x.l ≠ [] ∧ ∃ ad, x.A = some ad) := lh (fun x hx => by
   have h1 := (HMEM.out x.l).1 (by rw [← hxs]; exact List.mem_map.2 ⟨x, hx, rfl⟩)
   refine ⟨h1.ne, ?_⟩
   have h2 := (hall x hx).1.1
   have h3 := h2.len
   have h4 : 0 < x.l.length := List.length_pos_iff.2 h1.ne
   obtain ⟨b, off, y, h5, _⟩ := h2.cell (k := 0) (by omega)
   exact ⟨_, h5⟩)
  clear hxs hown hall hbw hsz0
  obtain ⟨N, hN⟩ : ∃ N, xs.length = N := ⟨_, rfl⟩
  have HN := lh hN
  rw [hN] at hxl ⊢
  clear hN
  have hen := eql_nil_int
  have HLEN : Hid (∀ x ∈ xs, ∀ n ∈ x.l, 1 ≤ n ∧ n ≤ (k : Int)) := lh (fun x hx n hn => by
   have h1 := (HMEM.out x.l).1 (by rw [← HXS.out]; exact List.mem_map.2 ⟨x, hx, rfl⟩)
   rw [Int.toNat_natCast] at h1
   exact h1.le n hn)
  have HLEN2 : Hid (∀ w ∈ xs.map Wy.l, w ≠ [] ∧ ∀ n ∈ w, 1 ≤ n ∧ n ≤ (k : Int)) := lh (fun w hw => by obtain ⟨x, hx, rfl⟩ := List.mem_map.1 hw; exact ⟨(HNE.out x hx).1, HLEN.out x hx⟩)
  have HK12 : Hid (k ≤ 12) := lh (by have h1 := HKL.out; have h2 := HV.out; omega)
  obtain ⟨P, hP⟩ : ∃ P, 2 ^ k = P := ⟨_, rfl⟩
  have hpk : (2 : Int) ^ k = (P : Int) := by rw [← hP]; norm_cast
  have hPl : 1 ≤ P ∧ P ≤ 4096 := ⟨by rw [← hP]; exact Nat.one_le_two_pow, by rw [← hP]; exact Nat.pow_le_pow_right (by omega) HK12.out⟩
  have HP := lh hP
  clear hP
  have hk12 : k ≤ 12 := HK12.out
  by_cases hn0 : N = 0
  ·
   subst hn0
   gi_wp2
   refine bodyPost_ret (v := .tuple #[.slice none 0 0, .int .i64 6]) (by simp [results, Try.results29, go_sem]) rfl ?_
   refine ⟨[], none, 0, 0, 6, rfl, .inr ⟨HEE.out, L, HL.out, .inl ⟨fun l hl => ?_, rfl, rfl⟩⟩, Reads.none_, by omega, Ly.out.1, fun a h => by cases h⟩
   have h1 := (HMEM.out l).2 hl
   rw [← HXS.out, List.eq_nil_of_length_eq_zero HN.out] at h1
   cases h1
  ·
   have hn0b : ((N : Int) == 0) = false := by simpa using hn0
   have HN0 := lh hn0
   clear hn0
   gi_wp2
   refine wpIn_loop (fun a W => ∃ (s : Nat) (bA : Option Addr) (bn bc : Nat), Hid (Er3 fun (bst : Option Wy) => (1 ≤ s ∧ s ≤ P) ∧ (candL (xs.map Wy.l) k s).foldl stepS none = bst.map Wy.l ∧ Below W2.heap.size W2 W ∧ (bst.getD zeroWy).val = .slice bA bn bc ∧ (∀ x, bst = some x → x.own W2.heap.size W ∧ x.l ≠ [])) ∧ FrRwO (.int .i64 (k : Int)) (.pointer (some ⟨w.heap.size, 0, none⟩)) (.slice B N c) (.slice bA bn bc) (.int .i64 (s : Int)) a) (fun a _ => P - (intOf (a.tmps.getD 13 undef)).toNat) ?_ ?_
   ·exact ⟨1, none, 0, 0, lh ⟨none, ⟨by omega, by omega⟩, rfl, Below.refl _ _, rfl, fun x h => by cases h⟩, by constructor⟩
   rintro a W ⟨s, bA, bn, bc, HS, ha⟩
   cases ha
   obtain ⟨bst, hs9⟩ := HS.out
   replace HS := lh hs9
   clear hs9
   have HBE := lh HS.out.2.2.1
   by_cases hsn : s < P
   ·
    have HSN := lh hsn
    have hs63 : s < 2 ^ 63 := by omega
    have HBIT : Hid (∀ i : Nat, (bits BinOp.and IntKind.i64 ((s : Int) / 2 ^ i) 1 == 1) = s.testBit i) := lh (bit_at s hs63)
    gi_wp2
    refine wpIn_loop (fun a V => ∃ (j : Nat), Hid (j ≤ N ∧ Below W.heap.size W V) ∧ FrRwW (.int .i64 (k : Int)) (.pointer (some ⟨w.heap.size, 0, none⟩)) (.slice B N c) (.slice bA bn bc) (.int .i64 (s : Int)) (.bool (hitsZ s ((xs.map Wy.l).take j))) (.slice B N c) (.int .i64 (N : Int)) (.int .i64 (j : Int)) a) (fun a _ => N - (intOf (a.tmps.getD 46 undef)).toNat) ?_ ?_
    ·exact ⟨0, lh ⟨Nat.zero_le _, Below.refl _ _⟩, by constructor⟩
    rintro a V ⟨j, HJ, ha⟩
    cases ha
    by_cases hjn : j < N
    ·
     have hjl : j < xs.length := by rw [HN.out]; exact hjn
     obtain ⟨wy, hwy⟩ : ∃ wy, xs[j]? = some wy := ⟨_, List.getElem?_eq_getElem hjl⟩
     have HWX := lh hwy
     have HWM := lh (List.mem_of_getElem? hwy)
     have HBV := lh (HBE.out.trans (HJ.out.2.mono HBE.out.size))
     have hor := (HOWN.out.below HBV.out (Nat.le_refl _)).reads (Nat.le_refl _)
     obtain ⟨bf, of_, hAf, hbf, hcf⟩ := hor.plain (by rw [List.length_map]; omega)
     have cv : V.cell? ⟨bf, of_ + j, none⟩ = some wy.val := hcf j _ (by rw [List.getElem?_map, hwy]; rfl)
     have HAF := lh hAf
     have HWY := lh ((HALL.out wy HWM.out).below HBV.out)
     obtain ⟨hb0, hhb0⟩ : ∃ b, hitsZ s ((xs.map Wy.l).take j) = b := ⟨_, rfl⟩
     have HHB0 := lh hhb0
     have HST0 : Hid (hitsZ s ((xs.map Wy.l).take (j + 1)) = (hb0 && hitZ s wy.l)) := lh (by rw [← hhb0]; exact hitsZ_step (by rw [List.getElem?_map, hwy]; rfl))
     rw [hhb0]
     rw [hAf]
     clear hwy hor hcf hAf hhb0
     gi_upto_region 15 with fail
     rw [← HAF.out]
     clear cv hbf
     have hwl : wy.l.length = wy.n ∧ wy.n ≤ 13 := ⟨HWY.out.1.1.len, HWY.out.1.2⟩
     gi_wp2
     refine wpIn_loop (fun a U => ∃ (i : Nat), Hid (i ≤ wy.n ∧ Below V.heap.size V U) ∧ FrRwN (.int .i64 (k : Int)) (.pointer (some ⟨w.heap.size, 0, none⟩)) (.slice B N c) (.slice bA bn bc) (.int .i64 (s : Int)) (.bool hb0) (wy.val) (.bool (hitZ s (wy.l.take i))) (.slice B N c) (.int .i64 (N : Int)) (.int .i64 (j : Int)) (wy.val) (.int .i64 (wy.n : Int)) (.int .i64 (i : Int)) a) (fun a _ => wy.n - (intOf (a.tmps.getD 52 undef)).toNat) ?_ ?_
     ·exact ⟨0, lh ⟨Nat.zero_le _, Below.refl _ _⟩, by constructor⟩
     rintro a U ⟨i, HI, ha⟩
     cases ha
     by_cases hin : i < wy.n
     ·
      obtain ⟨b5, o5, z, hA5, hb5, hz, cz⟩ := ((HWY.out.1.1.below HI.out.2).more HI.out.2.size).cell hin
      have hbz : b5 < U.heap.size := hb5
      have HZ := lh hz
      have hzb := HLEN.out _ HWM.out z (List.mem_of_getElem? hz)
      obtain ⟨e, he⟩ : ∃ e : Nat, z = (e : Int) + 1 := ⟨(z - 1).toNat, by omega⟩
      subst he
      have he12 : e < 12 := by omega
      have HA5 := lh hA5
      have HU := lh HI.out.2
      have hbit := HBIT.out e
      obtain ⟨hb1, hhb⟩ : ∃ hb1, hitZ s (wy.l.take i) = hb1 := ⟨_, rfl⟩
      have HST : Hid (hitZ s (wy.l.take (i + 1)) = (hb1 || s.testBit e)) := lh (by rw [← hhb]; exact hitZ_step hz)
      rw [hhb]
      unfold Wy.val
      rw [hA5]
      clear hz hA5 hb5 hzb hhb
      cases hb1 with
      | true =>
       gi_wp2
       refine ⟨⟨i + 1, lh ⟨hin, HU.out⟩, ?_⟩, ?_⟩
       ·rw [HST.out, Bool.true_or, show ((i + 1 : Nat) : Int) = (i : Int) + 1 from by omega]
        first | constructor | (rw [HA5.out]; constructor)
       ·simp [intOf] <;> omega
      | false =>
       gi_wp2
       refine ⟨⟨i + 1, lh ⟨hin, HU.out⟩, ?_⟩, ?_⟩
       ·rw [HST.out, Bool.false_or, show ((i + 1 : Nat) : Int) = (i : Int) + 1 from by omega]
        first | constructor | (rw [HA5.out]; constructor)
       ·simp [intOf] <;> omega
     ·
      obtain rfl : wy.n = i := by have := HI.out.1; omega
      have HU := lh (HJ.out.2.trans (HI.out.2.mono HJ.out.2.size))
      rw [List.take_of_length_le (by omega)]
      cases hb0 with
      | true =>
       gi_wp2
       refine ⟨⟨j + 1, lh ⟨hjn, HU.out⟩, ?_⟩, ?_⟩
       ·rw [HST0.out, Bool.true_and, show ((j + 1 : Nat) : Int) = (j : Int) + 1 from by omega]
        first | constructor | (rw [HAF.out]; constructor)
       ·simp [intOf] <;> omega
      | false =>
       gi_wp2
       refine ⟨⟨j + 1, lh ⟨hjn, HU.out⟩, ?_⟩, ?_⟩
       ·rw [HST0.out, Bool.false_and, show ((j + 1 : Nat) : Int) = (j : Int) + 1 from by omega]
        first | constructor | (rw [HAF.out]; constructor)
       ·simp [intOf] <;> omega
    ·
     obtain rfl : N = j := by have := HJ.out.1; omega
     rw [List.take_of_length_le (by rw [List.length_map, HN.out]; exact Nat.le_refl _)]
     have HU := lh HJ.out.2
     have HCS := lh (candL_succ (xs.map Wy.l) k s HS.out.1.1)
     obtain ⟨hb1, hhb⟩ : ∃ hb1, hitsZ s (xs.map Wy.l) = hb1 := ⟨_, rfl⟩
     rw [hhb]
     have HHB := lh hhb
     clear hhb hjn
     have HKEEP : Hid (∀ x, bst = some x → x.own W2.heap.size V ∧ x.l ≠ []) := lh (fun x hx => ⟨(HS.out.2.2.2.2 x hx).1.below HU.out, (HS.out.2.2.2.2 x hx).2⟩)
     have HBV := lh (HBE.out.trans (HU.out.mono HBE.out.size))
     cases hb1 with
     | false =>
      gi_wp2
      refine ⟨⟨s + 1, bA, bn, bc, lh ⟨bst, ⟨by omega, by omega⟩, ?_, HBV.out, HS.out.2.2.2.1, HKEEP.out⟩, by rw [show ((s + 1 : Nat) : Int) = (s : Int) + 1 from by omega]; constructor⟩, ?_⟩
      ·rw [HCS.out, HHB.out]
       rw [if_neg (by decide), List.append_nil]; exact HS.out.2.1
      ·simp [intOf] <;> omega
     | true =>
      gi_wp2
      refine wpIn_loop (fun a U => ∃ (n : Nat) (cA : Option Addr) (cn cc : Nat), Hid (n ≤ k ∧ Own U V.heap.size 3 1 cA cn cc ((bitsL n s).map (Value.int .i64)) ∧ Below V.heap.size V U) ∧ FrRwC (.int .i64 (k : Int)) (.pointer (some ⟨w.heap.size, 0, none⟩)) (.slice B N c) (.slice bA bn bc) (.int .i64 (s : Int)) (.slice cA cn cc) (.int .i64 ((n : Int) + 1)) a) (fun a _ => k + 1 - (intOf (a.tmps.getD 21 undef)).toNat) ?_ ?_
      ·exact ⟨0, none, 0, 0, lh ⟨Nat.zero_le _, Own.none_ _ _ _ _, Below.refl _ _⟩, by constructor⟩
      rintro a U ⟨n, cA, cn, cc, HL6, ha⟩
      cases ha
      have hcl : (bitsL n s).length = cn ∧ cn ≤ 12 := by
       have h1 := HL6.out.2.1.len
       have h2 := bitsL_len n s
       have h3 := HL6.out.1
       rw [List.length_map] at h1
       omega
      by_cases hnk : n < k
      ·
       have hbit := HBIT.out n
       have HB6 := lh (bitsL_succ n s)
       cases hb2 : s.testBit n with
       | false =>
        rw [hb2] at hbit
        have HB2 := lh hb2
        clear hb2
        gi_wp2
        refine ⟨⟨n + 1, cA, cn, cc, lh ⟨by omega, by rw [HB6.out, HB2.out, if_neg (by decide), List.append_nil]; exact HL6.out.2.1, HL6.out.2.2⟩, by rw [show ((n + 1 : Nat) : Int) = (n : Int) + 1 from by omega]; constructor⟩, ?_⟩
        simp [intOf] <;> omega
       | true =>
        rw [hb2] at hbit
        have HB2 := lh hb2
        clear hb2
        have hus := HL6.out.2.2.size
        have hin : IntsAt (U.alloc (.cells #[.int .i64 ((n : Int) + 1)] 3)) (U.heap.size + 1) (some ⟨U.heap.size, 0, none⟩) 1 [(n : Int) + 1] := IntsAt.new U 3 [(n : Int) + 1] (U.heap.size + 1) (by omega)
        have HIN := lh hin
        clear hin
        gi_wp2_with (first | (gi_at_builtin; refine wpListIn_append_any rfl (.tmp 84) (.tmp 86) (by rfl) elem_int rfl (HL6.out.2.1.alloc _) rfl HIN.out (ints_one [(n : Int) + 1]) (by unfold maxLen; omega) (by omega) (by simp; omega) ?_) | fail)
        rintro A9 c9 U9 hown hg hA
        have HO9 := lh (show Own U9 V.heap.size 3 1 A9 (cn + 1) c9 ((bitsL (n + 1) s).map (Value.int .i64)) from by rw [HB6.out, HB2.out, if_pos rfl, List.map_append]; exact hown)
        have HB9 := lh (show Below V.heap.size V U9 from (HL6.out.2.2.alloc hus _).grown hg (by simp; omega) (fun k e => (own_row HL6.out.2.1 k e).1))
        clear hown hg hA HIN
        gi_wp2
        refine ⟨⟨n + 1, A9, cn + 1, c9, lh ⟨by omega, HO9.out, HB9.out⟩, by rw [show ((n + 1 : Nat) : Int) = (n : Int) + 1 from by omega]; constructor⟩, ?_⟩
        simp [intOf] <;> omega
      ·
       obtain rfl : k = n := by have := HL6.out.1; omega
       have HO9 := lh HL6.out.2.1
       have HBU := lh (HBV.out.trans (HL6.out.2.2.mono HBV.out.size))
       have HIO := lh (ints_of_own HL6.out.2.1 (Nat.le_refl U.heap.size))
       have HNB : Hid (bitsL k s ≠ []) := lh (bitsL_ne HS.out.1.1 (by rw [HP.out]; exact HSN.out))
       have HWN : Hid (Wy.own W2.heap.size ⟨bitsL k s, cA, cn, cc⟩ U) := lh ⟨⟨HIO.out, by dsimp only; omega⟩, Safe.own HL6.out.2.1 (by have := HBV.out.size; omega)⟩
       replace HKEEP : Hid (∀ x, bst = some x → x.own W2.heap.size U ∧ x.l ≠ []) := lh (fun x hx => ⟨(HKEEP.out x hx).1.below HL6.out.2.2, (HKEEP.out x hx).2⟩)
       clear hnk
       cases bst with
       | none =>
        obtain ⟨rfl, rfl, rfl⟩ : bA = none ∧ bn = 0 ∧ bc = 0 := by have h1 := HS.out.2.2.2.1; cases h1; exact ⟨rfl, rfl, rfl⟩
        gi_wp2
        refine ⟨trivial, ?_⟩
        gi_wp2
        refine ⟨⟨s + 1, cA, cn, cc, lh ⟨some ⟨bitsL k s, cA, cn, cc⟩, ⟨by omega, by omega⟩, ?_, HBU.out, rfl, fun x h => by cases h; exact ⟨HWN.out, HNB.out⟩⟩, by rw [show ((s + 1 : Nat) : Int) = (s : Int) + 1 from by omega]; constructor⟩, ?_⟩
        ·rw [HCS.out, HHB.out]
         rw [if_pos rfl, List.foldl_append, HS.out.2.1]
         rfl
        ·simp [intOf] <;> omega
       | some y =>
        obtain ⟨rfl, rfl, rfl⟩ : y.A = bA ∧ y.n = bn ∧ y.cap = bc := by have h1 := HS.out.2.2.2.1; cases h1; exact ⟨rfl, rfl, rfl⟩
        have hyk := HKEEP.out y rfl
        have hyn : y.A.isNone = false := by
         have h3 := hyk.1.1.1.len
         have h4 : 0 < y.l.length := List.length_pos_iff.2 hyk.2
         obtain ⟨b, off, y0, h5, _⟩ := hyk.1.1.1.cell (k := 0) (by omega)
         rw [h5]
         rfl
        have HYY := lh hyk
        clear hyk
        gi_wp2
        refine ⟨trivial, (callsIn_wide.2 (callsIn_wide.1 (rbefore_in cA cn cc (bitsL k s) y.A y.n y.cap y.l _ HIO.out HYY.out.1.1.1 (by omega) (by have := HYY.out.1.1.2; omega)))).mono ?_⟩
        rintro e W9 ⟨rfl, hb⟩
        have HB9 := lh (HBU.out.trans (hb.mono HBU.out.size))
        replace HWN := lh (HWN.out.below hb)
        replace HYY := lh (show y.own W2.heap.size W9 ∧ y.l ≠ [] from ⟨HYY.out.1.below hb, HYY.out.2⟩)
        clear hb
        by_cases hc : cmpS (bitsL k s) y.l < 0
        ·
         have HC := lh hc
         rw [decide_eq_true hc]
         clear hc
         gi_wp2
         refine ⟨⟨s + 1, cA, cn, cc, lh ⟨some ⟨bitsL k s, cA, cn, cc⟩, ⟨by omega, by omega⟩, ?_, HB9.out, rfl, fun x h => by cases h; exact ⟨HWN.out, HNB.out⟩⟩, by rw [show ((s + 1 : Nat) : Int) = (s : Int) + 1 from by omega]; constructor⟩, ?_⟩
         ·rw [HCS.out, HHB.out]
          rw [if_pos rfl, List.foldl_append, HS.out.2.1]
          show (if cmpS (bitsL k s) y.l < 0 then some (bitsL k s) else some y.l) = _
          rw [if_pos HC.out]
          rfl
         ·simp [intOf] <;> omega
        ·
         have HC := lh hc
         rw [decide_eq_false hc]
         clear hc
         gi_wp2
         refine ⟨⟨s + 1, y.A, y.n, y.cap, lh ⟨some y, ⟨by omega, by omega⟩, ?_, HB9.out, rfl, fun x h => by cases h; exact HYY.out⟩, by rw [show ((s + 1 : Nat) : Int) = (s : Int) + 1 from by omega]; constructor⟩, ?_⟩
         ·rw [HCS.out, HHB.out]
          rw [if_pos rfl, List.foldl_append, HS.out.2.1]
          show (if cmpS (bitsL k s) y.l < 0 then some (bitsL k s) else some y.l) = _
          rw [if_neg (by have := HC.out; omega)]
          rfl
         ·simp [intOf] <;> omega
   ·
    obtain rfl : P = s := by have := HS.out.1; omega
    have hne : xs.map Wy.l ≠ [] := fun e => HN0.out (by have h1 := congrArg List.length e; rw [List.length_map, HN.out] at h1; exact h1)
    obtain ⟨r, hr1, hr2⟩ := cand_first HLEN2.out hne
    rw [HP.out, HS.out.2.1] at hr1
    have HR2 := lh hr2
    have hwy0 : ∃ k0, k0 ∈ xs.map Wy.l := List.exists_mem_of_ne_nil _ hne
    have HW0 := lh hwy0
    clear hr2 hne hwy0
    cases bst with
    | none => cases hr1
    | some y =>
     obtain ⟨rfl, rfl, rfl⟩ : y.A = bA ∧ y.n = bn ∧ y.cap = bc := by have h1 := HS.out.2.2.2.1; cases h1; exact ⟨rfl, rfl, rfl⟩
     obtain rfl : y.l = r := Option.some.inj hr1
     have HYY := lh (HS.out.2.2.2.2 y rfl).1
     clear hr1
     gi_wp2
     refine bodyPost_ret (v := .tuple #[.slice y.A y.n y.cap, .int .i64 0]) (by simp [results, Try.results29, go_sem]) rfl ?_
     refine ⟨y.l, y.A, y.n, y.cap, 0, rfl, .inr ⟨HEE.out, L, HL.out, .inr ⟨?_, rfl, ?_⟩⟩, HYY.out.1.1, HYY.out.1.2, Ly.out.1.trans (HBE.out.mono Ly.out.1.size), fun a h => by have h1 := (HYY.out.2 a h).1; have h3 := Ly.out.1.size; omega⟩
     ·obtain ⟨k0, hk0⟩ := HW0.out
      exact ⟨k0, (HMEM.out k0).1 (by rw [← HXS.out]; exact hk0)⟩
     ·refine HR2.out.congr fun l => ?_
      have := hits_ways (m := m) (v := vessel) (a := (k : Int)) (f := fountain) (A := L) (ways := xs.map Wy.l) (l := l) (fun w => by rw [HXS.out]; exact HMEM.out w)
      rwa [Int.toNat_natCast] at this
 ·
  have h0b : (ee != 0) = true := by simpa using h0
  have H0 := lh h0
  clear h0
  gi_wp2
  refine bodyPost_ret (v := .tuple #[.slice none 0 0, .int .i64 ee]) (by simp [results, Try.results29, go_sem]) rfl ?_
  exact ⟨[], none, 0, 0, ee, rfl, .inl ⟨by rw [HEE.out]; exact H0.out, rfl, HEE.out.symm⟩, Reads.none_, by omega, Ly.out.1, fun a h => by cases h⟩
end
end Go.Proofs.Ythofngceiecniaa
