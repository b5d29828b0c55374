/- Part 10 of the texts of this claim, joined. -/
import Derived.Sort.CutIn
import Derived.Test.YthofngceiecniaaMxC9
set_option linter.unusedVariables false
/- aguadorref04.Put. -/
namespace Go.Proofs.Ythofngceiecniaa
open Go.RowKit

set_option maxRecDepth 100000 in
set_option maxHeartbeats 16000000 in
theorem rput_in (Av : Option Addr) (nv cv : Nat) (Aa : Option Addr) (na ca : Nat) (At : Option Addr) (nt ct : Nat) (m : Mix) (x : Tast) (w : World) (h : MixS w Av nv Aa na At nt m) (hcl : nt ≤ ct ∧ ct ≤ maxLen) :
  CallsIn Fence.wide 9 Try.prog 32 #[.agg #[.int .i64 m.fountains, .slice Av nv cv, .slice Aa na ca, .slice At nt ct], .agg #[.int .i64 x.num, .int .i64 x.vessel, .int .i64 x.after, .int .i64 x.fountain, .int .i64 x.lo, .int .i64 x.hi]] w (RefOut w (putM m x)) := by
 have HM := Lib.hid h
 have HLV := Lib.hid h.at_.lenV
 have HLA := Lib.hid h.at_.lenA
 have HLT := Lib.hid h.at_.lenT
 have hnv := h.hv
 have hna := h.ha
 have hnt := h.ht
 clear h
 refine callsIn_of_wp Try.func32 rfl trivial ?_ rfl
 simp only [Try.ntmps32, List.size_toArray, List.length_cons, List.length_nil, Nat.reduceAdd, Nat.reduceSub, Array.replicate_succ, Array.replicate_zero, List.push_toArray, List.append_toArray, List.nil_append, List.cons_append]
 gi_upto_region 1 with fail
 have HLay := Lib.hid (Lay.three w 26 #[.int .i64 m.fountains, .slice Av nv cv, .slice Aa na ca, .slice At nt ct] 65 #[.int .i64 x.num, .int .i64 x.vessel, .int .i64 x.after, .int .i64 x.fountain, .int .i64 x.lo, .int .i64 x.hi] 26 #[.int .i64 0, .slice none 0 0, .slice none 0 0, .slice none 0 0])
 generalize (((w.alloc (.cells #[.int .i64 m.fountains, .slice Av nv cv, .slice Aa na ca, .slice At nt ct] 26)).alloc (.cells #[.int .i64 x.num, .int .i64 x.vessel, .int .i64 x.after, .int .i64 x.fountain, .int .i64 x.lo, .int .i64 x.hi] 65)).alloc (.cells #[.int .i64 0, .slice none 0 0, .slice none 0 0, .slice none 0 0] 26)) = w0 at *
 have x0_0 := (HLay.out.blk 0 rfl).cell 0
 have x0_1 := (HLay.out.blk 0 rfl).cell 1
 have x0_2 := (HLay.out.blk 0 rfl).cell 2
 have x0_3 := (HLay.out.blk 0 rfl).cell 3
 have l0_ := HLay.out.lt 0 rfl
 gi_wp2
 clear x0_0 x0_1 x0_2 x0_3 l0_
 refine ⟨trivial, (callsIn_wide.2 (rmix_any Av nv cv Aa na ca At nt ct m w0 (HM.out.up HLay.out.1))).mono ?_⟩
 rintro e W1 ⟨rfl, hb⟩
 have HBC := Lib.hid hb
 replace HLay := Lib.hid (HLay.out.below hb)
 clear hb
 cases hk : okMix m with
 | false =>
  have HF : Hid (putM m x = (zeroMix, 40)) := Lib.hid (by rw [putM_bad hk])
  clear hk
  have x2_0 := (HLay.out.blk 2 rfl).cell 0
  have z2_0 := (HLay.out.blk 2 rfl).frozen 0
  have x2_1 := (HLay.out.blk 2 rfl).cell 1
  have z2_1 := (HLay.out.blk 2 rfl).frozen 1
  have x2_2 := (HLay.out.blk 2 rfl).cell 2
  have z2_2 := (HLay.out.blk 2 rfl).frozen 2
  have x2_3 := (HLay.out.blk 2 rfl).cell 3
  have z2_3 := (HLay.out.blk 2 rfl).frozen 3
  have l2_ := HLay.out.lt 2 rfl
  gi_wp2
  have R4 := ret4' (HLay.out.blk 2 rfl) HLay.out.1 (HLay.out.ge 2 rfl) (.int .i64 0) (.slice none 0 0) (.slice none 0 0) (.slice none 0 0)
  have v0 := R4.1.cell 0
  have v1 := R4.1.cell 1
  have v2 := R4.1.cell 2
  have v3 := R4.1.cell 3
  refine bodyPost_ret (v := .tuple #[.agg #[.int .i64 0, .slice none 0 0, .slice none 0 0, .slice none 0 0], .int .i64 40]) (by simp [results, Try.results32, go_sem, v0, v1, v2, v3]) rfl ?_
  rw [HF.out]
  exact ⟨none, 0, 0, none, 0, 0, none, 0, 0, rfl, MixS.nothing _, R4.2.1⟩
 | true =>
  have HK := Lib.hid hk
  have hlim := okMix_vess hk
  have HRI := Lib.hid (okMix_rise hk)
  have hv4 : nv ≤ 4 := by have := HLV.out; omega
  have ha12 : na ≤ 12 := by have := HLA.out; omega
  have ht8 : nt ≤ 8 := by have := HLT.out; omega
  clear hlim hk
  by_cases h12 : nt = 8
  ·
   have HF : Hid (putM m x = (zeroMix, 9)) := Lib.hid (by rw [putM_ok HK.out, if_pos (by rw [HLT.out]; exact h12)])
   have h12a : ((nt : Int) == 8) = true := by simp; omega
   have H12 := Lib.hid h12
   clear h12
   have x0_0 := (HLay.out.blk 0 rfl).cell 0
   have x0_1 := (HLay.out.blk 0 rfl).cell 1
   have x0_2 := (HLay.out.blk 0 rfl).cell 2
   have x0_3 := (HLay.out.blk 0 rfl).cell 3
   have l0_ := HLay.out.lt 0 rfl
   have x2_0 := (HLay.out.blk 2 rfl).cell 0
   have z2_0 := (HLay.out.blk 2 rfl).frozen 0
   have x2_1 := (HLay.out.blk 2 rfl).cell 1
   have z2_1 := (HLay.out.blk 2 rfl).frozen 1
   have x2_2 := (HLay.out.blk 2 rfl).cell 2
   have z2_2 := (HLay.out.blk 2 rfl).frozen 2
   have x2_3 := (HLay.out.blk 2 rfl).cell 3
   have z2_3 := (HLay.out.blk 2 rfl).frozen 3
   have l2_ := HLay.out.lt 2 rfl
   gi_wp2
   have R4 := ret4' (HLay.out.blk 2 rfl) HLay.out.1 (HLay.out.ge 2 rfl) (.int .i64 0) (.slice none 0 0) (.slice none 0 0) (.slice none 0 0)
   have v0 := R4.1.cell 0
   have v1 := R4.1.cell 1
   have v2 := R4.1.cell 2
   have v3 := R4.1.cell 3
   refine bodyPost_ret (v := .tuple #[.agg #[.int .i64 0, .slice none 0 0, .slice none 0 0, .slice none 0 0], .int .i64 9]) (by simp [results, Try.results32, go_sem, v0, v1, v2, v3]) rfl ?_
   rw [HF.out]
   exact ⟨none, 0, 0, none, 0, 0, none, 0, 0, rfl, MixS.nothing _, R4.2.1⟩
  ·
   have h12a : ((nt : Int) == 8) = false := by simp; omega
   have HF : Hid (putM m x = if okMix (withT m (insT m.tastes x)) = true then ((withT m (insT m.tastes x)), 0) else (zeroMix, 42)) := Lib.hid (by rw [putM_ok HK.out, if_neg (by rw [HLT.out]; exact h12)])
   have H12 := Lib.hid h12
   clear h12
   have x0_0 := (HLay.out.blk 0 rfl).cell 0
   have x0_1 := (HLay.out.blk 0 rfl).cell 1
   have x0_2 := (HLay.out.blk 0 rfl).cell 2
   have x0_3 := (HLay.out.blk 0 rfl).cell 3
   have l0_ := HLay.out.lt 0 rfl
   gi_wp2
   clear x0_0 x0_1 x0_2 x0_3 l0_
   gi_loopw [6] (fun v6 wr => ∃ k : Nat, k ≤ nt ∧ v6 = .int .i64 k ∧ Hid (∀ y ∈ m.tastes.take k, y.num < x.num) ∧ Hid (Below W1.heap.size W1 wr))
    (fun v6 _ => nt - (intOf v6).toNat)
   case atStart => exact ⟨0, by omega, rfl, Lib.hid (fun y hy => by simp at hy), Lib.hid (Below.refl _ _)⟩
   case round =>
    obtain ⟨k, hk, rfl, HALL, HBK⟩ := hrel
    have HLay0 := Lib.hid HLay.out
    replace HLay := Lib.hid (HLay.out.below HBK.out)
    by_cases hlt : k < nt
    ·
     obtain ⟨bt, ot, y, hAt, hbt, hy, t0, t1, t2, t3, t4, t5⟩ := (HM.out.up HLay.out.1).at_.tast hlt
     subst hAt
     have HY := Lib.hid hy
     have HT0 := Lib.hid t0
     have HBT := Lib.hid hbt
     clear hy t0 t1 t2 t3 t4 t5 hbt
     by_cases hyx : y.num < x.num
     ·
      gi_wp2
      have HBR := Lib.hid (Below.refl W1.heap.size wr)
      refine wpIn_flow_old [] [true, true, true, true, true, true, true, true, true, true, true, true, true, true, true, true] [] (by kernel_rfl) (by kernel_rfl) (by kernel_rfl) (below_drewN (Below.refl _ _) 1) ?_
      refine wpFlow_nil (A := ?AF1) ?hq1 ?_
      case hq1 =>
       rintro σ hσ of hof hcl
       have HOF := Lib.hid hof
       have HCL := Lib.hid hcl
       clear hof hcl
       have c0_ : ∀ z, (of z).cell? ⟨w.heap.size, 3, none⟩ = some (.slice (some ⟨bt, ot, none⟩) nt ct) := fun z => ((HLay.out.below (HOF.out z)).blk 0 rfl).cell 3
       have c1_ : ∀ z, (of z).cell? ⟨w.heap.size + 1, 0, none⟩ = some (.int .i64 x.num) := fun z => ((HLay.out.below (HOF.out z)).blk 1 rfl).cell 0
       have hfw : ∀ f, Fence.wide.fn f := fun _ => trivial
       have tc : ∀ z, (of z).cell? ⟨bt, ot + k * 6, none⟩ = some (.int .i64 y.num) := fun z => ((HOF.out z).cell (p := ⟨bt, ot + k * 6, none⟩) HBT.out).trans HT0.out
       have hkI : decide ((k : Int) < (nt : Int)) = true := decide_eq_true (by omega)
       have hyI : decide (y.num < x.num) = true := decide_eq_true (by omega)
       simp only [pickB]
       repeat (gi_big_quiet_step (fail))
       refine wpQuietIn_nil ?_
       exact rfl
      intro W2 hW
      replace HLay := Lib.hid (HLay.out.below hW)
      replace HBR := Lib.hid (HBR.out.trans (hW.mono (by have := HBK.out.size; have := HBR.out.size; omega)))
      clear hW
      simp only [pickB]
      refine wpT_nil ?_
      gi_wp2
      go_roundw
      case rel => exact ⟨k + 1, by omega, by go_num, Lib.hid (fun z hz => by
       rw [List.take_add_one, HY.out] at hz
       rcases List.mem_append.1 hz with hz | hz
       ·exact HALL.out z hz
       ·simp at hz; rw [hz]; exact hyx), Lib.hid (HBK.out.trans HBR.out)⟩
      case measure => simp [intOf]; omega
     ·
      gi_wp2
      refine wpIn_flow_old [] [true, true, true, true, true, true, true, true, true, true, true, true, true, true, true, true] [] (by kernel_rfl) (by kernel_rfl) (by kernel_rfl) (below_drewN (Below.refl _ _) 1) ?_
      refine wpFlow_nil (A := ?AF2) ?hq2 ?_
      case hq2 =>
       rintro σ hσ of hof hcl
       have HOF := Lib.hid hof
       have HCL := Lib.hid hcl
       clear hof hcl
       have c0_ : ∀ z, (of z).cell? ⟨w.heap.size, 3, none⟩ = some (.slice (some ⟨bt, ot, none⟩) nt ct) := fun z => ((HLay.out.below (HOF.out z)).blk 0 rfl).cell 3
       have c1_ : ∀ z, (of z).cell? ⟨w.heap.size + 1, 0, none⟩ = some (.int .i64 x.num) := fun z => ((HLay.out.below (HOF.out z)).blk 1 rfl).cell 0
       have hfw : ∀ f, Fence.wide.fn f := fun _ => trivial
       have tc : ∀ z, (of z).cell? ⟨bt, ot + k * 6, none⟩ = some (.int .i64 y.num) := fun z => ((HOF.out z).cell (p := ⟨bt, ot + k * 6, none⟩) HBT.out).trans HT0.out
       have hkI : decide ((k : Int) < (nt : Int)) = true := decide_eq_true (by omega)
       have hyI : decide (y.num < x.num) = false := decide_eq_false (by omega)
       simp only [pickB]
       repeat (gi_big_quiet_step (fail))
       refine wpQuietIn_nil ?_
       exact rfl
      intro W3 hW
      replace HLay := Lib.hid (HLay.out.below hW)
      clear hW
      simp only [pickB]
      refine wpT_nil ?_
      have HSP := Lib.hid (ins_split HALL.out (fun z hz => by rw [HY.out] at hz; cases hz; omega))
      have x0_0 := (HLay.out.blk 0 rfl).cell 0
      have x0_1 := (HLay.out.blk 0 rfl).cell 1
      have x0_2 := (HLay.out.blk 0 rfl).cell 2
      have x0_3 := (HLay.out.blk 0 rfl).cell 3
      have l0_ := HLay.out.lt 0 rfl
      gi_wp2
      clear x0_0 x0_1 x0_2 x0_3 l0_
      have HBS := Lib.hid (HLay.out.1.size)
      have HBLL := Lib.hid (HLay.out.lt 2 rfl)
      refine ⟨trivial, (callsIn_wide.2 (callsIn_wide.1 (twin_in Av nv cv Aa na ca (some ⟨bt, ot, none⟩) nt ct m W3 (HM.out.up HLay.out.1)))).mono ?_⟩
      rintro e W4 ⟨A1, c1, A2, c2, A3, c3, rfl, hmo, hb⟩
      have HWW := Lib.hid hb.size
      replace HLay := Lib.hid (HLay.out.below hb)
      clear hb
      have HMO := Lib.hid hmo
      clear hmo
      gi_upto_region 9 with fail
      obtain ⟨V5, hV⟩ : ∃ V, (W4.alloc (.cells #[.int .i64 m.fountains, .slice A1 nv c1, .slice A2 na c2, .slice A3 nt c3] 26)) = V := ⟨_, rfl⟩
      rw [hV]
      have hb := fbox_bel hV
      have hnew := fbox_blk hV
      have hge := HLay.out.bel.size
      replace HLay := Lib.hid (HLay.out.below hb)
      replace HMO := Lib.hid (HMO.out.below hb)
      replace HLay := Lib.hid (HLay.out.add hge hnew)
      clear hnew hge hb hV
      obtain ⟨G6, hG⟩ : ∃ g, W4.heap.size = g := ⟨_, rfl⟩
      rw [hG] at HLay ⊢
      have HG_ := Lib.hid hG
      clear hG
      have HHI : Hid ((if ct = k then some (⟨bt, ot, none⟩ : Addr) else Option.map (fun x : Addr => x.add (k * 6)) (some (⟨bt, ot, none⟩ : Addr))) = some ⟨bt, ot + k * 6, none⟩) := Lib.hid (by
       rw [if_neg (by omega)]
       unfold Addr.add
       by_cases hk0 : k = 0 <;> simp [hk0] <;> omega)
      have HKN : Hid (k + 1 + (nt - k) = nt + 1) := Lib.hid (by omega)
      refine wpIn_region_stepsD (by kernel_rfl) (by kernel_rfl) (fun σ : RpGh × (Nat → Value) => { tmps := #[.agg #[.int .i64 m.fountains, .slice Av nv cv, .slice Aa na ca, .slice (some ⟨bt, ot, none⟩) nt ct], .agg #[.int .i64 x.num, .int .i64 x.vessel, .int .i64 x.after, .int .i64 x.fountain, .int .i64 x.lo, .int .i64 x.hi], .pointer (some ⟨w.heap.size, 0, none⟩), .pointer (some ⟨w.heap.size + 1, 0, none⟩), .pointer (some ⟨w.heap.size + 1 + 1, 0, none⟩), .int .i64 0, .int .i64 k, .pointer (some ⟨G6, 0, none⟩), .agg #[.int .i64 m.fountains, .slice Av nv cv, .slice Aa na ca, .slice (some ⟨bt, ot, none⟩) nt ct], .bool true, .bool false, undef, .pointer (some ⟨w.heap.size, 3, none⟩), .slice (some ⟨bt, ot, none⟩) nt ct, .int .i64 nt, .bool false, undef, .int .i64 k, .pointer (some ⟨w.heap.size, 3, none⟩), .slice (some ⟨bt, ot, none⟩) nt ct, .int .i64 nt, .bool true, .bool true, .pointer (some ⟨w.heap.size, 3, none⟩), .slice (some ⟨bt, ot, none⟩) nt ct, .int .i64 k, .pointer (some ⟨bt, ot + k * 6, none⟩), .pointer (some ⟨bt, ot + k * 6, none⟩), .int .i64 y.num, .pointer (some ⟨w.heap.size + 1, 0, none⟩), .int .i64 x.num, .bool false, .bool false, u33, u34, .agg #[.int .i64 m.fountains, .slice Av nv cv, .slice Aa na ca, .slice (some ⟨bt, ot, none⟩) nt ct], .agg #[.int .i64 m.fountains, .slice A1 nv c1, .slice A2 na c2, .slice A3 nt c3], σ.2 37, σ.2 38, σ.2 39, σ.2 40, σ.2 41, σ.2 42, σ.2 43, σ.2 44, σ.2 45, σ.2 46, σ.2 47, σ.2 48, σ.2 49, σ.2 50, σ.2 51, undef, undef, undef, undef, undef], defers := [] })
       (fun L σ W => (L 15 = false → Below V5.heap.size V5 W) ∧ (L 0 = true → L 5 = false → Own W V5.heap.size 65 6 (some ⟨σ.1.e1, 0, none⟩) 0 0 []) ∧ (L 5 = true → L 8 = false → Own W V5.heap.size 65 6 σ.1.A1 k σ.1.k1 ((m.tastes.take k).flatMap Tast.vals)) ∧ (L 7 = true → L 8 = false → Reads W W.heap.size 6 (some ⟨σ.1.e2, 0, none⟩) 1 x.vals) ∧ (L 8 = true → L 13 = false → Own W V5.heap.size 65 6 σ.1.A2 (k + 1) σ.1.k2 (((m.tastes.take k).flatMap Tast.vals) ++ x.vals)) ∧ (L 13 = true → L 15 = false → Own W V5.heap.size 65 6 σ.1.A9 (nt + 1) σ.1.k9 (((m.tastes.take k).flatMap Tast.vals) ++ (x.vals ++ ((m.tastes.drop k).flatMap Tast.vals)))) ∧ (L 15 = true → ∃ V, Below V5.heap.size V5 V ∧ Own V V5.heap.size 65 6 σ.1.A9 (nt + 1) σ.1.k9 (((m.tastes.take k).flatMap Tast.vals) ++ (x.vals ++ ((m.tastes.drop k).flatMap Tast.vals))) ∧ W = V.setCell ⟨G6, 3, none⟩ (.slice σ.1.A9 (nt + 1) σ.1.k9)) ∧ (L 0 = true → σ.2 37 = .slice (some ⟨σ.1.e1, 0, none⟩) 0 0) ∧ (L 1 = true → σ.2 38 = .pointer (some ⟨w.heap.size, 3, none⟩)) ∧ (L 2 = true → σ.2 39 = .slice (some ⟨bt, ot, none⟩) nt ct) ∧ (L 3 = true → σ.2 40 = .int .i64 k) ∧ (L 4 = true → σ.2 41 = .slice (some ⟨bt, ot, none⟩) k ct) ∧ (L 5 = true → σ.2 42 = .slice σ.1.A1 k σ.1.k1) ∧ (L 6 = true → σ.2 43 = .agg #[.int .i64 x.num, .int .i64 x.vessel, .int .i64 x.after, .int .i64 x.fountain, .int .i64 x.lo, .int .i64 x.hi]) ∧ (L 7 = true → σ.2 44 = .slice (some ⟨σ.1.e2, 0, none⟩) 1 1) ∧ (L 8 = true → σ.2 45 = .slice σ.1.A2 (k + 1) σ.1.k2) ∧ (L 9 = true → σ.2 46 = .pointer (some ⟨w.heap.size, 3, none⟩)) ∧ (L 10 = true → σ.2 47 = .slice (some ⟨bt, ot, none⟩) nt ct) ∧ (L 11 = true → σ.2 48 = .int .i64 k) ∧ (L 12 = true → σ.2 49 = .slice (some ⟨bt, ot + k * 6, none⟩) (nt - k) (ct - k)) ∧ (L 13 = true → σ.2 50 = .slice σ.1.A9 (nt + 1) σ.1.k9) ∧ (L 14 = true → σ.2 51 = .pointer (some ⟨G6, 3, none⟩)))
       (⟨0, 0, none, 0, none, 0, none, 0⟩, fun k => undef) rfl ?_ ?_ ?_
      ·exact ⟨(fun _ => below_drewN (Below.refl _ _) 1), (fun h => by cases h), (fun h => by cases h), (fun h => by cases h), (fun h => by cases h), (fun h => by cases h), (fun h => by cases h), (fun h => by cases h), (fun h => by cases h), (fun h => by cases h), (fun h => by cases h), (fun h => by cases h), (fun h => by cases h), (fun h => by cases h), (fun h => by cases h), (fun h => by cases h), (fun h => by cases h), (fun h => by cases h), (fun h => by cases h), (fun h => by cases h), (fun h => by cases h), (fun h => by cases h)⟩
      ·refine ⟨?_, ?_, ?_, ?_, ?_, ?_, ?_, ?_, ?_, ?_, ?_, ?_, ?_, ?_, ?_, ?_, trivial⟩
       ·rintro L ⟨gh, s⟩ W hu hd hdn ⟨g1, q1, a1, n1, a2, a9, r9, f0, f1, f2, f3, f4, f5, f6, f7, f8, f9, f10, f11, f12, f13, f14⟩ K Q hK
        try dsimp only at g1 q1 a1 n1 a2 a9 r9 f0 f1 f2 f3 f4 f5 f6 f7 f8 f9 f10 f11 f12 f13 f14 ⊢
        have h15 : L 15 = false := by
         cases hc : L 15 with
         | false => rfl
         | true => exact hdn.no 15 0 hc rfl hu
        have HSZ := Lib.hid (g1 h15).size
        have HF := Lib.hid (show (L 15 = false → Below V5.heap.size V5 W) ∧ (L 0 = true → L 5 = false → Own W V5.heap.size 65 6 (some ⟨gh.e1, 0, none⟩) 0 0 []) ∧ (L 5 = true → L 8 = false → Own W V5.heap.size 65 6 gh.A1 k gh.k1 ((m.tastes.take k).flatMap Tast.vals)) ∧ (L 7 = true → L 8 = false → Reads W W.heap.size 6 (some ⟨gh.e2, 0, none⟩) 1 x.vals) ∧ (L 8 = true → L 13 = false → Own W V5.heap.size 65 6 gh.A2 (k + 1) gh.k2 (((m.tastes.take k).flatMap Tast.vals) ++ x.vals)) ∧ (L 13 = true → L 15 = false → Own W V5.heap.size 65 6 gh.A9 (nt + 1) gh.k9 (((m.tastes.take k).flatMap Tast.vals) ++ (x.vals ++ ((m.tastes.drop k).flatMap Tast.vals)))) ∧ (L 15 = true → ∃ V, Below V5.heap.size V5 V ∧ Own V V5.heap.size 65 6 gh.A9 (nt + 1) gh.k9 (((m.tastes.take k).flatMap Tast.vals) ++ (x.vals ++ ((m.tastes.drop k).flatMap Tast.vals))) ∧ W = V.setCell ⟨G6, 3, none⟩ (.slice gh.A9 (nt + 1) gh.k9)) ∧ (L 0 = true → s 37 = .slice (some ⟨gh.e1, 0, none⟩) 0 0) ∧ (L 1 = true → s 38 = .pointer (some ⟨w.heap.size, 3, none⟩)) ∧ (L 2 = true → s 39 = .slice (some ⟨bt, ot, none⟩) nt ct) ∧ (L 3 = true → s 40 = .int .i64 k) ∧ (L 4 = true → s 41 = .slice (some ⟨bt, ot, none⟩) k ct) ∧ (L 5 = true → s 42 = .slice gh.A1 k gh.k1) ∧ (L 6 = true → s 43 = .agg #[.int .i64 x.num, .int .i64 x.vessel, .int .i64 x.after, .int .i64 x.fountain, .int .i64 x.lo, .int .i64 x.hi]) ∧ (L 7 = true → s 44 = .slice (some ⟨gh.e2, 0, none⟩) 1 1) ∧ (L 8 = true → s 45 = .slice gh.A2 (k + 1) gh.k2) ∧ (L 9 = true → s 46 = .pointer (some ⟨w.heap.size, 3, none⟩)) ∧ (L 10 = true → s 47 = .slice (some ⟨bt, ot, none⟩) nt ct) ∧ (L 11 = true → s 48 = .int .i64 k) ∧ (L 12 = true → s 49 = .slice (some ⟨bt, ot + k * 6, none⟩) (nt - k) (ct - k)) ∧ (L 13 = true → s 50 = .slice gh.A9 (nt + 1) gh.k9) ∧ (L 14 = true → s 51 = .pointer (some ⟨G6, 3, none⟩)) from ⟨g1, q1, a1, n1, a2, a9, r9, f0, f1, f2, f3, f4, f5, f6, f7, f8, f9, f10, f11, f12, f13, f14⟩)
        clear f14 f13 f12 f11 f10 f9 f8 f7 f6 f5 f4 f3 f2 f1 f0 r9 a9 a2 n1 a1 q1 g1 hd
        try simp only
        gi_wp2
        obtain ⟨g1, q1, a1, n1, a2, a9, r9, f0, f1, f2, f3, f4, f5, f6, f7, f8, f9, f10, f11, f12, f13, f14⟩ := HF.out
        have hb : Below W.heap.size W (W.alloc (.cells #[] 65)) := (Below.refl _ _).alloc (Nat.le_refl _) _
        exact hK ({ gh with e1 := W.heap.size }, (upd s 37 (.slice (some ⟨W.heap.size, 0, none⟩) 0 0))) _ ⟨(fun h => (g1 h).trans (hb.mono (g1 h).size)), (fun _ _ => World.ownsRow_made W #[] 0 HSZ.out (Nat.zero_le _) (by simp)), (fun h q => (a1 h q).below hb (Nat.le_refl _)), (fun h q => ((n1 h q).below hb).more hb.size), (fun h q => (a2 h q).below hb (Nat.le_refl _)), (fun h q => (a9 h q).below hb (Nat.le_refl _)), (fun h => absurd (h15.symm.trans h) (by decide)), (fun _ => rfl), f1, f2, f3, f4, f5, f6, f7, f8, f9, f10, f11, f12, f13, f14⟩
       ·rintro L ⟨gh, s⟩ W hu hd hdn ⟨g1, q1, a1, n1, a2, a9, r9, f0, f1, f2, f3, f4, f5, f6, f7, f8, f9, f10, f11, f12, f13, f14⟩ K Q hK
        try dsimp only at g1 q1 a1 n1 a2 a9 r9 f0 f1 f2 f3 f4 f5 f6 f7 f8 f9 f10 f11 f12 f13 f14 ⊢
        have tl0 := HLay.out.lt 0 rfl
        have HF := Lib.hid (show (L 15 = false → Below V5.heap.size V5 W) ∧ (L 0 = true → L 5 = false → Own W V5.heap.size 65 6 (some ⟨gh.e1, 0, none⟩) 0 0 []) ∧ (L 5 = true → L 8 = false → Own W V5.heap.size 65 6 gh.A1 k gh.k1 ((m.tastes.take k).flatMap Tast.vals)) ∧ (L 7 = true → L 8 = false → Reads W W.heap.size 6 (some ⟨gh.e2, 0, none⟩) 1 x.vals) ∧ (L 8 = true → L 13 = false → Own W V5.heap.size 65 6 gh.A2 (k + 1) gh.k2 (((m.tastes.take k).flatMap Tast.vals) ++ x.vals)) ∧ (L 13 = true → L 15 = false → Own W V5.heap.size 65 6 gh.A9 (nt + 1) gh.k9 (((m.tastes.take k).flatMap Tast.vals) ++ (x.vals ++ ((m.tastes.drop k).flatMap Tast.vals)))) ∧ (L 15 = true → ∃ V, Below V5.heap.size V5 V ∧ Own V V5.heap.size 65 6 gh.A9 (nt + 1) gh.k9 (((m.tastes.take k).flatMap Tast.vals) ++ (x.vals ++ ((m.tastes.drop k).flatMap Tast.vals))) ∧ W = V.setCell ⟨G6, 3, none⟩ (.slice gh.A9 (nt + 1) gh.k9)) ∧ (L 0 = true → s 37 = .slice (some ⟨gh.e1, 0, none⟩) 0 0) ∧ (L 1 = true → s 38 = .pointer (some ⟨w.heap.size, 3, none⟩)) ∧ (L 2 = true → s 39 = .slice (some ⟨bt, ot, none⟩) nt ct) ∧ (L 3 = true → s 40 = .int .i64 k) ∧ (L 4 = true → s 41 = .slice (some ⟨bt, ot, none⟩) k ct) ∧ (L 5 = true → s 42 = .slice gh.A1 k gh.k1) ∧ (L 6 = true → s 43 = .agg #[.int .i64 x.num, .int .i64 x.vessel, .int .i64 x.after, .int .i64 x.fountain, .int .i64 x.lo, .int .i64 x.hi]) ∧ (L 7 = true → s 44 = .slice (some ⟨gh.e2, 0, none⟩) 1 1) ∧ (L 8 = true → s 45 = .slice gh.A2 (k + 1) gh.k2) ∧ (L 9 = true → s 46 = .pointer (some ⟨w.heap.size, 3, none⟩)) ∧ (L 10 = true → s 47 = .slice (some ⟨bt, ot, none⟩) nt ct) ∧ (L 11 = true → s 48 = .int .i64 k) ∧ (L 12 = true → s 49 = .slice (some ⟨bt, ot + k * 6, none⟩) (nt - k) (ct - k)) ∧ (L 13 = true → s 50 = .slice gh.A9 (nt + 1) gh.k9) ∧ (L 14 = true → s 51 = .pointer (some ⟨G6, 3, none⟩)) from ⟨g1, q1, a1, n1, a2, a9, r9, f0, f1, f2, f3, f4, f5, f6, f7, f8, f9, f10, f11, f12, f13, f14⟩)
        clear f14 f13 f12 f11 f10 f9 f8 f7 f6 f5 f4 f3 f2 f1 f0 r9 a9 a2 n1 a1 q1 g1 hd
        try simp only
        gi_wp2
        obtain ⟨g1, q1, a1, n1, a2, a9, r9, f0, f1, f2, f3, f4, f5, f6, f7, f8, f9, f10, f11, f12, f13, f14⟩ := HF.out
        exact hK (gh, (upd s 38 (.pointer (some ⟨w.heap.size, 3, none⟩)))) _ ⟨g1, q1, a1, n1, a2, a9, r9, f0, (fun _ => rfl), f2, f3, f4, f5, f6, f7, f8, f9, f10, f11, f12, f13, f14⟩
       ·rintro L ⟨gh, s⟩ W hu hd hdn ⟨g1, q1, a1, n1, a2, a9, r9, f0, f1, f2, f3, f4, f5, f6, f7, f8, f9, f10, f11, f12, f13, f14⟩ K Q hK
        try dsimp only at g1 q1 a1 n1 a2 a9 r9 f0 f1 f2 f3 f4 f5 f6 f7 f8 f9 f10 f11 f12 f13 f14 ⊢
        have e1 := f1 (hd.at_ 1 rfl)
        have h15 : L 15 = false := by
         cases hc : L 15 with
         | false => rfl
         | true => exact hdn.no 15 2 hc rfl hu
        have c0 : W.cell? ⟨w.heap.size, 3, none⟩ = some (.slice (some ⟨bt, ot, none⟩) nt ct) := ((HLay.out.below (g1 h15)).blk 0 rfl).cell 3
        have HF := Lib.hid (show (L 15 = false → Below V5.heap.size V5 W) ∧ (L 0 = true → L 5 = false → Own W V5.heap.size 65 6 (some ⟨gh.e1, 0, none⟩) 0 0 []) ∧ (L 5 = true → L 8 = false → Own W V5.heap.size 65 6 gh.A1 k gh.k1 ((m.tastes.take k).flatMap Tast.vals)) ∧ (L 7 = true → L 8 = false → Reads W W.heap.size 6 (some ⟨gh.e2, 0, none⟩) 1 x.vals) ∧ (L 8 = true → L 13 = false → Own W V5.heap.size 65 6 gh.A2 (k + 1) gh.k2 (((m.tastes.take k).flatMap Tast.vals) ++ x.vals)) ∧ (L 13 = true → L 15 = false → Own W V5.heap.size 65 6 gh.A9 (nt + 1) gh.k9 (((m.tastes.take k).flatMap Tast.vals) ++ (x.vals ++ ((m.tastes.drop k).flatMap Tast.vals)))) ∧ (L 15 = true → ∃ V, Below V5.heap.size V5 V ∧ Own V V5.heap.size 65 6 gh.A9 (nt + 1) gh.k9 (((m.tastes.take k).flatMap Tast.vals) ++ (x.vals ++ ((m.tastes.drop k).flatMap Tast.vals))) ∧ W = V.setCell ⟨G6, 3, none⟩ (.slice gh.A9 (nt + 1) gh.k9)) ∧ (L 0 = true → s 37 = .slice (some ⟨gh.e1, 0, none⟩) 0 0) ∧ (L 1 = true → s 38 = .pointer (some ⟨w.heap.size, 3, none⟩)) ∧ (L 2 = true → s 39 = .slice (some ⟨bt, ot, none⟩) nt ct) ∧ (L 3 = true → s 40 = .int .i64 k) ∧ (L 4 = true → s 41 = .slice (some ⟨bt, ot, none⟩) k ct) ∧ (L 5 = true → s 42 = .slice gh.A1 k gh.k1) ∧ (L 6 = true → s 43 = .agg #[.int .i64 x.num, .int .i64 x.vessel, .int .i64 x.after, .int .i64 x.fountain, .int .i64 x.lo, .int .i64 x.hi]) ∧ (L 7 = true → s 44 = .slice (some ⟨gh.e2, 0, none⟩) 1 1) ∧ (L 8 = true → s 45 = .slice gh.A2 (k + 1) gh.k2) ∧ (L 9 = true → s 46 = .pointer (some ⟨w.heap.size, 3, none⟩)) ∧ (L 10 = true → s 47 = .slice (some ⟨bt, ot, none⟩) nt ct) ∧ (L 11 = true → s 48 = .int .i64 k) ∧ (L 12 = true → s 49 = .slice (some ⟨bt, ot + k * 6, none⟩) (nt - k) (ct - k)) ∧ (L 13 = true → s 50 = .slice gh.A9 (nt + 1) gh.k9) ∧ (L 14 = true → s 51 = .pointer (some ⟨G6, 3, none⟩)) from ⟨g1, q1, a1, n1, a2, a9, r9, f0, f1, f2, f3, f4, f5, f6, f7, f8, f9, f10, f11, f12, f13, f14⟩)
        clear f14 f13 f12 f11 f10 f9 f8 f7 f6 f5 f4 f3 f2 f1 f0 r9 a9 a2 n1 a1 q1 g1 hd
        try simp only at e1 ⊢
        gi_wp2
        obtain ⟨g1, q1, a1, n1, a2, a9, r9, f0, f1, f2, f3, f4, f5, f6, f7, f8, f9, f10, f11, f12, f13, f14⟩ := HF.out
        exact hK (gh, (upd (upd s 38 (.pointer (some ⟨w.heap.size, 3, none⟩))) 39 (.slice (some ⟨bt, ot, none⟩) nt ct))) _ ⟨g1, q1, a1, n1, a2, a9, r9, f0, (fun _ => rfl), (fun _ => rfl), f3, f4, f5, f6, f7, f8, f9, f10, f11, f12, f13, f14⟩
       ·rintro L ⟨gh, s⟩ W hu hd hdn ⟨g1, q1, a1, n1, a2, a9, r9, f0, f1, f2, f3, f4, f5, f6, f7, f8, f9, f10, f11, f12, f13, f14⟩ K Q hK
        try dsimp only at g1 q1 a1 n1 a2 a9 r9 f0 f1 f2 f3 f4 f5 f6 f7 f8 f9 f10 f11 f12 f13 f14 ⊢
        have HF := Lib.hid (show (L 15 = false → Below V5.heap.size V5 W) ∧ (L 0 = true → L 5 = false → Own W V5.heap.size 65 6 (some ⟨gh.e1, 0, none⟩) 0 0 []) ∧ (L 5 = true → L 8 = false → Own W V5.heap.size 65 6 gh.A1 k gh.k1 ((m.tastes.take k).flatMap Tast.vals)) ∧ (L 7 = true → L 8 = false → Reads W W.heap.size 6 (some ⟨gh.e2, 0, none⟩) 1 x.vals) ∧ (L 8 = true → L 13 = false → Own W V5.heap.size 65 6 gh.A2 (k + 1) gh.k2 (((m.tastes.take k).flatMap Tast.vals) ++ x.vals)) ∧ (L 13 = true → L 15 = false → Own W V5.heap.size 65 6 gh.A9 (nt + 1) gh.k9 (((m.tastes.take k).flatMap Tast.vals) ++ (x.vals ++ ((m.tastes.drop k).flatMap Tast.vals)))) ∧ (L 15 = true → ∃ V, Below V5.heap.size V5 V ∧ Own V V5.heap.size 65 6 gh.A9 (nt + 1) gh.k9 (((m.tastes.take k).flatMap Tast.vals) ++ (x.vals ++ ((m.tastes.drop k).flatMap Tast.vals))) ∧ W = V.setCell ⟨G6, 3, none⟩ (.slice gh.A9 (nt + 1) gh.k9)) ∧ (L 0 = true → s 37 = .slice (some ⟨gh.e1, 0, none⟩) 0 0) ∧ (L 1 = true → s 38 = .pointer (some ⟨w.heap.size, 3, none⟩)) ∧ (L 2 = true → s 39 = .slice (some ⟨bt, ot, none⟩) nt ct) ∧ (L 3 = true → s 40 = .int .i64 k) ∧ (L 4 = true → s 41 = .slice (some ⟨bt, ot, none⟩) k ct) ∧ (L 5 = true → s 42 = .slice gh.A1 k gh.k1) ∧ (L 6 = true → s 43 = .agg #[.int .i64 x.num, .int .i64 x.vessel, .int .i64 x.after, .int .i64 x.fountain, .int .i64 x.lo, .int .i64 x.hi]) ∧ (L 7 = true → s 44 = .slice (some ⟨gh.e2, 0, none⟩) 1 1) ∧ (L 8 = true → s 45 = .slice gh.A2 (k + 1) gh.k2) ∧ (L 9 = true → s 46 = .pointer (some ⟨w.heap.size, 3, none⟩)) ∧ (L 10 = true → s 47 = .slice (some ⟨bt, ot, none⟩) nt ct) ∧ (L 11 = true → s 48 = .int .i64 k) ∧ (L 12 = true → s 49 = .slice (some ⟨bt, ot + k * 6, none⟩) (nt - k) (ct - k)) ∧ (L 13 = true → s 50 = .slice gh.A9 (nt + 1) gh.k9) ∧ (L 14 = true → s 51 = .pointer (some ⟨G6, 3, none⟩)) from ⟨g1, q1, a1, n1, a2, a9, r9, f0, f1, f2, f3, f4, f5, f6, f7, f8, f9, f10, f11, f12, f13, f14⟩)
        clear f14 f13 f12 f11 f10 f9 f8 f7 f6 f5 f4 f3 f2 f1 f0 r9 a9 a2 n1 a1 q1 g1 hd
        try simp only
        gi_wp2
        obtain ⟨g1, q1, a1, n1, a2, a9, r9, f0, f1, f2, f3, f4, f5, f6, f7, f8, f9, f10, f11, f12, f13, f14⟩ := HF.out
        exact hK (gh, (upd s 40 (.int .i64 k))) _ ⟨g1, q1, a1, n1, a2, a9, r9, f0, f1, f2, (fun _ => rfl), f4, f5, f6, f7, f8, f9, f10, f11, f12, f13, f14⟩
       ·rintro L ⟨gh, s⟩ W hu hd hdn ⟨g1, q1, a1, n1, a2, a9, r9, f0, f1, f2, f3, f4, f5, f6, f7, f8, f9, f10, f11, f12, f13, f14⟩ K Q hK
        try dsimp only at g1 q1 a1 n1 a2 a9 r9 f0 f1 f2 f3 f4 f5 f6 f7 f8 f9 f10 f11 f12 f13 f14 ⊢
        have e2 := f2 (hd.at_ 2 rfl)
        have e3 := f3 (hd.at_ 3 rfl)
        have hkc : (k : Int) ≤ (ct : Int) := by omega
        have hkc2 : k ≤ ct := by omega
        have hcm : ct ≤ 9223372036854775807 := by unfold maxLen at hcl; omega
        have HF := Lib.hid (show (L 15 = false → Below V5.heap.size V5 W) ∧ (L 0 = true → L 5 = false → Own W V5.heap.size 65 6 (some ⟨gh.e1, 0, none⟩) 0 0 []) ∧ (L 5 = true → L 8 = false → Own W V5.heap.size 65 6 gh.A1 k gh.k1 ((m.tastes.take k).flatMap Tast.vals)) ∧ (L 7 = true → L 8 = false → Reads W W.heap.size 6 (some ⟨gh.e2, 0, none⟩) 1 x.vals) ∧ (L 8 = true → L 13 = false → Own W V5.heap.size 65 6 gh.A2 (k + 1) gh.k2 (((m.tastes.take k).flatMap Tast.vals) ++ x.vals)) ∧ (L 13 = true → L 15 = false → Own W V5.heap.size 65 6 gh.A9 (nt + 1) gh.k9 (((m.tastes.take k).flatMap Tast.vals) ++ (x.vals ++ ((m.tastes.drop k).flatMap Tast.vals)))) ∧ (L 15 = true → ∃ V, Below V5.heap.size V5 V ∧ Own V V5.heap.size 65 6 gh.A9 (nt + 1) gh.k9 (((m.tastes.take k).flatMap Tast.vals) ++ (x.vals ++ ((m.tastes.drop k).flatMap Tast.vals))) ∧ W = V.setCell ⟨G6, 3, none⟩ (.slice gh.A9 (nt + 1) gh.k9)) ∧ (L 0 = true → s 37 = .slice (some ⟨gh.e1, 0, none⟩) 0 0) ∧ (L 1 = true → s 38 = .pointer (some ⟨w.heap.size, 3, none⟩)) ∧ (L 2 = true → s 39 = .slice (some ⟨bt, ot, none⟩) nt ct) ∧ (L 3 = true → s 40 = .int .i64 k) ∧ (L 4 = true → s 41 = .slice (some ⟨bt, ot, none⟩) k ct) ∧ (L 5 = true → s 42 = .slice gh.A1 k gh.k1) ∧ (L 6 = true → s 43 = .agg #[.int .i64 x.num, .int .i64 x.vessel, .int .i64 x.after, .int .i64 x.fountain, .int .i64 x.lo, .int .i64 x.hi]) ∧ (L 7 = true → s 44 = .slice (some ⟨gh.e2, 0, none⟩) 1 1) ∧ (L 8 = true → s 45 = .slice gh.A2 (k + 1) gh.k2) ∧ (L 9 = true → s 46 = .pointer (some ⟨w.heap.size, 3, none⟩)) ∧ (L 10 = true → s 47 = .slice (some ⟨bt, ot, none⟩) nt ct) ∧ (L 11 = true → s 48 = .int .i64 k) ∧ (L 12 = true → s 49 = .slice (some ⟨bt, ot + k * 6, none⟩) (nt - k) (ct - k)) ∧ (L 13 = true → s 50 = .slice gh.A9 (nt + 1) gh.k9) ∧ (L 14 = true → s 51 = .pointer (some ⟨G6, 3, none⟩)) from ⟨g1, q1, a1, n1, a2, a9, r9, f0, f1, f2, f3, f4, f5, f6, f7, f8, f9, f10, f11, f12, f13, f14⟩)
        clear f14 f13 f12 f11 f10 f9 f8 f7 f6 f5 f4 f3 f2 f1 f0 r9 a9 a2 n1 a1 q1 g1 hd
        try simp only at e2 e3 ⊢
        gi_wp2
        obtain ⟨g1, q1, a1, n1, a2, a9, r9, f0, f1, f2, f3, f4, f5, f6, f7, f8, f9, f10, f11, f12, f13, f14⟩ := HF.out
        exact hK (gh, (upd (upd (upd s 39 (.slice (some ⟨bt, ot, none⟩) nt ct)) 40 (.int .i64 k)) 41 (.slice (some ⟨bt, ot, none⟩) k ct))) _ ⟨g1, q1, a1, n1, a2, a9, r9, f0, f1, (fun _ => rfl), (fun _ => rfl), (fun _ => rfl), f5, f6, f7, f8, f9, f10, f11, f12, f13, f14⟩
       ·rintro L ⟨gh, s⟩ W hu hd hdn ⟨g1, q1, a1, n1, a2, a9, r9, f0, f1, f2, f3, f4, f5, f6, f7, f8, f9, f10, f11, f12, f13, f14⟩ K Q hK
        try dsimp only at g1 q1 a1 n1 a2 a9 r9 f0 f1 f2 f3 f4 f5 f6 f7 f8 f9 f10 f11 f12 f13 f14 ⊢
        have e0 := f0 (hd.at_ 0 rfl)
        have e4 := f4 (hd.at_ 4 rfl)
        have h15 : L 15 = false := by
         cases hc : L 15 with
         | false => rfl
         | true => exact hdn.no 15 5 hc rfl hu
        have h8 : L 8 = false := by
         cases hc : L 8 with
         | false => rfl
         | true => exact hdn.no 8 5 hc rfl hu
        have HE := Lib.hid (q1 (hd.at_ 0 rfl) hu)
        have HG1 := Lib.hid (g1 h15)
        have HSZ := Lib.hid (g1 h15).size
        have HF := Lib.hid (show (L 15 = false → Below V5.heap.size V5 W) ∧ (L 0 = true → L 5 = false → Own W V5.heap.size 65 6 (some ⟨gh.e1, 0, none⟩) 0 0 []) ∧ (L 5 = true → L 8 = false → Own W V5.heap.size 65 6 gh.A1 k gh.k1 ((m.tastes.take k).flatMap Tast.vals)) ∧ (L 7 = true → L 8 = false → Reads W W.heap.size 6 (some ⟨gh.e2, 0, none⟩) 1 x.vals) ∧ (L 8 = true → L 13 = false → Own W V5.heap.size 65 6 gh.A2 (k + 1) gh.k2 (((m.tastes.take k).flatMap Tast.vals) ++ x.vals)) ∧ (L 13 = true → L 15 = false → Own W V5.heap.size 65 6 gh.A9 (nt + 1) gh.k9 (((m.tastes.take k).flatMap Tast.vals) ++ (x.vals ++ ((m.tastes.drop k).flatMap Tast.vals)))) ∧ (L 15 = true → ∃ V, Below V5.heap.size V5 V ∧ Own V V5.heap.size 65 6 gh.A9 (nt + 1) gh.k9 (((m.tastes.take k).flatMap Tast.vals) ++ (x.vals ++ ((m.tastes.drop k).flatMap Tast.vals))) ∧ W = V.setCell ⟨G6, 3, none⟩ (.slice gh.A9 (nt + 1) gh.k9)) ∧ (L 0 = true → s 37 = .slice (some ⟨gh.e1, 0, none⟩) 0 0) ∧ (L 1 = true → s 38 = .pointer (some ⟨w.heap.size, 3, none⟩)) ∧ (L 2 = true → s 39 = .slice (some ⟨bt, ot, none⟩) nt ct) ∧ (L 3 = true → s 40 = .int .i64 k) ∧ (L 4 = true → s 41 = .slice (some ⟨bt, ot, none⟩) k ct) ∧ (L 5 = true → s 42 = .slice gh.A1 k gh.k1) ∧ (L 6 = true → s 43 = .agg #[.int .i64 x.num, .int .i64 x.vessel, .int .i64 x.after, .int .i64 x.fountain, .int .i64 x.lo, .int .i64 x.hi]) ∧ (L 7 = true → s 44 = .slice (some ⟨gh.e2, 0, none⟩) 1 1) ∧ (L 8 = true → s 45 = .slice gh.A2 (k + 1) gh.k2) ∧ (L 9 = true → s 46 = .pointer (some ⟨w.heap.size, 3, none⟩)) ∧ (L 10 = true → s 47 = .slice (some ⟨bt, ot, none⟩) nt ct) ∧ (L 11 = true → s 48 = .int .i64 k) ∧ (L 12 = true → s 49 = .slice (some ⟨bt, ot + k * 6, none⟩) (nt - k) (ct - k)) ∧ (L 13 = true → s 50 = .slice gh.A9 (nt + 1) gh.k9) ∧ (L 14 = true → s 51 = .pointer (some ⟨G6, 3, none⟩)) from ⟨g1, q1, a1, n1, a2, a9, r9, f0, f1, f2, f3, f4, f5, f6, f7, f8, f9, f10, f11, f12, f13, f14⟩)
        clear f14 f13 f12 f11 f10 f9 f8 f7 f6 f5 f4 f3 f2 f1 f0 r9 a9 a2 n1 a1 q1 g1 hd
        try simp only at e0 e4 ⊢
        have hrd := reads_take (k := k) ((HM.out.up (HLay.out.below HG1.out).1).at_.tastes) hk
        rw [← flat_take tast_k] at hrd
        have HRD := Lib.hid hrd
        clear hrd
        gi_wp2_with (first | (gi_at_builtin; refine wpListIn_append_fresh rfl (.tmp 37) (.tmp 41) (by rfl) elem_tast e0 HE.out e4 HRD.out (tast_one _) (by unfold maxLen; omega) (by omega) HSZ.out ?_) | fail)
        rintro AN cN W1 hO hb hA
        gi_wp2
        obtain ⟨g1, q1, a1, n1, a2, a9, r9, f0, f1, f2, f3, f4, f5, f6, f7, f8, f9, f10, f11, f12, f13, f14⟩ := HF.out
        exact hK ({ gh with A1 := AN, k1 := cN }, (upd (upd (upd s 37 (.slice (some ⟨gh.e1, 0, none⟩) 0 0)) 41 (.slice (some ⟨bt, ot, none⟩) k ct)) 42 (.slice AN k cN))) _ ⟨(fun h => (g1 h).trans (hb.mono (g1 h).size)), (fun _ h => by cases h), (fun _ _ => hO), (fun h q => ((n1 h q).below hb).more hb.size), (fun h => absurd (h8.symm.trans h) (by decide)), (fun h q => (a9 h q).below hb (Nat.le_refl _)), (fun h => absurd (h15.symm.trans h) (by decide)), (fun _ => rfl), f1, f2, f3, (fun _ => rfl), (fun _ => rfl), f6, f7, f8, f9, f10, f11, f12, f13, f14⟩
       ·rintro L ⟨gh, s⟩ W hu hd hdn ⟨g1, q1, a1, n1, a2, a9, r9, f0, f1, f2, f3, f4, f5, f6, f7, f8, f9, f10, f11, f12, f13, f14⟩ K Q hK
        try dsimp only at g1 q1 a1 n1 a2 a9 r9 f0 f1 f2 f3 f4 f5 f6 f7 f8 f9 f10 f11 f12 f13 f14 ⊢
        have h15 : L 15 = false := by
         cases hc : L 15 with
         | false => rfl
         | true => exact hdn.no 15 6 hc rfl hu
        have c0 : W.cell? ⟨w.heap.size + 1, 0, none⟩ = some (.int .i64 x.num) := ((HLay.out.below (g1 h15)).blk 1 rfl).cell 0
        have c1 : W.cell? ⟨w.heap.size + 1, 1, none⟩ = some (.int .i64 x.vessel) := ((HLay.out.below (g1 h15)).blk 1 rfl).cell 1
        have c2 : W.cell? ⟨w.heap.size + 1, 2, none⟩ = some (.int .i64 x.after) := ((HLay.out.below (g1 h15)).blk 1 rfl).cell 2
        have c3 : W.cell? ⟨w.heap.size + 1, 3, none⟩ = some (.int .i64 x.fountain) := ((HLay.out.below (g1 h15)).blk 1 rfl).cell 3
        have c4 : W.cell? ⟨w.heap.size + 1, 4, none⟩ = some (.int .i64 x.lo) := ((HLay.out.below (g1 h15)).blk 1 rfl).cell 4
        have c5 : W.cell? ⟨w.heap.size + 1, 5, none⟩ = some (.int .i64 x.hi) := ((HLay.out.below (g1 h15)).blk 1 rfl).cell 5
        have HF := Lib.hid (show (L 15 = false → Below V5.heap.size V5 W) ∧ (L 0 = true → L 5 = false → Own W V5.heap.size 65 6 (some ⟨gh.e1, 0, none⟩) 0 0 []) ∧ (L 5 = true → L 8 = false → Own W V5.heap.size 65 6 gh.A1 k gh.k1 ((m.tastes.take k).flatMap Tast.vals)) ∧ (L 7 = true → L 8 = false → Reads W W.heap.size 6 (some ⟨gh.e2, 0, none⟩) 1 x.vals) ∧ (L 8 = true → L 13 = false → Own W V5.heap.size 65 6 gh.A2 (k + 1) gh.k2 (((m.tastes.take k).flatMap Tast.vals) ++ x.vals)) ∧ (L 13 = true → L 15 = false → Own W V5.heap.size 65 6 gh.A9 (nt + 1) gh.k9 (((m.tastes.take k).flatMap Tast.vals) ++ (x.vals ++ ((m.tastes.drop k).flatMap Tast.vals)))) ∧ (L 15 = true → ∃ V, Below V5.heap.size V5 V ∧ Own V V5.heap.size 65 6 gh.A9 (nt + 1) gh.k9 (((m.tastes.take k).flatMap Tast.vals) ++ (x.vals ++ ((m.tastes.drop k).flatMap Tast.vals))) ∧ W = V.setCell ⟨G6, 3, none⟩ (.slice gh.A9 (nt + 1) gh.k9)) ∧ (L 0 = true → s 37 = .slice (some ⟨gh.e1, 0, none⟩) 0 0) ∧ (L 1 = true → s 38 = .pointer (some ⟨w.heap.size, 3, none⟩)) ∧ (L 2 = true → s 39 = .slice (some ⟨bt, ot, none⟩) nt ct) ∧ (L 3 = true → s 40 = .int .i64 k) ∧ (L 4 = true → s 41 = .slice (some ⟨bt, ot, none⟩) k ct) ∧ (L 5 = true → s 42 = .slice gh.A1 k gh.k1) ∧ (L 6 = true → s 43 = .agg #[.int .i64 x.num, .int .i64 x.vessel, .int .i64 x.after, .int .i64 x.fountain, .int .i64 x.lo, .int .i64 x.hi]) ∧ (L 7 = true → s 44 = .slice (some ⟨gh.e2, 0, none⟩) 1 1) ∧ (L 8 = true → s 45 = .slice gh.A2 (k + 1) gh.k2) ∧ (L 9 = true → s 46 = .pointer (some ⟨w.heap.size, 3, none⟩)) ∧ (L 10 = true → s 47 = .slice (some ⟨bt, ot, none⟩) nt ct) ∧ (L 11 = true → s 48 = .int .i64 k) ∧ (L 12 = true → s 49 = .slice (some ⟨bt, ot + k * 6, none⟩) (nt - k) (ct - k)) ∧ (L 13 = true → s 50 = .slice gh.A9 (nt + 1) gh.k9) ∧ (L 14 = true → s 51 = .pointer (some ⟨G6, 3, none⟩)) from ⟨g1, q1, a1, n1, a2, a9, r9, f0, f1, f2, f3, f4, f5, f6, f7, f8, f9, f10, f11, f12, f13, f14⟩)
        clear f14 f13 f12 f11 f10 f9 f8 f7 f6 f5 f4 f3 f2 f1 f0 r9 a9 a2 n1 a1 q1 g1 hd
        try simp only
        gi_wp2
        obtain ⟨g1, q1, a1, n1, a2, a9, r9, f0, f1, f2, f3, f4, f5, f6, f7, f8, f9, f10, f11, f12, f13, f14⟩ := HF.out
        exact hK (gh, (upd s 43 (.agg #[.int .i64 x.num, .int .i64 x.vessel, .int .i64 x.after, .int .i64 x.fountain, .int .i64 x.lo, .int .i64 x.hi]))) _ ⟨g1, q1, a1, n1, a2, a9, r9, f0, f1, f2, f3, f4, f5, (fun _ => rfl), f7, f8, f9, f10, f11, f12, f13, f14⟩
       ·rintro L ⟨gh, s⟩ W hu hd hdn ⟨g1, q1, a1, n1, a2, a9, r9, f0, f1, f2, f3, f4, f5, f6, f7, f8, f9, f10, f11, f12, f13, f14⟩ K Q hK
        try dsimp only at g1 q1 a1 n1 a2 a9 r9 f0 f1 f2 f3 f4 f5 f6 f7 f8 f9 f10 f11 f12 f13 f14 ⊢
        have e6 := f6 (hd.at_ 6 rfl)
        have h15 : L 15 = false := by
         cases hc : L 15 with
         | false => rfl
         | true => exact hdn.no 15 7 hc rfl hu
        have HSZ := Lib.hid (g1 h15).size
        have HF := Lib.hid (show (L 15 = false → Below V5.heap.size V5 W) ∧ (L 0 = true → L 5 = false → Own W V5.heap.size 65 6 (some ⟨gh.e1, 0, none⟩) 0 0 []) ∧ (L 5 = true → L 8 = false → Own W V5.heap.size 65 6 gh.A1 k gh.k1 ((m.tastes.take k).flatMap Tast.vals)) ∧ (L 7 = true → L 8 = false → Reads W W.heap.size 6 (some ⟨gh.e2, 0, none⟩) 1 x.vals) ∧ (L 8 = true → L 13 = false → Own W V5.heap.size 65 6 gh.A2 (k + 1) gh.k2 (((m.tastes.take k).flatMap Tast.vals) ++ x.vals)) ∧ (L 13 = true → L 15 = false → Own W V5.heap.size 65 6 gh.A9 (nt + 1) gh.k9 (((m.tastes.take k).flatMap Tast.vals) ++ (x.vals ++ ((m.tastes.drop k).flatMap Tast.vals)))) ∧ (L 15 = true → ∃ V, Below V5.heap.size V5 V ∧ Own V V5.heap.size 65 6 gh.A9 (nt + 1) gh.k9 (((m.tastes.take k).flatMap Tast.vals) ++ (x.vals ++ ((m.tastes.drop k).flatMap Tast.vals))) ∧ W = V.setCell ⟨G6, 3, none⟩ (.slice gh.A9 (nt + 1) gh.k9)) ∧ (L 0 = true → s 37 = .slice (some ⟨gh.e1, 0, none⟩) 0 0) ∧ (L 1 = true → s 38 = .pointer (some ⟨w.heap.size, 3, none⟩)) ∧ (L 2 = true → s 39 = .slice (some ⟨bt, ot, none⟩) nt ct) ∧ (L 3 = true → s 40 = .int .i64 k) ∧ (L 4 = true → s 41 = .slice (some ⟨bt, ot, none⟩) k ct) ∧ (L 5 = true → s 42 = .slice gh.A1 k gh.k1) ∧ (L 6 = true → s 43 = .agg #[.int .i64 x.num, .int .i64 x.vessel, .int .i64 x.after, .int .i64 x.fountain, .int .i64 x.lo, .int .i64 x.hi]) ∧ (L 7 = true → s 44 = .slice (some ⟨gh.e2, 0, none⟩) 1 1) ∧ (L 8 = true → s 45 = .slice gh.A2 (k + 1) gh.k2) ∧ (L 9 = true → s 46 = .pointer (some ⟨w.heap.size, 3, none⟩)) ∧ (L 10 = true → s 47 = .slice (some ⟨bt, ot, none⟩) nt ct) ∧ (L 11 = true → s 48 = .int .i64 k) ∧ (L 12 = true → s 49 = .slice (some ⟨bt, ot + k * 6, none⟩) (nt - k) (ct - k)) ∧ (L 13 = true → s 50 = .slice gh.A9 (nt + 1) gh.k9) ∧ (L 14 = true → s 51 = .pointer (some ⟨G6, 3, none⟩)) from ⟨g1, q1, a1, n1, a2, a9, r9, f0, f1, f2, f3, f4, f5, f6, f7, f8, f9, f10, f11, f12, f13, f14⟩)
        clear f14 f13 f12 f11 f10 f9 f8 f7 f6 f5 f4 f3 f2 f1 f0 r9 a9 a2 n1 a1 q1 g1 hd
        try simp only at e6 ⊢
        gi_wp2
        obtain ⟨g1, q1, a1, n1, a2, a9, r9, f0, f1, f2, f3, f4, f5, f6, f7, f8, f9, f10, f11, f12, f13, f14⟩ := HF.out
        have hb : Below W.heap.size W (W.alloc (.cells #[.int .i64 x.num, .int .i64 x.vessel, .int .i64 x.after, .int .i64 x.fountain, .int .i64 x.lo, .int .i64 x.hi] 65)) := (Below.refl _ _).alloc (Nat.le_refl _) _
        exact hK ({ gh with e2 := W.heap.size }, (upd (upd s 43 (.agg #[.int .i64 x.num, .int .i64 x.vessel, .int .i64 x.after, .int .i64 x.fountain, .int .i64 x.lo, .int .i64 x.hi])) 44 (.slice (some ⟨W.heap.size, 0, none⟩) 1 1))) _ ⟨(fun h => (g1 h).trans (hb.mono (g1 h).size)), (fun h q => (q1 h q).below hb (Nat.le_refl _)), (fun h q => (a1 h q).below hb (Nat.le_refl _)), (fun _ _ => reads_new W 65 x.vals rfl), (fun h q => (a2 h q).below hb (Nat.le_refl _)), (fun h q => (a9 h q).below hb (Nat.le_refl _)), (fun h => absurd (h15.symm.trans h) (by decide)), f0, f1, f2, f3, f4, f5, (fun _ => rfl), (fun _ => rfl), f8, f9, f10, f11, f12, f13, f14⟩
       ·rintro L ⟨gh, s⟩ W hu hd hdn ⟨g1, q1, a1, n1, a2, a9, r9, f0, f1, f2, f3, f4, f5, f6, f7, f8, f9, f10, f11, f12, f13, f14⟩ K Q hK
        try dsimp only at g1 q1 a1 n1 a2 a9 r9 f0 f1 f2 f3 f4 f5 f6 f7 f8 f9 f10 f11 f12 f13 f14 ⊢
        have e5 := f5 (hd.at_ 5 rfl)
        have e7 := f7 (hd.at_ 7 rfl)
        have h15 : L 15 = false := by
         cases hc : L 15 with
         | false => rfl
         | true => exact hdn.no 15 8 hc rfl hu
        have h13 : L 13 = false := by
         cases hc : L 13 with
         | false => rfl
         | true => exact hdn.no 13 8 hc rfl hu
        have HE := Lib.hid (a1 (hd.at_ 5 rfl) hu)
        have HN1 := Lib.hid (n1 (hd.at_ 7 rfl) hu)
        have HSZ := Lib.hid (g1 h15).size
        have HD5 := Lib.hid (hd.at_ 5 rfl)
        have HF := Lib.hid (show (L 15 = false → Below V5.heap.size V5 W) ∧ (L 0 = true → L 5 = false → Own W V5.heap.size 65 6 (some ⟨gh.e1, 0, none⟩) 0 0 []) ∧ (L 5 = true → L 8 = false → Own W V5.heap.size 65 6 gh.A1 k gh.k1 ((m.tastes.take k).flatMap Tast.vals)) ∧ (L 7 = true → L 8 = false → Reads W W.heap.size 6 (some ⟨gh.e2, 0, none⟩) 1 x.vals) ∧ (L 8 = true → L 13 = false → Own W V5.heap.size 65 6 gh.A2 (k + 1) gh.k2 (((m.tastes.take k).flatMap Tast.vals) ++ x.vals)) ∧ (L 13 = true → L 15 = false → Own W V5.heap.size 65 6 gh.A9 (nt + 1) gh.k9 (((m.tastes.take k).flatMap Tast.vals) ++ (x.vals ++ ((m.tastes.drop k).flatMap Tast.vals)))) ∧ (L 15 = true → ∃ V, Below V5.heap.size V5 V ∧ Own V V5.heap.size 65 6 gh.A9 (nt + 1) gh.k9 (((m.tastes.take k).flatMap Tast.vals) ++ (x.vals ++ ((m.tastes.drop k).flatMap Tast.vals))) ∧ W = V.setCell ⟨G6, 3, none⟩ (.slice gh.A9 (nt + 1) gh.k9)) ∧ (L 0 = true → s 37 = .slice (some ⟨gh.e1, 0, none⟩) 0 0) ∧ (L 1 = true → s 38 = .pointer (some ⟨w.heap.size, 3, none⟩)) ∧ (L 2 = true → s 39 = .slice (some ⟨bt, ot, none⟩) nt ct) ∧ (L 3 = true → s 40 = .int .i64 k) ∧ (L 4 = true → s 41 = .slice (some ⟨bt, ot, none⟩) k ct) ∧ (L 5 = true → s 42 = .slice gh.A1 k gh.k1) ∧ (L 6 = true → s 43 = .agg #[.int .i64 x.num, .int .i64 x.vessel, .int .i64 x.after, .int .i64 x.fountain, .int .i64 x.lo, .int .i64 x.hi]) ∧ (L 7 = true → s 44 = .slice (some ⟨gh.e2, 0, none⟩) 1 1) ∧ (L 8 = true → s 45 = .slice gh.A2 (k + 1) gh.k2) ∧ (L 9 = true → s 46 = .pointer (some ⟨w.heap.size, 3, none⟩)) ∧ (L 10 = true → s 47 = .slice (some ⟨bt, ot, none⟩) nt ct) ∧ (L 11 = true → s 48 = .int .i64 k) ∧ (L 12 = true → s 49 = .slice (some ⟨bt, ot + k * 6, none⟩) (nt - k) (ct - k)) ∧ (L 13 = true → s 50 = .slice gh.A9 (nt + 1) gh.k9) ∧ (L 14 = true → s 51 = .pointer (some ⟨G6, 3, none⟩)) from ⟨g1, q1, a1, n1, a2, a9, r9, f0, f1, f2, f3, f4, f5, f6, f7, f8, f9, f10, f11, f12, f13, f14⟩)
        clear f14 f13 f12 f11 f10 f9 f8 f7 f6 f5 f4 f3 f2 f1 f0 r9 a9 a2 n1 a1 q1 g1 hd
        try simp only at e5 e7 ⊢
        gi_wp2_with (first | (gi_at_builtin; refine wpListIn_append_any rfl (.tmp 42) (.tmp 44) (by rfl) elem_tast e5 HE.out e7 HN1.out (tast_one1 x) (by unfold maxLen; omega) (by omega) HSZ.out ?_) | fail)
        rintro AN cN W1 hO hg hA
        gi_wp2
        obtain ⟨g1, q1, a1, n1, a2, a9, r9, f0, f1, f2, f3, f4, f5, f6, f7, f8, f9, f10, f11, f12, f13, f14⟩ := HF.out
        have hgb : Below V5.heap.size V5 W1 := (g1 h15).grown hg (g1 h15).size (fun k hk => (own_row HE.out k hk).1)
        exact hK ({ gh with A2 := AN, k2 := cN }, (upd (upd (upd s 42 (.slice gh.A1 k gh.k1)) 44 (.slice (some ⟨gh.e2, 0, none⟩) 1 1)) 45 (.slice AN (k + 1) cN))) _ ⟨(fun _ => hgb), (fun _ h => absurd (HD5.out.symm.trans h) (by decide)), (fun _ h => by cases h), (fun _ h => by cases h), (fun _ _ => hO), (fun h => absurd (h13.symm.trans h) (by decide)), (fun h => absurd (h15.symm.trans h) (by decide)), f0, f1, f2, f3, f4, (fun _ => rfl), f6, (fun _ => rfl), (fun _ => rfl), f9, f10, f11, f12, f13, f14⟩
       ·rintro L ⟨gh, s⟩ W hu hd hdn ⟨g1, q1, a1, n1, a2, a9, r9, f0, f1, f2, f3, f4, f5, f6, f7, f8, f9, f10, f11, f12, f13, f14⟩ K Q hK
        try dsimp only at g1 q1 a1 n1 a2 a9 r9 f0 f1 f2 f3 f4 f5 f6 f7 f8 f9 f10 f11 f12 f13 f14 ⊢
        have tl0 := HLay.out.lt 0 rfl
        have HF := Lib.hid (show (L 15 = false → Below V5.heap.size V5 W) ∧ (L 0 = true → L 5 = false → Own W V5.heap.size 65 6 (some ⟨gh.e1, 0, none⟩) 0 0 []) ∧ (L 5 = true → L 8 = false → Own W V5.heap.size 65 6 gh.A1 k gh.k1 ((m.tastes.take k).flatMap Tast.vals)) ∧ (L 7 = true → L 8 = false → Reads W W.heap.size 6 (some ⟨gh.e2, 0, none⟩) 1 x.vals) ∧ (L 8 = true → L 13 = false → Own W V5.heap.size 65 6 gh.A2 (k + 1) gh.k2 (((m.tastes.take k).flatMap Tast.vals) ++ x.vals)) ∧ (L 13 = true → L 15 = false → Own W V5.heap.size 65 6 gh.A9 (nt + 1) gh.k9 (((m.tastes.take k).flatMap Tast.vals) ++ (x.vals ++ ((m.tastes.drop k).flatMap Tast.vals)))) ∧ (L 15 = true → ∃ V, Below V5.heap.size V5 V ∧ Own V V5.heap.size 65 6 gh.A9 (nt + 1) gh.k9 (((m.tastes.take k).flatMap Tast.vals) ++ (x.vals ++ ((m.tastes.drop k).flatMap Tast.vals))) ∧ W = V.setCell ⟨G6, 3, none⟩ (.slice gh.A9 (nt + 1) gh.k9)) ∧ (L 0 = true → s 37 = .slice (some ⟨gh.e1, 0, none⟩) 0 0) ∧ (L 1 = true → s 38 = .pointer (some ⟨w.heap.size, 3, none⟩)) ∧ (L 2 = true → s 39 = .slice (some ⟨bt, ot, none⟩) nt ct) ∧ (L 3 = true → s 40 = .int .i64 k) ∧ (L 4 = true → s 41 = .slice (some ⟨bt, ot, none⟩) k ct) ∧ (L 5 = true → s 42 = .slice gh.A1 k gh.k1) ∧ (L 6 = true → s 43 = .agg #[.int .i64 x.num, .int .i64 x.vessel, .int .i64 x.after, .int .i64 x.fountain, .int .i64 x.lo, .int .i64 x.hi]) ∧ (L 7 = true → s 44 = .slice (some ⟨gh.e2, 0, none⟩) 1 1) ∧ (L 8 = true → s 45 = .slice gh.A2 (k + 1) gh.k2) ∧ (L 9 = true → s 46 = .pointer (some ⟨w.heap.size, 3, none⟩)) ∧ (L 10 = true → s 47 = .slice (some ⟨bt, ot, none⟩) nt ct) ∧ (L 11 = true → s 48 = .int .i64 k) ∧ (L 12 = true → s 49 = .slice (some ⟨bt, ot + k * 6, none⟩) (nt - k) (ct - k)) ∧ (L 13 = true → s 50 = .slice gh.A9 (nt + 1) gh.k9) ∧ (L 14 = true → s 51 = .pointer (some ⟨G6, 3, none⟩)) from ⟨g1, q1, a1, n1, a2, a9, r9, f0, f1, f2, f3, f4, f5, f6, f7, f8, f9, f10, f11, f12, f13, f14⟩)
        clear f14 f13 f12 f11 f10 f9 f8 f7 f6 f5 f4 f3 f2 f1 f0 r9 a9 a2 n1 a1 q1 g1 hd
        try simp only
        gi_wp2
        obtain ⟨g1, q1, a1, n1, a2, a9, r9, f0, f1, f2, f3, f4, f5, f6, f7, f8, f9, f10, f11, f12, f13, f14⟩ := HF.out
        exact hK (gh, (upd s 46 (.pointer (some ⟨w.heap.size, 3, none⟩)))) _ ⟨g1, q1, a1, n1, a2, a9, r9, f0, f1, f2, f3, f4, f5, f6, f7, f8, (fun _ => rfl), f10, f11, f12, f13, f14⟩
       ·rintro L ⟨gh, s⟩ W hu hd hdn ⟨g1, q1, a1, n1, a2, a9, r9, f0, f1, f2, f3, f4, f5, f6, f7, f8, f9, f10, f11, f12, f13, f14⟩ K Q hK
        try dsimp only at g1 q1 a1 n1 a2 a9 r9 f0 f1 f2 f3 f4 f5 f6 f7 f8 f9 f10 f11 f12 f13 f14 ⊢
        have e9 := f9 (hd.at_ 9 rfl)
        have h15 : L 15 = false := by
         cases hc : L 15 with
         | false => rfl
         | true => exact hdn.no 15 10 hc rfl hu
        have c0 : W.cell? ⟨w.heap.size, 3, none⟩ = some (.slice (some ⟨bt, ot, none⟩) nt ct) := ((HLay.out.below (g1 h15)).blk 0 rfl).cell 3
        have HF := Lib.hid (show (L 15 = false → Below V5.heap.size V5 W) ∧ (L 0 = true → L 5 = false → Own W V5.heap.size 65 6 (some ⟨gh.e1, 0, none⟩) 0 0 []) ∧ (L 5 = true → L 8 = false → Own W V5.heap.size 65 6 gh.A1 k gh.k1 ((m.tastes.take k).flatMap Tast.vals)) ∧ (L 7 = true → L 8 = false → Reads W W.heap.size 6 (some ⟨gh.e2, 0, none⟩) 1 x.vals) ∧ (L 8 = true → L 13 = false → Own W V5.heap.size 65 6 gh.A2 (k + 1) gh.k2 (((m.tastes.take k).flatMap Tast.vals) ++ x.vals)) ∧ (L 13 = true → L 15 = false → Own W V5.heap.size 65 6 gh.A9 (nt + 1) gh.k9 (((m.tastes.take k).flatMap Tast.vals) ++ (x.vals ++ ((m.tastes.drop k).flatMap Tast.vals)))) ∧ (L 15 = true → ∃ V, Below V5.heap.size V5 V ∧ Own V V5.heap.size 65 6 gh.A9 (nt + 1) gh.k9 (((m.tastes.take k).flatMap Tast.vals) ++ (x.vals ++ ((m.tastes.drop k).flatMap Tast.vals))) ∧ W = V.setCell ⟨G6, 3, none⟩ (.slice gh.A9 (nt + 1) gh.k9)) ∧ (L 0 = true → s 37 = .slice (some ⟨gh.e1, 0, none⟩) 0 0) ∧ (L 1 = true → s 38 = .pointer (some ⟨w.heap.size, 3, none⟩)) ∧ (L 2 = true → s 39 = .slice (some ⟨bt, ot, none⟩) nt ct) ∧ (L 3 = true → s 40 = .int .i64 k) ∧ (L 4 = true → s 41 = .slice (some ⟨bt, ot, none⟩) k ct) ∧ (L 5 = true → s 42 = .slice gh.A1 k gh.k1) ∧ (L 6 = true → s 43 = .agg #[.int .i64 x.num, .int .i64 x.vessel, .int .i64 x.after, .int .i64 x.fountain, .int .i64 x.lo, .int .i64 x.hi]) ∧ (L 7 = true → s 44 = .slice (some ⟨gh.e2, 0, none⟩) 1 1) ∧ (L 8 = true → s 45 = .slice gh.A2 (k + 1) gh.k2) ∧ (L 9 = true → s 46 = .pointer (some ⟨w.heap.size, 3, none⟩)) ∧ (L 10 = true → s 47 = .slice (some ⟨bt, ot, none⟩) nt ct) ∧ (L 11 = true → s 48 = .int .i64 k) ∧ (L 12 = true → s 49 = .slice (some ⟨bt, ot + k * 6, none⟩) (nt - k) (ct - k)) ∧ (L 13 = true → s 50 = .slice gh.A9 (nt + 1) gh.k9) ∧ (L 14 = true → s 51 = .pointer (some ⟨G6, 3, none⟩)) from ⟨g1, q1, a1, n1, a2, a9, r9, f0, f1, f2, f3, f4, f5, f6, f7, f8, f9, f10, f11, f12, f13, f14⟩)
        clear f14 f13 f12 f11 f10 f9 f8 f7 f6 f5 f4 f3 f2 f1 f0 r9 a9 a2 n1 a1 q1 g1 hd
        try simp only at e9 ⊢
        gi_wp2
        obtain ⟨g1, q1, a1, n1, a2, a9, r9, f0, f1, f2, f3, f4, f5, f6, f7, f8, f9, f10, f11, f12, f13, f14⟩ := HF.out
        exact hK (gh, (upd (upd s 46 (.pointer (some ⟨w.heap.size, 3, none⟩))) 47 (.slice (some ⟨bt, ot, none⟩) nt ct))) _ ⟨g1, q1, a1, n1, a2, a9, r9, f0, f1, f2, f3, f4, f5, f6, f7, f8, (fun _ => rfl), (fun _ => rfl), f11, f12, f13, f14⟩
       ·rintro L ⟨gh, s⟩ W hu hd hdn ⟨g1, q1, a1, n1, a2, a9, r9, f0, f1, f2, f3, f4, f5, f6, f7, f8, f9, f10, f11, f12, f13, f14⟩ K Q hK
        try dsimp only at g1 q1 a1 n1 a2 a9 r9 f0 f1 f2 f3 f4 f5 f6 f7 f8 f9 f10 f11 f12 f13 f14 ⊢
        have HF := Lib.hid (show (L 15 = false → Below V5.heap.size V5 W) ∧ (L 0 = true → L 5 = false → Own W V5.heap.size 65 6 (some ⟨gh.e1, 0, none⟩) 0 0 []) ∧ (L 5 = true → L 8 = false → Own W V5.heap.size 65 6 gh.A1 k gh.k1 ((m.tastes.take k).flatMap Tast.vals)) ∧ (L 7 = true → L 8 = false → Reads W W.heap.size 6 (some ⟨gh.e2, 0, none⟩) 1 x.vals) ∧ (L 8 = true → L 13 = false → Own W V5.heap.size 65 6 gh.A2 (k + 1) gh.k2 (((m.tastes.take k).flatMap Tast.vals) ++ x.vals)) ∧ (L 13 = true → L 15 = false → Own W V5.heap.size 65 6 gh.A9 (nt + 1) gh.k9 (((m.tastes.take k).flatMap Tast.vals) ++ (x.vals ++ ((m.tastes.drop k).flatMap Tast.vals)))) ∧ (L 15 = true → ∃ V, Below V5.heap.size V5 V ∧ Own V V5.heap.size 65 6 gh.A9 (nt + 1) gh.k9 (((m.tastes.take k).flatMap Tast.vals) ++ (x.vals ++ ((m.tastes.drop k).flatMap Tast.vals))) ∧ W = V.setCell ⟨G6, 3, none⟩ (.slice gh.A9 (nt + 1) gh.k9)) ∧ (L 0 = true → s 37 = .slice (some ⟨gh.e1, 0, none⟩) 0 0) ∧ (L 1 = true → s 38 = .pointer (some ⟨w.heap.size, 3, none⟩)) ∧ (L 2 = true → s 39 = .slice (some ⟨bt, ot, none⟩) nt ct) ∧ (L 3 = true → s 40 = .int .i64 k) ∧ (L 4 = true → s 41 = .slice (some ⟨bt, ot, none⟩) k ct) ∧ (L 5 = true → s 42 = .slice gh.A1 k gh.k1) ∧ (L 6 = true → s 43 = .agg #[.int .i64 x.num, .int .i64 x.vessel, .int .i64 x.after, .int .i64 x.fountain, .int .i64 x.lo, .int .i64 x.hi]) ∧ (L 7 = true → s 44 = .slice (some ⟨gh.e2, 0, none⟩) 1 1) ∧ (L 8 = true → s 45 = .slice gh.A2 (k + 1) gh.k2) ∧ (L 9 = true → s 46 = .pointer (some ⟨w.heap.size, 3, none⟩)) ∧ (L 10 = true → s 47 = .slice (some ⟨bt, ot, none⟩) nt ct) ∧ (L 11 = true → s 48 = .int .i64 k) ∧ (L 12 = true → s 49 = .slice (some ⟨bt, ot + k * 6, none⟩) (nt - k) (ct - k)) ∧ (L 13 = true → s 50 = .slice gh.A9 (nt + 1) gh.k9) ∧ (L 14 = true → s 51 = .pointer (some ⟨G6, 3, none⟩)) from ⟨g1, q1, a1, n1, a2, a9, r9, f0, f1, f2, f3, f4, f5, f6, f7, f8, f9, f10, f11, f12, f13, f14⟩)
        clear f14 f13 f12 f11 f10 f9 f8 f7 f6 f5 f4 f3 f2 f1 f0 r9 a9 a2 n1 a1 q1 g1 hd
        try simp only
        gi_wp2
        obtain ⟨g1, q1, a1, n1, a2, a9, r9, f0, f1, f2, f3, f4, f5, f6, f7, f8, f9, f10, f11, f12, f13, f14⟩ := HF.out
        exact hK (gh, (upd s 48 (.int .i64 k))) _ ⟨g1, q1, a1, n1, a2, a9, r9, f0, f1, f2, f3, f4, f5, f6, f7, f8, f9, f10, (fun _ => rfl), f12, f13, f14⟩
       ·rintro L ⟨gh, s⟩ W hu hd hdn ⟨g1, q1, a1, n1, a2, a9, r9, f0, f1, f2, f3, f4, f5, f6, f7, f8, f9, f10, f11, f12, f13, f14⟩ K Q hK
        try dsimp only at g1 q1 a1 n1 a2 a9 r9 f0 f1 f2 f3 f4 f5 f6 f7 f8 f9 f10 f11 f12 f13 f14 ⊢
        have e10 := f10 (hd.at_ 10 rfl)
        have e11 := f11 (hd.at_ 11 rfl)
        have hkc : (k : Int) ≤ (nt : Int) := by omega
        have hkc2 : k ≤ nt := by omega
        have hcm : ct ≤ 9223372036854775807 := by unfold maxLen at hcl; omega
        have hne : (ct = k) = False := by simp; omega
        have hne2 : ¬ (ct = k) := by omega
        have HF := Lib.hid (show (L 15 = false → Below V5.heap.size V5 W) ∧ (L 0 = true → L 5 = false → Own W V5.heap.size 65 6 (some ⟨gh.e1, 0, none⟩) 0 0 []) ∧ (L 5 = true → L 8 = false → Own W V5.heap.size 65 6 gh.A1 k gh.k1 ((m.tastes.take k).flatMap Tast.vals)) ∧ (L 7 = true → L 8 = false → Reads W W.heap.size 6 (some ⟨gh.e2, 0, none⟩) 1 x.vals) ∧ (L 8 = true → L 13 = false → Own W V5.heap.size 65 6 gh.A2 (k + 1) gh.k2 (((m.tastes.take k).flatMap Tast.vals) ++ x.vals)) ∧ (L 13 = true → L 15 = false → Own W V5.heap.size 65 6 gh.A9 (nt + 1) gh.k9 (((m.tastes.take k).flatMap Tast.vals) ++ (x.vals ++ ((m.tastes.drop k).flatMap Tast.vals)))) ∧ (L 15 = true → ∃ V, Below V5.heap.size V5 V ∧ Own V V5.heap.size 65 6 gh.A9 (nt + 1) gh.k9 (((m.tastes.take k).flatMap Tast.vals) ++ (x.vals ++ ((m.tastes.drop k).flatMap Tast.vals))) ∧ W = V.setCell ⟨G6, 3, none⟩ (.slice gh.A9 (nt + 1) gh.k9)) ∧ (L 0 = true → s 37 = .slice (some ⟨gh.e1, 0, none⟩) 0 0) ∧ (L 1 = true → s 38 = .pointer (some ⟨w.heap.size, 3, none⟩)) ∧ (L 2 = true → s 39 = .slice (some ⟨bt, ot, none⟩) nt ct) ∧ (L 3 = true → s 40 = .int .i64 k) ∧ (L 4 = true → s 41 = .slice (some ⟨bt, ot, none⟩) k ct) ∧ (L 5 = true → s 42 = .slice gh.A1 k gh.k1) ∧ (L 6 = true → s 43 = .agg #[.int .i64 x.num, .int .i64 x.vessel, .int .i64 x.after, .int .i64 x.fountain, .int .i64 x.lo, .int .i64 x.hi]) ∧ (L 7 = true → s 44 = .slice (some ⟨gh.e2, 0, none⟩) 1 1) ∧ (L 8 = true → s 45 = .slice gh.A2 (k + 1) gh.k2) ∧ (L 9 = true → s 46 = .pointer (some ⟨w.heap.size, 3, none⟩)) ∧ (L 10 = true → s 47 = .slice (some ⟨bt, ot, none⟩) nt ct) ∧ (L 11 = true → s 48 = .int .i64 k) ∧ (L 12 = true → s 49 = .slice (some ⟨bt, ot + k * 6, none⟩) (nt - k) (ct - k)) ∧ (L 13 = true → s 50 = .slice gh.A9 (nt + 1) gh.k9) ∧ (L 14 = true → s 51 = .pointer (some ⟨G6, 3, none⟩)) from ⟨g1, q1, a1, n1, a2, a9, r9, f0, f1, f2, f3, f4, f5, f6, f7, f8, f9, f10, f11, f12, f13, f14⟩)
        clear f14 f13 f12 f11 f10 f9 f8 f7 f6 f5 f4 f3 f2 f1 f0 r9 a9 a2 n1 a1 q1 g1 hd
        try simp only at e10 e11 ⊢
        gi_wp2
        obtain ⟨g1, q1, a1, n1, a2, a9, r9, f0, f1, f2, f3, f4, f5, f6, f7, f8, f9, f10, f11, f12, f13, f14⟩ := HF.out
        exact hK (gh, (upd (upd (upd s 47 (.slice (some ⟨bt, ot, none⟩) nt ct)) 48 (.int .i64 k)) 49 (.slice (some ⟨bt, ot + k * 6, none⟩) (nt - k) (ct - k)))) _ ⟨g1, q1, a1, n1, a2, a9, r9, f0, f1, f2, f3, f4, f5, f6, f7, f8, f9, (fun _ => rfl), (fun _ => rfl), (fun _ => rfl), f13, f14⟩
       ·rintro L ⟨gh, s⟩ W hu hd hdn ⟨g1, q1, a1, n1, a2, a9, r9, f0, f1, f2, f3, f4, f5, f6, f7, f8, f9, f10, f11, f12, f13, f14⟩ K Q hK
        try dsimp only at g1 q1 a1 n1 a2 a9 r9 f0 f1 f2 f3 f4 f5 f6 f7 f8 f9 f10 f11 f12 f13 f14 ⊢
        have e8 := f8 (hd.at_ 8 rfl)
        have e12 := f12 (hd.at_ 12 rfl)
        have h15 : L 15 = false := by
         cases hc : L 15 with
         | false => rfl
         | true => exact hdn.no 15 13 hc rfl hu
        have HE := Lib.hid (a2 (hd.at_ 8 rfl) hu)
        have HG1 := Lib.hid (g1 h15)
        have HSZ := Lib.hid (g1 h15).size
        have HD8 := Lib.hid (hd.at_ 8 rfl)
        have HD5 := Lib.hid (hdn.at_ 8 5 (hd.at_ 8 rfl) rfl)
        have HF := Lib.hid (show (L 15 = false → Below V5.heap.size V5 W) ∧ (L 0 = true → L 5 = false → Own W V5.heap.size 65 6 (some ⟨gh.e1, 0, none⟩) 0 0 []) ∧ (L 5 = true → L 8 = false → Own W V5.heap.size 65 6 gh.A1 k gh.k1 ((m.tastes.take k).flatMap Tast.vals)) ∧ (L 7 = true → L 8 = false → Reads W W.heap.size 6 (some ⟨gh.e2, 0, none⟩) 1 x.vals) ∧ (L 8 = true → L 13 = false → Own W V5.heap.size 65 6 gh.A2 (k + 1) gh.k2 (((m.tastes.take k).flatMap Tast.vals) ++ x.vals)) ∧ (L 13 = true → L 15 = false → Own W V5.heap.size 65 6 gh.A9 (nt + 1) gh.k9 (((m.tastes.take k).flatMap Tast.vals) ++ (x.vals ++ ((m.tastes.drop k).flatMap Tast.vals)))) ∧ (L 15 = true → ∃ V, Below V5.heap.size V5 V ∧ Own V V5.heap.size 65 6 gh.A9 (nt + 1) gh.k9 (((m.tastes.take k).flatMap Tast.vals) ++ (x.vals ++ ((m.tastes.drop k).flatMap Tast.vals))) ∧ W = V.setCell ⟨G6, 3, none⟩ (.slice gh.A9 (nt + 1) gh.k9)) ∧ (L 0 = true → s 37 = .slice (some ⟨gh.e1, 0, none⟩) 0 0) ∧ (L 1 = true → s 38 = .pointer (some ⟨w.heap.size, 3, none⟩)) ∧ (L 2 = true → s 39 = .slice (some ⟨bt, ot, none⟩) nt ct) ∧ (L 3 = true → s 40 = .int .i64 k) ∧ (L 4 = true → s 41 = .slice (some ⟨bt, ot, none⟩) k ct) ∧ (L 5 = true → s 42 = .slice gh.A1 k gh.k1) ∧ (L 6 = true → s 43 = .agg #[.int .i64 x.num, .int .i64 x.vessel, .int .i64 x.after, .int .i64 x.fountain, .int .i64 x.lo, .int .i64 x.hi]) ∧ (L 7 = true → s 44 = .slice (some ⟨gh.e2, 0, none⟩) 1 1) ∧ (L 8 = true → s 45 = .slice gh.A2 (k + 1) gh.k2) ∧ (L 9 = true → s 46 = .pointer (some ⟨w.heap.size, 3, none⟩)) ∧ (L 10 = true → s 47 = .slice (some ⟨bt, ot, none⟩) nt ct) ∧ (L 11 = true → s 48 = .int .i64 k) ∧ (L 12 = true → s 49 = .slice (some ⟨bt, ot + k * 6, none⟩) (nt - k) (ct - k)) ∧ (L 13 = true → s 50 = .slice gh.A9 (nt + 1) gh.k9) ∧ (L 14 = true → s 51 = .pointer (some ⟨G6, 3, none⟩)) from ⟨g1, q1, a1, n1, a2, a9, r9, f0, f1, f2, f3, f4, f5, f6, f7, f8, f9, f10, f11, f12, f13, f14⟩)
        clear f14 f13 f12 f11 f10 f9 f8 f7 f6 f5 f4 f3 f2 f1 f0 r9 a9 a2 n1 a1 q1 g1 hd
        try simp only at e8 e12 ⊢
        have hrd := reads_hi (k := k) (c := ct) ((HM.out.up (HLay.out.below HG1.out).1).at_.tastes) hk hcl.1
        rw [← flat_drop tast_k, HHI.out] at hrd
        have HRD := Lib.hid hrd
        clear hrd
        gi_wp2_with (first | (gi_at_builtin; refine wpListIn_append_any rfl (.tmp 45) (.tmp 49) (by rfl) elem_tast e8 HE.out e12 HRD.out (tast_one _) (by unfold maxLen; omega) (by omega) HSZ.out ?_) | fail)
        rintro AN cN W1 hO hg hA
        rw [HKN.out] at hO ⊢
        gi_wp2
        obtain ⟨g1, q1, a1, n1, a2, a9, r9, f0, f1, f2, f3, f4, f5, f6, f7, f8, f9, f10, f11, f12, f13, f14⟩ := HF.out
        have hgb : Below V5.heap.size V5 W1 := (g1 h15).grown hg (g1 h15).size (fun k hk => (own_row HE.out k hk).1)
        exact hK ({ gh with A9 := AN, k9 := cN }, (upd (upd (upd s 45 (.slice gh.A2 (k + 1) gh.k2)) 49 (.slice (some ⟨bt, ot + k * 6, none⟩) (nt - k) (ct - k))) 50 (.slice AN (nt + 1) cN))) _ ⟨(fun _ => hgb), (fun _ h => absurd (HD5.out.symm.trans h) (by decide)), (fun _ h => absurd (HD8.out.symm.trans h) (by decide)), (fun _ h => absurd (HD8.out.symm.trans h) (by decide)), (fun _ h => by cases h), (fun _ _ => hO), (fun h => absurd (h15.symm.trans h) (by decide)), f0, f1, f2, f3, f4, f5, f6, f7, (fun _ => rfl), f9, f10, f11, (fun _ => rfl), (fun _ => rfl), f14⟩
       ·rintro L ⟨gh, s⟩ W hu hd hdn ⟨g1, q1, a1, n1, a2, a9, r9, f0, f1, f2, f3, f4, f5, f6, f7, f8, f9, f10, f11, f12, f13, f14⟩ K Q hK
        try dsimp only at g1 q1 a1 n1 a2 a9 r9 f0 f1 f2 f3 f4 f5 f6 f7 f8 f9 f10 f11 f12 f13 f14 ⊢
        have tlx := HLay.out.lt 3 rfl
        have HF := Lib.hid (show (L 15 = false → Below V5.heap.size V5 W) ∧ (L 0 = true → L 5 = false → Own W V5.heap.size 65 6 (some ⟨gh.e1, 0, none⟩) 0 0 []) ∧ (L 5 = true → L 8 = false → Own W V5.heap.size 65 6 gh.A1 k gh.k1 ((m.tastes.take k).flatMap Tast.vals)) ∧ (L 7 = true → L 8 = false → Reads W W.heap.size 6 (some ⟨gh.e2, 0, none⟩) 1 x.vals) ∧ (L 8 = true → L 13 = false → Own W V5.heap.size 65 6 gh.A2 (k + 1) gh.k2 (((m.tastes.take k).flatMap Tast.vals) ++ x.vals)) ∧ (L 13 = true → L 15 = false → Own W V5.heap.size 65 6 gh.A9 (nt + 1) gh.k9 (((m.tastes.take k).flatMap Tast.vals) ++ (x.vals ++ ((m.tastes.drop k).flatMap Tast.vals)))) ∧ (L 15 = true → ∃ V, Below V5.heap.size V5 V ∧ Own V V5.heap.size 65 6 gh.A9 (nt + 1) gh.k9 (((m.tastes.take k).flatMap Tast.vals) ++ (x.vals ++ ((m.tastes.drop k).flatMap Tast.vals))) ∧ W = V.setCell ⟨G6, 3, none⟩ (.slice gh.A9 (nt + 1) gh.k9)) ∧ (L 0 = true → s 37 = .slice (some ⟨gh.e1, 0, none⟩) 0 0) ∧ (L 1 = true → s 38 = .pointer (some ⟨w.heap.size, 3, none⟩)) ∧ (L 2 = true → s 39 = .slice (some ⟨bt, ot, none⟩) nt ct) ∧ (L 3 = true → s 40 = .int .i64 k) ∧ (L 4 = true → s 41 = .slice (some ⟨bt, ot, none⟩) k ct) ∧ (L 5 = true → s 42 = .slice gh.A1 k gh.k1) ∧ (L 6 = true → s 43 = .agg #[.int .i64 x.num, .int .i64 x.vessel, .int .i64 x.after, .int .i64 x.fountain, .int .i64 x.lo, .int .i64 x.hi]) ∧ (L 7 = true → s 44 = .slice (some ⟨gh.e2, 0, none⟩) 1 1) ∧ (L 8 = true → s 45 = .slice gh.A2 (k + 1) gh.k2) ∧ (L 9 = true → s 46 = .pointer (some ⟨w.heap.size, 3, none⟩)) ∧ (L 10 = true → s 47 = .slice (some ⟨bt, ot, none⟩) nt ct) ∧ (L 11 = true → s 48 = .int .i64 k) ∧ (L 12 = true → s 49 = .slice (some ⟨bt, ot + k * 6, none⟩) (nt - k) (ct - k)) ∧ (L 13 = true → s 50 = .slice gh.A9 (nt + 1) gh.k9) ∧ (L 14 = true → s 51 = .pointer (some ⟨G6, 3, none⟩)) from ⟨g1, q1, a1, n1, a2, a9, r9, f0, f1, f2, f3, f4, f5, f6, f7, f8, f9, f10, f11, f12, f13, f14⟩)
        clear f14 f13 f12 f11 f10 f9 f8 f7 f6 f5 f4 f3 f2 f1 f0 r9 a9 a2 n1 a1 q1 g1 hd
        try simp only
        gi_wp2
        obtain ⟨g1, q1, a1, n1, a2, a9, r9, f0, f1, f2, f3, f4, f5, f6, f7, f8, f9, f10, f11, f12, f13, f14⟩ := HF.out
        exact hK (gh, (upd s 51 (.pointer (some ⟨G6, 3, none⟩)))) _ ⟨g1, q1, a1, n1, a2, a9, r9, f0, f1, f2, f3, f4, f5, f6, f7, f8, f9, f10, f11, f12, f13, (fun _ => rfl)⟩
       ·rintro L ⟨gh, s⟩ W hu hd hdn ⟨g1, q1, a1, n1, a2, a9, r9, f0, f1, f2, f3, f4, f5, f6, f7, f8, f9, f10, f11, f12, f13, f14⟩ K Q hK
        try dsimp only at g1 q1 a1 n1 a2 a9 r9 f0 f1 f2 f3 f4 f5 f6 f7 f8 f9 f10 f11 f12 f13 f14 ⊢
        have e14 := f14 (hd.at_ 14 rfl)
        have e13 := f13 (hd.at_ 13 rfl)
        have MB := (HLay.out.below (g1 hu)).blk 3 rfl
        have y3 := MB.cell 3
        have z3 := MB.frozen 3
        have tlx := MB.lt
        clear MB
        have HV := Lib.hid (And.intro (g1 hu) (a9 (hd.at_ 13 rfl) hu))
        have HD5 := Lib.hid (hd.at_ 5 rfl)
        have HD8 := Lib.hid (hd.at_ 8 rfl)
        have HD13 := Lib.hid (hd.at_ 13 rfl)
        have HF := Lib.hid (show (L 15 = false → Below V5.heap.size V5 W) ∧ (L 0 = true → L 5 = false → Own W V5.heap.size 65 6 (some ⟨gh.e1, 0, none⟩) 0 0 []) ∧ (L 5 = true → L 8 = false → Own W V5.heap.size 65 6 gh.A1 k gh.k1 ((m.tastes.take k).flatMap Tast.vals)) ∧ (L 7 = true → L 8 = false → Reads W W.heap.size 6 (some ⟨gh.e2, 0, none⟩) 1 x.vals) ∧ (L 8 = true → L 13 = false → Own W V5.heap.size 65 6 gh.A2 (k + 1) gh.k2 (((m.tastes.take k).flatMap Tast.vals) ++ x.vals)) ∧ (L 13 = true → L 15 = false → Own W V5.heap.size 65 6 gh.A9 (nt + 1) gh.k9 (((m.tastes.take k).flatMap Tast.vals) ++ (x.vals ++ ((m.tastes.drop k).flatMap Tast.vals)))) ∧ (L 15 = true → ∃ V, Below V5.heap.size V5 V ∧ Own V V5.heap.size 65 6 gh.A9 (nt + 1) gh.k9 (((m.tastes.take k).flatMap Tast.vals) ++ (x.vals ++ ((m.tastes.drop k).flatMap Tast.vals))) ∧ W = V.setCell ⟨G6, 3, none⟩ (.slice gh.A9 (nt + 1) gh.k9)) ∧ (L 0 = true → s 37 = .slice (some ⟨gh.e1, 0, none⟩) 0 0) ∧ (L 1 = true → s 38 = .pointer (some ⟨w.heap.size, 3, none⟩)) ∧ (L 2 = true → s 39 = .slice (some ⟨bt, ot, none⟩) nt ct) ∧ (L 3 = true → s 40 = .int .i64 k) ∧ (L 4 = true → s 41 = .slice (some ⟨bt, ot, none⟩) k ct) ∧ (L 5 = true → s 42 = .slice gh.A1 k gh.k1) ∧ (L 6 = true → s 43 = .agg #[.int .i64 x.num, .int .i64 x.vessel, .int .i64 x.after, .int .i64 x.fountain, .int .i64 x.lo, .int .i64 x.hi]) ∧ (L 7 = true → s 44 = .slice (some ⟨gh.e2, 0, none⟩) 1 1) ∧ (L 8 = true → s 45 = .slice gh.A2 (k + 1) gh.k2) ∧ (L 9 = true → s 46 = .pointer (some ⟨w.heap.size, 3, none⟩)) ∧ (L 10 = true → s 47 = .slice (some ⟨bt, ot, none⟩) nt ct) ∧ (L 11 = true → s 48 = .int .i64 k) ∧ (L 12 = true → s 49 = .slice (some ⟨bt, ot + k * 6, none⟩) (nt - k) (ct - k)) ∧ (L 13 = true → s 50 = .slice gh.A9 (nt + 1) gh.k9) ∧ (L 14 = true → s 51 = .pointer (some ⟨G6, 3, none⟩)) from ⟨g1, q1, a1, n1, a2, a9, r9, f0, f1, f2, f3, f4, f5, f6, f7, f8, f9, f10, f11, f12, f13, f14⟩)
        clear f14 f13 f12 f11 f10 f9 f8 f7 f6 f5 f4 f3 f2 f1 f0 r9 a9 a2 n1 a1 q1 g1 hd
        try simp only at e14 e13 ⊢
        gi_wp2
        obtain ⟨g1, q1, a1, n1, a2, a9, r9, f0, f1, f2, f3, f4, f5, f6, f7, f8, f9, f10, f11, f12, f13, f14⟩ := HF.out
        exact hK (gh, (upd (upd s 51 (.pointer (some ⟨G6, 3, none⟩))) 50 (.slice gh.A9 (nt + 1) gh.k9))) _ ⟨(fun h => by cases h), (fun _ h => absurd (HD5.out.symm.trans h) (by decide)), (fun _ h => absurd (HD8.out.symm.trans h) (by decide)), (fun _ h => absurd (HD8.out.symm.trans h) (by decide)), (fun _ h => absurd (HD13.out.symm.trans h) (by decide)), (fun _ h => by cases h), (fun _ => ⟨W, HV.out.1, HV.out.2, rfl⟩), f0, f1, f2, f3, f4, f5, f6, f7, f8, f9, f10, f11, f12, (fun _ => rfl), (fun _ => rfl)⟩
      ·rintro L ⟨gh, s⟩ W hall ⟨g1, q1, a1, n1, a2, a9, r9, f0, f1, f2, f3, f4, f5, f6, f7, f8, f9, f10, f11, f12, f13, f14⟩
       obtain ⟨V, hB, hO, rfl⟩ := r9 (hall 15 (by decide))
       clear f14 f13 f12 f11 f10 f9 f8 f7 f6 f5 f4 f3 f2 f1 f0 r9 a9 a2 n1 a1 q1 g1 hall
       simp only
       obtain ⟨ea, eb, A7, k7, A8, k8, A9, c9⟩ := gh
       dsimp only at hO ⊢
       have hwv : W3.heap.size ≤ V5.heap.size := by have := HWW.out; have := HG_.out; have := HLay.out.lt 3 rfl; omega
       have HMO2 := Lib.hid (HMO.out.tasts (l := (insT m.tastes x)) hB (by rw [HSP.out, List.flatMap_append, List.flatMap_append]; simpa using hO) hwv)
       replace HLay := Lib.hid (HLay.out.below hB)
       clear hO hB hwv
       have hne : ∀ b ∈ ([(w.heap.size, 26, #[.int .i64 m.fountains, .slice Av nv cv, .slice Aa na ca, .slice (some ⟨bt, ot, none⟩) nt ct]), (w.heap.size + 1, 65, #[.int .i64 x.num, .int .i64 x.vessel, .int .i64 x.after, .int .i64 x.fountain, .int .i64 x.lo, .int .i64 x.hi]), (w.heap.size + 1 + 1, 26, #[.int .i64 0, .slice none 0 0, .slice none 0 0, .slice none 0 0])] : List (Nat × TypeId × Array Value)), b.1 ≠ G6 := fun b hb => by
        have := HWW.out; have := HG_.out; have := HBLL.out
        simp only [List.mem_cons, List.not_mem_nil, or_false] at hb
        rcases hb with rfl | rfl | rfl <;> dsimp only <;> omega
       have hgs := grown_setCell (row := some G6) (grown_refl V _) (p := ⟨G6, 3, none⟩) (.inl rfl) (.slice A9 (nt + 1) c9)
       have HMO3 := Lib.hid (HMO2.out.offB (HLay.out.blk 3 rfl) hgs)
       have hl := Lay.setLast HLay.out hne 3 (.slice A9 (nt + 1) c9)
       generalize V.setCell ⟨G6, 3, none⟩ (.slice A9 (nt + 1) c9) = V7 at *
       replace HLay := Lib.hid (show Lay w V7 [(w.heap.size, 26, #[.int .i64 m.fountains, .slice Av nv cv, .slice Aa na ca, .slice (some ⟨bt, ot, none⟩) nt ct]), (w.heap.size + 1, 65, #[.int .i64 x.num, .int .i64 x.vessel, .int .i64 x.after, .int .i64 x.fountain, .int .i64 x.lo, .int .i64 x.hi]), (w.heap.size + 1 + 1, 26, #[.int .i64 0, .slice none 0 0, .slice none 0 0, .slice none 0 0]), (G6, 26, #[.int .i64 m.fountains, .slice A1 nv c1, .slice A2 na c2, .slice A9 (nt + 1) c9])] from hl)
       replace HMO := HMO3
       clear hgs hl HMO2 HMO3 hne
       have x3_0 := (HLay.out.blk 3 rfl).cell 0
       have x3_1 := (HLay.out.blk 3 rfl).cell 1
       have x3_2 := (HLay.out.blk 3 rfl).cell 2
       have x3_3 := (HLay.out.blk 3 rfl).cell 3
       have l3_ := HLay.out.lt 3 rfl
       gi_wp2
       clear x3_0 x3_1 x3_2 x3_3 l3_
       refine ⟨trivial, (callsIn_wide.2 (rmix_any A1 nv c1 A2 na c2 A9 (nt + 1) c9 (withT m (insT m.tastes x)) V7 (HMO.out.s hnv (by omega) (by omega)))).mono ?_⟩
       rintro e W8 ⟨rfl, hb⟩
       have HBC := Lib.hid hb
       replace HLay := Lib.hid (HLay.out.below hb)
       clear hb
       cases hk : okMix (withT m (insT m.tastes x)) with
       | false =>
        replace HF : Hid (putM m x = (zeroMix, 42)) := Lib.hid (by rw [HF.out, hk]; rfl)
        clear hk HMO
        have x2_0 := (HLay.out.blk 2 rfl).cell 0
        have z2_0 := (HLay.out.blk 2 rfl).frozen 0
        have x2_1 := (HLay.out.blk 2 rfl).cell 1
        have z2_1 := (HLay.out.blk 2 rfl).frozen 1
        have x2_2 := (HLay.out.blk 2 rfl).cell 2
        have z2_2 := (HLay.out.blk 2 rfl).frozen 2
        have x2_3 := (HLay.out.blk 2 rfl).cell 3
        have z2_3 := (HLay.out.blk 2 rfl).frozen 3
        have l2_ := HLay.out.lt 2 rfl
        gi_wp2
        have R4 := ret4' (HLay.out.blk 2 rfl) HLay.out.1 (HLay.out.ge 2 rfl) (.int .i64 0) (.slice none 0 0) (.slice none 0 0) (.slice none 0 0)
        have v0 := R4.1.cell 0
        have v1 := R4.1.cell 1
        have v2 := R4.1.cell 2
        have v3 := R4.1.cell 3
        refine bodyPost_ret (v := .tuple #[.agg #[.int .i64 0, .slice none 0 0, .slice none 0 0, .slice none 0 0], .int .i64 42]) (by simp [results, Try.results32, go_sem, v0, v1, v2, v3]) rfl ?_
        rw [HF.out]
        exact ⟨none, 0, 0, none, 0, 0, none, 0, 0, rfl, MixS.nothing _, R4.2.1⟩
       | true =>
        replace HF : Hid (putM m x = ((withT m (insT m.tastes x)), 0)) := Lib.hid (by rw [HF.out, hk]; rfl)
        replace HMO := Lib.hid (HMO.out.below HBC.out)
        clear hk
        have x3_0 := (HLay.out.blk 3 rfl).cell 0
        have x3_1 := (HLay.out.blk 3 rfl).cell 1
        have x3_2 := (HLay.out.blk 3 rfl).cell 2
        have x3_3 := (HLay.out.blk 3 rfl).cell 3
        have l3_ := HLay.out.lt 3 rfl
        have r0 := (HLay.out.blk 2 rfl).cell 0
        have rz0 := (HLay.out.blk 2 rfl).frozen 0
        have r1 := (HLay.out.blk 2 rfl).cell 1
        have rz1 := (HLay.out.blk 2 rfl).frozen 1
        have r2 := (HLay.out.blk 2 rfl).cell 2
        have rz2 := (HLay.out.blk 2 rfl).frozen 2
        have r3 := (HLay.out.blk 2 rfl).cell 3
        have rz3 := (HLay.out.blk 2 rfl).frozen 3
        have rl := HLay.out.lt 2 rfl
        gi_wp2
        have R4 := ret4' (HLay.out.blk 2 rfl) HLay.out.1 (HLay.out.ge 2 rfl) (.int .i64 m.fountains) (.slice A1 nv c1) (.slice A2 na c2) (.slice A9 (nt + 1) c9)
        have v0 := R4.1.cell 0
        have v1 := R4.1.cell 1
        have v2 := R4.1.cell 2
        have v3 := R4.1.cell 3
        refine bodyPost_ret (v := .tuple #[.agg #[.int .i64 m.fountains, .slice A1 nv c1, .slice A2 na c2, .slice A9 (nt + 1) c9], .int .i64 0]) (by simp [results, Try.results32, go_sem, v0, v1, v2, v3]) rfl ?_
        rw [HF.out]
        exact ⟨_, _, _, _, _, _, _, _, _, rfl, (HMO.out.offB (HLay.out.blk 2 rfl) R4.2.2).s (by omega) (by omega) (by omega), R4.2.1⟩
    ·
     have hkI : decide ((k : Int) < (nt : Int)) = false := decide_eq_false (by omega)
     have hyI := HLT.out
     have HSP := Lib.hid (ins_split (x := x) HALL.out (fun z hz => absurd (List.getElem?_eq_some_iff.1 hz).1 (by omega)))
     clear hkI hyI
     gi_wp2
     refine wpIn_flow_old [] [true, true, true, true, true, true, true, true, true, true, true, true, true, true, true, true] [] (by kernel_rfl) (by kernel_rfl) (by kernel_rfl) (below_drewN (Below.refl _ _) 1) ?_
     refine wpFlow_nil (A := ?AF3) ?hq3 ?_
     case hq3 =>
      rintro σ hσ of hof hcl
      have HOF := Lib.hid hof
      have HCL := Lib.hid hcl
      clear hof hcl
      have c0_ : ∀ z, (of z).cell? ⟨w.heap.size, 3, none⟩ = some (.slice At nt ct) := fun z => ((HLay.out.below (HOF.out z)).blk 0 rfl).cell 3
      have c1_ : ∀ z, (of z).cell? ⟨w.heap.size + 1, 0, none⟩ = some (.int .i64 x.num) := fun z => ((HLay.out.below (HOF.out z)).blk 1 rfl).cell 0
      have hfw : ∀ f, Fence.wide.fn f := fun _ => trivial
      have hkI : decide ((k : Int) < (nt : Int)) = false := decide_eq_false (by omega)
      simp only [pickB]
      repeat (gi_big_quiet_step (fail))
      refine wpQuietIn_nil ?_
      exact rfl
     intro W9 hW
     replace HLay := Lib.hid (HLay.out.below hW)
     clear hW
     simp only [pickB]
     refine wpT_nil ?_
     have x0_0 := (HLay.out.blk 0 rfl).cell 0
     have x0_1 := (HLay.out.blk 0 rfl).cell 1
     have x0_2 := (HLay.out.blk 0 rfl).cell 2
     have x0_3 := (HLay.out.blk 0 rfl).cell 3
     have l0_ := HLay.out.lt 0 rfl
     gi_wp2
     clear x0_0 x0_1 x0_2 x0_3 l0_
     have HBS := Lib.hid (HLay.out.1.size)
     have HBLL := Lib.hid (HLay.out.lt 2 rfl)
     refine ⟨trivial, (callsIn_wide.2 (callsIn_wide.1 (twin_in Av nv cv Aa na ca At nt ct m W9 (HM.out.up HLay.out.1)))).mono ?_⟩
     rintro e W10 ⟨A1, c1, A2, c2, A3, c3, rfl, hmo, hb⟩
     have HWW := Lib.hid hb.size
     replace HLay := Lib.hid (HLay.out.below hb)
     clear hb
     have HMO := Lib.hid hmo
     clear hmo
     gi_upto_region 9 with fail
     obtain ⟨V11, hV⟩ : ∃ V, (W10.alloc (.cells #[.int .i64 m.fountains, .slice A1 nv c1, .slice A2 na c2, .slice A3 nt c3] 26)) = V := ⟨_, rfl⟩
     rw [hV]
     have hb := fbox_bel hV
     have hnew := fbox_blk hV
     have hge := HLay.out.bel.size
     replace HLay := Lib.hid (HLay.out.below hb)
     replace HMO := Lib.hid (HMO.out.below hb)
     replace HLay := Lib.hid (HLay.out.add hge hnew)
     clear hnew hge hb hV
     obtain ⟨G12, hG⟩ : ∃ g, W10.heap.size = g := ⟨_, rfl⟩
     rw [hG] at HLay ⊢
     have HG_ := Lib.hid hG
     clear hG
     have HKN : Hid (k + 1 + (nt - k) = nt + 1) := Lib.hid (by omega)
     by_cases hck : ct = k
     ·
      have HHI : Hid ((if ct = k then At else Option.map (fun x => x.add (k * 6)) At) = At) := Lib.hid (by rw [if_pos hck])
      have HCK := Lib.hid hck
      clear hck
      refine wpIn_region_stepsD (by kernel_rfl) (by kernel_rfl) (fun σ : RpGh × (Nat → Value) => { tmps := #[.agg #[.int .i64 m.fountains, .slice Av nv cv, .slice Aa na ca, .slice At nt ct], .agg #[.int .i64 x.num, .int .i64 x.vessel, .int .i64 x.after, .int .i64 x.fountain, .int .i64 x.lo, .int .i64 x.hi], .pointer (some ⟨w.heap.size, 0, none⟩), .pointer (some ⟨w.heap.size + 1, 0, none⟩), .pointer (some ⟨w.heap.size + 1 + 1, 0, none⟩), .int .i64 0, .int .i64 k, .pointer (some ⟨G12, 0, none⟩), .agg #[.int .i64 m.fountains, .slice Av nv cv, .slice Aa na ca, .slice At nt ct], .bool true, .bool false, undef, .pointer (some ⟨w.heap.size, 3, none⟩), .slice At nt ct, .int .i64 nt, .bool false, undef, .int .i64 k, .pointer (some ⟨w.heap.size, 3, none⟩), .slice At nt ct, .int .i64 nt, .bool false, .bool false, undef, undef, undef, undef, undef, undef, undef, undef, undef, .bool false, u33, u34, .agg #[.int .i64 m.fountains, .slice Av nv cv, .slice Aa na ca, .slice At nt ct], .agg #[.int .i64 m.fountains, .slice A1 nv c1, .slice A2 na c2, .slice A3 nt c3], σ.2 37, σ.2 38, σ.2 39, σ.2 40, σ.2 41, σ.2 42, σ.2 43, σ.2 44, σ.2 45, σ.2 46, σ.2 47, σ.2 48, σ.2 49, σ.2 50, σ.2 51, undef, undef, undef, undef, undef], defers := [] })
       (fun L σ W => (L 15 = false → Below V11.heap.size V11 W) ∧ (L 0 = true → L 5 = false → Own W V11.heap.size 65 6 (some ⟨σ.1.e1, 0, none⟩) 0 0 []) ∧ (L 5 = true → L 8 = false → Own W V11.heap.size 65 6 σ.1.A1 k σ.1.k1 ((m.tastes.take k).flatMap Tast.vals)) ∧ (L 7 = true → L 8 = false → Reads W W.heap.size 6 (some ⟨σ.1.e2, 0, none⟩) 1 x.vals) ∧ (L 8 = true → L 13 = false → Own W V11.heap.size 65 6 σ.1.A2 (k + 1) σ.1.k2 (((m.tastes.take k).flatMap Tast.vals) ++ x.vals)) ∧ (L 13 = true → L 15 = false → Own W V11.heap.size 65 6 σ.1.A9 (nt + 1) σ.1.k9 (((m.tastes.take k).flatMap Tast.vals) ++ (x.vals ++ ((m.tastes.drop k).flatMap Tast.vals)))) ∧ (L 15 = true → ∃ V, Below V11.heap.size V11 V ∧ Own V V11.heap.size 65 6 σ.1.A9 (nt + 1) σ.1.k9 (((m.tastes.take k).flatMap Tast.vals) ++ (x.vals ++ ((m.tastes.drop k).flatMap Tast.vals))) ∧ W = V.setCell ⟨G12, 3, none⟩ (.slice σ.1.A9 (nt + 1) σ.1.k9)) ∧ (L 0 = true → σ.2 37 = .slice (some ⟨σ.1.e1, 0, none⟩) 0 0) ∧ (L 1 = true → σ.2 38 = .pointer (some ⟨w.heap.size, 3, none⟩)) ∧ (L 2 = true → σ.2 39 = .slice At nt ct) ∧ (L 3 = true → σ.2 40 = .int .i64 k) ∧ (L 4 = true → σ.2 41 = .slice At k ct) ∧ (L 5 = true → σ.2 42 = .slice σ.1.A1 k σ.1.k1) ∧ (L 6 = true → σ.2 43 = .agg #[.int .i64 x.num, .int .i64 x.vessel, .int .i64 x.after, .int .i64 x.fountain, .int .i64 x.lo, .int .i64 x.hi]) ∧ (L 7 = true → σ.2 44 = .slice (some ⟨σ.1.e2, 0, none⟩) 1 1) ∧ (L 8 = true → σ.2 45 = .slice σ.1.A2 (k + 1) σ.1.k2) ∧ (L 9 = true → σ.2 46 = .pointer (some ⟨w.heap.size, 3, none⟩)) ∧ (L 10 = true → σ.2 47 = .slice At nt ct) ∧ (L 11 = true → σ.2 48 = .int .i64 k) ∧ (L 12 = true → σ.2 49 = .slice (At) (nt - k) (ct - k)) ∧ (L 13 = true → σ.2 50 = .slice σ.1.A9 (nt + 1) σ.1.k9) ∧ (L 14 = true → σ.2 51 = .pointer (some ⟨G12, 3, none⟩)))
       (⟨0, 0, none, 0, none, 0, none, 0⟩, fun k => undef) rfl ?_ ?_ ?_
      ·exact ⟨(fun _ => below_drewN (Below.refl _ _) 1), (fun h => by cases h), (fun h => by cases h), (fun h => by cases h), (fun h => by cases h), (fun h => by cases h), (fun h => by cases h), (fun h => by cases h), (fun h => by cases h), (fun h => by cases h), (fun h => by cases h), (fun h => by cases h), (fun h => by cases h), (fun h => by cases h), (fun h => by cases h), (fun h => by cases h), (fun h => by cases h), (fun h => by cases h), (fun h => by cases h), (fun h => by cases h), (fun h => by cases h), (fun h => by cases h)⟩
      ·refine ⟨?_, ?_, ?_, ?_, ?_, ?_, ?_, ?_, ?_, ?_, ?_, ?_, ?_, ?_, ?_, ?_, trivial⟩
       ·rintro L ⟨gh, s⟩ W hu hd hdn ⟨g1, q1, a1, n1, a2, a9, r9, f0, f1, f2, f3, f4, f5, f6, f7, f8, f9, f10, f11, f12, f13, f14⟩ K Q hK
        try dsimp only at g1 q1 a1 n1 a2 a9 r9 f0 f1 f2 f3 f4 f5 f6 f7 f8 f9 f10 f11 f12 f13 f14 ⊢
        have h15 : L 15 = false := by
         cases hc : L 15 with
         | false => rfl
         | true => exact hdn.no 15 0 hc rfl hu
        have HSZ := Lib.hid (g1 h15).size
        have HF := Lib.hid (show (L 15 = false → Below V11.heap.size V11 W) ∧ (L 0 = true → L 5 = false → Own W V11.heap.size 65 6 (some ⟨gh.e1, 0, none⟩) 0 0 []) ∧ (L 5 = true → L 8 = false → Own W V11.heap.size 65 6 gh.A1 k gh.k1 ((m.tastes.take k).flatMap Tast.vals)) ∧ (L 7 = true → L 8 = false → Reads W W.heap.size 6 (some ⟨gh.e2, 0, none⟩) 1 x.vals) ∧ (L 8 = true → L 13 = false → Own W V11.heap.size 65 6 gh.A2 (k + 1) gh.k2 (((m.tastes.take k).flatMap Tast.vals) ++ x.vals)) ∧ (L 13 = true → L 15 = false → Own W V11.heap.size 65 6 gh.A9 (nt + 1) gh.k9 (((m.tastes.take k).flatMap Tast.vals) ++ (x.vals ++ ((m.tastes.drop k).flatMap Tast.vals)))) ∧ (L 15 = true → ∃ V, Below V11.heap.size V11 V ∧ Own V V11.heap.size 65 6 gh.A9 (nt + 1) gh.k9 (((m.tastes.take k).flatMap Tast.vals) ++ (x.vals ++ ((m.tastes.drop k).flatMap Tast.vals))) ∧ W = V.setCell ⟨G12, 3, none⟩ (.slice gh.A9 (nt + 1) gh.k9)) ∧ (L 0 = true → s 37 = .slice (some ⟨gh.e1, 0, none⟩) 0 0) ∧ (L 1 = true → s 38 = .pointer (some ⟨w.heap.size, 3, none⟩)) ∧ (L 2 = true → s 39 = .slice At nt ct) ∧ (L 3 = true → s 40 = .int .i64 k) ∧ (L 4 = true → s 41 = .slice At k ct) ∧ (L 5 = true → s 42 = .slice gh.A1 k gh.k1) ∧ (L 6 = true → s 43 = .agg #[.int .i64 x.num, .int .i64 x.vessel, .int .i64 x.after, .int .i64 x.fountain, .int .i64 x.lo, .int .i64 x.hi]) ∧ (L 7 = true → s 44 = .slice (some ⟨gh.e2, 0, none⟩) 1 1) ∧ (L 8 = true → s 45 = .slice gh.A2 (k + 1) gh.k2) ∧ (L 9 = true → s 46 = .pointer (some ⟨w.heap.size, 3, none⟩)) ∧ (L 10 = true → s 47 = .slice At nt ct) ∧ (L 11 = true → s 48 = .int .i64 k) ∧ (L 12 = true → s 49 = .slice (At) (nt - k) (ct - k)) ∧ (L 13 = true → s 50 = .slice gh.A9 (nt + 1) gh.k9) ∧ (L 14 = true → s 51 = .pointer (some ⟨G12, 3, none⟩)) from ⟨g1, q1, a1, n1, a2, a9, r9, f0, f1, f2, f3, f4, f5, f6, f7, f8, f9, f10, f11, f12, f13, f14⟩)
        clear f14 f13 f12 f11 f10 f9 f8 f7 f6 f5 f4 f3 f2 f1 f0 r9 a9 a2 n1 a1 q1 g1 hd
        try simp only
        gi_wp2
        obtain ⟨g1, q1, a1, n1, a2, a9, r9, f0, f1, f2, f3, f4, f5, f6, f7, f8, f9, f10, f11, f12, f13, f14⟩ := HF.out
        have hb : Below W.heap.size W (W.alloc (.cells #[] 65)) := (Below.refl _ _).alloc (Nat.le_refl _) _
        exact hK ({ gh with e1 := W.heap.size }, (upd s 37 (.slice (some ⟨W.heap.size, 0, none⟩) 0 0))) _ ⟨(fun h => (g1 h).trans (hb.mono (g1 h).size)), (fun _ _ => World.ownsRow_made W #[] 0 HSZ.out (Nat.zero_le _) (by simp)), (fun h q => (a1 h q).below hb (Nat.le_refl _)), (fun h q => ((n1 h q).below hb).more hb.size), (fun h q => (a2 h q).below hb (Nat.le_refl _)), (fun h q => (a9 h q).below hb (Nat.le_refl _)), (fun h => absurd (h15.symm.trans h) (by decide)), (fun _ => rfl), f1, f2, f3, f4, f5, f6, f7, f8, f9, f10, f11, f12, f13, f14⟩
       ·rintro L ⟨gh, s⟩ W hu hd hdn ⟨g1, q1, a1, n1, a2, a9, r9, f0, f1, f2, f3, f4, f5, f6, f7, f8, f9, f10, f11, f12, f13, f14⟩ K Q hK
        try dsimp only at g1 q1 a1 n1 a2 a9 r9 f0 f1 f2 f3 f4 f5 f6 f7 f8 f9 f10 f11 f12 f13 f14 ⊢
        have tl0 := HLay.out.lt 0 rfl
        have HF := Lib.hid (show (L 15 = false → Below V11.heap.size V11 W) ∧ (L 0 = true → L 5 = false → Own W V11.heap.size 65 6 (some ⟨gh.e1, 0, none⟩) 0 0 []) ∧ (L 5 = true → L 8 = false → Own W V11.heap.size 65 6 gh.A1 k gh.k1 ((m.tastes.take k).flatMap Tast.vals)) ∧ (L 7 = true → L 8 = false → Reads W W.heap.size 6 (some ⟨gh.e2, 0, none⟩) 1 x.vals) ∧ (L 8 = true → L 13 = false → Own W V11.heap.size 65 6 gh.A2 (k + 1) gh.k2 (((m.tastes.take k).flatMap Tast.vals) ++ x.vals)) ∧ (L 13 = true → L 15 = false → Own W V11.heap.size 65 6 gh.A9 (nt + 1) gh.k9 (((m.tastes.take k).flatMap Tast.vals) ++ (x.vals ++ ((m.tastes.drop k).flatMap Tast.vals)))) ∧ (L 15 = true → ∃ V, Below V11.heap.size V11 V ∧ Own V V11.heap.size 65 6 gh.A9 (nt + 1) gh.k9 (((m.tastes.take k).flatMap Tast.vals) ++ (x.vals ++ ((m.tastes.drop k).flatMap Tast.vals))) ∧ W = V.setCell ⟨G12, 3, none⟩ (.slice gh.A9 (nt + 1) gh.k9)) ∧ (L 0 = true → s 37 = .slice (some ⟨gh.e1, 0, none⟩) 0 0) ∧ (L 1 = true → s 38 = .pointer (some ⟨w.heap.size, 3, none⟩)) ∧ (L 2 = true → s 39 = .slice At nt ct) ∧ (L 3 = true → s 40 = .int .i64 k) ∧ (L 4 = true → s 41 = .slice At k ct) ∧ (L 5 = true → s 42 = .slice gh.A1 k gh.k1) ∧ (L 6 = true → s 43 = .agg #[.int .i64 x.num, .int .i64 x.vessel, .int .i64 x.after, .int .i64 x.fountain, .int .i64 x.lo, .int .i64 x.hi]) ∧ (L 7 = true → s 44 = .slice (some ⟨gh.e2, 0, none⟩) 1 1) ∧ (L 8 = true → s 45 = .slice gh.A2 (k + 1) gh.k2) ∧ (L 9 = true → s 46 = .pointer (some ⟨w.heap.size, 3, none⟩)) ∧ (L 10 = true → s 47 = .slice At nt ct) ∧ (L 11 = true → s 48 = .int .i64 k) ∧ (L 12 = true → s 49 = .slice (At) (nt - k) (ct - k)) ∧ (L 13 = true → s 50 = .slice gh.A9 (nt + 1) gh.k9) ∧ (L 14 = true → s 51 = .pointer (some ⟨G12, 3, none⟩)) from ⟨g1, q1, a1, n1, a2, a9, r9, f0, f1, f2, f3, f4, f5, f6, f7, f8, f9, f10, f11, f12, f13, f14⟩)
        clear f14 f13 f12 f11 f10 f9 f8 f7 f6 f5 f4 f3 f2 f1 f0 r9 a9 a2 n1 a1 q1 g1 hd
        try simp only
        gi_wp2
        obtain ⟨g1, q1, a1, n1, a2, a9, r9, f0, f1, f2, f3, f4, f5, f6, f7, f8, f9, f10, f11, f12, f13, f14⟩ := HF.out
        exact hK (gh, (upd s 38 (.pointer (some ⟨w.heap.size, 3, none⟩)))) _ ⟨g1, q1, a1, n1, a2, a9, r9, f0, (fun _ => rfl), f2, f3, f4, f5, f6, f7, f8, f9, f10, f11, f12, f13, f14⟩
       ·rintro L ⟨gh, s⟩ W hu hd hdn ⟨g1, q1, a1, n1, a2, a9, r9, f0, f1, f2, f3, f4, f5, f6, f7, f8, f9, f10, f11, f12, f13, f14⟩ K Q hK
        try dsimp only at g1 q1 a1 n1 a2 a9 r9 f0 f1 f2 f3 f4 f5 f6 f7 f8 f9 f10 f11 f12 f13 f14 ⊢
        have e1 := f1 (hd.at_ 1 rfl)
        have h15 : L 15 = false := by
         cases hc : L 15 with
         | false => rfl
         | true => exact hdn.no 15 2 hc rfl hu
        have c0 : W.cell? ⟨w.heap.size, 3, none⟩ = some (.slice At nt ct) := ((HLay.out.below (g1 h15)).blk 0 rfl).cell 3
        have HF := Lib.hid (show (L 15 = false → Below V11.heap.size V11 W) ∧ (L 0 = true → L 5 = false → Own W V11.heap.size 65 6 (some ⟨gh.e1, 0, none⟩) 0 0 []) ∧ (L 5 = true → L 8 = false → Own W V11.heap.size 65 6 gh.A1 k gh.k1 ((m.tastes.take k).flatMap Tast.vals)) ∧ (L 7 = true → L 8 = false → Reads W W.heap.size 6 (some ⟨gh.e2, 0, none⟩) 1 x.vals) ∧ (L 8 = true → L 13 = false → Own W V11.heap.size 65 6 gh.A2 (k + 1) gh.k2 (((m.tastes.take k).flatMap Tast.vals) ++ x.vals)) ∧ (L 13 = true → L 15 = false → Own W V11.heap.size 65 6 gh.A9 (nt + 1) gh.k9 (((m.tastes.take k).flatMap Tast.vals) ++ (x.vals ++ ((m.tastes.drop k).flatMap Tast.vals)))) ∧ (L 15 = true → ∃ V, Below V11.heap.size V11 V ∧ Own V V11.heap.size 65 6 gh.A9 (nt + 1) gh.k9 (((m.tastes.take k).flatMap Tast.vals) ++ (x.vals ++ ((m.tastes.drop k).flatMap Tast.vals))) ∧ W = V.setCell ⟨G12, 3, none⟩ (.slice gh.A9 (nt + 1) gh.k9)) ∧ (L 0 = true → s 37 = .slice (some ⟨gh.e1, 0, none⟩) 0 0) ∧ (L 1 = true → s 38 = .pointer (some ⟨w.heap.size, 3, none⟩)) ∧ (L 2 = true → s 39 = .slice At nt ct) ∧ (L 3 = true → s 40 = .int .i64 k) ∧ (L 4 = true → s 41 = .slice At k ct) ∧ (L 5 = true → s 42 = .slice gh.A1 k gh.k1) ∧ (L 6 = true → s 43 = .agg #[.int .i64 x.num, .int .i64 x.vessel, .int .i64 x.after, .int .i64 x.fountain, .int .i64 x.lo, .int .i64 x.hi]) ∧ (L 7 = true → s 44 = .slice (some ⟨gh.e2, 0, none⟩) 1 1) ∧ (L 8 = true → s 45 = .slice gh.A2 (k + 1) gh.k2) ∧ (L 9 = true → s 46 = .pointer (some ⟨w.heap.size, 3, none⟩)) ∧ (L 10 = true → s 47 = .slice At nt ct) ∧ (L 11 = true → s 48 = .int .i64 k) ∧ (L 12 = true → s 49 = .slice (At) (nt - k) (ct - k)) ∧ (L 13 = true → s 50 = .slice gh.A9 (nt + 1) gh.k9) ∧ (L 14 = true → s 51 = .pointer (some ⟨G12, 3, none⟩)) from ⟨g1, q1, a1, n1, a2, a9, r9, f0, f1, f2, f3, f4, f5, f6, f7, f8, f9, f10, f11, f12, f13, f14⟩)
        clear f14 f13 f12 f11 f10 f9 f8 f7 f6 f5 f4 f3 f2 f1 f0 r9 a9 a2 n1 a1 q1 g1 hd
        try simp only at e1 ⊢
        gi_wp2
        obtain ⟨g1, q1, a1, n1, a2, a9, r9, f0, f1, f2, f3, f4, f5, f6, f7, f8, f9, f10, f11, f12, f13, f14⟩ := HF.out
        exact hK (gh, (upd (upd s 38 (.pointer (some ⟨w.heap.size, 3, none⟩))) 39 (.slice At nt ct))) _ ⟨g1, q1, a1, n1, a2, a9, r9, f0, (fun _ => rfl), (fun _ => rfl), f3, f4, f5, f6, f7, f8, f9, f10, f11, f12, f13, f14⟩
       ·rintro L ⟨gh, s⟩ W hu hd hdn ⟨g1, q1, a1, n1, a2, a9, r9, f0, f1, f2, f3, f4, f5, f6, f7, f8, f9, f10, f11, f12, f13, f14⟩ K Q hK
        try dsimp only at g1 q1 a1 n1 a2 a9 r9 f0 f1 f2 f3 f4 f5 f6 f7 f8 f9 f10 f11 f12 f13 f14 ⊢
        have HF := Lib.hid (show (L 15 = false → Below V11.heap.size V11 W) ∧ (L 0 = true → L 5 = false → Own W V11.heap.size 65 6 (some ⟨gh.e1, 0, none⟩) 0 0 []) ∧ (L 5 = true → L 8 = false → Own W V11.heap.size 65 6 gh.A1 k gh.k1 ((m.tastes.take k).flatMap Tast.vals)) ∧ (L 7 = true → L 8 = false → Reads W W.heap.size 6 (some ⟨gh.e2, 0, none⟩) 1 x.vals) ∧ (L 8 = true → L 13 = false → Own W V11.heap.size 65 6 gh.A2 (k + 1) gh.k2 (((m.tastes.take k).flatMap Tast.vals) ++ x.vals)) ∧ (L 13 = true → L 15 = false → Own W V11.heap.size 65 6 gh.A9 (nt + 1) gh.k9 (((m.tastes.take k).flatMap Tast.vals) ++ (x.vals ++ ((m.tastes.drop k).flatMap Tast.vals)))) ∧ (L 15 = true → ∃ V, Below V11.heap.size V11 V ∧ Own V V11.heap.size 65 6 gh.A9 (nt + 1) gh.k9 (((m.tastes.take k).flatMap Tast.vals) ++ (x.vals ++ ((m.tastes.drop k).flatMap Tast.vals))) ∧ W = V.setCell ⟨G12, 3, none⟩ (.slice gh.A9 (nt + 1) gh.k9)) ∧ (L 0 = true → s 37 = .slice (some ⟨gh.e1, 0, none⟩) 0 0) ∧ (L 1 = true → s 38 = .pointer (some ⟨w.heap.size, 3, none⟩)) ∧ (L 2 = true → s 39 = .slice At nt ct) ∧ (L 3 = true → s 40 = .int .i64 k) ∧ (L 4 = true → s 41 = .slice At k ct) ∧ (L 5 = true → s 42 = .slice gh.A1 k gh.k1) ∧ (L 6 = true → s 43 = .agg #[.int .i64 x.num, .int .i64 x.vessel, .int .i64 x.after, .int .i64 x.fountain, .int .i64 x.lo, .int .i64 x.hi]) ∧ (L 7 = true → s 44 = .slice (some ⟨gh.e2, 0, none⟩) 1 1) ∧ (L 8 = true → s 45 = .slice gh.A2 (k + 1) gh.k2) ∧ (L 9 = true → s 46 = .pointer (some ⟨w.heap.size, 3, none⟩)) ∧ (L 10 = true → s 47 = .slice At nt ct) ∧ (L 11 = true → s 48 = .int .i64 k) ∧ (L 12 = true → s 49 = .slice (At) (nt - k) (ct - k)) ∧ (L 13 = true → s 50 = .slice gh.A9 (nt + 1) gh.k9) ∧ (L 14 = true → s 51 = .pointer (some ⟨G12, 3, none⟩)) from ⟨g1, q1, a1, n1, a2, a9, r9, f0, f1, f2, f3, f4, f5, f6, f7, f8, f9, f10, f11, f12, f13, f14⟩)
        clear f14 f13 f12 f11 f10 f9 f8 f7 f6 f5 f4 f3 f2 f1 f0 r9 a9 a2 n1 a1 q1 g1 hd
        try simp only
        gi_wp2
        obtain ⟨g1, q1, a1, n1, a2, a9, r9, f0, f1, f2, f3, f4, f5, f6, f7, f8, f9, f10, f11, f12, f13, f14⟩ := HF.out
        exact hK (gh, (upd s 40 (.int .i64 k))) _ ⟨g1, q1, a1, n1, a2, a9, r9, f0, f1, f2, (fun _ => rfl), f4, f5, f6, f7, f8, f9, f10, f11, f12, f13, f14⟩
       ·rintro L ⟨gh, s⟩ W hu hd hdn ⟨g1, q1, a1, n1, a2, a9, r9, f0, f1, f2, f3, f4, f5, f6, f7, f8, f9, f10, f11, f12, f13, f14⟩ K Q hK
        try dsimp only at g1 q1 a1 n1 a2 a9 r9 f0 f1 f2 f3 f4 f5 f6 f7 f8 f9 f10 f11 f12 f13 f14 ⊢
        have e2 := f2 (hd.at_ 2 rfl)
        have e3 := f3 (hd.at_ 3 rfl)
        have hkc : (k : Int) ≤ (ct : Int) := by omega
        have hkc2 : k ≤ ct := by omega
        have hcm : ct ≤ 9223372036854775807 := by unfold maxLen at hcl; omega
        have HF := Lib.hid (show (L 15 = false → Below V11.heap.size V11 W) ∧ (L 0 = true → L 5 = false → Own W V11.heap.size 65 6 (some ⟨gh.e1, 0, none⟩) 0 0 []) ∧ (L 5 = true → L 8 = false → Own W V11.heap.size 65 6 gh.A1 k gh.k1 ((m.tastes.take k).flatMap Tast.vals)) ∧ (L 7 = true → L 8 = false → Reads W W.heap.size 6 (some ⟨gh.e2, 0, none⟩) 1 x.vals) ∧ (L 8 = true → L 13 = false → Own W V11.heap.size 65 6 gh.A2 (k + 1) gh.k2 (((m.tastes.take k).flatMap Tast.vals) ++ x.vals)) ∧ (L 13 = true → L 15 = false → Own W V11.heap.size 65 6 gh.A9 (nt + 1) gh.k9 (((m.tastes.take k).flatMap Tast.vals) ++ (x.vals ++ ((m.tastes.drop k).flatMap Tast.vals)))) ∧ (L 15 = true → ∃ V, Below V11.heap.size V11 V ∧ Own V V11.heap.size 65 6 gh.A9 (nt + 1) gh.k9 (((m.tastes.take k).flatMap Tast.vals) ++ (x.vals ++ ((m.tastes.drop k).flatMap Tast.vals))) ∧ W = V.setCell ⟨G12, 3, none⟩ (.slice gh.A9 (nt + 1) gh.k9)) ∧ (L 0 = true → s 37 = .slice (some ⟨gh.e1, 0, none⟩) 0 0) ∧ (L 1 = true → s 38 = .pointer (some ⟨w.heap.size, 3, none⟩)) ∧ (L 2 = true → s 39 = .slice At nt ct) ∧ (L 3 = true → s 40 = .int .i64 k) ∧ (L 4 = true → s 41 = .slice At k ct) ∧ (L 5 = true → s 42 = .slice gh.A1 k gh.k1) ∧ (L 6 = true → s 43 = .agg #[.int .i64 x.num, .int .i64 x.vessel, .int .i64 x.after, .int .i64 x.fountain, .int .i64 x.lo, .int .i64 x.hi]) ∧ (L 7 = true → s 44 = .slice (some ⟨gh.e2, 0, none⟩) 1 1) ∧ (L 8 = true → s 45 = .slice gh.A2 (k + 1) gh.k2) ∧ (L 9 = true → s 46 = .pointer (some ⟨w.heap.size, 3, none⟩)) ∧ (L 10 = true → s 47 = .slice At nt ct) ∧ (L 11 = true → s 48 = .int .i64 k) ∧ (L 12 = true → s 49 = .slice (At) (nt - k) (ct - k)) ∧ (L 13 = true → s 50 = .slice gh.A9 (nt + 1) gh.k9) ∧ (L 14 = true → s 51 = .pointer (some ⟨G12, 3, none⟩)) from ⟨g1, q1, a1, n1, a2, a9, r9, f0, f1, f2, f3, f4, f5, f6, f7, f8, f9, f10, f11, f12, f13, f14⟩)
        clear f14 f13 f12 f11 f10 f9 f8 f7 f6 f5 f4 f3 f2 f1 f0 r9 a9 a2 n1 a1 q1 g1 hd
        try simp only at e2 e3 ⊢
        gi_wp2
        obtain ⟨g1, q1, a1, n1, a2, a9, r9, f0, f1, f2, f3, f4, f5, f6, f7, f8, f9, f10, f11, f12, f13, f14⟩ := HF.out
        exact hK (gh, (upd (upd (upd s 39 (.slice At nt ct)) 40 (.int .i64 k)) 41 (.slice At k ct))) _ ⟨g1, q1, a1, n1, a2, a9, r9, f0, f1, (fun _ => rfl), (fun _ => rfl), (fun _ => rfl), f5, f6, f7, f8, f9, f10, f11, f12, f13, f14⟩
       ·rintro L ⟨gh, s⟩ W hu hd hdn ⟨g1, q1, a1, n1, a2, a9, r9, f0, f1, f2, f3, f4, f5, f6, f7, f8, f9, f10, f11, f12, f13, f14⟩ K Q hK
        try dsimp only at g1 q1 a1 n1 a2 a9 r9 f0 f1 f2 f3 f4 f5 f6 f7 f8 f9 f10 f11 f12 f13 f14 ⊢
        have e0 := f0 (hd.at_ 0 rfl)
        have e4 := f4 (hd.at_ 4 rfl)
        have h15 : L 15 = false := by
         cases hc : L 15 with
         | false => rfl
         | true => exact hdn.no 15 5 hc rfl hu
        have h8 : L 8 = false := by
         cases hc : L 8 with
         | false => rfl
         | true => exact hdn.no 8 5 hc rfl hu
        have HE := Lib.hid (q1 (hd.at_ 0 rfl) hu)
        have HG1 := Lib.hid (g1 h15)
        have HSZ := Lib.hid (g1 h15).size
        have HF := Lib.hid (show (L 15 = false → Below V11.heap.size V11 W) ∧ (L 0 = true → L 5 = false → Own W V11.heap.size 65 6 (some ⟨gh.e1, 0, none⟩) 0 0 []) ∧ (L 5 = true → L 8 = false → Own W V11.heap.size 65 6 gh.A1 k gh.k1 ((m.tastes.take k).flatMap Tast.vals)) ∧ (L 7 = true → L 8 = false → Reads W W.heap.size 6 (some ⟨gh.e2, 0, none⟩) 1 x.vals) ∧ (L 8 = true → L 13 = false → Own W V11.heap.size 65 6 gh.A2 (k + 1) gh.k2 (((m.tastes.take k).flatMap Tast.vals) ++ x.vals)) ∧ (L 13 = true → L 15 = false → Own W V11.heap.size 65 6 gh.A9 (nt + 1) gh.k9 (((m.tastes.take k).flatMap Tast.vals) ++ (x.vals ++ ((m.tastes.drop k).flatMap Tast.vals)))) ∧ (L 15 = true → ∃ V, Below V11.heap.size V11 V ∧ Own V V11.heap.size 65 6 gh.A9 (nt + 1) gh.k9 (((m.tastes.take k).flatMap Tast.vals) ++ (x.vals ++ ((m.tastes.drop k).flatMap Tast.vals))) ∧ W = V.setCell ⟨G12, 3, none⟩ (.slice gh.A9 (nt + 1) gh.k9)) ∧ (L 0 = true → s 37 = .slice (some ⟨gh.e1, 0, none⟩) 0 0) ∧ (L 1 = true → s 38 = .pointer (some ⟨w.heap.size, 3, none⟩)) ∧ (L 2 = true → s 39 = .slice At nt ct) ∧ (L 3 = true → s 40 = .int .i64 k) ∧ (L 4 = true → s 41 = .slice At k ct) ∧ (L 5 = true → s 42 = .slice gh.A1 k gh.k1) ∧ (L 6 = true → s 43 = .agg #[.int .i64 x.num, .int .i64 x.vessel, .int .i64 x.after, .int .i64 x.fountain, .int .i64 x.lo, .int .i64 x.hi]) ∧ (L 7 = true → s 44 = .slice (some ⟨gh.e2, 0, none⟩) 1 1) ∧ (L 8 = true → s 45 = .slice gh.A2 (k + 1) gh.k2) ∧ (L 9 = true → s 46 = .pointer (some ⟨w.heap.size, 3, none⟩)) ∧ (L 10 = true → s 47 = .slice At nt ct) ∧ (L 11 = true → s 48 = .int .i64 k) ∧ (L 12 = true → s 49 = .slice (At) (nt - k) (ct - k)) ∧ (L 13 = true → s 50 = .slice gh.A9 (nt + 1) gh.k9) ∧ (L 14 = true → s 51 = .pointer (some ⟨G12, 3, none⟩)) from ⟨g1, q1, a1, n1, a2, a9, r9, f0, f1, f2, f3, f4, f5, f6, f7, f8, f9, f10, f11, f12, f13, f14⟩)
        clear f14 f13 f12 f11 f10 f9 f8 f7 f6 f5 f4 f3 f2 f1 f0 r9 a9 a2 n1 a1 q1 g1 hd
        try simp only at e0 e4 ⊢
        have hrd := reads_take (k := k) ((HM.out.up (HLay.out.below HG1.out).1).at_.tastes) hk
        rw [← flat_take tast_k] at hrd
        have HRD := Lib.hid hrd
        clear hrd
        gi_wp2_with (first | (gi_at_builtin; refine wpListIn_append_fresh rfl (.tmp 37) (.tmp 41) (by rfl) elem_tast e0 HE.out e4 HRD.out (tast_one _) (by unfold maxLen; omega) (by omega) HSZ.out ?_) | fail)
        rintro AN cN W1 hO hb hA
        gi_wp2
        obtain ⟨g1, q1, a1, n1, a2, a9, r9, f0, f1, f2, f3, f4, f5, f6, f7, f8, f9, f10, f11, f12, f13, f14⟩ := HF.out
        exact hK ({ gh with A1 := AN, k1 := cN }, (upd (upd (upd s 37 (.slice (some ⟨gh.e1, 0, none⟩) 0 0)) 41 (.slice At k ct)) 42 (.slice AN k cN))) _ ⟨(fun h => (g1 h).trans (hb.mono (g1 h).size)), (fun _ h => by cases h), (fun _ _ => hO), (fun h q => ((n1 h q).below hb).more hb.size), (fun h => absurd (h8.symm.trans h) (by decide)), (fun h q => (a9 h q).below hb (Nat.le_refl _)), (fun h => absurd (h15.symm.trans h) (by decide)), (fun _ => rfl), f1, f2, f3, (fun _ => rfl), (fun _ => rfl), f6, f7, f8, f9, f10, f11, f12, f13, f14⟩
       ·rintro L ⟨gh, s⟩ W hu hd hdn ⟨g1, q1, a1, n1, a2, a9, r9, f0, f1, f2, f3, f4, f5, f6, f7, f8, f9, f10, f11, f12, f13, f14⟩ K Q hK
        try dsimp only at g1 q1 a1 n1 a2 a9 r9 f0 f1 f2 f3 f4 f5 f6 f7 f8 f9 f10 f11 f12 f13 f14 ⊢
        have h15 : L 15 = false := by
         cases hc : L 15 with
         | false => rfl
         | true => exact hdn.no 15 6 hc rfl hu
        have c0 : W.cell? ⟨w.heap.size + 1, 0, none⟩ = some (.int .i64 x.num) := ((HLay.out.below (g1 h15)).blk 1 rfl).cell 0
        have c1 : W.cell? ⟨w.heap.size + 1, 1, none⟩ = some (.int .i64 x.vessel) := ((HLay.out.below (g1 h15)).blk 1 rfl).cell 1
        have c2 : W.cell? ⟨w.heap.size + 1, 2, none⟩ = some (.int .i64 x.after) := ((HLay.out.below (g1 h15)).blk 1 rfl).cell 2
        have c3 : W.cell? ⟨w.heap.size + 1, 3, none⟩ = some (.int .i64 x.fountain) := ((HLay.out.below (g1 h15)).blk 1 rfl).cell 3
        have c4 : W.cell? ⟨w.heap.size + 1, 4, none⟩ = some (.int .i64 x.lo) := ((HLay.out.below (g1 h15)).blk 1 rfl).cell 4
        have c5 : W.cell? ⟨w.heap.size + 1, 5, none⟩ = some (.int .i64 x.hi) := ((HLay.out.below (g1 h15)).blk 1 rfl).cell 5
        have HF := Lib.hid (show (L 15 = false → Below V11.heap.size V11 W) ∧ (L 0 = true → L 5 = false → Own W V11.heap.size 65 6 (some ⟨gh.e1, 0, none⟩) 0 0 []) ∧ (L 5 = true → L 8 = false → Own W V11.heap.size 65 6 gh.A1 k gh.k1 ((m.tastes.take k).flatMap Tast.vals)) ∧ (L 7 = true → L 8 = false → Reads W W.heap.size 6 (some ⟨gh.e2, 0, none⟩) 1 x.vals) ∧ (L 8 = true → L 13 = false → Own W V11.heap.size 65 6 gh.A2 (k + 1) gh.k2 (((m.tastes.take k).flatMap Tast.vals) ++ x.vals)) ∧ (L 13 = true → L 15 = false → Own W V11.heap.size 65 6 gh.A9 (nt + 1) gh.k9 (((m.tastes.take k).flatMap Tast.vals) ++ (x.vals ++ ((m.tastes.drop k).flatMap Tast.vals)))) ∧ (L 15 = true → ∃ V, Below V11.heap.size V11 V ∧ Own V V11.heap.size 65 6 gh.A9 (nt + 1) gh.k9 (((m.tastes.take k).flatMap Tast.vals) ++ (x.vals ++ ((m.tastes.drop k).flatMap Tast.vals))) ∧ W = V.setCell ⟨G12, 3, none⟩ (.slice gh.A9 (nt + 1) gh.k9)) ∧ (L 0 = true → s 37 = .slice (some ⟨gh.e1, 0, none⟩) 0 0) ∧ (L 1 = true → s 38 = .pointer (some ⟨w.heap.size, 3, none⟩)) ∧ (L 2 = true → s 39 = .slice At nt ct) ∧ (L 3 = true → s 40 = .int .i64 k) ∧ (L 4 = true → s 41 = .slice At k ct) ∧ (L 5 = true → s 42 = .slice gh.A1 k gh.k1) ∧ (L 6 = true → s 43 = .agg #[.int .i64 x.num, .int .i64 x.vessel, .int .i64 x.after, .int .i64 x.fountain, .int .i64 x.lo, .int .i64 x.hi]) ∧ (L 7 = true → s 44 = .slice (some ⟨gh.e2, 0, none⟩) 1 1) ∧ (L 8 = true → s 45 = .slice gh.A2 (k + 1) gh.k2) ∧ (L 9 = true → s 46 = .pointer (some ⟨w.heap.size, 3, none⟩)) ∧ (L 10 = true → s 47 = .slice At nt ct) ∧ (L 11 = true → s 48 = .int .i64 k) ∧ (L 12 = true → s 49 = .slice (At) (nt - k) (ct - k)) ∧ (L 13 = true → s 50 = .slice gh.A9 (nt + 1) gh.k9) ∧ (L 14 = true → s 51 = .pointer (some ⟨G12, 3, none⟩)) from ⟨g1, q1, a1, n1, a2, a9, r9, f0, f1, f2, f3, f4, f5, f6, f7, f8, f9, f10, f11, f12, f13, f14⟩)
        clear f14 f13 f12 f11 f10 f9 f8 f7 f6 f5 f4 f3 f2 f1 f0 r9 a9 a2 n1 a1 q1 g1 hd
        try simp only
        gi_wp2
        obtain ⟨g1, q1, a1, n1, a2, a9, r9, f0, f1, f2, f3, f4, f5, f6, f7, f8, f9, f10, f11, f12, f13, f14⟩ := HF.out
        exact hK (gh, (upd s 43 (.agg #[.int .i64 x.num, .int .i64 x.vessel, .int .i64 x.after, .int .i64 x.fountain, .int .i64 x.lo, .int .i64 x.hi]))) _ ⟨g1, q1, a1, n1, a2, a9, r9, f0, f1, f2, f3, f4, f5, (fun _ => rfl), f7, f8, f9, f10, f11, f12, f13, f14⟩
       ·rintro L ⟨gh, s⟩ W hu hd hdn ⟨g1, q1, a1, n1, a2, a9, r9, f0, f1, f2, f3, f4, f5, f6, f7, f8, f9, f10, f11, f12, f13, f14⟩ K Q hK
        try dsimp only at g1 q1 a1 n1 a2 a9 r9 f0 f1 f2 f3 f4 f5 f6 f7 f8 f9 f10 f11 f12 f13 f14 ⊢
        have e6 := f6 (hd.at_ 6 rfl)
        have h15 : L 15 = false := by
         cases hc : L 15 with
         | false => rfl
         | true => exact hdn.no 15 7 hc rfl hu
        have HSZ := Lib.hid (g1 h15).size
        have HF := Lib.hid (show (L 15 = false → Below V11.heap.size V11 W) ∧ (L 0 = true → L 5 = false → Own W V11.heap.size 65 6 (some ⟨gh.e1, 0, none⟩) 0 0 []) ∧ (L 5 = true → L 8 = false → Own W V11.heap.size 65 6 gh.A1 k gh.k1 ((m.tastes.take k).flatMap Tast.vals)) ∧ (L 7 = true → L 8 = false → Reads W W.heap.size 6 (some ⟨gh.e2, 0, none⟩) 1 x.vals) ∧ (L 8 = true → L 13 = false → Own W V11.heap.size 65 6 gh.A2 (k + 1) gh.k2 (((m.tastes.take k).flatMap Tast.vals) ++ x.vals)) ∧ (L 13 = true → L 15 = false → Own W V11.heap.size 65 6 gh.A9 (nt + 1) gh.k9 (((m.tastes.take k).flatMap Tast.vals) ++ (x.vals ++ ((m.tastes.drop k).flatMap Tast.vals)))) ∧ (L 15 = true → ∃ V, Below V11.heap.size V11 V ∧ Own V V11.heap.size 65 6 gh.A9 (nt + 1) gh.k9 (((m.tastes.take k).flatMap Tast.vals) ++ (x.vals ++ ((m.tastes.drop k).flatMap Tast.vals))) ∧ W = V.setCell ⟨G12, 3, none⟩ (.slice gh.A9 (nt + 1) gh.k9)) ∧ (L 0 = true → s 37 = .slice (some ⟨gh.e1, 0, none⟩) 0 0) ∧ (L 1 = true → s 38 = .pointer (some ⟨w.heap.size, 3, none⟩)) ∧ (L 2 = true → s 39 = .slice At nt ct) ∧ (L 3 = true → s 40 = .int .i64 k) ∧ (L 4 = true → s 41 = .slice At k ct) ∧ (L 5 = true → s 42 = .slice gh.A1 k gh.k1) ∧ (L 6 = true → s 43 = .agg #[.int .i64 x.num, .int .i64 x.vessel, .int .i64 x.after, .int .i64 x.fountain, .int .i64 x.lo, .int .i64 x.hi]) ∧ (L 7 = true → s 44 = .slice (some ⟨gh.e2, 0, none⟩) 1 1) ∧ (L 8 = true → s 45 = .slice gh.A2 (k + 1) gh.k2) ∧ (L 9 = true → s 46 = .pointer (some ⟨w.heap.size, 3, none⟩)) ∧ (L 10 = true → s 47 = .slice At nt ct) ∧ (L 11 = true → s 48 = .int .i64 k) ∧ (L 12 = true → s 49 = .slice (At) (nt - k) (ct - k)) ∧ (L 13 = true → s 50 = .slice gh.A9 (nt + 1) gh.k9) ∧ (L 14 = true → s 51 = .pointer (some ⟨G12, 3, none⟩)) from ⟨g1, q1, a1, n1, a2, a9, r9, f0, f1, f2, f3, f4, f5, f6, f7, f8, f9, f10, f11, f12, f13, f14⟩)
        clear f14 f13 f12 f11 f10 f9 f8 f7 f6 f5 f4 f3 f2 f1 f0 r9 a9 a2 n1 a1 q1 g1 hd
        try simp only at e6 ⊢
        gi_wp2
        obtain ⟨g1, q1, a1, n1, a2, a9, r9, f0, f1, f2, f3, f4, f5, f6, f7, f8, f9, f10, f11, f12, f13, f14⟩ := HF.out
        have hb : Below W.heap.size W (W.alloc (.cells #[.int .i64 x.num, .int .i64 x.vessel, .int .i64 x.after, .int .i64 x.fountain, .int .i64 x.lo, .int .i64 x.hi] 65)) := (Below.refl _ _).alloc (Nat.le_refl _) _
        exact hK ({ gh with e2 := W.heap.size }, (upd (upd s 43 (.agg #[.int .i64 x.num, .int .i64 x.vessel, .int .i64 x.after, .int .i64 x.fountain, .int .i64 x.lo, .int .i64 x.hi])) 44 (.slice (some ⟨W.heap.size, 0, none⟩) 1 1))) _ ⟨(fun h => (g1 h).trans (hb.mono (g1 h).size)), (fun h q => (q1 h q).below hb (Nat.le_refl _)), (fun h q => (a1 h q).below hb (Nat.le_refl _)), (fun _ _ => reads_new W 65 x.vals rfl), (fun h q => (a2 h q).below hb (Nat.le_refl _)), (fun h q => (a9 h q).below hb (Nat.le_refl _)), (fun h => absurd (h15.symm.trans h) (by decide)), f0, f1, f2, f3, f4, f5, (fun _ => rfl), (fun _ => rfl), f8, f9, f10, f11, f12, f13, f14⟩
       ·rintro L ⟨gh, s⟩ W hu hd hdn ⟨g1, q1, a1, n1, a2, a9, r9, f0, f1, f2, f3, f4, f5, f6, f7, f8, f9, f10, f11, f12, f13, f14⟩ K Q hK
        try dsimp only at g1 q1 a1 n1 a2 a9 r9 f0 f1 f2 f3 f4 f5 f6 f7 f8 f9 f10 f11 f12 f13 f14 ⊢
        have e5 := f5 (hd.at_ 5 rfl)
        have e7 := f7 (hd.at_ 7 rfl)
        have h15 : L 15 = false := by
         cases hc : L 15 with
         | false => rfl
         | true => exact hdn.no 15 8 hc rfl hu
        have h13 : L 13 = false := by
         cases hc : L 13 with
         | false => rfl
         | true => exact hdn.no 13 8 hc rfl hu
        have HE := Lib.hid (a1 (hd.at_ 5 rfl) hu)
        have HN1 := Lib.hid (n1 (hd.at_ 7 rfl) hu)
        have HSZ := Lib.hid (g1 h15).size
        have HD5 := Lib.hid (hd.at_ 5 rfl)
        have HF := Lib.hid (show (L 15 = false → Below V11.heap.size V11 W) ∧ (L 0 = true → L 5 = false → Own W V11.heap.size 65 6 (some ⟨gh.e1, 0, none⟩) 0 0 []) ∧ (L 5 = true → L 8 = false → Own W V11.heap.size 65 6 gh.A1 k gh.k1 ((m.tastes.take k).flatMap Tast.vals)) ∧ (L 7 = true → L 8 = false → Reads W W.heap.size 6 (some ⟨gh.e2, 0, none⟩) 1 x.vals) ∧ (L 8 = true → L 13 = false → Own W V11.heap.size 65 6 gh.A2 (k + 1) gh.k2 (((m.tastes.take k).flatMap Tast.vals) ++ x.vals)) ∧ (L 13 = true → L 15 = false → Own W V11.heap.size 65 6 gh.A9 (nt + 1) gh.k9 (((m.tastes.take k).flatMap Tast.vals) ++ (x.vals ++ ((m.tastes.drop k).flatMap Tast.vals)))) ∧ (L 15 = true → ∃ V, Below V11.heap.size V11 V ∧ Own V V11.heap.size 65 6 gh.A9 (nt + 1) gh.k9 (((m.tastes.take k).flatMap Tast.vals) ++ (x.vals ++ ((m.tastes.drop k).flatMap Tast.vals))) ∧ W = V.setCell ⟨G12, 3, none⟩ (.slice gh.A9 (nt + 1) gh.k9)) ∧ (L 0 = true → s 37 = .slice (some ⟨gh.e1, 0, none⟩) 0 0) ∧ (L 1 = true → s 38 = .pointer (some ⟨w.heap.size, 3, none⟩)) ∧ (L 2 = true → s 39 = .slice At nt ct) ∧ (L 3 = true → s 40 = .int .i64 k) ∧ (L 4 = true → s 41 = .slice At k ct) ∧ (L 5 = true → s 42 = .slice gh.A1 k gh.k1) ∧ (L 6 = true → s 43 = .agg #[.int .i64 x.num, .int .i64 x.vessel, .int .i64 x.after, .int .i64 x.fountain, .int .i64 x.lo, .int .i64 x.hi]) ∧ (L 7 = true → s 44 = .slice (some ⟨gh.e2, 0, none⟩) 1 1) ∧ (L 8 = true → s 45 = .slice gh.A2 (k + 1) gh.k2) ∧ (L 9 = true → s 46 = .pointer (some ⟨w.heap.size, 3, none⟩)) ∧ (L 10 = true → s 47 = .slice At nt ct) ∧ (L 11 = true → s 48 = .int .i64 k) ∧ (L 12 = true → s 49 = .slice (At) (nt - k) (ct - k)) ∧ (L 13 = true → s 50 = .slice gh.A9 (nt + 1) gh.k9) ∧ (L 14 = true → s 51 = .pointer (some ⟨G12, 3, none⟩)) from ⟨g1, q1, a1, n1, a2, a9, r9, f0, f1, f2, f3, f4, f5, f6, f7, f8, f9, f10, f11, f12, f13, f14⟩)
        clear f14 f13 f12 f11 f10 f9 f8 f7 f6 f5 f4 f3 f2 f1 f0 r9 a9 a2 n1 a1 q1 g1 hd
        try simp only at e5 e7 ⊢
        gi_wp2_with (first | (gi_at_builtin; refine wpListIn_append_any rfl (.tmp 42) (.tmp 44) (by rfl) elem_tast e5 HE.out e7 HN1.out (tast_one1 x) (by unfold maxLen; omega) (by omega) HSZ.out ?_) | fail)
        rintro AN cN W1 hO hg hA
        gi_wp2
        obtain ⟨g1, q1, a1, n1, a2, a9, r9, f0, f1, f2, f3, f4, f5, f6, f7, f8, f9, f10, f11, f12, f13, f14⟩ := HF.out
        have hgb : Below V11.heap.size V11 W1 := (g1 h15).grown hg (g1 h15).size (fun k hk => (own_row HE.out k hk).1)
        exact hK ({ gh with A2 := AN, k2 := cN }, (upd (upd (upd s 42 (.slice gh.A1 k gh.k1)) 44 (.slice (some ⟨gh.e2, 0, none⟩) 1 1)) 45 (.slice AN (k + 1) cN))) _ ⟨(fun _ => hgb), (fun _ h => absurd (HD5.out.symm.trans h) (by decide)), (fun _ h => by cases h), (fun _ h => by cases h), (fun _ _ => hO), (fun h => absurd (h13.symm.trans h) (by decide)), (fun h => absurd (h15.symm.trans h) (by decide)), f0, f1, f2, f3, f4, (fun _ => rfl), f6, (fun _ => rfl), (fun _ => rfl), f9, f10, f11, f12, f13, f14⟩
       ·rintro L ⟨gh, s⟩ W hu hd hdn ⟨g1, q1, a1, n1, a2, a9, r9, f0, f1, f2, f3, f4, f5, f6, f7, f8, f9, f10, f11, f12, f13, f14⟩ K Q hK
        try dsimp only at g1 q1 a1 n1 a2 a9 r9 f0 f1 f2 f3 f4 f5 f6 f7 f8 f9 f10 f11 f12 f13 f14 ⊢
        have tl0 := HLay.out.lt 0 rfl
        have HF := Lib.hid (show (L 15 = false → Below V11.heap.size V11 W) ∧ (L 0 = true → L 5 = false → Own W V11.heap.size 65 6 (some ⟨gh.e1, 0, none⟩) 0 0 []) ∧ (L 5 = true → L 8 = false → Own W V11.heap.size 65 6 gh.A1 k gh.k1 ((m.tastes.take k).flatMap Tast.vals)) ∧ (L 7 = true → L 8 = false → Reads W W.heap.size 6 (some ⟨gh.e2, 0, none⟩) 1 x.vals) ∧ (L 8 = true → L 13 = false → Own W V11.heap.size 65 6 gh.A2 (k + 1) gh.k2 (((m.tastes.take k).flatMap Tast.vals) ++ x.vals)) ∧ (L 13 = true → L 15 = false → Own W V11.heap.size 65 6 gh.A9 (nt + 1) gh.k9 (((m.tastes.take k).flatMap Tast.vals) ++ (x.vals ++ ((m.tastes.drop k).flatMap Tast.vals)))) ∧ (L 15 = true → ∃ V, Below V11.heap.size V11 V ∧ Own V V11.heap.size 65 6 gh.A9 (nt + 1) gh.k9 (((m.tastes.take k).flatMap Tast.vals) ++ (x.vals ++ ((m.tastes.drop k).flatMap Tast.vals))) ∧ W = V.setCell ⟨G12, 3, none⟩ (.slice gh.A9 (nt + 1) gh.k9)) ∧ (L 0 = true → s 37 = .slice (some ⟨gh.e1, 0, none⟩) 0 0) ∧ (L 1 = true → s 38 = .pointer (some ⟨w.heap.size, 3, none⟩)) ∧ (L 2 = true → s 39 = .slice At nt ct) ∧ (L 3 = true → s 40 = .int .i64 k) ∧ (L 4 = true → s 41 = .slice At k ct) ∧ (L 5 = true → s 42 = .slice gh.A1 k gh.k1) ∧ (L 6 = true → s 43 = .agg #[.int .i64 x.num, .int .i64 x.vessel, .int .i64 x.after, .int .i64 x.fountain, .int .i64 x.lo, .int .i64 x.hi]) ∧ (L 7 = true → s 44 = .slice (some ⟨gh.e2, 0, none⟩) 1 1) ∧ (L 8 = true → s 45 = .slice gh.A2 (k + 1) gh.k2) ∧ (L 9 = true → s 46 = .pointer (some ⟨w.heap.size, 3, none⟩)) ∧ (L 10 = true → s 47 = .slice At nt ct) ∧ (L 11 = true → s 48 = .int .i64 k) ∧ (L 12 = true → s 49 = .slice (At) (nt - k) (ct - k)) ∧ (L 13 = true → s 50 = .slice gh.A9 (nt + 1) gh.k9) ∧ (L 14 = true → s 51 = .pointer (some ⟨G12, 3, none⟩)) from ⟨g1, q1, a1, n1, a2, a9, r9, f0, f1, f2, f3, f4, f5, f6, f7, f8, f9, f10, f11, f12, f13, f14⟩)
        clear f14 f13 f12 f11 f10 f9 f8 f7 f6 f5 f4 f3 f2 f1 f0 r9 a9 a2 n1 a1 q1 g1 hd
        try simp only
        gi_wp2
        obtain ⟨g1, q1, a1, n1, a2, a9, r9, f0, f1, f2, f3, f4, f5, f6, f7, f8, f9, f10, f11, f12, f13, f14⟩ := HF.out
        exact hK (gh, (upd s 46 (.pointer (some ⟨w.heap.size, 3, none⟩)))) _ ⟨g1, q1, a1, n1, a2, a9, r9, f0, f1, f2, f3, f4, f5, f6, f7, f8, (fun _ => rfl), f10, f11, f12, f13, f14⟩
       ·rintro L ⟨gh, s⟩ W hu hd hdn ⟨g1, q1, a1, n1, a2, a9, r9, f0, f1, f2, f3, f4, f5, f6, f7, f8, f9, f10, f11, f12, f13, f14⟩ K Q hK
        try dsimp only at g1 q1 a1 n1 a2 a9 r9 f0 f1 f2 f3 f4 f5 f6 f7 f8 f9 f10 f11 f12 f13 f14 ⊢
        have e9 := f9 (hd.at_ 9 rfl)
        have h15 : L 15 = false := by
         cases hc : L 15 with
         | false => rfl
         | true => exact hdn.no 15 10 hc rfl hu
        have c0 : W.cell? ⟨w.heap.size, 3, none⟩ = some (.slice At nt ct) := ((HLay.out.below (g1 h15)).blk 0 rfl).cell 3
        have HF := Lib.hid (show (L 15 = false → Below V11.heap.size V11 W) ∧ (L 0 = true → L 5 = false → Own W V11.heap.size 65 6 (some ⟨gh.e1, 0, none⟩) 0 0 []) ∧ (L 5 = true → L 8 = false → Own W V11.heap.size 65 6 gh.A1 k gh.k1 ((m.tastes.take k).flatMap Tast.vals)) ∧ (L 7 = true → L 8 = false → Reads W W.heap.size 6 (some ⟨gh.e2, 0, none⟩) 1 x.vals) ∧ (L 8 = true → L 13 = false → Own W V11.heap.size 65 6 gh.A2 (k + 1) gh.k2 (((m.tastes.take k).flatMap Tast.vals) ++ x.vals)) ∧ (L 13 = true → L 15 = false → Own W V11.heap.size 65 6 gh.A9 (nt + 1) gh.k9 (((m.tastes.take k).flatMap Tast.vals) ++ (x.vals ++ ((m.tastes.drop k).flatMap Tast.vals)))) ∧ (L 15 = true → ∃ V, Below V11.heap.size V11 V ∧ Own V V11.heap.size 65 6 gh.A9 (nt + 1) gh.k9 (((m.tastes.take k).flatMap Tast.vals) ++ (x.vals ++ ((m.tastes.drop k).flatMap Tast.vals))) ∧ W = V.setCell ⟨G12, 3, none⟩ (.slice gh.A9 (nt + 1) gh.k9)) ∧ (L 0 = true → s 37 = .slice (some ⟨gh.e1, 0, none⟩) 0 0) ∧ (L 1 = true → s 38 = .pointer (some ⟨w.heap.size, 3, none⟩)) ∧ (L 2 = true → s 39 = .slice At nt ct) ∧ (L 3 = true → s 40 = .int .i64 k) ∧ (L 4 = true → s 41 = .slice At k ct) ∧ (L 5 = true → s 42 = .slice gh.A1 k gh.k1) ∧ (L 6 = true → s 43 = .agg #[.int .i64 x.num, .int .i64 x.vessel, .int .i64 x.after, .int .i64 x.fountain, .int .i64 x.lo, .int .i64 x.hi]) ∧ (L 7 = true → s 44 = .slice (some ⟨gh.e2, 0, none⟩) 1 1) ∧ (L 8 = true → s 45 = .slice gh.A2 (k + 1) gh.k2) ∧ (L 9 = true → s 46 = .pointer (some ⟨w.heap.size, 3, none⟩)) ∧ (L 10 = true → s 47 = .slice At nt ct) ∧ (L 11 = true → s 48 = .int .i64 k) ∧ (L 12 = true → s 49 = .slice (At) (nt - k) (ct - k)) ∧ (L 13 = true → s 50 = .slice gh.A9 (nt + 1) gh.k9) ∧ (L 14 = true → s 51 = .pointer (some ⟨G12, 3, none⟩)) from ⟨g1, q1, a1, n1, a2, a9, r9, f0, f1, f2, f3, f4, f5, f6, f7, f8, f9, f10, f11, f12, f13, f14⟩)
        clear f14 f13 f12 f11 f10 f9 f8 f7 f6 f5 f4 f3 f2 f1 f0 r9 a9 a2 n1 a1 q1 g1 hd
        try simp only at e9 ⊢
        gi_wp2
        obtain ⟨g1, q1, a1, n1, a2, a9, r9, f0, f1, f2, f3, f4, f5, f6, f7, f8, f9, f10, f11, f12, f13, f14⟩ := HF.out
        exact hK (gh, (upd (upd s 46 (.pointer (some ⟨w.heap.size, 3, none⟩))) 47 (.slice At nt ct))) _ ⟨g1, q1, a1, n1, a2, a9, r9, f0, f1, f2, f3, f4, f5, f6, f7, f8, (fun _ => rfl), (fun _ => rfl), f11, f12, f13, f14⟩
       ·rintro L ⟨gh, s⟩ W hu hd hdn ⟨g1, q1, a1, n1, a2, a9, r9, f0, f1, f2, f3, f4, f5, f6, f7, f8, f9, f10, f11, f12, f13, f14⟩ K Q hK
        try dsimp only at g1 q1 a1 n1 a2 a9 r9 f0 f1 f2 f3 f4 f5 f6 f7 f8 f9 f10 f11 f12 f13 f14 ⊢
        have HF := Lib.hid (show (L 15 = false → Below V11.heap.size V11 W) ∧ (L 0 = true → L 5 = false → Own W V11.heap.size 65 6 (some ⟨gh.e1, 0, none⟩) 0 0 []) ∧ (L 5 = true → L 8 = false → Own W V11.heap.size 65 6 gh.A1 k gh.k1 ((m.tastes.take k).flatMap Tast.vals)) ∧ (L 7 = true → L 8 = false → Reads W W.heap.size 6 (some ⟨gh.e2, 0, none⟩) 1 x.vals) ∧ (L 8 = true → L 13 = false → Own W V11.heap.size 65 6 gh.A2 (k + 1) gh.k2 (((m.tastes.take k).flatMap Tast.vals) ++ x.vals)) ∧ (L 13 = true → L 15 = false → Own W V11.heap.size 65 6 gh.A9 (nt + 1) gh.k9 (((m.tastes.take k).flatMap Tast.vals) ++ (x.vals ++ ((m.tastes.drop k).flatMap Tast.vals)))) ∧ (L 15 = true → ∃ V, Below V11.heap.size V11 V ∧ Own V V11.heap.size 65 6 gh.A9 (nt + 1) gh.k9 (((m.tastes.take k).flatMap Tast.vals) ++ (x.vals ++ ((m.tastes.drop k).flatMap Tast.vals))) ∧ W = V.setCell ⟨G12, 3, none⟩ (.slice gh.A9 (nt + 1) gh.k9)) ∧ (L 0 = true → s 37 = .slice (some ⟨gh.e1, 0, none⟩) 0 0) ∧ (L 1 = true → s 38 = .pointer (some ⟨w.heap.size, 3, none⟩)) ∧ (L 2 = true → s 39 = .slice At nt ct) ∧ (L 3 = true → s 40 = .int .i64 k) ∧ (L 4 = true → s 41 = .slice At k ct) ∧ (L 5 = true → s 42 = .slice gh.A1 k gh.k1) ∧ (L 6 = true → s 43 = .agg #[.int .i64 x.num, .int .i64 x.vessel, .int .i64 x.after, .int .i64 x.fountain, .int .i64 x.lo, .int .i64 x.hi]) ∧ (L 7 = true → s 44 = .slice (some ⟨gh.e2, 0, none⟩) 1 1) ∧ (L 8 = true → s 45 = .slice gh.A2 (k + 1) gh.k2) ∧ (L 9 = true → s 46 = .pointer (some ⟨w.heap.size, 3, none⟩)) ∧ (L 10 = true → s 47 = .slice At nt ct) ∧ (L 11 = true → s 48 = .int .i64 k) ∧ (L 12 = true → s 49 = .slice (At) (nt - k) (ct - k)) ∧ (L 13 = true → s 50 = .slice gh.A9 (nt + 1) gh.k9) ∧ (L 14 = true → s 51 = .pointer (some ⟨G12, 3, none⟩)) from ⟨g1, q1, a1, n1, a2, a9, r9, f0, f1, f2, f3, f4, f5, f6, f7, f8, f9, f10, f11, f12, f13, f14⟩)
        clear f14 f13 f12 f11 f10 f9 f8 f7 f6 f5 f4 f3 f2 f1 f0 r9 a9 a2 n1 a1 q1 g1 hd
        try simp only
        gi_wp2
        obtain ⟨g1, q1, a1, n1, a2, a9, r9, f0, f1, f2, f3, f4, f5, f6, f7, f8, f9, f10, f11, f12, f13, f14⟩ := HF.out
        exact hK (gh, (upd s 48 (.int .i64 k))) _ ⟨g1, q1, a1, n1, a2, a9, r9, f0, f1, f2, f3, f4, f5, f6, f7, f8, f9, f10, (fun _ => rfl), f12, f13, f14⟩
       ·rintro L ⟨gh, s⟩ W hu hd hdn ⟨g1, q1, a1, n1, a2, a9, r9, f0, f1, f2, f3, f4, f5, f6, f7, f8, f9, f10, f11, f12, f13, f14⟩ K Q hK
        try dsimp only at g1 q1 a1 n1 a2 a9 r9 f0 f1 f2 f3 f4 f5 f6 f7 f8 f9 f10 f11 f12 f13 f14 ⊢
        have e10 := f10 (hd.at_ 10 rfl)
        have e11 := f11 (hd.at_ 11 rfl)
        have hkc : (k : Int) ≤ (nt : Int) := by omega
        have hkc2 : k ≤ nt := by omega
        have hcm : ct ≤ 9223372036854775807 := by unfold maxLen at hcl; omega
        have hne : (ct = k) = True := eq_true HCK.out
        have HF := Lib.hid (show (L 15 = false → Below V11.heap.size V11 W) ∧ (L 0 = true → L 5 = false → Own W V11.heap.size 65 6 (some ⟨gh.e1, 0, none⟩) 0 0 []) ∧ (L 5 = true → L 8 = false → Own W V11.heap.size 65 6 gh.A1 k gh.k1 ((m.tastes.take k).flatMap Tast.vals)) ∧ (L 7 = true → L 8 = false → Reads W W.heap.size 6 (some ⟨gh.e2, 0, none⟩) 1 x.vals) ∧ (L 8 = true → L 13 = false → Own W V11.heap.size 65 6 gh.A2 (k + 1) gh.k2 (((m.tastes.take k).flatMap Tast.vals) ++ x.vals)) ∧ (L 13 = true → L 15 = false → Own W V11.heap.size 65 6 gh.A9 (nt + 1) gh.k9 (((m.tastes.take k).flatMap Tast.vals) ++ (x.vals ++ ((m.tastes.drop k).flatMap Tast.vals)))) ∧ (L 15 = true → ∃ V, Below V11.heap.size V11 V ∧ Own V V11.heap.size 65 6 gh.A9 (nt + 1) gh.k9 (((m.tastes.take k).flatMap Tast.vals) ++ (x.vals ++ ((m.tastes.drop k).flatMap Tast.vals))) ∧ W = V.setCell ⟨G12, 3, none⟩ (.slice gh.A9 (nt + 1) gh.k9)) ∧ (L 0 = true → s 37 = .slice (some ⟨gh.e1, 0, none⟩) 0 0) ∧ (L 1 = true → s 38 = .pointer (some ⟨w.heap.size, 3, none⟩)) ∧ (L 2 = true → s 39 = .slice At nt ct) ∧ (L 3 = true → s 40 = .int .i64 k) ∧ (L 4 = true → s 41 = .slice At k ct) ∧ (L 5 = true → s 42 = .slice gh.A1 k gh.k1) ∧ (L 6 = true → s 43 = .agg #[.int .i64 x.num, .int .i64 x.vessel, .int .i64 x.after, .int .i64 x.fountain, .int .i64 x.lo, .int .i64 x.hi]) ∧ (L 7 = true → s 44 = .slice (some ⟨gh.e2, 0, none⟩) 1 1) ∧ (L 8 = true → s 45 = .slice gh.A2 (k + 1) gh.k2) ∧ (L 9 = true → s 46 = .pointer (some ⟨w.heap.size, 3, none⟩)) ∧ (L 10 = true → s 47 = .slice At nt ct) ∧ (L 11 = true → s 48 = .int .i64 k) ∧ (L 12 = true → s 49 = .slice (At) (nt - k) (ct - k)) ∧ (L 13 = true → s 50 = .slice gh.A9 (nt + 1) gh.k9) ∧ (L 14 = true → s 51 = .pointer (some ⟨G12, 3, none⟩)) from ⟨g1, q1, a1, n1, a2, a9, r9, f0, f1, f2, f3, f4, f5, f6, f7, f8, f9, f10, f11, f12, f13, f14⟩)
        clear f14 f13 f12 f11 f10 f9 f8 f7 f6 f5 f4 f3 f2 f1 f0 r9 a9 a2 n1 a1 q1 g1 hd
        try simp only at e10 e11 ⊢
        gi_wp2
        obtain ⟨g1, q1, a1, n1, a2, a9, r9, f0, f1, f2, f3, f4, f5, f6, f7, f8, f9, f10, f11, f12, f13, f14⟩ := HF.out
        exact hK (gh, (upd (upd (upd s 47 (.slice At nt ct)) 48 (.int .i64 k)) 49 (.slice (At) (nt - k) (ct - k)))) _ ⟨g1, q1, a1, n1, a2, a9, r9, f0, f1, f2, f3, f4, f5, f6, f7, f8, f9, (fun _ => rfl), (fun _ => rfl), (fun _ => rfl), f13, f14⟩
       ·rintro L ⟨gh, s⟩ W hu hd hdn ⟨g1, q1, a1, n1, a2, a9, r9, f0, f1, f2, f3, f4, f5, f6, f7, f8, f9, f10, f11, f12, f13, f14⟩ K Q hK
        try dsimp only at g1 q1 a1 n1 a2 a9 r9 f0 f1 f2 f3 f4 f5 f6 f7 f8 f9 f10 f11 f12 f13 f14 ⊢
        have e8 := f8 (hd.at_ 8 rfl)
        have e12 := f12 (hd.at_ 12 rfl)
        have h15 : L 15 = false := by
         cases hc : L 15 with
         | false => rfl
         | true => exact hdn.no 15 13 hc rfl hu
        have HE := Lib.hid (a2 (hd.at_ 8 rfl) hu)
        have HG1 := Lib.hid (g1 h15)
        have HSZ := Lib.hid (g1 h15).size
        have HD8 := Lib.hid (hd.at_ 8 rfl)
        have HD5 := Lib.hid (hdn.at_ 8 5 (hd.at_ 8 rfl) rfl)
        have HF := Lib.hid (show (L 15 = false → Below V11.heap.size V11 W) ∧ (L 0 = true → L 5 = false → Own W V11.heap.size 65 6 (some ⟨gh.e1, 0, none⟩) 0 0 []) ∧ (L 5 = true → L 8 = false → Own W V11.heap.size 65 6 gh.A1 k gh.k1 ((m.tastes.take k).flatMap Tast.vals)) ∧ (L 7 = true → L 8 = false → Reads W W.heap.size 6 (some ⟨gh.e2, 0, none⟩) 1 x.vals) ∧ (L 8 = true → L 13 = false → Own W V11.heap.size 65 6 gh.A2 (k + 1) gh.k2 (((m.tastes.take k).flatMap Tast.vals) ++ x.vals)) ∧ (L 13 = true → L 15 = false → Own W V11.heap.size 65 6 gh.A9 (nt + 1) gh.k9 (((m.tastes.take k).flatMap Tast.vals) ++ (x.vals ++ ((m.tastes.drop k).flatMap Tast.vals)))) ∧ (L 15 = true → ∃ V, Below V11.heap.size V11 V ∧ Own V V11.heap.size 65 6 gh.A9 (nt + 1) gh.k9 (((m.tastes.take k).flatMap Tast.vals) ++ (x.vals ++ ((m.tastes.drop k).flatMap Tast.vals))) ∧ W = V.setCell ⟨G12, 3, none⟩ (.slice gh.A9 (nt + 1) gh.k9)) ∧ (L 0 = true → s 37 = .slice (some ⟨gh.e1, 0, none⟩) 0 0) ∧ (L 1 = true → s 38 = .pointer (some ⟨w.heap.size, 3, none⟩)) ∧ (L 2 = true → s 39 = .slice At nt ct) ∧ (L 3 = true → s 40 = .int .i64 k) ∧ (L 4 = true → s 41 = .slice At k ct) ∧ (L 5 = true → s 42 = .slice gh.A1 k gh.k1) ∧ (L 6 = true → s 43 = .agg #[.int .i64 x.num, .int .i64 x.vessel, .int .i64 x.after, .int .i64 x.fountain, .int .i64 x.lo, .int .i64 x.hi]) ∧ (L 7 = true → s 44 = .slice (some ⟨gh.e2, 0, none⟩) 1 1) ∧ (L 8 = true → s 45 = .slice gh.A2 (k + 1) gh.k2) ∧ (L 9 = true → s 46 = .pointer (some ⟨w.heap.size, 3, none⟩)) ∧ (L 10 = true → s 47 = .slice At nt ct) ∧ (L 11 = true → s 48 = .int .i64 k) ∧ (L 12 = true → s 49 = .slice (At) (nt - k) (ct - k)) ∧ (L 13 = true → s 50 = .slice gh.A9 (nt + 1) gh.k9) ∧ (L 14 = true → s 51 = .pointer (some ⟨G12, 3, none⟩)) from ⟨g1, q1, a1, n1, a2, a9, r9, f0, f1, f2, f3, f4, f5, f6, f7, f8, f9, f10, f11, f12, f13, f14⟩)
        clear f14 f13 f12 f11 f10 f9 f8 f7 f6 f5 f4 f3 f2 f1 f0 r9 a9 a2 n1 a1 q1 g1 hd
        try simp only at e8 e12 ⊢
        have hrd := reads_hi (k := k) (c := ct) ((HM.out.up (HLay.out.below HG1.out).1).at_.tastes) hk hcl.1
        rw [← flat_drop tast_k, HHI.out] at hrd
        have HRD := Lib.hid hrd
        clear hrd
        gi_wp2_with (first | (gi_at_builtin; refine wpListIn_append_any rfl (.tmp 45) (.tmp 49) (by rfl) elem_tast e8 HE.out e12 HRD.out (tast_one _) (by unfold maxLen; omega) (by omega) HSZ.out ?_) | fail)
        rintro AN cN W1 hO hg hA
        rw [HKN.out] at hO ⊢
        gi_wp2
        obtain ⟨g1, q1, a1, n1, a2, a9, r9, f0, f1, f2, f3, f4, f5, f6, f7, f8, f9, f10, f11, f12, f13, f14⟩ := HF.out
        have hgb : Below V11.heap.size V11 W1 := (g1 h15).grown hg (g1 h15).size (fun k hk => (own_row HE.out k hk).1)
        exact hK ({ gh with A9 := AN, k9 := cN }, (upd (upd (upd s 45 (.slice gh.A2 (k + 1) gh.k2)) 49 (.slice (At) (nt - k) (ct - k))) 50 (.slice AN (nt + 1) cN))) _ ⟨(fun _ => hgb), (fun _ h => absurd (HD5.out.symm.trans h) (by decide)), (fun _ h => absurd (HD8.out.symm.trans h) (by decide)), (fun _ h => absurd (HD8.out.symm.trans h) (by decide)), (fun _ h => by cases h), (fun _ _ => hO), (fun h => absurd (h15.symm.trans h) (by decide)), f0, f1, f2, f3, f4, f5, f6, f7, (fun _ => rfl), f9, f10, f11, (fun _ => rfl), (fun _ => rfl), f14⟩
       ·rintro L ⟨gh, s⟩ W hu hd hdn ⟨g1, q1, a1, n1, a2, a9, r9, f0, f1, f2, f3, f4, f5, f6, f7, f8, f9, f10, f11, f12, f13, f14⟩ K Q hK
        try dsimp only at g1 q1 a1 n1 a2 a9 r9 f0 f1 f2 f3 f4 f5 f6 f7 f8 f9 f10 f11 f12 f13 f14 ⊢
        have tlx := HLay.out.lt 3 rfl
        have HF := Lib.hid (show (L 15 = false → Below V11.heap.size V11 W) ∧ (L 0 = true → L 5 = false → Own W V11.heap.size 65 6 (some ⟨gh.e1, 0, none⟩) 0 0 []) ∧ (L 5 = true → L 8 = false → Own W V11.heap.size 65 6 gh.A1 k gh.k1 ((m.tastes.take k).flatMap Tast.vals)) ∧ (L 7 = true → L 8 = false → Reads W W.heap.size 6 (some ⟨gh.e2, 0, none⟩) 1 x.vals) ∧ (L 8 = true → L 13 = false → Own W V11.heap.size 65 6 gh.A2 (k + 1) gh.k2 (((m.tastes.take k).flatMap Tast.vals) ++ x.vals)) ∧ (L 13 = true → L 15 = false → Own W V11.heap.size 65 6 gh.A9 (nt + 1) gh.k9 (((m.tastes.take k).flatMap Tast.vals) ++ (x.vals ++ ((m.tastes.drop k).flatMap Tast.vals)))) ∧ (L 15 = true → ∃ V, Below V11.heap.size V11 V ∧ Own V V11.heap.size 65 6 gh.A9 (nt + 1) gh.k9 (((m.tastes.take k).flatMap Tast.vals) ++ (x.vals ++ ((m.tastes.drop k).flatMap Tast.vals))) ∧ W = V.setCell ⟨G12, 3, none⟩ (.slice gh.A9 (nt + 1) gh.k9)) ∧ (L 0 = true → s 37 = .slice (some ⟨gh.e1, 0, none⟩) 0 0) ∧ (L 1 = true → s 38 = .pointer (some ⟨w.heap.size, 3, none⟩)) ∧ (L 2 = true → s 39 = .slice At nt ct) ∧ (L 3 = true → s 40 = .int .i64 k) ∧ (L 4 = true → s 41 = .slice At k ct) ∧ (L 5 = true → s 42 = .slice gh.A1 k gh.k1) ∧ (L 6 = true → s 43 = .agg #[.int .i64 x.num, .int .i64 x.vessel, .int .i64 x.after, .int .i64 x.fountain, .int .i64 x.lo, .int .i64 x.hi]) ∧ (L 7 = true → s 44 = .slice (some ⟨gh.e2, 0, none⟩) 1 1) ∧ (L 8 = true → s 45 = .slice gh.A2 (k + 1) gh.k2) ∧ (L 9 = true → s 46 = .pointer (some ⟨w.heap.size, 3, none⟩)) ∧ (L 10 = true → s 47 = .slice At nt ct) ∧ (L 11 = true → s 48 = .int .i64 k) ∧ (L 12 = true → s 49 = .slice (At) (nt - k) (ct - k)) ∧ (L 13 = true → s 50 = .slice gh.A9 (nt + 1) gh.k9) ∧ (L 14 = true → s 51 = .pointer (some ⟨G12, 3, none⟩)) from ⟨g1, q1, a1, n1, a2, a9, r9, f0, f1, f2, f3, f4, f5, f6, f7, f8, f9, f10, f11, f12, f13, f14⟩)
        clear f14 f13 f12 f11 f10 f9 f8 f7 f6 f5 f4 f3 f2 f1 f0 r9 a9 a2 n1 a1 q1 g1 hd
        try simp only
        gi_wp2
        obtain ⟨g1, q1, a1, n1, a2, a9, r9, f0, f1, f2, f3, f4, f5, f6, f7, f8, f9, f10, f11, f12, f13, f14⟩ := HF.out
        exact hK (gh, (upd s 51 (.pointer (some ⟨G12, 3, none⟩)))) _ ⟨g1, q1, a1, n1, a2, a9, r9, f0, f1, f2, f3, f4, f5, f6, f7, f8, f9, f10, f11, f12, f13, (fun _ => rfl)⟩
       ·rintro L ⟨gh, s⟩ W hu hd hdn ⟨g1, q1, a1, n1, a2, a9, r9, f0, f1, f2, f3, f4, f5, f6, f7, f8, f9, f10, f11, f12, f13, f14⟩ K Q hK
        try dsimp only at g1 q1 a1 n1 a2 a9 r9 f0 f1 f2 f3 f4 f5 f6 f7 f8 f9 f10 f11 f12 f13 f14 ⊢
        have e14 := f14 (hd.at_ 14 rfl)
        have e13 := f13 (hd.at_ 13 rfl)
        have MB := (HLay.out.below (g1 hu)).blk 3 rfl
        have y3 := MB.cell 3
        have z3 := MB.frozen 3
        have tlx := MB.lt
        clear MB
        have HV := Lib.hid (And.intro (g1 hu) (a9 (hd.at_ 13 rfl) hu))
        have HD5 := Lib.hid (hd.at_ 5 rfl)
        have HD8 := Lib.hid (hd.at_ 8 rfl)
        have HD13 := Lib.hid (hd.at_ 13 rfl)
        have HF := Lib.hid (show (L 15 = false → Below V11.heap.size V11 W) ∧ (L 0 = true → L 5 = false → Own W V11.heap.size 65 6 (some ⟨gh.e1, 0, none⟩) 0 0 []) ∧ (L 5 = true → L 8 = false → Own W V11.heap.size 65 6 gh.A1 k gh.k1 ((m.tastes.take k).flatMap Tast.vals)) ∧ (L 7 = true → L 8 = false → Reads W W.heap.size 6 (some ⟨gh.e2, 0, none⟩) 1 x.vals) ∧ (L 8 = true → L 13 = false → Own W V11.heap.size 65 6 gh.A2 (k + 1) gh.k2 (((m.tastes.take k).flatMap Tast.vals) ++ x.vals)) ∧ (L 13 = true → L 15 = false → Own W V11.heap.size 65 6 gh.A9 (nt + 1) gh.k9 (((m.tastes.take k).flatMap Tast.vals) ++ (x.vals ++ ((m.tastes.drop k).flatMap Tast.vals)))) ∧ (L 15 = true → ∃ V, Below V11.heap.size V11 V ∧ Own V V11.heap.size 65 6 gh.A9 (nt + 1) gh.k9 (((m.tastes.take k).flatMap Tast.vals) ++ (x.vals ++ ((m.tastes.drop k).flatMap Tast.vals))) ∧ W = V.setCell ⟨G12, 3, none⟩ (.slice gh.A9 (nt + 1) gh.k9)) ∧ (L 0 = true → s 37 = .slice (some ⟨gh.e1, 0, none⟩) 0 0) ∧ (L 1 = true → s 38 = .pointer (some ⟨w.heap.size, 3, none⟩)) ∧ (L 2 = true → s 39 = .slice At nt ct) ∧ (L 3 = true → s 40 = .int .i64 k) ∧ (L 4 = true → s 41 = .slice At k ct) ∧ (L 5 = true → s 42 = .slice gh.A1 k gh.k1) ∧ (L 6 = true → s 43 = .agg #[.int .i64 x.num, .int .i64 x.vessel, .int .i64 x.after, .int .i64 x.fountain, .int .i64 x.lo, .int .i64 x.hi]) ∧ (L 7 = true → s 44 = .slice (some ⟨gh.e2, 0, none⟩) 1 1) ∧ (L 8 = true → s 45 = .slice gh.A2 (k + 1) gh.k2) ∧ (L 9 = true → s 46 = .pointer (some ⟨w.heap.size, 3, none⟩)) ∧ (L 10 = true → s 47 = .slice At nt ct) ∧ (L 11 = true → s 48 = .int .i64 k) ∧ (L 12 = true → s 49 = .slice (At) (nt - k) (ct - k)) ∧ (L 13 = true → s 50 = .slice gh.A9 (nt + 1) gh.k9) ∧ (L 14 = true → s 51 = .pointer (some ⟨G12, 3, none⟩)) from ⟨g1, q1, a1, n1, a2, a9, r9, f0, f1, f2, f3, f4, f5, f6, f7, f8, f9, f10, f11, f12, f13, f14⟩)
        clear f14 f13 f12 f11 f10 f9 f8 f7 f6 f5 f4 f3 f2 f1 f0 r9 a9 a2 n1 a1 q1 g1 hd
        try simp only at e14 e13 ⊢
        gi_wp2
        obtain ⟨g1, q1, a1, n1, a2, a9, r9, f0, f1, f2, f3, f4, f5, f6, f7, f8, f9, f10, f11, f12, f13, f14⟩ := HF.out
        exact hK (gh, (upd (upd s 51 (.pointer (some ⟨G12, 3, none⟩))) 50 (.slice gh.A9 (nt + 1) gh.k9))) _ ⟨(fun h => by cases h), (fun _ h => absurd (HD5.out.symm.trans h) (by decide)), (fun _ h => absurd (HD8.out.symm.trans h) (by decide)), (fun _ h => absurd (HD8.out.symm.trans h) (by decide)), (fun _ h => absurd (HD13.out.symm.trans h) (by decide)), (fun _ h => by cases h), (fun _ => ⟨W, HV.out.1, HV.out.2, rfl⟩), f0, f1, f2, f3, f4, f5, f6, f7, f8, f9, f10, f11, f12, (fun _ => rfl), (fun _ => rfl)⟩
      ·rintro L ⟨gh, s⟩ W hall ⟨g1, q1, a1, n1, a2, a9, r9, f0, f1, f2, f3, f4, f5, f6, f7, f8, f9, f10, f11, f12, f13, f14⟩
       obtain ⟨V, hB, hO, rfl⟩ := r9 (hall 15 (by decide))
       clear f14 f13 f12 f11 f10 f9 f8 f7 f6 f5 f4 f3 f2 f1 f0 r9 a9 a2 n1 a1 q1 g1 hall
       simp only
       obtain ⟨ea, eb, A7, k7, A8, k8, A9, c9⟩ := gh
       dsimp only at hO ⊢
       have hwv : W9.heap.size ≤ V11.heap.size := by have := HWW.out; have := HG_.out; have := HLay.out.lt 3 rfl; omega
       have HMO2 := Lib.hid (HMO.out.tasts (l := (insT m.tastes x)) hB (by rw [HSP.out, List.flatMap_append, List.flatMap_append]; simpa using hO) hwv)
       replace HLay := Lib.hid (HLay.out.below hB)
       clear hO hB hwv
       have hne : ∀ b ∈ ([(w.heap.size, 26, #[.int .i64 m.fountains, .slice Av nv cv, .slice Aa na ca, .slice At nt ct]), (w.heap.size + 1, 65, #[.int .i64 x.num, .int .i64 x.vessel, .int .i64 x.after, .int .i64 x.fountain, .int .i64 x.lo, .int .i64 x.hi]), (w.heap.size + 1 + 1, 26, #[.int .i64 0, .slice none 0 0, .slice none 0 0, .slice none 0 0])] : List (Nat × TypeId × Array Value)), b.1 ≠ G12 := fun b hb => by
        have := HWW.out; have := HG_.out; have := HBLL.out
        simp only [List.mem_cons, List.not_mem_nil, or_false] at hb
        rcases hb with rfl | rfl | rfl <;> dsimp only <;> omega
       have hgs := grown_setCell (row := some G12) (grown_refl V _) (p := ⟨G12, 3, none⟩) (.inl rfl) (.slice A9 (nt + 1) c9)
       have HMO3 := Lib.hid (HMO2.out.offB (HLay.out.blk 3 rfl) hgs)
       have hl := Lay.setLast HLay.out hne 3 (.slice A9 (nt + 1) c9)
       generalize V.setCell ⟨G12, 3, none⟩ (.slice A9 (nt + 1) c9) = V13 at *
       replace HLay := Lib.hid (show Lay w V13 [(w.heap.size, 26, #[.int .i64 m.fountains, .slice Av nv cv, .slice Aa na ca, .slice At nt ct]), (w.heap.size + 1, 65, #[.int .i64 x.num, .int .i64 x.vessel, .int .i64 x.after, .int .i64 x.fountain, .int .i64 x.lo, .int .i64 x.hi]), (w.heap.size + 1 + 1, 26, #[.int .i64 0, .slice none 0 0, .slice none 0 0, .slice none 0 0]), (G12, 26, #[.int .i64 m.fountains, .slice A1 nv c1, .slice A2 na c2, .slice A9 (nt + 1) c9])] from hl)
       replace HMO := HMO3
       clear hgs hl HMO2 HMO3 hne
       have x3_0 := (HLay.out.blk 3 rfl).cell 0
       have x3_1 := (HLay.out.blk 3 rfl).cell 1
       have x3_2 := (HLay.out.blk 3 rfl).cell 2
       have x3_3 := (HLay.out.blk 3 rfl).cell 3
       have l3_ := HLay.out.lt 3 rfl
       gi_wp2
       clear x3_0 x3_1 x3_2 x3_3 l3_
       refine ⟨trivial, (callsIn_wide.2 (rmix_any A1 nv c1 A2 na c2 A9 (nt + 1) c9 (withT m (insT m.tastes x)) V13 (HMO.out.s hnv (by omega) (by omega)))).mono ?_⟩
       rintro e W14 ⟨rfl, hb⟩
       have HBC := Lib.hid hb
       replace HLay := Lib.hid (HLay.out.below hb)
       clear hb
       cases hk : okMix (withT m (insT m.tastes x)) with
       | false =>
        replace HF : Hid (putM m x = (zeroMix, 42)) := Lib.hid (by rw [HF.out, hk]; rfl)
        clear hk HMO
        have x2_0 := (HLay.out.blk 2 rfl).cell 0
        have z2_0 := (HLay.out.blk 2 rfl).frozen 0
        have x2_1 := (HLay.out.blk 2 rfl).cell 1
        have z2_1 := (HLay.out.blk 2 rfl).frozen 1
        have x2_2 := (HLay.out.blk 2 rfl).cell 2
        have z2_2 := (HLay.out.blk 2 rfl).frozen 2
        have x2_3 := (HLay.out.blk 2 rfl).cell 3
        have z2_3 := (HLay.out.blk 2 rfl).frozen 3
        have l2_ := HLay.out.lt 2 rfl
        gi_wp2
        have R4 := ret4' (HLay.out.blk 2 rfl) HLay.out.1 (HLay.out.ge 2 rfl) (.int .i64 0) (.slice none 0 0) (.slice none 0 0) (.slice none 0 0)
        have v0 := R4.1.cell 0
        have v1 := R4.1.cell 1
        have v2 := R4.1.cell 2
        have v3 := R4.1.cell 3
        refine bodyPost_ret (v := .tuple #[.agg #[.int .i64 0, .slice none 0 0, .slice none 0 0, .slice none 0 0], .int .i64 42]) (by simp [results, Try.results32, go_sem, v0, v1, v2, v3]) rfl ?_
        rw [HF.out]
        exact ⟨none, 0, 0, none, 0, 0, none, 0, 0, rfl, MixS.nothing _, R4.2.1⟩
       | true =>
        replace HF : Hid (putM m x = ((withT m (insT m.tastes x)), 0)) := Lib.hid (by rw [HF.out, hk]; rfl)
        replace HMO := Lib.hid (HMO.out.below HBC.out)
        clear hk
        have x3_0 := (HLay.out.blk 3 rfl).cell 0
        have x3_1 := (HLay.out.blk 3 rfl).cell 1
        have x3_2 := (HLay.out.blk 3 rfl).cell 2
        have x3_3 := (HLay.out.blk 3 rfl).cell 3
        have l3_ := HLay.out.lt 3 rfl
        have r0 := (HLay.out.blk 2 rfl).cell 0
        have rz0 := (HLay.out.blk 2 rfl).frozen 0
        have r1 := (HLay.out.blk 2 rfl).cell 1
        have rz1 := (HLay.out.blk 2 rfl).frozen 1
        have r2 := (HLay.out.blk 2 rfl).cell 2
        have rz2 := (HLay.out.blk 2 rfl).frozen 2
        have r3 := (HLay.out.blk 2 rfl).cell 3
        have rz3 := (HLay.out.blk 2 rfl).frozen 3
        have rl := HLay.out.lt 2 rfl
        gi_wp2
        have R4 := ret4' (HLay.out.blk 2 rfl) HLay.out.1 (HLay.out.ge 2 rfl) (.int .i64 m.fountains) (.slice A1 nv c1) (.slice A2 na c2) (.slice A9 (nt + 1) c9)
        have v0 := R4.1.cell 0
        have v1 := R4.1.cell 1
        have v2 := R4.1.cell 2
        have v3 := R4.1.cell 3
        refine bodyPost_ret (v := .tuple #[.agg #[.int .i64 m.fountains, .slice A1 nv c1, .slice A2 na c2, .slice A9 (nt + 1) c9], .int .i64 0]) (by simp [results, Try.results32, go_sem, v0, v1, v2, v3]) rfl ?_
        rw [HF.out]
        exact ⟨_, _, _, _, _, _, _, _, _, rfl, (HMO.out.offB (HLay.out.blk 2 rfl) R4.2.2).s (by omega) (by omega) (by omega), R4.2.1⟩
     ·
      have HHI : Hid ((if ct = k then At else Option.map (fun x => x.add (k * 6)) At) = Option.map (fun x : Addr => x.add (k * 6)) At) := Lib.hid (by rw [if_neg hck])
      have HCK := Lib.hid hck
      clear hck
      refine wpIn_region_stepsD (by kernel_rfl) (by kernel_rfl) (fun σ : RpGh × (Nat → Value) => { tmps := #[.agg #[.int .i64 m.fountains, .slice Av nv cv, .slice Aa na ca, .slice At nt ct], .agg #[.int .i64 x.num, .int .i64 x.vessel, .int .i64 x.after, .int .i64 x.fountain, .int .i64 x.lo, .int .i64 x.hi], .pointer (some ⟨w.heap.size, 0, none⟩), .pointer (some ⟨w.heap.size + 1, 0, none⟩), .pointer (some ⟨w.heap.size + 1 + 1, 0, none⟩), .int .i64 0, .int .i64 k, .pointer (some ⟨G12, 0, none⟩), .agg #[.int .i64 m.fountains, .slice Av nv cv, .slice Aa na ca, .slice At nt ct], .bool true, .bool false, undef, .pointer (some ⟨w.heap.size, 3, none⟩), .slice At nt ct, .int .i64 nt, .bool false, undef, .int .i64 k, .pointer (some ⟨w.heap.size, 3, none⟩), .slice At nt ct, .int .i64 nt, .bool false, .bool false, undef, undef, undef, undef, undef, undef, undef, undef, undef, .bool false, u33, u34, .agg #[.int .i64 m.fountains, .slice Av nv cv, .slice Aa na ca, .slice At nt ct], .agg #[.int .i64 m.fountains, .slice A1 nv c1, .slice A2 na c2, .slice A3 nt c3], σ.2 37, σ.2 38, σ.2 39, σ.2 40, σ.2 41, σ.2 42, σ.2 43, σ.2 44, σ.2 45, σ.2 46, σ.2 47, σ.2 48, σ.2 49, σ.2 50, σ.2 51, undef, undef, undef, undef, undef], defers := [] })
       (fun L σ W => (L 15 = false → Below V11.heap.size V11 W) ∧ (L 0 = true → L 5 = false → Own W V11.heap.size 65 6 (some ⟨σ.1.e1, 0, none⟩) 0 0 []) ∧ (L 5 = true → L 8 = false → Own W V11.heap.size 65 6 σ.1.A1 k σ.1.k1 ((m.tastes.take k).flatMap Tast.vals)) ∧ (L 7 = true → L 8 = false → Reads W W.heap.size 6 (some ⟨σ.1.e2, 0, none⟩) 1 x.vals) ∧ (L 8 = true → L 13 = false → Own W V11.heap.size 65 6 σ.1.A2 (k + 1) σ.1.k2 (((m.tastes.take k).flatMap Tast.vals) ++ x.vals)) ∧ (L 13 = true → L 15 = false → Own W V11.heap.size 65 6 σ.1.A9 (nt + 1) σ.1.k9 (((m.tastes.take k).flatMap Tast.vals) ++ (x.vals ++ ((m.tastes.drop k).flatMap Tast.vals)))) ∧ (L 15 = true → ∃ V, Below V11.heap.size V11 V ∧ Own V V11.heap.size 65 6 σ.1.A9 (nt + 1) σ.1.k9 (((m.tastes.take k).flatMap Tast.vals) ++ (x.vals ++ ((m.tastes.drop k).flatMap Tast.vals))) ∧ W = V.setCell ⟨G12, 3, none⟩ (.slice σ.1.A9 (nt + 1) σ.1.k9)) ∧ (L 0 = true → σ.2 37 = .slice (some ⟨σ.1.e1, 0, none⟩) 0 0) ∧ (L 1 = true → σ.2 38 = .pointer (some ⟨w.heap.size, 3, none⟩)) ∧ (L 2 = true → σ.2 39 = .slice At nt ct) ∧ (L 3 = true → σ.2 40 = .int .i64 k) ∧ (L 4 = true → σ.2 41 = .slice At k ct) ∧ (L 5 = true → σ.2 42 = .slice σ.1.A1 k σ.1.k1) ∧ (L 6 = true → σ.2 43 = .agg #[.int .i64 x.num, .int .i64 x.vessel, .int .i64 x.after, .int .i64 x.fountain, .int .i64 x.lo, .int .i64 x.hi]) ∧ (L 7 = true → σ.2 44 = .slice (some ⟨σ.1.e2, 0, none⟩) 1 1) ∧ (L 8 = true → σ.2 45 = .slice σ.1.A2 (k + 1) σ.1.k2) ∧ (L 9 = true → σ.2 46 = .pointer (some ⟨w.heap.size, 3, none⟩)) ∧ (L 10 = true → σ.2 47 = .slice At nt ct) ∧ (L 11 = true → σ.2 48 = .int .i64 k) ∧ (L 12 = true → σ.2 49 = .slice (Option.map (fun x : Addr => x.add (k * 6)) At) (nt - k) (ct - k)) ∧ (L 13 = true → σ.2 50 = .slice σ.1.A9 (nt + 1) σ.1.k9) ∧ (L 14 = true → σ.2 51 = .pointer (some ⟨G12, 3, none⟩)))
       (⟨0, 0, none, 0, none, 0, none, 0⟩, fun k => undef) rfl ?_ ?_ ?_
      ·exact ⟨(fun _ => below_drewN (Below.refl _ _) 1), (fun h => by cases h), (fun h => by cases h), (fun h => by cases h), (fun h => by cases h), (fun h => by cases h), (fun h => by cases h), (fun h => by cases h), (fun h => by cases h), (fun h => by cases h), (fun h => by cases h), (fun h => by cases h), (fun h => by cases h), (fun h => by cases h), (fun h => by cases h), (fun h => by cases h), (fun h => by cases h), (fun h => by cases h), (fun h => by cases h), (fun h => by cases h), (fun h => by cases h), (fun h => by cases h)⟩
      ·refine ⟨?_, ?_, ?_, ?_, ?_, ?_, ?_, ?_, ?_, ?_, ?_, ?_, ?_, ?_, ?_, ?_, trivial⟩
       ·rintro L ⟨gh, s⟩ W hu hd hdn ⟨g1, q1, a1, n1, a2, a9, r9, f0, f1, f2, f3, f4, f5, f6, f7, f8, f9, f10, f11, f12, f13, f14⟩ K Q hK
        try dsimp only at g1 q1 a1 n1 a2 a9 r9 f0 f1 f2 f3 f4 f5 f6 f7 f8 f9 f10 f11 f12 f13 f14 ⊢
        have h15 : L 15 = false := by
         cases hc : L 15 with
         | false => rfl
         | true => exact hdn.no 15 0 hc rfl hu
        have HSZ := Lib.hid (g1 h15).size
        have HF := Lib.hid (show (L 15 = false → Below V11.heap.size V11 W) ∧ (L 0 = true → L 5 = false → Own W V11.heap.size 65 6 (some ⟨gh.e1, 0, none⟩) 0 0 []) ∧ (L 5 = true → L 8 = false → Own W V11.heap.size 65 6 gh.A1 k gh.k1 ((m.tastes.take k).flatMap Tast.vals)) ∧ (L 7 = true → L 8 = false → Reads W W.heap.size 6 (some ⟨gh.e2, 0, none⟩) 1 x.vals) ∧ (L 8 = true → L 13 = false → Own W V11.heap.size 65 6 gh.A2 (k + 1) gh.k2 (((m.tastes.take k).flatMap Tast.vals) ++ x.vals)) ∧ (L 13 = true → L 15 = false → Own W V11.heap.size 65 6 gh.A9 (nt + 1) gh.k9 (((m.tastes.take k).flatMap Tast.vals) ++ (x.vals ++ ((m.tastes.drop k).flatMap Tast.vals)))) ∧ (L 15 = true → ∃ V, Below V11.heap.size V11 V ∧ Own V V11.heap.size 65 6 gh.A9 (nt + 1) gh.k9 (((m.tastes.take k).flatMap Tast.vals) ++ (x.vals ++ ((m.tastes.drop k).flatMap Tast.vals))) ∧ W = V.setCell ⟨G12, 3, none⟩ (.slice gh.A9 (nt + 1) gh.k9)) ∧ (L 0 = true → s 37 = .slice (some ⟨gh.e1, 0, none⟩) 0 0) ∧ (L 1 = true → s 38 = .pointer (some ⟨w.heap.size, 3, none⟩)) ∧ (L 2 = true → s 39 = .slice At nt ct) ∧ (L 3 = true → s 40 = .int .i64 k) ∧ (L 4 = true → s 41 = .slice At k ct) ∧ (L 5 = true → s 42 = .slice gh.A1 k gh.k1) ∧ (L 6 = true → s 43 = .agg #[.int .i64 x.num, .int .i64 x.vessel, .int .i64 x.after, .int .i64 x.fountain, .int .i64 x.lo, .int .i64 x.hi]) ∧ (L 7 = true → s 44 = .slice (some ⟨gh.e2, 0, none⟩) 1 1) ∧ (L 8 = true → s 45 = .slice gh.A2 (k + 1) gh.k2) ∧ (L 9 = true → s 46 = .pointer (some ⟨w.heap.size, 3, none⟩)) ∧ (L 10 = true → s 47 = .slice At nt ct) ∧ (L 11 = true → s 48 = .int .i64 k) ∧ (L 12 = true → s 49 = .slice (Option.map (fun x : Addr => x.add (k * 6)) At) (nt - k) (ct - k)) ∧ (L 13 = true → s 50 = .slice gh.A9 (nt + 1) gh.k9) ∧ (L 14 = true → s 51 = .pointer (some ⟨G12, 3, none⟩)) from ⟨g1, q1, a1, n1, a2, a9, r9, f0, f1, f2, f3, f4, f5, f6, f7, f8, f9, f10, f11, f12, f13, f14⟩)
        clear f14 f13 f12 f11 f10 f9 f8 f7 f6 f5 f4 f3 f2 f1 f0 r9 a9 a2 n1 a1 q1 g1 hd
        try simp only
        gi_wp2
        obtain ⟨g1, q1, a1, n1, a2, a9, r9, f0, f1, f2, f3, f4, f5, f6, f7, f8, f9, f10, f11, f12, f13, f14⟩ := HF.out
        have hb : Below W.heap.size W (W.alloc (.cells #[] 65)) := (Below.refl _ _).alloc (Nat.le_refl _) _
        exact hK ({ gh with e1 := W.heap.size }, (upd s 37 (.slice (some ⟨W.heap.size, 0, none⟩) 0 0))) _ ⟨(fun h => (g1 h).trans (hb.mono (g1 h).size)), (fun _ _ => World.ownsRow_made W #[] 0 HSZ.out (Nat.zero_le _) (by simp)), (fun h q => (a1 h q).below hb (Nat.le_refl _)), (fun h q => ((n1 h q).below hb).more hb.size), (fun h q => (a2 h q).below hb (Nat.le_refl _)), (fun h q => (a9 h q).below hb (Nat.le_refl _)), (fun h => absurd (h15.symm.trans h) (by decide)), (fun _ => rfl), f1, f2, f3, f4, f5, f6, f7, f8, f9, f10, f11, f12, f13, f14⟩
       ·rintro L ⟨gh, s⟩ W hu hd hdn ⟨g1, q1, a1, n1, a2, a9, r9, f0, f1, f2, f3, f4, f5, f6, f7, f8, f9, f10, f11, f12, f13, f14⟩ K Q hK
        try dsimp only at g1 q1 a1 n1 a2 a9 r9 f0 f1 f2 f3 f4 f5 f6 f7 f8 f9 f10 f11 f12 f13 f14 ⊢
        have tl0 := HLay.out.lt 0 rfl
        have HF := Lib.hid (show (L 15 = false → Below V11.heap.size V11 W) ∧ (L 0 = true → L 5 = false → Own W V11.heap.size 65 6 (some ⟨gh.e1, 0, none⟩) 0 0 []) ∧ (L 5 = true → L 8 = false → Own W V11.heap.size 65 6 gh.A1 k gh.k1 ((m.tastes.take k).flatMap Tast.vals)) ∧ (L 7 = true → L 8 = false → Reads W W.heap.size 6 (some ⟨gh.e2, 0, none⟩) 1 x.vals) ∧ (L 8 = true → L 13 = false → Own W V11.heap.size 65 6 gh.A2 (k + 1) gh.k2 (((m.tastes.take k).flatMap Tast.vals) ++ x.vals)) ∧ (L 13 = true → L 15 = false → Own W V11.heap.size 65 6 gh.A9 (nt + 1) gh.k9 (((m.tastes.take k).flatMap Tast.vals) ++ (x.vals ++ ((m.tastes.drop k).flatMap Tast.vals)))) ∧ (L 15 = true → ∃ V, Below V11.heap.size V11 V ∧ Own V V11.heap.size 65 6 gh.A9 (nt + 1) gh.k9 (((m.tastes.take k).flatMap Tast.vals) ++ (x.vals ++ ((m.tastes.drop k).flatMap Tast.vals))) ∧ W = V.setCell ⟨G12, 3, none⟩ (.slice gh.A9 (nt + 1) gh.k9)) ∧ (L 0 = true → s 37 = .slice (some ⟨gh.e1, 0, none⟩) 0 0) ∧ (L 1 = true → s 38 = .pointer (some ⟨w.heap.size, 3, none⟩)) ∧ (L 2 = true → s 39 = .slice At nt ct) ∧ (L 3 = true → s 40 = .int .i64 k) ∧ (L 4 = true → s 41 = .slice At k ct) ∧ (L 5 = true → s 42 = .slice gh.A1 k gh.k1) ∧ (L 6 = true → s 43 = .agg #[.int .i64 x.num, .int .i64 x.vessel, .int .i64 x.after, .int .i64 x.fountain, .int .i64 x.lo, .int .i64 x.hi]) ∧ (L 7 = true → s 44 = .slice (some ⟨gh.e2, 0, none⟩) 1 1) ∧ (L 8 = true → s 45 = .slice gh.A2 (k + 1) gh.k2) ∧ (L 9 = true → s 46 = .pointer (some ⟨w.heap.size, 3, none⟩)) ∧ (L 10 = true → s 47 = .slice At nt ct) ∧ (L 11 = true → s 48 = .int .i64 k) ∧ (L 12 = true → s 49 = .slice (Option.map (fun x : Addr => x.add (k * 6)) At) (nt - k) (ct - k)) ∧ (L 13 = true → s 50 = .slice gh.A9 (nt + 1) gh.k9) ∧ (L 14 = true → s 51 = .pointer (some ⟨G12, 3, none⟩)) from ⟨g1, q1, a1, n1, a2, a9, r9, f0, f1, f2, f3, f4, f5, f6, f7, f8, f9, f10, f11, f12, f13, f14⟩)
        clear f14 f13 f12 f11 f10 f9 f8 f7 f6 f5 f4 f3 f2 f1 f0 r9 a9 a2 n1 a1 q1 g1 hd
        try simp only
        gi_wp2
        obtain ⟨g1, q1, a1, n1, a2, a9, r9, f0, f1, f2, f3, f4, f5, f6, f7, f8, f9, f10, f11, f12, f13, f14⟩ := HF.out
        exact hK (gh, (upd s 38 (.pointer (some ⟨w.heap.size, 3, none⟩)))) _ ⟨g1, q1, a1, n1, a2, a9, r9, f0, (fun _ => rfl), f2, f3, f4, f5, f6, f7, f8, f9, f10, f11, f12, f13, f14⟩
       ·rintro L ⟨gh, s⟩ W hu hd hdn ⟨g1, q1, a1, n1, a2, a9, r9, f0, f1, f2, f3, f4, f5, f6, f7, f8, f9, f10, f11, f12, f13, f14⟩ K Q hK
        try dsimp only at g1 q1 a1 n1 a2 a9 r9 f0 f1 f2 f3 f4 f5 f6 f7 f8 f9 f10 f11 f12 f13 f14 ⊢
        have e1 := f1 (hd.at_ 1 rfl)
        have h15 : L 15 = false := by
         cases hc : L 15 with
         | false => rfl
         | true => exact hdn.no 15 2 hc rfl hu
        have c0 : W.cell? ⟨w.heap.size, 3, none⟩ = some (.slice At nt ct) := ((HLay.out.below (g1 h15)).blk 0 rfl).cell 3
        have HF := Lib.hid (show (L 15 = false → Below V11.heap.size V11 W) ∧ (L 0 = true → L 5 = false → Own W V11.heap.size 65 6 (some ⟨gh.e1, 0, none⟩) 0 0 []) ∧ (L 5 = true → L 8 = false → Own W V11.heap.size 65 6 gh.A1 k gh.k1 ((m.tastes.take k).flatMap Tast.vals)) ∧ (L 7 = true → L 8 = false → Reads W W.heap.size 6 (some ⟨gh.e2, 0, none⟩) 1 x.vals) ∧ (L 8 = true → L 13 = false → Own W V11.heap.size 65 6 gh.A2 (k + 1) gh.k2 (((m.tastes.take k).flatMap Tast.vals) ++ x.vals)) ∧ (L 13 = true → L 15 = false → Own W V11.heap.size 65 6 gh.A9 (nt + 1) gh.k9 (((m.tastes.take k).flatMap Tast.vals) ++ (x.vals ++ ((m.tastes.drop k).flatMap Tast.vals)))) ∧ (L 15 = true → ∃ V, Below V11.heap.size V11 V ∧ Own V V11.heap.size 65 6 gh.A9 (nt + 1) gh.k9 (((m.tastes.take k).flatMap Tast.vals) ++ (x.vals ++ ((m.tastes.drop k).flatMap Tast.vals))) ∧ W = V.setCell ⟨G12, 3, none⟩ (.slice gh.A9 (nt + 1) gh.k9)) ∧ (L 0 = true → s 37 = .slice (some ⟨gh.e1, 0, none⟩) 0 0) ∧ (L 1 = true → s 38 = .pointer (some ⟨w.heap.size, 3, none⟩)) ∧ (L 2 = true → s 39 = .slice At nt ct) ∧ (L 3 = true → s 40 = .int .i64 k) ∧ (L 4 = true → s 41 = .slice At k ct) ∧ (L 5 = true → s 42 = .slice gh.A1 k gh.k1) ∧ (L 6 = true → s 43 = .agg #[.int .i64 x.num, .int .i64 x.vessel, .int .i64 x.after, .int .i64 x.fountain, .int .i64 x.lo, .int .i64 x.hi]) ∧ (L 7 = true → s 44 = .slice (some ⟨gh.e2, 0, none⟩) 1 1) ∧ (L 8 = true → s 45 = .slice gh.A2 (k + 1) gh.k2) ∧ (L 9 = true → s 46 = .pointer (some ⟨w.heap.size, 3, none⟩)) ∧ (L 10 = true → s 47 = .slice At nt ct) ∧ (L 11 = true → s 48 = .int .i64 k) ∧ (L 12 = true → s 49 = .slice (Option.map (fun x : Addr => x.add (k * 6)) At) (nt - k) (ct - k)) ∧ (L 13 = true → s 50 = .slice gh.A9 (nt + 1) gh.k9) ∧ (L 14 = true → s 51 = .pointer (some ⟨G12, 3, none⟩)) from ⟨g1, q1, a1, n1, a2, a9, r9, f0, f1, f2, f3, f4, f5, f6, f7, f8, f9, f10, f11, f12, f13, f14⟩)
        clear f14 f13 f12 f11 f10 f9 f8 f7 f6 f5 f4 f3 f2 f1 f0 r9 a9 a2 n1 a1 q1 g1 hd
        try simp only at e1 ⊢
        gi_wp2
        obtain ⟨g1, q1, a1, n1, a2, a9, r9, f0, f1, f2, f3, f4, f5, f6, f7, f8, f9, f10, f11, f12, f13, f14⟩ := HF.out
        exact hK (gh, (upd (upd s 38 (.pointer (some ⟨w.heap.size, 3, none⟩))) 39 (.slice At nt ct))) _ ⟨g1, q1, a1, n1, a2, a9, r9, f0, (fun _ => rfl), (fun _ => rfl), f3, f4, f5, f6, f7, f8, f9, f10, f11, f12, f13, f14⟩
       ·rintro L ⟨gh, s⟩ W hu hd hdn ⟨g1, q1, a1, n1, a2, a9, r9, f0, f1, f2, f3, f4, f5, f6, f7, f8, f9, f10, f11, f12, f13, f14⟩ K Q hK
        try dsimp only at g1 q1 a1 n1 a2 a9 r9 f0 f1 f2 f3 f4 f5 f6 f7 f8 f9 f10 f11 f12 f13 f14 ⊢
        have HF := Lib.hid (show (L 15 = false → Below V11.heap.size V11 W) ∧ (L 0 = true → L 5 = false → Own W V11.heap.size 65 6 (some ⟨gh.e1, 0, none⟩) 0 0 []) ∧ (L 5 = true → L 8 = false → Own W V11.heap.size 65 6 gh.A1 k gh.k1 ((m.tastes.take k).flatMap Tast.vals)) ∧ (L 7 = true → L 8 = false → Reads W W.heap.size 6 (some ⟨gh.e2, 0, none⟩) 1 x.vals) ∧ (L 8 = true → L 13 = false → Own W V11.heap.size 65 6 gh.A2 (k + 1) gh.k2 (((m.tastes.take k).flatMap Tast.vals) ++ x.vals)) ∧ (L 13 = true → L 15 = false → Own W V11.heap.size 65 6 gh.A9 (nt + 1) gh.k9 (((m.tastes.take k).flatMap Tast.vals) ++ (x.vals ++ ((m.tastes.drop k).flatMap Tast.vals)))) ∧ (L 15 = true → ∃ V, Below V11.heap.size V11 V ∧ Own V V11.heap.size 65 6 gh.A9 (nt + 1) gh.k9 (((m.tastes.take k).flatMap Tast.vals) ++ (x.vals ++ ((m.tastes.drop k).flatMap Tast.vals))) ∧ W = V.setCell ⟨G12, 3, none⟩ (.slice gh.A9 (nt + 1) gh.k9)) ∧ (L 0 = true → s 37 = .slice (some ⟨gh.e1, 0, none⟩) 0 0) ∧ (L 1 = true → s 38 = .pointer (some ⟨w.heap.size, 3, none⟩)) ∧ (L 2 = true → s 39 = .slice At nt ct) ∧ (L 3 = true → s 40 = .int .i64 k) ∧ (L 4 = true → s 41 = .slice At k ct) ∧ (L 5 = true → s 42 = .slice gh.A1 k gh.k1) ∧ (L 6 = true → s 43 = .agg #[.int .i64 x.num, .int .i64 x.vessel, .int .i64 x.after, .int .i64 x.fountain, .int .i64 x.lo, .int .i64 x.hi]) ∧ (L 7 = true → s 44 = .slice (some ⟨gh.e2, 0, none⟩) 1 1) ∧ (L 8 = true → s 45 = .slice gh.A2 (k + 1) gh.k2) ∧ (L 9 = true → s 46 = .pointer (some ⟨w.heap.size, 3, none⟩)) ∧ (L 10 = true → s 47 = .slice At nt ct) ∧ (L 11 = true → s 48 = .int .i64 k) ∧ (L 12 = true → s 49 = .slice (Option.map (fun x : Addr => x.add (k * 6)) At) (nt - k) (ct - k)) ∧ (L 13 = true → s 50 = .slice gh.A9 (nt + 1) gh.k9) ∧ (L 14 = true → s 51 = .pointer (some ⟨G12, 3, none⟩)) from ⟨g1, q1, a1, n1, a2, a9, r9, f0, f1, f2, f3, f4, f5, f6, f7, f8, f9, f10, f11, f12, f13, f14⟩)
        clear f14 f13 f12 f11 f10 f9 f8 f7 f6 f5 f4 f3 f2 f1 f0 r9 a9 a2 n1 a1 q1 g1 hd
        try simp only
        gi_wp2
        obtain ⟨g1, q1, a1, n1, a2, a9, r9, f0, f1, f2, f3, f4, f5, f6, f7, f8, f9, f10, f11, f12, f13, f14⟩ := HF.out
        exact hK (gh, (upd s 40 (.int .i64 k))) _ ⟨g1, q1, a1, n1, a2, a9, r9, f0, f1, f2, (fun _ => rfl), f4, f5, f6, f7, f8, f9, f10, f11, f12, f13, f14⟩
       ·rintro L ⟨gh, s⟩ W hu hd hdn ⟨g1, q1, a1, n1, a2, a9, r9, f0, f1, f2, f3, f4, f5, f6, f7, f8, f9, f10, f11, f12, f13, f14⟩ K Q hK
        try dsimp only at g1 q1 a1 n1 a2 a9 r9 f0 f1 f2 f3 f4 f5 f6 f7 f8 f9 f10 f11 f12 f13 f14 ⊢
        have e2 := f2 (hd.at_ 2 rfl)
        have e3 := f3 (hd.at_ 3 rfl)
        have hkc : (k : Int) ≤ (ct : Int) := by omega
        have hkc2 : k ≤ ct := by omega
        have hcm : ct ≤ 9223372036854775807 := by unfold maxLen at hcl; omega
        have HF := Lib.hid (show (L 15 = false → Below V11.heap.size V11 W) ∧ (L 0 = true → L 5 = false → Own W V11.heap.size 65 6 (some ⟨gh.e1, 0, none⟩) 0 0 []) ∧ (L 5 = true → L 8 = false → Own W V11.heap.size 65 6 gh.A1 k gh.k1 ((m.tastes.take k).flatMap Tast.vals)) ∧ (L 7 = true → L 8 = false → Reads W W.heap.size 6 (some ⟨gh.e2, 0, none⟩) 1 x.vals) ∧ (L 8 = true → L 13 = false → Own W V11.heap.size 65 6 gh.A2 (k + 1) gh.k2 (((m.tastes.take k).flatMap Tast.vals) ++ x.vals)) ∧ (L 13 = true → L 15 = false → Own W V11.heap.size 65 6 gh.A9 (nt + 1) gh.k9 (((m.tastes.take k).flatMap Tast.vals) ++ (x.vals ++ ((m.tastes.drop k).flatMap Tast.vals)))) ∧ (L 15 = true → ∃ V, Below V11.heap.size V11 V ∧ Own V V11.heap.size 65 6 gh.A9 (nt + 1) gh.k9 (((m.tastes.take k).flatMap Tast.vals) ++ (x.vals ++ ((m.tastes.drop k).flatMap Tast.vals))) ∧ W = V.setCell ⟨G12, 3, none⟩ (.slice gh.A9 (nt + 1) gh.k9)) ∧ (L 0 = true → s 37 = .slice (some ⟨gh.e1, 0, none⟩) 0 0) ∧ (L 1 = true → s 38 = .pointer (some ⟨w.heap.size, 3, none⟩)) ∧ (L 2 = true → s 39 = .slice At nt ct) ∧ (L 3 = true → s 40 = .int .i64 k) ∧ (L 4 = true → s 41 = .slice At k ct) ∧ (L 5 = true → s 42 = .slice gh.A1 k gh.k1) ∧ (L 6 = true → s 43 = .agg #[.int .i64 x.num, .int .i64 x.vessel, .int .i64 x.after, .int .i64 x.fountain, .int .i64 x.lo, .int .i64 x.hi]) ∧ (L 7 = true → s 44 = .slice (some ⟨gh.e2, 0, none⟩) 1 1) ∧ (L 8 = true → s 45 = .slice gh.A2 (k + 1) gh.k2) ∧ (L 9 = true → s 46 = .pointer (some ⟨w.heap.size, 3, none⟩)) ∧ (L 10 = true → s 47 = .slice At nt ct) ∧ (L 11 = true → s 48 = .int .i64 k) ∧ (L 12 = true → s 49 = .slice (Option.map (fun x : Addr => x.add (k * 6)) At) (nt - k) (ct - k)) ∧ (L 13 = true → s 50 = .slice gh.A9 (nt + 1) gh.k9) ∧ (L 14 = true → s 51 = .pointer (some ⟨G12, 3, none⟩)) from ⟨g1, q1, a1, n1, a2, a9, r9, f0, f1, f2, f3, f4, f5, f6, f7, f8, f9, f10, f11, f12, f13, f14⟩)
        clear f14 f13 f12 f11 f10 f9 f8 f7 f6 f5 f4 f3 f2 f1 f0 r9 a9 a2 n1 a1 q1 g1 hd
        try simp only at e2 e3 ⊢
        gi_wp2
        obtain ⟨g1, q1, a1, n1, a2, a9, r9, f0, f1, f2, f3, f4, f5, f6, f7, f8, f9, f10, f11, f12, f13, f14⟩ := HF.out
        exact hK (gh, (upd (upd (upd s 39 (.slice At nt ct)) 40 (.int .i64 k)) 41 (.slice At k ct))) _ ⟨g1, q1, a1, n1, a2, a9, r9, f0, f1, (fun _ => rfl), (fun _ => rfl), (fun _ => rfl), f5, f6, f7, f8, f9, f10, f11, f12, f13, f14⟩
       ·rintro L ⟨gh, s⟩ W hu hd hdn ⟨g1, q1, a1, n1, a2, a9, r9, f0, f1, f2, f3, f4, f5, f6, f7, f8, f9, f10, f11, f12, f13, f14⟩ K Q hK
        try dsimp only at g1 q1 a1 n1 a2 a9 r9 f0 f1 f2 f3 f4 f5 f6 f7 f8 f9 f10 f11 f12 f13 f14 ⊢
        have e0 := f0 (hd.at_ 0 rfl)
        have e4 := f4 (hd.at_ 4 rfl)
        have h15 : L 15 = false := by
         cases hc : L 15 with
         | false => rfl
         | true => exact hdn.no 15 5 hc rfl hu
        have h8 : L 8 = false := by
         cases hc : L 8 with
         | false => rfl
         | true => exact hdn.no 8 5 hc rfl hu
        have HE := Lib.hid (q1 (hd.at_ 0 rfl) hu)
        have HG1 := Lib.hid (g1 h15)
        have HSZ := Lib.hid (g1 h15).size
        have HF := Lib.hid (show (L 15 = false → Below V11.heap.size V11 W) ∧ (L 0 = true → L 5 = false → Own W V11.heap.size 65 6 (some ⟨gh.e1, 0, none⟩) 0 0 []) ∧ (L 5 = true → L 8 = false → Own W V11.heap.size 65 6 gh.A1 k gh.k1 ((m.tastes.take k).flatMap Tast.vals)) ∧ (L 7 = true → L 8 = false → Reads W W.heap.size 6 (some ⟨gh.e2, 0, none⟩) 1 x.vals) ∧ (L 8 = true → L 13 = false → Own W V11.heap.size 65 6 gh.A2 (k + 1) gh.k2 (((m.tastes.take k).flatMap Tast.vals) ++ x.vals)) ∧ (L 13 = true → L 15 = false → Own W V11.heap.size 65 6 gh.A9 (nt + 1) gh.k9 (((m.tastes.take k).flatMap Tast.vals) ++ (x.vals ++ ((m.tastes.drop k).flatMap Tast.vals)))) ∧ (L 15 = true → ∃ V, Below V11.heap.size V11 V ∧ Own V V11.heap.size 65 6 gh.A9 (nt + 1) gh.k9 (((m.tastes.take k).flatMap Tast.vals) ++ (x.vals ++ ((m.tastes.drop k).flatMap Tast.vals))) ∧ W = V.setCell ⟨G12, 3, none⟩ (.slice gh.A9 (nt + 1) gh.k9)) ∧ (L 0 = true → s 37 = .slice (some ⟨gh.e1, 0, none⟩) 0 0) ∧ (L 1 = true → s 38 = .pointer (some ⟨w.heap.size, 3, none⟩)) ∧ (L 2 = true → s 39 = .slice At nt ct) ∧ (L 3 = true → s 40 = .int .i64 k) ∧ (L 4 = true → s 41 = .slice At k ct) ∧ (L 5 = true → s 42 = .slice gh.A1 k gh.k1) ∧ (L 6 = true → s 43 = .agg #[.int .i64 x.num, .int .i64 x.vessel, .int .i64 x.after, .int .i64 x.fountain, .int .i64 x.lo, .int .i64 x.hi]) ∧ (L 7 = true → s 44 = .slice (some ⟨gh.e2, 0, none⟩) 1 1) ∧ (L 8 = true → s 45 = .slice gh.A2 (k + 1) gh.k2) ∧ (L 9 = true → s 46 = .pointer (some ⟨w.heap.size, 3, none⟩)) ∧ (L 10 = true → s 47 = .slice At nt ct) ∧ (L 11 = true → s 48 = .int .i64 k) ∧ (L 12 = true → s 49 = .slice (Option.map (fun x : Addr => x.add (k * 6)) At) (nt - k) (ct - k)) ∧ (L 13 = true → s 50 = .slice gh.A9 (nt + 1) gh.k9) ∧ (L 14 = true → s 51 = .pointer (some ⟨G12, 3, none⟩)) from ⟨g1, q1, a1, n1, a2, a9, r9, f0, f1, f2, f3, f4, f5, f6, f7, f8, f9, f10, f11, f12, f13, f14⟩)
        clear f14 f13 f12 f11 f10 f9 f8 f7 f6 f5 f4 f3 f2 f1 f0 r9 a9 a2 n1 a1 q1 g1 hd
        try simp only at e0 e4 ⊢
        have hrd := reads_take (k := k) ((HM.out.up (HLay.out.below HG1.out).1).at_.tastes) hk
        rw [← flat_take tast_k] at hrd
        have HRD := Lib.hid hrd
        clear hrd
        gi_wp2_with (first | (gi_at_builtin; refine wpListIn_append_fresh rfl (.tmp 37) (.tmp 41) (by rfl) elem_tast e0 HE.out e4 HRD.out (tast_one _) (by unfold maxLen; omega) (by omega) HSZ.out ?_) | fail)
        rintro AN cN W1 hO hb hA
        gi_wp2
        obtain ⟨g1, q1, a1, n1, a2, a9, r9, f0, f1, f2, f3, f4, f5, f6, f7, f8, f9, f10, f11, f12, f13, f14⟩ := HF.out
        exact hK ({ gh with A1 := AN, k1 := cN }, (upd (upd (upd s 37 (.slice (some ⟨gh.e1, 0, none⟩) 0 0)) 41 (.slice At k ct)) 42 (.slice AN k cN))) _ ⟨(fun h => (g1 h).trans (hb.mono (g1 h).size)), (fun _ h => by cases h), (fun _ _ => hO), (fun h q => ((n1 h q).below hb).more hb.size), (fun h => absurd (h8.symm.trans h) (by decide)), (fun h q => (a9 h q).below hb (Nat.le_refl _)), (fun h => absurd (h15.symm.trans h) (by decide)), (fun _ => rfl), f1, f2, f3, (fun _ => rfl), (fun _ => rfl), f6, f7, f8, f9, f10, f11, f12, f13, f14⟩
       ·rintro L ⟨gh, s⟩ W hu hd hdn ⟨g1, q1, a1, n1, a2, a9, r9, f0, f1, f2, f3, f4, f5, f6, f7, f8, f9, f10, f11, f12, f13, f14⟩ K Q hK
        try dsimp only at g1 q1 a1 n1 a2 a9 r9 f0 f1 f2 f3 f4 f5 f6 f7 f8 f9 f10 f11 f12 f13 f14 ⊢
        have h15 : L 15 = false := by
         cases hc : L 15 with
         | false => rfl
         | true => exact hdn.no 15 6 hc rfl hu
        have c0 : W.cell? ⟨w.heap.size + 1, 0, none⟩ = some (.int .i64 x.num) := ((HLay.out.below (g1 h15)).blk 1 rfl).cell 0
        have c1 : W.cell? ⟨w.heap.size + 1, 1, none⟩ = some (.int .i64 x.vessel) := ((HLay.out.below (g1 h15)).blk 1 rfl).cell 1
        have c2 : W.cell? ⟨w.heap.size + 1, 2, none⟩ = some (.int .i64 x.after) := ((HLay.out.below (g1 h15)).blk 1 rfl).cell 2
        have c3 : W.cell? ⟨w.heap.size + 1, 3, none⟩ = some (.int .i64 x.fountain) := ((HLay.out.below (g1 h15)).blk 1 rfl).cell 3
        have c4 : W.cell? ⟨w.heap.size + 1, 4, none⟩ = some (.int .i64 x.lo) := ((HLay.out.below (g1 h15)).blk 1 rfl).cell 4
        have c5 : W.cell? ⟨w.heap.size + 1, 5, none⟩ = some (.int .i64 x.hi) := ((HLay.out.below (g1 h15)).blk 1 rfl).cell 5
        have HF := Lib.hid (show (L 15 = false → Below V11.heap.size V11 W) ∧ (L 0 = true → L 5 = false → Own W V11.heap.size 65 6 (some ⟨gh.e1, 0, none⟩) 0 0 []) ∧ (L 5 = true → L 8 = false → Own W V11.heap.size 65 6 gh.A1 k gh.k1 ((m.tastes.take k).flatMap Tast.vals)) ∧ (L 7 = true → L 8 = false → Reads W W.heap.size 6 (some ⟨gh.e2, 0, none⟩) 1 x.vals) ∧ (L 8 = true → L 13 = false → Own W V11.heap.size 65 6 gh.A2 (k + 1) gh.k2 (((m.tastes.take k).flatMap Tast.vals) ++ x.vals)) ∧ (L 13 = true → L 15 = false → Own W V11.heap.size 65 6 gh.A9 (nt + 1) gh.k9 (((m.tastes.take k).flatMap Tast.vals) ++ (x.vals ++ ((m.tastes.drop k).flatMap Tast.vals)))) ∧ (L 15 = true → ∃ V, Below V11.heap.size V11 V ∧ Own V V11.heap.size 65 6 gh.A9 (nt + 1) gh.k9 (((m.tastes.take k).flatMap Tast.vals) ++ (x.vals ++ ((m.tastes.drop k).flatMap Tast.vals))) ∧ W = V.setCell ⟨G12, 3, none⟩ (.slice gh.A9 (nt + 1) gh.k9)) ∧ (L 0 = true → s 37 = .slice (some ⟨gh.e1, 0, none⟩) 0 0) ∧ (L 1 = true → s 38 = .pointer (some ⟨w.heap.size, 3, none⟩)) ∧ (L 2 = true → s 39 = .slice At nt ct) ∧ (L 3 = true → s 40 = .int .i64 k) ∧ (L 4 = true → s 41 = .slice At k ct) ∧ (L 5 = true → s 42 = .slice gh.A1 k gh.k1) ∧ (L 6 = true → s 43 = .agg #[.int .i64 x.num, .int .i64 x.vessel, .int .i64 x.after, .int .i64 x.fountain, .int .i64 x.lo, .int .i64 x.hi]) ∧ (L 7 = true → s 44 = .slice (some ⟨gh.e2, 0, none⟩) 1 1) ∧ (L 8 = true → s 45 = .slice gh.A2 (k + 1) gh.k2) ∧ (L 9 = true → s 46 = .pointer (some ⟨w.heap.size, 3, none⟩)) ∧ (L 10 = true → s 47 = .slice At nt ct) ∧ (L 11 = true → s 48 = .int .i64 k) ∧ (L 12 = true → s 49 = .slice (Option.map (fun x : Addr => x.add (k * 6)) At) (nt - k) (ct - k)) ∧ (L 13 = true → s 50 = .slice gh.A9 (nt + 1) gh.k9) ∧ (L 14 = true → s 51 = .pointer (some ⟨G12, 3, none⟩)) from ⟨g1, q1, a1, n1, a2, a9, r9, f0, f1, f2, f3, f4, f5, f6, f7, f8, f9, f10, f11, f12, f13, f14⟩)
        clear f14 f13 f12 f11 f10 f9 f8 f7 f6 f5 f4 f3 f2 f1 f0 r9 a9 a2 n1 a1 q1 g1 hd
        try simp only
        gi_wp2
        obtain ⟨g1, q1, a1, n1, a2, a9, r9, f0, f1, f2, f3, f4, f5, f6, f7, f8, f9, f10, f11, f12, f13, f14⟩ := HF.out
        exact hK (gh, (upd s 43 (.agg #[.int .i64 x.num, .int .i64 x.vessel, .int .i64 x.after, .int .i64 x.fountain, .int .i64 x.lo, .int .i64 x.hi]))) _ ⟨g1, q1, a1, n1, a2, a9, r9, f0, f1, f2, f3, f4, f5, (fun _ => rfl), f7, f8, f9, f10, f11, f12, f13, f14⟩
       ·rintro L ⟨gh, s⟩ W hu hd hdn ⟨g1, q1, a1, n1, a2, a9, r9, f0, f1, f2, f3, f4, f5, f6, f7, f8, f9, f10, f11, f12, f13, f14⟩ K Q hK
        try dsimp only at g1 q1 a1 n1 a2 a9 r9 f0 f1 f2 f3 f4 f5 f6 f7 f8 f9 f10 f11 f12 f13 f14 ⊢
        have e6 := f6 (hd.at_ 6 rfl)
        have h15 : L 15 = false := by
         cases hc : L 15 with
         | false => rfl
         | true => exact hdn.no 15 7 hc rfl hu
        have HSZ := Lib.hid (g1 h15).size
        have HF := Lib.hid (show (L 15 = false → Below V11.heap.size V11 W) ∧ (L 0 = true → L 5 = false → Own W V11.heap.size 65 6 (some ⟨gh.e1, 0, none⟩) 0 0 []) ∧ (L 5 = true → L 8 = false → Own W V11.heap.size 65 6 gh.A1 k gh.k1 ((m.tastes.take k).flatMap Tast.vals)) ∧ (L 7 = true → L 8 = false → Reads W W.heap.size 6 (some ⟨gh.e2, 0, none⟩) 1 x.vals) ∧ (L 8 = true → L 13 = false → Own W V11.heap.size 65 6 gh.A2 (k + 1) gh.k2 (((m.tastes.take k).flatMap Tast.vals) ++ x.vals)) ∧ (L 13 = true → L 15 = false → Own W V11.heap.size 65 6 gh.A9 (nt + 1) gh.k9 (((m.tastes.take k).flatMap Tast.vals) ++ (x.vals ++ ((m.tastes.drop k).flatMap Tast.vals)))) ∧ (L 15 = true → ∃ V, Below V11.heap.size V11 V ∧ Own V V11.heap.size 65 6 gh.A9 (nt + 1) gh.k9 (((m.tastes.take k).flatMap Tast.vals) ++ (x.vals ++ ((m.tastes.drop k).flatMap Tast.vals))) ∧ W = V.setCell ⟨G12, 3, none⟩ (.slice gh.A9 (nt + 1) gh.k9)) ∧ (L 0 = true → s 37 = .slice (some ⟨gh.e1, 0, none⟩) 0 0) ∧ (L 1 = true → s 38 = .pointer (some ⟨w.heap.size, 3, none⟩)) ∧ (L 2 = true → s 39 = .slice At nt ct) ∧ (L 3 = true → s 40 = .int .i64 k) ∧ (L 4 = true → s 41 = .slice At k ct) ∧ (L 5 = true → s 42 = .slice gh.A1 k gh.k1) ∧ (L 6 = true → s 43 = .agg #[.int .i64 x.num, .int .i64 x.vessel, .int .i64 x.after, .int .i64 x.fountain, .int .i64 x.lo, .int .i64 x.hi]) ∧ (L 7 = true → s 44 = .slice (some ⟨gh.e2, 0, none⟩) 1 1) ∧ (L 8 = true → s 45 = .slice gh.A2 (k + 1) gh.k2) ∧ (L 9 = true → s 46 = .pointer (some ⟨w.heap.size, 3, none⟩)) ∧ (L 10 = true → s 47 = .slice At nt ct) ∧ (L 11 = true → s 48 = .int .i64 k) ∧ (L 12 = true → s 49 = .slice (Option.map (fun x : Addr => x.add (k * 6)) At) (nt - k) (ct - k)) ∧ (L 13 = true → s 50 = .slice gh.A9 (nt + 1) gh.k9) ∧ (L 14 = true → s 51 = .pointer (some ⟨G12, 3, none⟩)) from ⟨g1, q1, a1, n1, a2, a9, r9, f0, f1, f2, f3, f4, f5, f6, f7, f8, f9, f10, f11, f12, f13, f14⟩)
        clear f14 f13 f12 f11 f10 f9 f8 f7 f6 f5 f4 f3 f2 f1 f0 r9 a9 a2 n1 a1 q1 g1 hd
        try simp only at e6 ⊢
        gi_wp2
        obtain ⟨g1, q1, a1, n1, a2, a9, r9, f0, f1, f2, f3, f4, f5, f6, f7, f8, f9, f10, f11, f12, f13, f14⟩ := HF.out
        have hb : Below W.heap.size W (W.alloc (.cells #[.int .i64 x.num, .int .i64 x.vessel, .int .i64 x.after, .int .i64 x.fountain, .int .i64 x.lo, .int .i64 x.hi] 65)) := (Below.refl _ _).alloc (Nat.le_refl _) _
        exact hK ({ gh with e2 := W.heap.size }, (upd (upd s 43 (.agg #[.int .i64 x.num, .int .i64 x.vessel, .int .i64 x.after, .int .i64 x.fountain, .int .i64 x.lo, .int .i64 x.hi])) 44 (.slice (some ⟨W.heap.size, 0, none⟩) 1 1))) _ ⟨(fun h => (g1 h).trans (hb.mono (g1 h).size)), (fun h q => (q1 h q).below hb (Nat.le_refl _)), (fun h q => (a1 h q).below hb (Nat.le_refl _)), (fun _ _ => reads_new W 65 x.vals rfl), (fun h q => (a2 h q).below hb (Nat.le_refl _)), (fun h q => (a9 h q).below hb (Nat.le_refl _)), (fun h => absurd (h15.symm.trans h) (by decide)), f0, f1, f2, f3, f4, f5, (fun _ => rfl), (fun _ => rfl), f8, f9, f10, f11, f12, f13, f14⟩
       ·rintro L ⟨gh, s⟩ W hu hd hdn ⟨g1, q1, a1, n1, a2, a9, r9, f0, f1, f2, f3, f4, f5, f6, f7, f8, f9, f10, f11, f12, f13, f14⟩ K Q hK
        try dsimp only at g1 q1 a1 n1 a2 a9 r9 f0 f1 f2 f3 f4 f5 f6 f7 f8 f9 f10 f11 f12 f13 f14 ⊢
        have e5 := f5 (hd.at_ 5 rfl)
        have e7 := f7 (hd.at_ 7 rfl)
        have h15 : L 15 = false := by
         cases hc : L 15 with
         | false => rfl
         | true => exact hdn.no 15 8 hc rfl hu
        have h13 : L 13 = false := by
         cases hc : L 13 with
         | false => rfl
         | true => exact hdn.no 13 8 hc rfl hu
        have HE := Lib.hid (a1 (hd.at_ 5 rfl) hu)
        have HN1 := Lib.hid (n1 (hd.at_ 7 rfl) hu)
        have HSZ := Lib.hid (g1 h15).size
        have HD5 := Lib.hid (hd.at_ 5 rfl)
        have HF := Lib.hid (show (L 15 = false → Below V11.heap.size V11 W) ∧ (L 0 = true → L 5 = false → Own W V11.heap.size 65 6 (some ⟨gh.e1, 0, none⟩) 0 0 []) ∧ (L 5 = true → L 8 = false → Own W V11.heap.size 65 6 gh.A1 k gh.k1 ((m.tastes.take k).flatMap Tast.vals)) ∧ (L 7 = true → L 8 = false → Reads W W.heap.size 6 (some ⟨gh.e2, 0, none⟩) 1 x.vals) ∧ (L 8 = true → L 13 = false → Own W V11.heap.size 65 6 gh.A2 (k + 1) gh.k2 (((m.tastes.take k).flatMap Tast.vals) ++ x.vals)) ∧ (L 13 = true → L 15 = false → Own W V11.heap.size 65 6 gh.A9 (nt + 1) gh.k9 (((m.tastes.take k).flatMap Tast.vals) ++ (x.vals ++ ((m.tastes.drop k).flatMap Tast.vals)))) ∧ (L 15 = true → ∃ V, Below V11.heap.size V11 V ∧ Own V V11.heap.size 65 6 gh.A9 (nt + 1) gh.k9 (((m.tastes.take k).flatMap Tast.vals) ++ (x.vals ++ ((m.tastes.drop k).flatMap Tast.vals))) ∧ W = V.setCell ⟨G12, 3, none⟩ (.slice gh.A9 (nt + 1) gh.k9)) ∧ (L 0 = true → s 37 = .slice (some ⟨gh.e1, 0, none⟩) 0 0) ∧ (L 1 = true → s 38 = .pointer (some ⟨w.heap.size, 3, none⟩)) ∧ (L 2 = true → s 39 = .slice At nt ct) ∧ (L 3 = true → s 40 = .int .i64 k) ∧ (L 4 = true → s 41 = .slice At k ct) ∧ (L 5 = true → s 42 = .slice gh.A1 k gh.k1) ∧ (L 6 = true → s 43 = .agg #[.int .i64 x.num, .int .i64 x.vessel, .int .i64 x.after, .int .i64 x.fountain, .int .i64 x.lo, .int .i64 x.hi]) ∧ (L 7 = true → s 44 = .slice (some ⟨gh.e2, 0, none⟩) 1 1) ∧ (L 8 = true → s 45 = .slice gh.A2 (k + 1) gh.k2) ∧ (L 9 = true → s 46 = .pointer (some ⟨w.heap.size, 3, none⟩)) ∧ (L 10 = true → s 47 = .slice At nt ct) ∧ (L 11 = true → s 48 = .int .i64 k) ∧ (L 12 = true → s 49 = .slice (Option.map (fun x : Addr => x.add (k * 6)) At) (nt - k) (ct - k)) ∧ (L 13 = true → s 50 = .slice gh.A9 (nt + 1) gh.k9) ∧ (L 14 = true → s 51 = .pointer (some ⟨G12, 3, none⟩)) from ⟨g1, q1, a1, n1, a2, a9, r9, f0, f1, f2, f3, f4, f5, f6, f7, f8, f9, f10, f11, f12, f13, f14⟩)
        clear f14 f13 f12 f11 f10 f9 f8 f7 f6 f5 f4 f3 f2 f1 f0 r9 a9 a2 n1 a1 q1 g1 hd
        try simp only at e5 e7 ⊢
        gi_wp2_with (first | (gi_at_builtin; refine wpListIn_append_any rfl (.tmp 42) (.tmp 44) (by rfl) elem_tast e5 HE.out e7 HN1.out (tast_one1 x) (by unfold maxLen; omega) (by omega) HSZ.out ?_) | fail)
        rintro AN cN W1 hO hg hA
        gi_wp2
        obtain ⟨g1, q1, a1, n1, a2, a9, r9, f0, f1, f2, f3, f4, f5, f6, f7, f8, f9, f10, f11, f12, f13, f14⟩ := HF.out
        have hgb : Below V11.heap.size V11 W1 := (g1 h15).grown hg (g1 h15).size (fun k hk => (own_row HE.out k hk).1)
        exact hK ({ gh with A2 := AN, k2 := cN }, (upd (upd (upd s 42 (.slice gh.A1 k gh.k1)) 44 (.slice (some ⟨gh.e2, 0, none⟩) 1 1)) 45 (.slice AN (k + 1) cN))) _ ⟨(fun _ => hgb), (fun _ h => absurd (HD5.out.symm.trans h) (by decide)), (fun _ h => by cases h), (fun _ h => by cases h), (fun _ _ => hO), (fun h => absurd (h13.symm.trans h) (by decide)), (fun h => absurd (h15.symm.trans h) (by decide)), f0, f1, f2, f3, f4, (fun _ => rfl), f6, (fun _ => rfl), (fun _ => rfl), f9, f10, f11, f12, f13, f14⟩
       ·rintro L ⟨gh, s⟩ W hu hd hdn ⟨g1, q1, a1, n1, a2, a9, r9, f0, f1, f2, f3, f4, f5, f6, f7, f8, f9, f10, f11, f12, f13, f14⟩ K Q hK
        try dsimp only at g1 q1 a1 n1 a2 a9 r9 f0 f1 f2 f3 f4 f5 f6 f7 f8 f9 f10 f11 f12 f13 f14 ⊢
        have tl0 := HLay.out.lt 0 rfl
        have HF := Lib.hid (show (L 15 = false → Below V11.heap.size V11 W) ∧ (L 0 = true → L 5 = false → Own W V11.heap.size 65 6 (some ⟨gh.e1, 0, none⟩) 0 0 []) ∧ (L 5 = true → L 8 = false → Own W V11.heap.size 65 6 gh.A1 k gh.k1 ((m.tastes.take k).flatMap Tast.vals)) ∧ (L 7 = true → L 8 = false → Reads W W.heap.size 6 (some ⟨gh.e2, 0, none⟩) 1 x.vals) ∧ (L 8 = true → L 13 = false → Own W V11.heap.size 65 6 gh.A2 (k + 1) gh.k2 (((m.tastes.take k).flatMap Tast.vals) ++ x.vals)) ∧ (L 13 = true → L 15 = false → Own W V11.heap.size 65 6 gh.A9 (nt + 1) gh.k9 (((m.tastes.take k).flatMap Tast.vals) ++ (x.vals ++ ((m.tastes.drop k).flatMap Tast.vals)))) ∧ (L 15 = true → ∃ V, Below V11.heap.size V11 V ∧ Own V V11.heap.size 65 6 gh.A9 (nt + 1) gh.k9 (((m.tastes.take k).flatMap Tast.vals) ++ (x.vals ++ ((m.tastes.drop k).flatMap Tast.vals))) ∧ W = V.setCell ⟨G12, 3, none⟩ (.slice gh.A9 (nt + 1) gh.k9)) ∧ (L 0 = true → s 37 = .slice (some ⟨gh.e1, 0, none⟩) 0 0) ∧ (L 1 = true → s 38 = .pointer (some ⟨w.heap.size, 3, none⟩)) ∧ (L 2 = true → s 39 = .slice At nt ct) ∧ (L 3 = true → s 40 = .int .i64 k) ∧ (L 4 = true → s 41 = .slice At k ct) ∧ (L 5 = true → s 42 = .slice gh.A1 k gh.k1) ∧ (L 6 = true → s 43 = .agg #[.int .i64 x.num, .int .i64 x.vessel, .int .i64 x.after, .int .i64 x.fountain, .int .i64 x.lo, .int .i64 x.hi]) ∧ (L 7 = true → s 44 = .slice (some ⟨gh.e2, 0, none⟩) 1 1) ∧ (L 8 = true → s 45 = .slice gh.A2 (k + 1) gh.k2) ∧ (L 9 = true → s 46 = .pointer (some ⟨w.heap.size, 3, none⟩)) ∧ (L 10 = true → s 47 = .slice At nt ct) ∧ (L 11 = true → s 48 = .int .i64 k) ∧ (L 12 = true → s 49 = .slice (Option.map (fun x : Addr => x.add (k * 6)) At) (nt - k) (ct - k)) ∧ (L 13 = true → s 50 = .slice gh.A9 (nt + 1) gh.k9) ∧ (L 14 = true → s 51 = .pointer (some ⟨G12, 3, none⟩)) from ⟨g1, q1, a1, n1, a2, a9, r9, f0, f1, f2, f3, f4, f5, f6, f7, f8, f9, f10, f11, f12, f13, f14⟩)
        clear f14 f13 f12 f11 f10 f9 f8 f7 f6 f5 f4 f3 f2 f1 f0 r9 a9 a2 n1 a1 q1 g1 hd
        try simp only
        gi_wp2
        obtain ⟨g1, q1, a1, n1, a2, a9, r9, f0, f1, f2, f3, f4, f5, f6, f7, f8, f9, f10, f11, f12, f13, f14⟩ := HF.out
        exact hK (gh, (upd s 46 (.pointer (some ⟨w.heap.size, 3, none⟩)))) _ ⟨g1, q1, a1, n1, a2, a9, r9, f0, f1, f2, f3, f4, f5, f6, f7, f8, (fun _ => rfl), f10, f11, f12, f13, f14⟩
       ·rintro L ⟨gh, s⟩ W hu hd hdn ⟨g1, q1, a1, n1, a2, a9, r9, f0, f1, f2, f3, f4, f5, f6, f7, f8, f9, f10, f11, f12, f13, f14⟩ K Q hK
        try dsimp only at g1 q1 a1 n1 a2 a9 r9 f0 f1 f2 f3 f4 f5 f6 f7 f8 f9 f10 f11 f12 f13 f14 ⊢
        have e9 := f9 (hd.at_ 9 rfl)
        have h15 : L 15 = false := by
         cases hc : L 15 with
         | false => rfl
         | true => exact hdn.no 15 10 hc rfl hu
        have c0 : W.cell? ⟨w.heap.size, 3, none⟩ = some (.slice At nt ct) := ((HLay.out.below (g1 h15)).blk 0 rfl).cell 3
        have HF := Lib.hid (show (L 15 = false → Below V11.heap.size V11 W) ∧ (L 0 = true → L 5 = false → Own W V11.heap.size 65 6 (some ⟨gh.e1, 0, none⟩) 0 0 []) ∧ (L 5 = true → L 8 = false → Own W V11.heap.size 65 6 gh.A1 k gh.k1 ((m.tastes.take k).flatMap Tast.vals)) ∧ (L 7 = true → L 8 = false → Reads W W.heap.size 6 (some ⟨gh.e2, 0, none⟩) 1 x.vals) ∧ (L 8 = true → L 13 = false → Own W V11.heap.size 65 6 gh.A2 (k + 1) gh.k2 (((m.tastes.take k).flatMap Tast.vals) ++ x.vals)) ∧ (L 13 = true → L 15 = false → Own W V11.heap.size 65 6 gh.A9 (nt + 1) gh.k9 (((m.tastes.take k).flatMap Tast.vals) ++ (x.vals ++ ((m.tastes.drop k).flatMap Tast.vals)))) ∧ (L 15 = true → ∃ V, Below V11.heap.size V11 V ∧ Own V V11.heap.size 65 6 gh.A9 (nt + 1) gh.k9 (((m.tastes.take k).flatMap Tast.vals) ++ (x.vals ++ ((m.tastes.drop k).flatMap Tast.vals))) ∧ W = V.setCell ⟨G12, 3, none⟩ (.slice gh.A9 (nt + 1) gh.k9)) ∧ (L 0 = true → s 37 = .slice (some ⟨gh.e1, 0, none⟩) 0 0) ∧ (L 1 = true → s 38 = .pointer (some ⟨w.heap.size, 3, none⟩)) ∧ (L 2 = true → s 39 = .slice At nt ct) ∧ (L 3 = true → s 40 = .int .i64 k) ∧ (L 4 = true → s 41 = .slice At k ct) ∧ (L 5 = true → s 42 = .slice gh.A1 k gh.k1) ∧ (L 6 = true → s 43 = .agg #[.int .i64 x.num, .int .i64 x.vessel, .int .i64 x.after, .int .i64 x.fountain, .int .i64 x.lo, .int .i64 x.hi]) ∧ (L 7 = true → s 44 = .slice (some ⟨gh.e2, 0, none⟩) 1 1) ∧ (L 8 = true → s 45 = .slice gh.A2 (k + 1) gh.k2) ∧ (L 9 = true → s 46 = .pointer (some ⟨w.heap.size, 3, none⟩)) ∧ (L 10 = true → s 47 = .slice At nt ct) ∧ (L 11 = true → s 48 = .int .i64 k) ∧ (L 12 = true → s 49 = .slice (Option.map (fun x : Addr => x.add (k * 6)) At) (nt - k) (ct - k)) ∧ (L 13 = true → s 50 = .slice gh.A9 (nt + 1) gh.k9) ∧ (L 14 = true → s 51 = .pointer (some ⟨G12, 3, none⟩)) from ⟨g1, q1, a1, n1, a2, a9, r9, f0, f1, f2, f3, f4, f5, f6, f7, f8, f9, f10, f11, f12, f13, f14⟩)
        clear f14 f13 f12 f11 f10 f9 f8 f7 f6 f5 f4 f3 f2 f1 f0 r9 a9 a2 n1 a1 q1 g1 hd
        try simp only at e9 ⊢
        gi_wp2
        obtain ⟨g1, q1, a1, n1, a2, a9, r9, f0, f1, f2, f3, f4, f5, f6, f7, f8, f9, f10, f11, f12, f13, f14⟩ := HF.out
        exact hK (gh, (upd (upd s 46 (.pointer (some ⟨w.heap.size, 3, none⟩))) 47 (.slice At nt ct))) _ ⟨g1, q1, a1, n1, a2, a9, r9, f0, f1, f2, f3, f4, f5, f6, f7, f8, (fun _ => rfl), (fun _ => rfl), f11, f12, f13, f14⟩
       ·rintro L ⟨gh, s⟩ W hu hd hdn ⟨g1, q1, a1, n1, a2, a9, r9, f0, f1, f2, f3, f4, f5, f6, f7, f8, f9, f10, f11, f12, f13, f14⟩ K Q hK
        try dsimp only at g1 q1 a1 n1 a2 a9 r9 f0 f1 f2 f3 f4 f5 f6 f7 f8 f9 f10 f11 f12 f13 f14 ⊢
        have HF := Lib.hid (show (L 15 = false → Below V11.heap.size V11 W) ∧ (L 0 = true → L 5 = false → Own W V11.heap.size 65 6 (some ⟨gh.e1, 0, none⟩) 0 0 []) ∧ (L 5 = true → L 8 = false → Own W V11.heap.size 65 6 gh.A1 k gh.k1 ((m.tastes.take k).flatMap Tast.vals)) ∧ (L 7 = true → L 8 = false → Reads W W.heap.size 6 (some ⟨gh.e2, 0, none⟩) 1 x.vals) ∧ (L 8 = true → L 13 = false → Own W V11.heap.size 65 6 gh.A2 (k + 1) gh.k2 (((m.tastes.take k).flatMap Tast.vals) ++ x.vals)) ∧ (L 13 = true → L 15 = false → Own W V11.heap.size 65 6 gh.A9 (nt + 1) gh.k9 (((m.tastes.take k).flatMap Tast.vals) ++ (x.vals ++ ((m.tastes.drop k).flatMap Tast.vals)))) ∧ (L 15 = true → ∃ V, Below V11.heap.size V11 V ∧ Own V V11.heap.size 65 6 gh.A9 (nt + 1) gh.k9 (((m.tastes.take k).flatMap Tast.vals) ++ (x.vals ++ ((m.tastes.drop k).flatMap Tast.vals))) ∧ W = V.setCell ⟨G12, 3, none⟩ (.slice gh.A9 (nt + 1) gh.k9)) ∧ (L 0 = true → s 37 = .slice (some ⟨gh.e1, 0, none⟩) 0 0) ∧ (L 1 = true → s 38 = .pointer (some ⟨w.heap.size, 3, none⟩)) ∧ (L 2 = true → s 39 = .slice At nt ct) ∧ (L 3 = true → s 40 = .int .i64 k) ∧ (L 4 = true → s 41 = .slice At k ct) ∧ (L 5 = true → s 42 = .slice gh.A1 k gh.k1) ∧ (L 6 = true → s 43 = .agg #[.int .i64 x.num, .int .i64 x.vessel, .int .i64 x.after, .int .i64 x.fountain, .int .i64 x.lo, .int .i64 x.hi]) ∧ (L 7 = true → s 44 = .slice (some ⟨gh.e2, 0, none⟩) 1 1) ∧ (L 8 = true → s 45 = .slice gh.A2 (k + 1) gh.k2) ∧ (L 9 = true → s 46 = .pointer (some ⟨w.heap.size, 3, none⟩)) ∧ (L 10 = true → s 47 = .slice At nt ct) ∧ (L 11 = true → s 48 = .int .i64 k) ∧ (L 12 = true → s 49 = .slice (Option.map (fun x : Addr => x.add (k * 6)) At) (nt - k) (ct - k)) ∧ (L 13 = true → s 50 = .slice gh.A9 (nt + 1) gh.k9) ∧ (L 14 = true → s 51 = .pointer (some ⟨G12, 3, none⟩)) from ⟨g1, q1, a1, n1, a2, a9, r9, f0, f1, f2, f3, f4, f5, f6, f7, f8, f9, f10, f11, f12, f13, f14⟩)
        clear f14 f13 f12 f11 f10 f9 f8 f7 f6 f5 f4 f3 f2 f1 f0 r9 a9 a2 n1 a1 q1 g1 hd
        try simp only
        gi_wp2
        obtain ⟨g1, q1, a1, n1, a2, a9, r9, f0, f1, f2, f3, f4, f5, f6, f7, f8, f9, f10, f11, f12, f13, f14⟩ := HF.out
        exact hK (gh, (upd s 48 (.int .i64 k))) _ ⟨g1, q1, a1, n1, a2, a9, r9, f0, f1, f2, f3, f4, f5, f6, f7, f8, f9, f10, (fun _ => rfl), f12, f13, f14⟩
       ·rintro L ⟨gh, s⟩ W hu hd hdn ⟨g1, q1, a1, n1, a2, a9, r9, f0, f1, f2, f3, f4, f5, f6, f7, f8, f9, f10, f11, f12, f13, f14⟩ K Q hK
        try dsimp only at g1 q1 a1 n1 a2 a9 r9 f0 f1 f2 f3 f4 f5 f6 f7 f8 f9 f10 f11 f12 f13 f14 ⊢
        have e10 := f10 (hd.at_ 10 rfl)
        have e11 := f11 (hd.at_ 11 rfl)
        have hkc : (k : Int) ≤ (nt : Int) := by omega
        have hkc2 : k ≤ nt := by omega
        have hcm : ct ≤ 9223372036854775807 := by unfold maxLen at hcl; omega
        have hne : (ct = k) = False := eq_false HCK.out
        have HF := Lib.hid (show (L 15 = false → Below V11.heap.size V11 W) ∧ (L 0 = true → L 5 = false → Own W V11.heap.size 65 6 (some ⟨gh.e1, 0, none⟩) 0 0 []) ∧ (L 5 = true → L 8 = false → Own W V11.heap.size 65 6 gh.A1 k gh.k1 ((m.tastes.take k).flatMap Tast.vals)) ∧ (L 7 = true → L 8 = false → Reads W W.heap.size 6 (some ⟨gh.e2, 0, none⟩) 1 x.vals) ∧ (L 8 = true → L 13 = false → Own W V11.heap.size 65 6 gh.A2 (k + 1) gh.k2 (((m.tastes.take k).flatMap Tast.vals) ++ x.vals)) ∧ (L 13 = true → L 15 = false → Own W V11.heap.size 65 6 gh.A9 (nt + 1) gh.k9 (((m.tastes.take k).flatMap Tast.vals) ++ (x.vals ++ ((m.tastes.drop k).flatMap Tast.vals)))) ∧ (L 15 = true → ∃ V, Below V11.heap.size V11 V ∧ Own V V11.heap.size 65 6 gh.A9 (nt + 1) gh.k9 (((m.tastes.take k).flatMap Tast.vals) ++ (x.vals ++ ((m.tastes.drop k).flatMap Tast.vals))) ∧ W = V.setCell ⟨G12, 3, none⟩ (.slice gh.A9 (nt + 1) gh.k9)) ∧ (L 0 = true → s 37 = .slice (some ⟨gh.e1, 0, none⟩) 0 0) ∧ (L 1 = true → s 38 = .pointer (some ⟨w.heap.size, 3, none⟩)) ∧ (L 2 = true → s 39 = .slice At nt ct) ∧ (L 3 = true → s 40 = .int .i64 k) ∧ (L 4 = true → s 41 = .slice At k ct) ∧ (L 5 = true → s 42 = .slice gh.A1 k gh.k1) ∧ (L 6 = true → s 43 = .agg #[.int .i64 x.num, .int .i64 x.vessel, .int .i64 x.after, .int .i64 x.fountain, .int .i64 x.lo, .int .i64 x.hi]) ∧ (L 7 = true → s 44 = .slice (some ⟨gh.e2, 0, none⟩) 1 1) ∧ (L 8 = true → s 45 = .slice gh.A2 (k + 1) gh.k2) ∧ (L 9 = true → s 46 = .pointer (some ⟨w.heap.size, 3, none⟩)) ∧ (L 10 = true → s 47 = .slice At nt ct) ∧ (L 11 = true → s 48 = .int .i64 k) ∧ (L 12 = true → s 49 = .slice (Option.map (fun x : Addr => x.add (k * 6)) At) (nt - k) (ct - k)) ∧ (L 13 = true → s 50 = .slice gh.A9 (nt + 1) gh.k9) ∧ (L 14 = true → s 51 = .pointer (some ⟨G12, 3, none⟩)) from ⟨g1, q1, a1, n1, a2, a9, r9, f0, f1, f2, f3, f4, f5, f6, f7, f8, f9, f10, f11, f12, f13, f14⟩)
        clear f14 f13 f12 f11 f10 f9 f8 f7 f6 f5 f4 f3 f2 f1 f0 r9 a9 a2 n1 a1 q1 g1 hd
        try simp only at e10 e11 ⊢
        gi_wp2
        obtain ⟨g1, q1, a1, n1, a2, a9, r9, f0, f1, f2, f3, f4, f5, f6, f7, f8, f9, f10, f11, f12, f13, f14⟩ := HF.out
        exact hK (gh, (upd (upd (upd s 47 (.slice At nt ct)) 48 (.int .i64 k)) 49 (.slice (Option.map (fun x : Addr => x.add (k * 6)) At) (nt - k) (ct - k)))) _ ⟨g1, q1, a1, n1, a2, a9, r9, f0, f1, f2, f3, f4, f5, f6, f7, f8, f9, (fun _ => rfl), (fun _ => rfl), (fun _ => rfl), f13, f14⟩
       ·rintro L ⟨gh, s⟩ W hu hd hdn ⟨g1, q1, a1, n1, a2, a9, r9, f0, f1, f2, f3, f4, f5, f6, f7, f8, f9, f10, f11, f12, f13, f14⟩ K Q hK
        try dsimp only at g1 q1 a1 n1 a2 a9 r9 f0 f1 f2 f3 f4 f5 f6 f7 f8 f9 f10 f11 f12 f13 f14 ⊢
        have e8 := f8 (hd.at_ 8 rfl)
        have e12 := f12 (hd.at_ 12 rfl)
        have h15 : L 15 = false := by
         cases hc : L 15 with
         | false => rfl
         | true => exact hdn.no 15 13 hc rfl hu
        have HE := Lib.hid (a2 (hd.at_ 8 rfl) hu)
        have HG1 := Lib.hid (g1 h15)
        have HSZ := Lib.hid (g1 h15).size
        have HD8 := Lib.hid (hd.at_ 8 rfl)
        have HD5 := Lib.hid (hdn.at_ 8 5 (hd.at_ 8 rfl) rfl)
        have HF := Lib.hid (show (L 15 = false → Below V11.heap.size V11 W) ∧ (L 0 = true → L 5 = false → Own W V11.heap.size 65 6 (some ⟨gh.e1, 0, none⟩) 0 0 []) ∧ (L 5 = true → L 8 = false → Own W V11.heap.size 65 6 gh.A1 k gh.k1 ((m.tastes.take k).flatMap Tast.vals)) ∧ (L 7 = true → L 8 = false → Reads W W.heap.size 6 (some ⟨gh.e2, 0, none⟩) 1 x.vals) ∧ (L 8 = true → L 13 = false → Own W V11.heap.size 65 6 gh.A2 (k + 1) gh.k2 (((m.tastes.take k).flatMap Tast.vals) ++ x.vals)) ∧ (L 13 = true → L 15 = false → Own W V11.heap.size 65 6 gh.A9 (nt + 1) gh.k9 (((m.tastes.take k).flatMap Tast.vals) ++ (x.vals ++ ((m.tastes.drop k).flatMap Tast.vals)))) ∧ (L 15 = true → ∃ V, Below V11.heap.size V11 V ∧ Own V V11.heap.size 65 6 gh.A9 (nt + 1) gh.k9 (((m.tastes.take k).flatMap Tast.vals) ++ (x.vals ++ ((m.tastes.drop k).flatMap Tast.vals))) ∧ W = V.setCell ⟨G12, 3, none⟩ (.slice gh.A9 (nt + 1) gh.k9)) ∧ (L 0 = true → s 37 = .slice (some ⟨gh.e1, 0, none⟩) 0 0) ∧ (L 1 = true → s 38 = .pointer (some ⟨w.heap.size, 3, none⟩)) ∧ (L 2 = true → s 39 = .slice At nt ct) ∧ (L 3 = true → s 40 = .int .i64 k) ∧ (L 4 = true → s 41 = .slice At k ct) ∧ (L 5 = true → s 42 = .slice gh.A1 k gh.k1) ∧ (L 6 = true → s 43 = .agg #[.int .i64 x.num, .int .i64 x.vessel, .int .i64 x.after, .int .i64 x.fountain, .int .i64 x.lo, .int .i64 x.hi]) ∧ (L 7 = true → s 44 = .slice (some ⟨gh.e2, 0, none⟩) 1 1) ∧ (L 8 = true → s 45 = .slice gh.A2 (k + 1) gh.k2) ∧ (L 9 = true → s 46 = .pointer (some ⟨w.heap.size, 3, none⟩)) ∧ (L 10 = true → s 47 = .slice At nt ct) ∧ (L 11 = true → s 48 = .int .i64 k) ∧ (L 12 = true → s 49 = .slice (Option.map (fun x : Addr => x.add (k * 6)) At) (nt - k) (ct - k)) ∧ (L 13 = true → s 50 = .slice gh.A9 (nt + 1) gh.k9) ∧ (L 14 = true → s 51 = .pointer (some ⟨G12, 3, none⟩)) from ⟨g1, q1, a1, n1, a2, a9, r9, f0, f1, f2, f3, f4, f5, f6, f7, f8, f9, f10, f11, f12, f13, f14⟩)
        clear f14 f13 f12 f11 f10 f9 f8 f7 f6 f5 f4 f3 f2 f1 f0 r9 a9 a2 n1 a1 q1 g1 hd
        try simp only at e8 e12 ⊢
        have hrd := reads_hi (k := k) (c := ct) ((HM.out.up (HLay.out.below HG1.out).1).at_.tastes) hk hcl.1
        rw [← flat_drop tast_k, HHI.out] at hrd
        have HRD := Lib.hid hrd
        clear hrd
        gi_wp2_with (first | (gi_at_builtin; refine wpListIn_append_any rfl (.tmp 45) (.tmp 49) (by rfl) elem_tast e8 HE.out e12 HRD.out (tast_one _) (by unfold maxLen; omega) (by omega) HSZ.out ?_) | fail)
        rintro AN cN W1 hO hg hA
        rw [HKN.out] at hO ⊢
        gi_wp2
        obtain ⟨g1, q1, a1, n1, a2, a9, r9, f0, f1, f2, f3, f4, f5, f6, f7, f8, f9, f10, f11, f12, f13, f14⟩ := HF.out
        have hgb : Below V11.heap.size V11 W1 := (g1 h15).grown hg (g1 h15).size (fun k hk => (own_row HE.out k hk).1)
        exact hK ({ gh with A9 := AN, k9 := cN }, (upd (upd (upd s 45 (.slice gh.A2 (k + 1) gh.k2)) 49 (.slice (Option.map (fun x : Addr => x.add (k * 6)) At) (nt - k) (ct - k))) 50 (.slice AN (nt + 1) cN))) _ ⟨(fun _ => hgb), (fun _ h => absurd (HD5.out.symm.trans h) (by decide)), (fun _ h => absurd (HD8.out.symm.trans h) (by decide)), (fun _ h => absurd (HD8.out.symm.trans h) (by decide)), (fun _ h => by cases h), (fun _ _ => hO), (fun h => absurd (h15.symm.trans h) (by decide)), f0, f1, f2, f3, f4, f5, f6, f7, (fun _ => rfl), f9, f10, f11, (fun _ => rfl), (fun _ => rfl), f14⟩
       ·rintro L ⟨gh, s⟩ W hu hd hdn ⟨g1, q1, a1, n1, a2, a9, r9, f0, f1, f2, f3, f4, f5, f6, f7, f8, f9, f10, f11, f12, f13, f14⟩ K Q hK
        try dsimp only at g1 q1 a1 n1 a2 a9 r9 f0 f1 f2 f3 f4 f5 f6 f7 f8 f9 f10 f11 f12 f13 f14 ⊢
        have tlx := HLay.out.lt 3 rfl
        have HF := Lib.hid (show (L 15 = false → Below V11.heap.size V11 W) ∧ (L 0 = true → L 5 = false → Own W V11.heap.size 65 6 (some ⟨gh.e1, 0, none⟩) 0 0 []) ∧ (L 5 = true → L 8 = false → Own W V11.heap.size 65 6 gh.A1 k gh.k1 ((m.tastes.take k).flatMap Tast.vals)) ∧ (L 7 = true → L 8 = false → Reads W W.heap.size 6 (some ⟨gh.e2, 0, none⟩) 1 x.vals) ∧ (L 8 = true → L 13 = false → Own W V11.heap.size 65 6 gh.A2 (k + 1) gh.k2 (((m.tastes.take k).flatMap Tast.vals) ++ x.vals)) ∧ (L 13 = true → L 15 = false → Own W V11.heap.size 65 6 gh.A9 (nt + 1) gh.k9 (((m.tastes.take k).flatMap Tast.vals) ++ (x.vals ++ ((m.tastes.drop k).flatMap Tast.vals)))) ∧ (L 15 = true → ∃ V, Below V11.heap.size V11 V ∧ Own V V11.heap.size 65 6 gh.A9 (nt + 1) gh.k9 (((m.tastes.take k).flatMap Tast.vals) ++ (x.vals ++ ((m.tastes.drop k).flatMap Tast.vals))) ∧ W = V.setCell ⟨G12, 3, none⟩ (.slice gh.A9 (nt + 1) gh.k9)) ∧ (L 0 = true → s 37 = .slice (some ⟨gh.e1, 0, none⟩) 0 0) ∧ (L 1 = true → s 38 = .pointer (some ⟨w.heap.size, 3, none⟩)) ∧ (L 2 = true → s 39 = .slice At nt ct) ∧ (L 3 = true → s 40 = .int .i64 k) ∧ (L 4 = true → s 41 = .slice At k ct) ∧ (L 5 = true → s 42 = .slice gh.A1 k gh.k1) ∧ (L 6 = true → s 43 = .agg #[.int .i64 x.num, .int .i64 x.vessel, .int .i64 x.after, .int .i64 x.fountain, .int .i64 x.lo, .int .i64 x.hi]) ∧ (L 7 = true → s 44 = .slice (some ⟨gh.e2, 0, none⟩) 1 1) ∧ (L 8 = true → s 45 = .slice gh.A2 (k + 1) gh.k2) ∧ (L 9 = true → s 46 = .pointer (some ⟨w.heap.size, 3, none⟩)) ∧ (L 10 = true → s 47 = .slice At nt ct) ∧ (L 11 = true → s 48 = .int .i64 k) ∧ (L 12 = true → s 49 = .slice (Option.map (fun x : Addr => x.add (k * 6)) At) (nt - k) (ct - k)) ∧ (L 13 = true → s 50 = .slice gh.A9 (nt + 1) gh.k9) ∧ (L 14 = true → s 51 = .pointer (some ⟨G12, 3, none⟩)) from ⟨g1, q1, a1, n1, a2, a9, r9, f0, f1, f2, f3, f4, f5, f6, f7, f8, f9, f10, f11, f12, f13, f14⟩)
        clear f14 f13 f12 f11 f10 f9 f8 f7 f6 f5 f4 f3 f2 f1 f0 r9 a9 a2 n1 a1 q1 g1 hd
        try simp only
        gi_wp2
        obtain ⟨g1, q1, a1, n1, a2, a9, r9, f0, f1, f2, f3, f4, f5, f6, f7, f8, f9, f10, f11, f12, f13, f14⟩ := HF.out
        exact hK (gh, (upd s 51 (.pointer (some ⟨G12, 3, none⟩)))) _ ⟨g1, q1, a1, n1, a2, a9, r9, f0, f1, f2, f3, f4, f5, f6, f7, f8, f9, f10, f11, f12, f13, (fun _ => rfl)⟩
       ·rintro L ⟨gh, s⟩ W hu hd hdn ⟨g1, q1, a1, n1, a2, a9, r9, f0, f1, f2, f3, f4, f5, f6, f7, f8, f9, f10, f11, f12, f13, f14⟩ K Q hK
        try dsimp only at g1 q1 a1 n1 a2 a9 r9 f0 f1 f2 f3 f4 f5 f6 f7 f8 f9 f10 f11 f12 f13 f14 ⊢
        have e14 := f14 (hd.at_ 14 rfl)
        have e13 := f13 (hd.at_ 13 rfl)
        have MB := (HLay.out.below (g1 hu)).blk 3 rfl
        have y3 := MB.cell 3
        have z3 := MB.frozen 3
        have tlx := MB.lt
        clear MB
        have HV := Lib.hid (And.intro (g1 hu) (a9 (hd.at_ 13 rfl) hu))
        have HD5 := Lib.hid (hd.at_ 5 rfl)
        have HD8 := Lib.hid (hd.at_ 8 rfl)
        have HD13 := Lib.hid (hd.at_ 13 rfl)
        have HF := Lib.hid (show (L 15 = false → Below V11.heap.size V11 W) ∧ (L 0 = true → L 5 = false → Own W V11.heap.size 65 6 (some ⟨gh.e1, 0, none⟩) 0 0 []) ∧ (L 5 = true → L 8 = false → Own W V11.heap.size 65 6 gh.A1 k gh.k1 ((m.tastes.take k).flatMap Tast.vals)) ∧ (L 7 = true → L 8 = false → Reads W W.heap.size 6 (some ⟨gh.e2, 0, none⟩) 1 x.vals) ∧ (L 8 = true → L 13 = false → Own W V11.heap.size 65 6 gh.A2 (k + 1) gh.k2 (((m.tastes.take k).flatMap Tast.vals) ++ x.vals)) ∧ (L 13 = true → L 15 = false → Own W V11.heap.size 65 6 gh.A9 (nt + 1) gh.k9 (((m.tastes.take k).flatMap Tast.vals) ++ (x.vals ++ ((m.tastes.drop k).flatMap Tast.vals)))) ∧ (L 15 = true → ∃ V, Below V11.heap.size V11 V ∧ Own V V11.heap.size 65 6 gh.A9 (nt + 1) gh.k9 (((m.tastes.take k).flatMap Tast.vals) ++ (x.vals ++ ((m.tastes.drop k).flatMap Tast.vals))) ∧ W = V.setCell ⟨G12, 3, none⟩ (.slice gh.A9 (nt + 1) gh.k9)) ∧ (L 0 = true → s 37 = .slice (some ⟨gh.e1, 0, none⟩) 0 0) ∧ (L 1 = true → s 38 = .pointer (some ⟨w.heap.size, 3, none⟩)) ∧ (L 2 = true → s 39 = .slice At nt ct) ∧ (L 3 = true → s 40 = .int .i64 k) ∧ (L 4 = true → s 41 = .slice At k ct) ∧ (L 5 = true → s 42 = .slice gh.A1 k gh.k1) ∧ (L 6 = true → s 43 = .agg #[.int .i64 x.num, .int .i64 x.vessel, .int .i64 x.after, .int .i64 x.fountain, .int .i64 x.lo, .int .i64 x.hi]) ∧ (L 7 = true → s 44 = .slice (some ⟨gh.e2, 0, none⟩) 1 1) ∧ (L 8 = true → s 45 = .slice gh.A2 (k + 1) gh.k2) ∧ (L 9 = true → s 46 = .pointer (some ⟨w.heap.size, 3, none⟩)) ∧ (L 10 = true → s 47 = .slice At nt ct) ∧ (L 11 = true → s 48 = .int .i64 k) ∧ (L 12 = true → s 49 = .slice (Option.map (fun x : Addr => x.add (k * 6)) At) (nt - k) (ct - k)) ∧ (L 13 = true → s 50 = .slice gh.A9 (nt + 1) gh.k9) ∧ (L 14 = true → s 51 = .pointer (some ⟨G12, 3, none⟩)) from ⟨g1, q1, a1, n1, a2, a9, r9, f0, f1, f2, f3, f4, f5, f6, f7, f8, f9, f10, f11, f12, f13, f14⟩)
        clear f14 f13 f12 f11 f10 f9 f8 f7 f6 f5 f4 f3 f2 f1 f0 r9 a9 a2 n1 a1 q1 g1 hd
        try simp only at e14 e13 ⊢
        gi_wp2
        obtain ⟨g1, q1, a1, n1, a2, a9, r9, f0, f1, f2, f3, f4, f5, f6, f7, f8, f9, f10, f11, f12, f13, f14⟩ := HF.out
        exact hK (gh, (upd (upd s 51 (.pointer (some ⟨G12, 3, none⟩))) 50 (.slice gh.A9 (nt + 1) gh.k9))) _ ⟨(fun h => by cases h), (fun _ h => absurd (HD5.out.symm.trans h) (by decide)), (fun _ h => absurd (HD8.out.symm.trans h) (by decide)), (fun _ h => absurd (HD8.out.symm.trans h) (by decide)), (fun _ h => absurd (HD13.out.symm.trans h) (by decide)), (fun _ h => by cases h), (fun _ => ⟨W, HV.out.1, HV.out.2, rfl⟩), f0, f1, f2, f3, f4, f5, f6, f7, f8, f9, f10, f11, f12, (fun _ => rfl), (fun _ => rfl)⟩
      ·rintro L ⟨gh, s⟩ W hall ⟨g1, q1, a1, n1, a2, a9, r9, f0, f1, f2, f3, f4, f5, f6, f7, f8, f9, f10, f11, f12, f13, f14⟩
       obtain ⟨V, hB, hO, rfl⟩ := r9 (hall 15 (by decide))
       clear f14 f13 f12 f11 f10 f9 f8 f7 f6 f5 f4 f3 f2 f1 f0 r9 a9 a2 n1 a1 q1 g1 hall
       simp only
       obtain ⟨ea, eb, A7, k7, A8, k8, A9, c9⟩ := gh
       dsimp only at hO ⊢
       have hwv : W9.heap.size ≤ V11.heap.size := by have := HWW.out; have := HG_.out; have := HLay.out.lt 3 rfl; omega
       have HMO2 := Lib.hid (HMO.out.tasts (l := (insT m.tastes x)) hB (by rw [HSP.out, List.flatMap_append, List.flatMap_append]; simpa using hO) hwv)
       replace HLay := Lib.hid (HLay.out.below hB)
       clear hO hB hwv
       have hne : ∀ b ∈ ([(w.heap.size, 26, #[.int .i64 m.fountains, .slice Av nv cv, .slice Aa na ca, .slice At nt ct]), (w.heap.size + 1, 65, #[.int .i64 x.num, .int .i64 x.vessel, .int .i64 x.after, .int .i64 x.fountain, .int .i64 x.lo, .int .i64 x.hi]), (w.heap.size + 1 + 1, 26, #[.int .i64 0, .slice none 0 0, .slice none 0 0, .slice none 0 0])] : List (Nat × TypeId × Array Value)), b.1 ≠ G12 := fun b hb => by
        have := HWW.out; have := HG_.out; have := HBLL.out
        simp only [List.mem_cons, List.not_mem_nil, or_false] at hb
        rcases hb with rfl | rfl | rfl <;> dsimp only <;> omega
       have hgs := grown_setCell (row := some G12) (grown_refl V _) (p := ⟨G12, 3, none⟩) (.inl rfl) (.slice A9 (nt + 1) c9)
       have HMO3 := Lib.hid (HMO2.out.offB (HLay.out.blk 3 rfl) hgs)
       have hl := Lay.setLast HLay.out hne 3 (.slice A9 (nt + 1) c9)
       generalize V.setCell ⟨G12, 3, none⟩ (.slice A9 (nt + 1) c9) = V15 at *
       replace HLay := Lib.hid (show Lay w V15 [(w.heap.size, 26, #[.int .i64 m.fountains, .slice Av nv cv, .slice Aa na ca, .slice At nt ct]), (w.heap.size + 1, 65, #[.int .i64 x.num, .int .i64 x.vessel, .int .i64 x.after, .int .i64 x.fountain, .int .i64 x.lo, .int .i64 x.hi]), (w.heap.size + 1 + 1, 26, #[.int .i64 0, .slice none 0 0, .slice none 0 0, .slice none 0 0]), (G12, 26, #[.int .i64 m.fountains, .slice A1 nv c1, .slice A2 na c2, .slice A9 (nt + 1) c9])] from hl)
       replace HMO := HMO3
       clear hgs hl HMO2 HMO3 hne
       have x3_0 := (HLay.out.blk 3 rfl).cell 0
       have x3_1 := (HLay.out.blk 3 rfl).cell 1
       have x3_2 := (HLay.out.blk 3 rfl).cell 2
       have x3_3 := (HLay.out.blk 3 rfl).cell 3
       have l3_ := HLay.out.lt 3 rfl
       gi_wp2
       clear x3_0 x3_1 x3_2 x3_3 l3_
       refine ⟨trivial, (callsIn_wide.2 (rmix_any A1 nv c1 A2 na c2 A9 (nt + 1) c9 (withT m (insT m.tastes x)) V15 (HMO.out.s hnv (by omega) (by omega)))).mono ?_⟩
       rintro e W16 ⟨rfl, hb⟩
       have HBC := Lib.hid hb
       replace HLay := Lib.hid (HLay.out.below hb)
       clear hb
       cases hk : okMix (withT m (insT m.tastes x)) with
       | false =>
        replace HF : Hid (putM m x = (zeroMix, 42)) := Lib.hid (by rw [HF.out, hk]; rfl)
        clear hk HMO
        have x2_0 := (HLay.out.blk 2 rfl).cell 0
        have z2_0 := (HLay.out.blk 2 rfl).frozen 0
        have x2_1 := (HLay.out.blk 2 rfl).cell 1
        have z2_1 := (HLay.out.blk 2 rfl).frozen 1
        have x2_2 := (HLay.out.blk 2 rfl).cell 2
        have z2_2 := (HLay.out.blk 2 rfl).frozen 2
        have x2_3 := (HLay.out.blk 2 rfl).cell 3
        have z2_3 := (HLay.out.blk 2 rfl).frozen 3
        have l2_ := HLay.out.lt 2 rfl
        gi_wp2
        have R4 := ret4' (HLay.out.blk 2 rfl) HLay.out.1 (HLay.out.ge 2 rfl) (.int .i64 0) (.slice none 0 0) (.slice none 0 0) (.slice none 0 0)
        have v0 := R4.1.cell 0
        have v1 := R4.1.cell 1
        have v2 := R4.1.cell 2
        have v3 := R4.1.cell 3
        refine bodyPost_ret (v := .tuple #[.agg #[.int .i64 0, .slice none 0 0, .slice none 0 0, .slice none 0 0], .int .i64 42]) (by simp [results, Try.results32, go_sem, v0, v1, v2, v3]) rfl ?_
        rw [HF.out]
        exact ⟨none, 0, 0, none, 0, 0, none, 0, 0, rfl, MixS.nothing _, R4.2.1⟩
       | true =>
        replace HF : Hid (putM m x = ((withT m (insT m.tastes x)), 0)) := Lib.hid (by rw [HF.out, hk]; rfl)
        replace HMO := Lib.hid (HMO.out.below HBC.out)
        clear hk
        have x3_0 := (HLay.out.blk 3 rfl).cell 0
        have x3_1 := (HLay.out.blk 3 rfl).cell 1
        have x3_2 := (HLay.out.blk 3 rfl).cell 2
        have x3_3 := (HLay.out.blk 3 rfl).cell 3
        have l3_ := HLay.out.lt 3 rfl
        have r0 := (HLay.out.blk 2 rfl).cell 0
        have rz0 := (HLay.out.blk 2 rfl).frozen 0
        have r1 := (HLay.out.blk 2 rfl).cell 1
        have rz1 := (HLay.out.blk 2 rfl).frozen 1
        have r2 := (HLay.out.blk 2 rfl).cell 2
        have rz2 := (HLay.out.blk 2 rfl).frozen 2
        have r3 := (HLay.out.blk 2 rfl).cell 3
        have rz3 := (HLay.out.blk 2 rfl).frozen 3
        have rl := HLay.out.lt 2 rfl
        gi_wp2
        have R4 := ret4' (HLay.out.blk 2 rfl) HLay.out.1 (HLay.out.ge 2 rfl) (.int .i64 m.fountains) (.slice A1 nv c1) (.slice A2 na c2) (.slice A9 (nt + 1) c9)
        have v0 := R4.1.cell 0
        have v1 := R4.1.cell 1
        have v2 := R4.1.cell 2
        have v3 := R4.1.cell 3
        refine bodyPost_ret (v := .tuple #[.agg #[.int .i64 m.fountains, .slice A1 nv c1, .slice A2 na c2, .slice A9 (nt + 1) c9], .int .i64 0]) (by simp [results, Try.results32, go_sem, v0, v1, v2, v3]) rfl ?_
        rw [HF.out]
        exact ⟨_, _, _, _, _, _, _, _, _, rfl, (HMO.out.offB (HLay.out.blk 2 rfl) R4.2.2).s (by omega) (by omega) (by omega), R4.2.1⟩

end Go.Proofs.Ythofngceiecniaa
