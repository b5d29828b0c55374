/- Part 6 of the texts of this claim, joined. -/
import Derived.Sort.CutIn
import Derived.Test.YthofngceiecniaaMxC5
set_option linter.unusedVariables false
/- mix.Put. -/
namespace Go.Proofs.Ythofngceiecniaa
open Go.RowKit

theorem okMix_rise {m : Mix} (h : okMix m = true) : m.tastes.Pairwise (fun a b => a.num < b.num) := by
 unfold okMix at h
 simp only [Bool.and_eq_true] at h
 exact List.pairwise_map.1 (risB_pair h.2).1

set_option maxRecDepth 100000 in
set_option maxHeartbeats 16000000 in
theorem put_in (Av : Option Addr) (nv cv : Nat) (Aa : Option Addr) (na ca : Nat) (At : Option Addr) (nt ct : Nat) (m : Mix) (x : Tast) (w : World) (h : MixS w Av nv Aa na At nt m) :
  CallsIn Fence.wide 9 Try.prog 31 #[.agg #[.int .i64 m.fountains, .slice Av nv cv, .slice Aa na ca, .slice At nt ct], .agg #[.int .i64 x.num, .int .i64 x.vessel, .int .i64 x.after, .int .i64 x.fountain, .int .i64 x.lo, .int .i64 x.hi]] w (ChgOut w (putS m x)) := by
 have HM := Lib.hid h
 have HLV := Lib.hid h.at_.lenV
 have HLA := Lib.hid h.at_.lenA
 have HLT := Lib.hid h.at_.lenT
 have hnv := h.hv
 have hna := h.ha
 have hnt := h.ht
 clear h
 refine callsIn_of_wp Try.func31 rfl trivial ?_ rfl
 simp only [Try.ntmps31, List.size_toArray, List.length_cons, List.length_nil, Nat.reduceAdd, Nat.reduceSub, Array.replicate_succ, Array.replicate_zero, List.push_toArray, List.append_toArray, List.nil_append, List.cons_append]
 gi_upto_region 1 with fail
 have HLay := Lib.hid (Lay.three w 26 #[.int .i64 m.fountains, .slice Av nv cv, .slice Aa na ca, .slice At nt ct] 65 #[.int .i64 x.num, .int .i64 x.vessel, .int .i64 x.after, .int .i64 x.fountain, .int .i64 x.lo, .int .i64 x.hi] 26 #[.int .i64 0, .slice none 0 0, .slice none 0 0, .slice none 0 0])
 generalize (((w.alloc (.cells #[.int .i64 m.fountains, .slice Av nv cv, .slice Aa na ca, .slice At nt ct] 26)).alloc (.cells #[.int .i64 x.num, .int .i64 x.vessel, .int .i64 x.after, .int .i64 x.fountain, .int .i64 x.lo, .int .i64 x.hi] 65)).alloc (.cells #[.int .i64 0, .slice none 0 0, .slice none 0 0, .slice none 0 0] 26)) = w0 at *
 have x0_0 := (HLay.out.blk 0 rfl).cell 0
 have x0_1 := (HLay.out.blk 0 rfl).cell 1
 have x0_2 := (HLay.out.blk 0 rfl).cell 2
 have x0_3 := (HLay.out.blk 0 rfl).cell 3
 have l0_ := HLay.out.lt 0 rfl
 gi_wp2
 clear x0_0 x0_1 x0_2 x0_3 l0_
 refine ⟨trivial, (callsIn_wide.2 (check_any Av nv cv Aa na ca At nt ct m w0 (HM.out.up HLay.out.1))).mono ?_⟩
 rintro e W1 ⟨rfl, hb⟩
 have HBC := Lib.hid hb
 replace HLay := Lib.hid (HLay.out.below hb)
 clear hb
 cases hk : okMix m with
 | false =>
  have HF : Hid (putS m x = (zeroMix, 40)) := Lib.hid (by unfold putS; rw [hk]; rfl)
  rw [show checkE m = 40 from by unfold checkE; rw [hk]; rfl]
  clear hk
  have x2_0 := (HLay.out.blk 2 rfl).cell 0
  have z2_0 := (HLay.out.blk 2 rfl).frozen 0
  have x2_1 := (HLay.out.blk 2 rfl).cell 1
  have z2_1 := (HLay.out.blk 2 rfl).frozen 1
  have x2_2 := (HLay.out.blk 2 rfl).cell 2
  have z2_2 := (HLay.out.blk 2 rfl).frozen 2
  have x2_3 := (HLay.out.blk 2 rfl).cell 3
  have z2_3 := (HLay.out.blk 2 rfl).frozen 3
  have l2_ := HLay.out.lt 2 rfl
  gi_wp2
  have R4 := ret4' (HLay.out.blk 2 rfl) HLay.out.1 (HLay.out.ge 2 rfl) (.int .i64 0) (.slice none 0 0) (.slice none 0 0) (.slice none 0 0)
  have v0 := R4.1.cell 0
  have v1 := R4.1.cell 1
  have v2 := R4.1.cell 2
  have v3 := R4.1.cell 3
  refine bodyPost_ret (v := .tuple #[.agg #[.int .i64 0, .slice none 0 0, .slice none 0 0, .slice none 0 0], .int .i64 40]) (by simp [results, Try.results31, go_sem, v0, v1, v2, v3]) rfl ?_
  rw [HF.out]
  exact ⟨none, 0, 0, none, 0, 0, none, 0, 0, rfl, MixOwn.nothing _ _, ⟨by omega, by omega, by omega⟩, R4.2.1⟩
 | true =>
  have HK := Lib.hid hk
  have HRI := Lib.hid (okMix_rise hk)
  have hlim := okMix_vess hk
  have hv4 : nv ≤ 4 := by have := HLV.out; omega
  have ha12 : na ≤ 12 := by have := HLA.out; omega
  have ht8 : nt ≤ 8 := by have := HLT.out; omega
  clear hlim
  rw [show checkE m = 0 from by unfold checkE; rw [hk]; rfl]
  clear hk
  by_cases h12 : nt = 8
  ·
   have HF : Hid (putS m x = (zeroMix, 9)) := Lib.hid (by unfold putS; rw [if_pos HK.out, if_pos (by rw [HLT.out]; exact h12)])
   have h12a : ((nt : Int) == 8) = true := by simp; omega
   have H12 := Lib.hid h12
   clear h12
   have x0_0 := (HLay.out.blk 0 rfl).cell 0
   have x0_1 := (HLay.out.blk 0 rfl).cell 1
   have x0_2 := (HLay.out.blk 0 rfl).cell 2
   have x0_3 := (HLay.out.blk 0 rfl).cell 3
   have l0_ := HLay.out.lt 0 rfl
   have x2_0 := (HLay.out.blk 2 rfl).cell 0
   have z2_0 := (HLay.out.blk 2 rfl).frozen 0
   have x2_1 := (HLay.out.blk 2 rfl).cell 1
   have z2_1 := (HLay.out.blk 2 rfl).frozen 1
   have x2_2 := (HLay.out.blk 2 rfl).cell 2
   have z2_2 := (HLay.out.blk 2 rfl).frozen 2
   have x2_3 := (HLay.out.blk 2 rfl).cell 3
   have z2_3 := (HLay.out.blk 2 rfl).frozen 3
   have l2_ := HLay.out.lt 2 rfl
   gi_wp2
   have R4 := ret4' (HLay.out.blk 2 rfl) HLay.out.1 (HLay.out.ge 2 rfl) (.int .i64 0) (.slice none 0 0) (.slice none 0 0) (.slice none 0 0)
   have v0 := R4.1.cell 0
   have v1 := R4.1.cell 1
   have v2 := R4.1.cell 2
   have v3 := R4.1.cell 3
   refine bodyPost_ret (v := .tuple #[.agg #[.int .i64 0, .slice none 0 0, .slice none 0 0, .slice none 0 0], .int .i64 9]) (by simp [results, Try.results31, go_sem, v0, v1, v2, v3]) rfl ?_
   rw [HF.out]
   exact ⟨none, 0, 0, none, 0, 0, none, 0, 0, rfl, MixOwn.nothing _ _, ⟨by omega, by omega, by omega⟩, R4.2.1⟩
  ·
   have h12a : ((nt : Int) == 8) = false := by simp; omega
   have HF : Hid (putS m x = if okMix (withT m (insS m.tastes x)) = true then ((withT m (insS m.tastes x)), 0) else (zeroMix, 42)) := Lib.hid (by unfold putS; rw [if_pos HK.out, if_neg (by rw [HLT.out]; exact h12)])
   have H12 := Lib.hid h12
   clear h12
   have x0_0 := (HLay.out.blk 0 rfl).cell 0
   have x0_1 := (HLay.out.blk 0 rfl).cell 1
   have x0_2 := (HLay.out.blk 0 rfl).cell 2
   have x0_3 := (HLay.out.blk 0 rfl).cell 3
   have l0_ := HLay.out.lt 0 rfl
   gi_wp2
   clear x0_0 x0_1 x0_2 x0_3 l0_
   have HBL : Hid (w.heap.size < W1.heap.size) := Lib.hid (HLay.out.lt 0 rfl)
   have HBS := Lib.hid (HLay.out.1.size)
   have HBL1 := Lib.hid (HLay.out.lt 1 rfl)
   have HBL2 := Lib.hid (HLay.out.lt 2 rfl)
   refine ⟨trivial, (callsIn_wide.2 (callsIn_wide.1 (copied_in Av nv cv Aa na ca At nt ct m W1 (HM.out.up HLay.out.1)))).mono ?_⟩
   rintro e W2 ⟨A1, c1, A2, c2, A3, c3, rfl, hmo, hb⟩
   have HCB := Lib.hid hb.size
   replace HLay := Lib.hid (HLay.out.below hb)
   clear hb
   have HMO := Lib.hid hmo
   clear hmo
   have x0_0 := (HLay.out.blk 0 rfl).cell 0
   have z0_0 := (HLay.out.blk 0 rfl).frozen 0
   have x0_1 := (HLay.out.blk 0 rfl).cell 1
   have z0_1 := (HLay.out.blk 0 rfl).frozen 1
   have x0_2 := (HLay.out.blk 0 rfl).cell 2
   have z0_2 := (HLay.out.blk 0 rfl).frozen 2
   have x0_3 := (HLay.out.blk 0 rfl).cell 3
   have z0_3 := (HLay.out.blk 0 rfl).frozen 3
   have l0_ := HLay.out.lt 0 rfl
   gi_upto_region 7 with fail
   have R4 := ret4' (HLay.out.blk 0 rfl) (Below.refl w.heap.size W2) (Nat.le_refl _) (.int .i64 m.fountains) (.slice A1 nv c1) (.slice A2 na c2) (.slice A3 nt c3)
   have hl := lay_head HLay.out (fun b hb => by simp only [List.mem_cons, List.not_mem_nil, or_false] at hb; rcases hb with rfl | rfl <;> simp <;> omega) R4.2.2 R4.1
   have HMO2 := Lib.hid (HMO.out.off R4.2.2 HBL.out)
   have HSZ := Lib.hid (Nat.le_trans HCB.out R4.2.2.size)
   clear x0_0 z0_0 x0_1 z0_1 x0_2 z0_2 x0_3 z0_3 l0_
   generalize ((((W2.setCell ⟨w.heap.size, 0, none⟩ (.int .i64 m.fountains)).setCell ⟨w.heap.size, 1, none⟩ (.slice A1 nv c1)).setCell ⟨w.heap.size, 2, none⟩ (.slice A2 na c2)).setCell ⟨w.heap.size, 3, none⟩ (.slice A3 nt c3)) = V3 at *
   replace HLay := Lib.hid hl
   replace HMO := HMO2
   clear R4 HMO2 hl
   have x0_0 := (HLay.out.blk 0 rfl).cell 0
   have z0_0 := (HLay.out.blk 0 rfl).frozen 0
   have x0_1 := (HLay.out.blk 0 rfl).cell 1
   have z0_1 := (HLay.out.blk 0 rfl).frozen 1
   have x0_2 := (HLay.out.blk 0 rfl).cell 2
   have z0_2 := (HLay.out.blk 0 rfl).frozen 2
   have x0_3 := (HLay.out.blk 0 rfl).cell 3
   have z0_3 := (HLay.out.blk 0 rfl).frozen 3
   have l0_ := HLay.out.lt 0 rfl
   have a0 := (HLay.out.blk 1 rfl).cell 0
   have a1 := (HLay.out.blk 1 rfl).cell 1
   have a2 := (HLay.out.blk 1 rfl).cell 2
   have a3 := (HLay.out.blk 1 rfl).cell 3
   have a4 := (HLay.out.blk 1 rfl).cell 4
   have a5 := (HLay.out.blk 1 rfl).cell 5
   have al := HLay.out.lt 1 rfl
   gi_wp2_with (first | (gi_at_builtin; refine wpListIn_append_any rfl (.tmp 21) (.tmp 23) (by rfl) elem_tast rfl (HMO.out.t.alloc (.cells #[.int .i64 x.num, .int .i64 x.vessel, .int .i64 x.after, .int .i64 x.fountain, .int .i64 x.lo, .int .i64 x.hi] 65)) rfl (reads_new V3 65 x.vals rfl) (tast_one1 x) (by unfold maxLen; omega) (by omega) (by have := HSZ.out; simp; omega) ?_) | fail)
   clear x0_0 z0_0 x0_1 z0_1 x0_2 z0_2 x0_3 z0_3 l0_
   clear a0 a1 a2 a3 a4 a5 al
   rintro A9 c9 V4 hown hg hA
   have hrow := own_row HMO.out.t
   have HLA2 := Lib.hid ((HLay.out.below ((Below.refl _ _).alloc (Nat.le_refl _) (.cells #[.int .i64 x.num, .int .i64 x.vessel, .int .i64 x.after, .int .i64 x.fountain, .int .i64 x.lo, .int .i64 x.hi] 65))).row hg (fun r e => ⟨by have := (hrow r e).1; have := HBS.out; omega, fun b hb => by have := (hrow r e).1; have := HBL1.out; have := HBL2.out; have := HBL.out; simp only [List.mem_cons, List.not_mem_nil, or_false] at hb; rcases hb with rfl | rfl | rfl <;> dsimp only <;> omega⟩))
   have HMO2 := Lib.hid ((HMO.out.below ((Below.refl _ _).alloc (Nat.le_refl _) (.cells #[.int .i64 x.num, .int .i64 x.vessel, .int .i64 x.after, .int .i64 x.fountain, .int .i64 x.lo, .int .i64 x.hi] 65))).tasts (l := m.tastes ++ [x]) hg (by rw [List.flatMap_append]; simpa using hown) (by rw [World.size_alloc]; exact hA))
   replace HLay := HLA2
   clear hown hg hA hrow HLA2
   have x0_0 := (HLay.out.blk 0 rfl).cell 0
   have z0_0 := (HLay.out.blk 0 rfl).frozen 0
   have x0_1 := (HLay.out.blk 0 rfl).cell 1
   have z0_1 := (HLay.out.blk 0 rfl).frozen 1
   have x0_2 := (HLay.out.blk 0 rfl).cell 2
   have z0_2 := (HLay.out.blk 0 rfl).frozen 2
   have x0_3 := (HLay.out.blk 0 rfl).cell 3
   have z0_3 := (HLay.out.blk 0 rfl).frozen 3
   have l0_ := HLay.out.lt 0 rfl
   gi_upto_region 8 with fail
   have hgs := grown_setCell (row := some w.heap.size) (grown_refl V4 _) (p := ⟨w.heap.size, 3, none⟩) (.inl rfl) (.slice A9 (nt + 1) c9)
   have hl := lay_head HLay.out (fun b hb => by simp only [List.mem_cons, List.not_mem_nil, or_false] at hb; rcases hb with rfl | rfl <;> simp <;> omega) hgs ((HLay.out.blk 0 rfl).set_ 3 (.slice A9 (nt + 1) c9))
   have HMO3 := Lib.hid (HMO2.out.off hgs HBL.out)
   clear x0_0 z0_0 x0_1 z0_1 x0_2 z0_2 x0_3 z0_3 l0_
   generalize V4.setCell ⟨w.heap.size, 3, none⟩ (.slice A9 (nt + 1) c9) = V5 at *
   replace HLay := Lib.hid (show Lay w V5 [(w.heap.size, 26, #[.int .i64 m.fountains, .slice A1 nv c1, .slice A2 na c2, .slice A9 (nt + 1) c9]), (w.heap.size + 1, 65, #[.int .i64 x.num, .int .i64 x.vessel, .int .i64 x.after, .int .i64 x.fountain, .int .i64 x.lo, .int .i64 x.hi]), (w.heap.size + 1 + 1, 26, #[.int .i64 0, .slice none 0 0, .slice none 0 0, .slice none 0 0])] from hl)
   replace HMO := HMO3
   clear hgs hl HMO2 HMO3
   have x0_0 := (HLay.out.blk 0 rfl).cell 0
   have x0_1 := (HLay.out.blk 0 rfl).cell 1
   have x0_2 := (HLay.out.blk 0 rfl).cell 2
   have x0_3 := (HLay.out.blk 0 rfl).cell 3
   have l0_ := HLay.out.lt 0 rfl
   gi_wp2
   clear x0_0 x0_1 x0_2 x0_3 l0_
   refine ⟨trivial, (callsIn_wide.2 (sort_tast W1.heap.size A9 nt c9 m.tastes x V5 HMO.out.t (by omega) HRI.out)).mono ?_⟩
   rintro e V6 ⟨rfl, hown, hg⟩
   have hrow := own_row HMO.out.t
   have HLA2 := Lib.hid (HLay.out.row hg (fun r e => ⟨by have := (hrow r e).1; have := HBS.out; omega, fun b hb => by have := (hrow r e).1; have := HBL1.out; have := HBL2.out; have := HBL.out; simp only [List.mem_cons, List.not_mem_nil, or_false] at hb; rcases hb with rfl | rfl | rfl <;> dsimp only <;> omega⟩))
   have HMO2 := Lib.hid (show MixOwn V6 _ A1 nv c1 A2 na c2 A9 (nt + 1) c9 (withT m (insS m.tastes x)) from HMO.out.tasts (l := insS m.tastes x) hg hown (.inl rfl))
   replace HLay := HLA2
   replace HMO := HMO2
   clear hown hg hrow HLA2 HMO2
   have x0_0 := (HLay.out.blk 0 rfl).cell 0
   have x0_1 := (HLay.out.blk 0 rfl).cell 1
   have x0_2 := (HLay.out.blk 0 rfl).cell 2
   have x0_3 := (HLay.out.blk 0 rfl).cell 3
   have l0_ := HLay.out.lt 0 rfl
   gi_wp2
   clear x0_0 x0_1 x0_2 x0_3 l0_
   refine ⟨trivial, (callsIn_wide.2 (check_any A1 nv c1 A2 na c2 A9 (nt + 1) c9 (withT m (insS m.tastes x)) V6 (HMO.out.s hnv hna (by omega)))).mono ?_⟩
   rintro e W7 ⟨rfl, hb⟩
   have HBC := Lib.hid hb
   replace HLay := Lib.hid (HLay.out.below hb)
   clear hb
   cases hk : okMix (withT m (insS m.tastes x)) with
   | false =>
    rw [show checkE (withT m (insS m.tastes x)) = 40 from by unfold checkE; rw [hk]; rfl]
    replace HF : Hid (putS m x = (zeroMix, 42)) := Lib.hid (by rw [HF.out, hk]; rfl)
    clear hk HMO
    have x2_0 := (HLay.out.blk 2 rfl).cell 0
    have z2_0 := (HLay.out.blk 2 rfl).frozen 0
    have x2_1 := (HLay.out.blk 2 rfl).cell 1
    have z2_1 := (HLay.out.blk 2 rfl).frozen 1
    have x2_2 := (HLay.out.blk 2 rfl).cell 2
    have z2_2 := (HLay.out.blk 2 rfl).frozen 2
    have x2_3 := (HLay.out.blk 2 rfl).cell 3
    have z2_3 := (HLay.out.blk 2 rfl).frozen 3
    have l2_ := HLay.out.lt 2 rfl
    gi_wp2
    have R4 := ret4' (HLay.out.blk 2 rfl) HLay.out.1 (HLay.out.ge 2 rfl) (.int .i64 0) (.slice none 0 0) (.slice none 0 0) (.slice none 0 0)
    have v0 := R4.1.cell 0
    have v1 := R4.1.cell 1
    have v2 := R4.1.cell 2
    have v3 := R4.1.cell 3
    refine bodyPost_ret (v := .tuple #[.agg #[.int .i64 0, .slice none 0 0, .slice none 0 0, .slice none 0 0], .int .i64 42]) (by simp [results, Try.results31, go_sem, v0, v1, v2, v3]) rfl ?_
    rw [HF.out]
    exact ⟨none, 0, 0, none, 0, 0, none, 0, 0, rfl, MixOwn.nothing _ _, ⟨by omega, by omega, by omega⟩, R4.2.1⟩
   | true =>
    rw [show checkE (withT m (insS m.tastes x)) = 0 from by unfold checkE; rw [hk]; rfl]
    replace HF : Hid (putS m x = ((withT m (insS m.tastes x)), 0)) := Lib.hid (by rw [HF.out, hk]; rfl)
    replace HMO := Lib.hid (HMO.out.below HBC.out)
    clear hk
    have x0_0 := (HLay.out.blk 0 rfl).cell 0
    have x0_1 := (HLay.out.blk 0 rfl).cell 1
    have x0_2 := (HLay.out.blk 0 rfl).cell 2
    have x0_3 := (HLay.out.blk 0 rfl).cell 3
    have l0_ := HLay.out.lt 0 rfl
    have r0 := (HLay.out.blk 2 rfl).cell 0
    have rz0 := (HLay.out.blk 2 rfl).frozen 0
    have r1 := (HLay.out.blk 2 rfl).cell 1
    have rz1 := (HLay.out.blk 2 rfl).frozen 1
    have r2 := (HLay.out.blk 2 rfl).cell 2
    have rz2 := (HLay.out.blk 2 rfl).frozen 2
    have r3 := (HLay.out.blk 2 rfl).cell 3
    have rz3 := (HLay.out.blk 2 rfl).frozen 3
    have rl := HLay.out.lt 2 rfl
    gi_wp2
    have R4 := ret4' (HLay.out.blk 2 rfl) HLay.out.1 (HLay.out.ge 2 rfl) (.int .i64 m.fountains) (.slice A1 nv c1) (.slice A2 na c2) (.slice A9 (nt + 1) c9)
    have v0 := R4.1.cell 0
    have v1 := R4.1.cell 1
    have v2 := R4.1.cell 2
    have v3 := R4.1.cell 3
    refine bodyPost_ret (v := .tuple #[.agg #[.int .i64 m.fountains, .slice A1 nv c1, .slice A2 na c2, .slice A9 (nt + 1) c9], .int .i64 0]) (by simp [results, Try.results31, go_sem, v0, v1, v2, v3]) rfl ?_
    rw [HF.out]
    exact ⟨_, _, _, _, _, _, _, _, _, rfl, (HMO.out.off R4.2.2 HBL2.out).mono HBS.out, ⟨by omega, by omega, by omega⟩, R4.2.1⟩

end Go.Proofs.Ythofngceiecniaa
/- slices.DeleteFunc at tastes. -/
namespace Go.Proofs.Ythofngceiecniaa
open Go.RowKit

theorem vals6 (x : Tast) : x.vals.length = 6 := rfl
theorem zero_tast (w : World) : (zeroValue 65).run Try.prog w = .ok (.agg #[.int .i64 0, .int .i64 0, .int .i64 0, .int .i64 0, .int .i64 0, .int .i64 0]) w := by kernel_rfl

/-- Between two rounds: i kept, j looked at. -/
structure DelT (g : Nat) (e : TypeId) (sz : Nat) (l : List Tast) (p : Tast → Bool) (i j : Nat) (wr : World) (cur : Array Value) : Prop where
 blk : Blk wr g e cur
 size : cur.size = sz
 num : ((l.take j).filter fun x => !p x).length = i
 kept : ∀ (k : Nat) x, ((l.take j).filter fun x => !p x)[k]? = some x → ElAt cur 6 k x.vals
 left : ∀ (k : Nat) x, j ≤ k → l[k]? = some x → ElAt cur 6 k x.vals
theorem DelT.later {g : Nat} {e : TypeId} {sz : Nat} {l : List Tast} {p : Tast → Bool} {i j : Nat} {wr w' : World} {cur : Array Value} (h : DelT g e sz l p i j wr cur) (hb : Blk w' g e cur) : DelT g e sz l p i j w' cur := ⟨hb, h.size, h.num, h.kept, h.left⟩
theorem DelT.skip {g : Nat} {e : TypeId} {sz : Nat} {l : List Tast} {p : Tast → Bool} {i j : Nat} {wr : World} {cur : Array Value} {x : Tast} (h : DelT g e sz l p i j wr cur) (hx : l[j]? = some x) (hp : p x = true) : DelT g e sz l p i (j + 1) wr cur := by
 obtain ⟨hj, rfl⟩ := List.getElem?_eq_some_iff.1 hx
 have e1 : ((l.take (j + 1)).filter fun x => !p x) = (l.take j).filter fun x => !p x := by
  rw [List.take_succ_eq_append_getElem hj, List.filter_append]; simp [hp]
 exact ⟨h.blk, h.size, by rw [e1]; exact h.num, by rw [e1]; exact h.kept, fun k y hk hy => h.left k y (by omega) hy⟩
theorem DelT.keep {g : Nat} {e : TypeId} {sz : Nat} {l : List Tast} {p : Tast → Bool} {i j : Nat} {wr w' : World} {cur : Array Value} {x : Tast} (h : DelT g e sz l p i j wr cur) (hx : l[j]? = some x) (hp : p x = false) (hij : i ≤ j) (hs : l.length * 6 ≤ sz)
  (hb : Blk w' g e (wrt cur (i * 6) x.vals)) : DelT g e sz l p (i + 1) (j + 1) w' (wrt cur (i * 6) x.vals) := by
 obtain ⟨hj, rfl⟩ := List.getElem?_eq_some_iff.1 hx
 have e1 : ((l.take (j + 1)).filter fun x => !p x) = ((l.take j).filter fun x => !p x) ++ [l[j]] := by
  rw [List.take_succ_eq_append_getElem hj, List.filter_append]; simp [hp]
 have hsz := h.size
 refine ⟨hb, by rw [wrt_size]; exact h.size, by rw [e1, List.length_append, h.num]; rfl, ?_, ?_⟩
 ·intro k y hy
  rw [e1] at hy
  have hn := h.num
  by_cases hk : k < i
  ·rw [List.getElem?_append_left (by omega)] at hy
   exact (h.kept k y hy).wrt_other rfl (by omega)
  ·rw [List.getElem?_append_right (by omega), hn] at hy
   have hk0 : k - i = 0 := by
    rcases Nat.eq_zero_or_pos (k - i) with h0 | h0
    ·exact h0
    ·rw [List.getElem?_eq_none (by simp; omega)] at hy; cases hy
   rw [hk0] at hy
   simp at hy
   subst hy
   obtain rfl : k = i := by omega
   exact ElAt.wrt_same rfl (by omega)
 ·intro k y hk hy
  exact (h.left k y (by omega) hy).wrt_other rfl (by omega)

set_option maxRecDepth 100000 in
set_option maxHeartbeats 4000000 in
theorem deleteFunc_tast (base K : Nat) (F : FuncId) (C : Array Value) (p : Tast → Bool) (A : Option Addr) (n c : Nat) (l : List Tast) (w : World) (hO : Own w base 65 6 A n c (l.flatMap Tast.vals)) (hK : K ≤ base) (hKw : K ≤ w.heap.size) (hp : PredT w K F C p) :
  Calls Try.prog 109 #[.slice A n c, .func (.func F) #[] C] w fun e w' => e = .returned (.slice A (l.filter fun x => !p x).length c) ∧ Own w' base 65 6 A (l.filter fun x => !p x).length c ((l.filter fun x => !p x).flatMap Tast.vals) ∧ w.grownBy w' (A.map (·.block)) := by
 have hl : l.length = n := by have := hO.len; rw [flat_len' vals6] at this; omega
 have hcap := hO.cap_le
 have hmax : c ≤ 9223372036854775807 := by have := hcap.2; unfold maxLen at this; omega
 have hcn := hcap.1
 have HI := Lib.hid (indexFunc_tast K F C p A n c l w (hO.reads (Nat.le_refl _)) (by omega) hKw hp)
 have hE := hp.enters
 have HF := Lib.hid hp
 clear hp
 by_cases hany : ∀ y ∈ l, p y = false
 ·have hi : idxL p l = -1 := idxL_none hany
  have hfil : (l.filter fun x => !p x) = l := List.filter_eq_self.2 fun y hy => by rw [hany y hy]; rfl
  have HO := Lib.hid hO
  have HX := Lib.hid hfil
  rw [hi] at HI
  clear hany hi hO hfil
  go_enter Try.func109, Try.ntmps109
  go_wp2_with fail
  refine HI.out.mono ?_
  rintro e w1 ⟨rfl, hb⟩
  go_wp2_with fail
  go_ret
  rw [HX.out, hl]
  exact ⟨rfl, HO.out.below hb (Nat.le_refl _), grown_of_below hb _⟩
 ·obtain ⟨k0, x0, hx0, hp0, hno⟩ : ∃ (k : Nat) (x : Tast), l[k]? = some x ∧ p x = true ∧ ∀ y ∈ l.take k, p y = false := by
   have h1 : l.any p = true := by
    rw [List.any_eq_true]
    refine Classical.byContradiction fun hc => hany fun y hy => ?_
    cases hpy : p y with
    | false => rfl
    | true => exact absurd ⟨y, hy, hpy⟩ hc
   have h2 := List.findIdx_lt_length_of_exists (List.any_eq_true.1 h1)
   refine ⟨l.findIdx p, l[l.findIdx p], List.getElem?_eq_getElem h2, List.findIdx_getElem, fun y hy => ?_⟩
   rw [List.mem_take_iff_getElem] at hy
   obtain ⟨j, hj, rfl⟩ := hy
   have := List.not_of_lt_findIdx (xs := l) (p := p) (i := j) (by omega)
   simpa using this
  have hi : idxL p l = (k0 : Int) := idxL_some hx0 hp0 hno
  have hk0 : k0 < n := by rw [← hl]; exact (List.getElem?_eq_some_iff.1 hx0).1
  rw [hi] at HI
  rcases hO.form with ⟨rfl, rfl, rfl, _⟩ | ⟨g, cur, rfl, hbg, hblk, _, _, hsz, htake, _⟩
  ·omega
  have hcells : ∀ k, k < l.length * 6 → cur[k]? = (l.flatMap Tast.vals)[k]? := by
   intro k hk
   rw [← htake, List.getElem?_take, if_pos (by omega), Array.getElem?_toList]
  have hels := els_of_flat vals6 hcells
  have hfil : ((l.take k0).filter fun x => !p x) = l.take k0 := List.filter_eq_self.2 fun y hy => by rw [hno y hy]; rfl
  have D0 : DelT g 65 (c * 6) l p k0 k0 w cur := ⟨hblk, hsz, by rw [hfil, List.length_take]; omega, fun k x h => hels k x (by
   rw [hfil, List.getElem?_take] at h
   split at h
   ·exact h
   ·cases h), fun k x _ h => hels k x h⟩
  have D1 := Lib.hid (D0.skip hx0 hp0)
  have HB := Lib.hid hblk
  have HN := Lib.hid hl
  have hlg := hblk.lt
  have hne : ((k0 : Int) == -1) = false := by simp
  clear hany hi hO hno hp0 hx0 hcells hels hfil htake hsz D0 hl hblk
  go_enter Try.func109, Try.ntmps109
  go_wp2_with fail
  refine HI.out.mono ?_
  rintro e w1 ⟨rfl, hb⟩
  go_wp2_with fail
  go_loopw [5, 6] (fun vi vj wr => ∃ (i j : Nat) (cur : Array Value), vi = .int .i64 i ∧ vj = .int .i64 j ∧ i < j ∧ j ≤ n ∧ DelT g 65 (c * 6) l p i j wr cur ∧ w.grownBy wr (some g))
   (fun _ vj _ => n - (intOf vj).toNat)
  case atStart => exact ⟨k0, k0 + 1, cur, rfl, by go_num, by omega, by omega, D1.out.later (HB.out.below hb hlg), grown_of_below hb _⟩
  case round =>
   obtain ⟨i, j, cur1, rfl, rfl, hij, hjn, hD, hg⟩ := hrel
   by_cases hlt : j < n
   ·have hxj : l[j]? = some (l[j]'(by have := HN.out; omega)) := List.getElem?_eq_getElem _
    generalize (l[j]'(by have := HN.out; omega)) = x at hxj
    have e1 := hD.left j x (Nat.le_refl _) hxj
    have c0 : wr.cell? ⟨g, j * 6, none⟩ = some (.int .i64 x.num) := (hD.blk.cell _).trans (e1 0 (by omega))
    have c1 : wr.cell? ⟨g, j * 6 + 1, none⟩ = some (.int .i64 x.vessel) := (hD.blk.cell _).trans (e1 1 (by omega))
    have c2 : wr.cell? ⟨g, j * 6 + 2, none⟩ = some (.int .i64 x.after) := (hD.blk.cell _).trans (e1 2 (by omega))
    have c3 : wr.cell? ⟨g, j * 6 + 3, none⟩ = some (.int .i64 x.fountain) := (hD.blk.cell _).trans (e1 3 (by omega))
    have c4 : wr.cell? ⟨g, j * 6 + 4, none⟩ = some (.int .i64 x.lo) := (hD.blk.cell _).trans (e1 4 (by omega))
    have c5 : wr.cell? ⟨g, j * 6 + 5, none⟩ = some (.int .i64 x.hi) := (hD.blk.cell _).trans (e1 5 (by omega))
    have HX := Lib.hid hxj
    have HD := Lib.hid hD
    have hgs := hg.size
    have HG := Lib.hid hg
    clear hxj hD hg e1
    go_wp2_with fail
    have hgl := HD.out.blk.lt
    have hKg : ∀ k, some g = some k → K ≤ k := fun k hk => by cases hk; omega
    refine (HF.out.calls x _ (((below_of_grown HG.out hKg (by omega)).alloc (by omega) _))).mono ?_
    rintro e w2 ⟨rfl, hb2⟩
    have X2 := (Blk.new wr 65 #[.int .i64 x.num, .int .i64 x.vessel, .int .i64 x.after, .int .i64 x.fountain, .int .i64 x.lo, .int .i64 x.hi]).below hb2 (by simp)
    have G2 := (HD.out.blk.alloc (.cells #[.int .i64 x.num, .int .i64 x.vessel, .int .i64 x.after, .int .i64 x.fountain, .int .i64 x.lo, .int .i64 x.hi] 65)).below hb2 (by simp; omega)
    have hG2 := Lib.hid (grown_below (grown_alloc HG.out _) hb2)
    have hsz2 := hb2.size
    rw [World.size_alloc] at hsz2
    have D2 := Lib.hid (HD.out.later G2)
    clear HG HD c0 c1 c2 c3 c4 c5 hb2
    cases hp : p x with
    | true =>
     have HP := Lib.hid hp
     clear hp X2 G2
     go_wp2_with fail
     go_roundw
     case rel => exact ⟨i, j + 1, cur1, rfl, by go_num, by omega, by omega, D2.out.skip HX.out HP.out, hG2.out⟩
     case measure => simp [intOf]; omega
    | false =>
     have HP := Lib.hid hp
     have hsz := D2.out.size
     have x0 : w2.cell? ⟨wr.heap.size, 0, none⟩ = some (.int .i64 x.num) := X2.cell 0
     have x1 : w2.cell? ⟨wr.heap.size, 1, none⟩ = some (.int .i64 x.vessel) := X2.cell 1
     have x2 : w2.cell? ⟨wr.heap.size, 2, none⟩ = some (.int .i64 x.after) := X2.cell 2
     have x3 : w2.cell? ⟨wr.heap.size, 3, none⟩ = some (.int .i64 x.fountain) := X2.cell 3
     have x4 : w2.cell? ⟨wr.heap.size, 4, none⟩ = some (.int .i64 x.lo) := X2.cell 4
     have x5 : w2.cell? ⟨wr.heap.size, 5, none⟩ = some (.int .i64 x.hi) := X2.cell 5
     have f0 : w2.frozen? ⟨g, i * 6, none⟩ = false := G2.frozen _
     have f1 : w2.frozen? ⟨g, i * 6 + 1, none⟩ = false := G2.frozen _
     have f2 : w2.frozen? ⟨g, i * 6 + 2, none⟩ = false := G2.frozen _
     have f3 : w2.frozen? ⟨g, i * 6 + 3, none⟩ = false := G2.frozen _
     have f4 : w2.frozen? ⟨g, i * 6 + 4, none⟩ = false := G2.frozen _
     have f5 : w2.frozen? ⟨g, i * 6 + 5, none⟩ = false := G2.frozen _
     obtain ⟨u0, g0⟩ : ∃ u, w2.cell? ⟨g, i * 6, none⟩ = some u := ⟨_, by rw [G2.cell]; exact Array.getElem?_eq_getElem (by omega)⟩
     obtain ⟨u1, g1⟩ : ∃ u, w2.cell? ⟨g, i * 6 + 1, none⟩ = some u := ⟨_, by rw [G2.cell]; exact Array.getElem?_eq_getElem (by omega)⟩
     obtain ⟨u2, g2⟩ : ∃ u, w2.cell? ⟨g, i * 6 + 2, none⟩ = some u := ⟨_, by rw [G2.cell]; exact Array.getElem?_eq_getElem (by omega)⟩
     obtain ⟨u3, g3⟩ : ∃ u, w2.cell? ⟨g, i * 6 + 3, none⟩ = some u := ⟨_, by rw [G2.cell]; exact Array.getElem?_eq_getElem (by omega)⟩
     obtain ⟨u4, g4⟩ : ∃ u, w2.cell? ⟨g, i * 6 + 4, none⟩ = some u := ⟨_, by rw [G2.cell]; exact Array.getElem?_eq_getElem (by omega)⟩
     obtain ⟨u5, g5⟩ : ∃ u, w2.cell? ⟨g, i * 6 + 5, none⟩ = some u := ⟨_, by rw [G2.cell]; exact Array.getElem?_eq_getElem (by omega)⟩
     have HGB := Lib.hid G2
     clear hp X2 hsz G2
     go_wp2_with fail
     go_roundw
     case rel =>
      exact ⟨i + 1, j + 1, wrt cur1 (i * 6) x.vals, by go_num, by go_num, by omega, by omega, D2.out.keep HX.out HP.out (by omega) (by have := HN.out; omega) (Blk.setCells x.vals (i * 6) HGB.out), grown_setCells x.vals (i * 6) hG2.out (.inl rfl)⟩
     case measure => simp [intOf]; omega
   ·obtain rfl : j = n := by omega
    have hfin : ((l.take j).filter fun x => !p x) = l.filter fun x => !p x := by rw [List.take_of_length_le (by have := HN.out; omega)]
    have hsz := hD.size
    obtain ⟨vs, hvs, hclr⟩ := run_clear_row (P := Try.prog) (w := wr) (g := g) (t := 24) (ty := 0) hD.blk Try.underlying24 zero_tast (by intro u hu; simp [Value.cells] at hu; subst hu; rfl) (i * 6) (j - i) (c - i) (by simp [Value.cells]; omega)
    have hnum := hD.num
    rw [hfin] at hnum
    have HFin := Lib.hid hfin
    have HNum := Lib.hid hnum
    have HVs := Lib.hid hvs
    have HD := Lib.hid hD
    have HG := Lib.hid hg
    have HSz := Lib.hid hsz
    clear hfin hnum hvs hD hg hsz
    go_wp2_with fail
    go_ret
    have hv6 : vs.length = (j - i) * 6 := HVs.out
    refine ⟨?_, Own.mk_ hbg (Blk.setCells vs (i * 6) HD.out.blk) (by rw [HNum.out]; omega) hcap.2 (by rw [wrt_size]; exact HSz.out) (by rw [flat_len' vals6]) ?_, grown_setCells vs (i * 6) HG.out (.inl rfl)⟩
    ·rw [HNum.out]; rfl
    ·intro k hk
     rw [HNum.out] at hk
     rw [wrt_out _ _ _ _ (.inl hk)]
     have hk' := HD.out.kept
     rw [HFin.out] at hk'
     exact flat_of_els (by omega) vals6 hk' k (by rw [HNum.out]; exact hk)
end Go.Proofs.Ythofngceiecniaa
/- slices.Index and slices.Contains at ints. -/
namespace Go.Proofs.Ythofngceiecniaa
open Go.RowKit

set_option maxHeartbeats 1000000 in
theorem index_int (A : Option Addr) (n c : Nat) (l : List Int) (x : Int) (w : World) (hr : IntsAt w w.heap.size A n l) (hn : n ≤ maxLen) :
  Calls Try.prog 103 #[.slice A n c, .int .i64 x] w fun e w' => e = .returned (.int .i64 (idx (fun y => x == y) l)) ∧ Below w.heap.size w w' := by
 unfold maxLen at hn
 go_enter Try.func103, Try.ntmps103
 go_wp2_with fail
 go_loopw [8, 5] (fun i j wr => ∃ k : Nat, k ≤ n ∧ i = .int .i64 k ∧ (∀ y ∈ l.take k, (x == y) = false) ∧ Below w.heap.size w wr)
  (fun i _ _ => n - (intOf i).toNat)
 case atStart => exact ⟨0, by omega, rfl, by simp, Below.refl _ _⟩
 case round =>
  obtain ⟨k, hk, rfl, hno, hb⟩ := hrel
  have HN := Lib.hid hno
  clear hno
  by_cases hlt : k < n
  ·obtain ⟨b, off, y, rfl, hbB, hx, hc⟩ := (hr.below hb).cell hlt
   have HX := Lib.hid hx
   clear hx
   by_cases he : x = y
   ·subst he
    go_wp2_with fail
    go_ret
    exact ⟨ret_int (idx_some HX.out (by simp) HN.out).symm, hb⟩
   ·have he' : (x == y) = false := by simpa using he
    go_wp2_with fail
    go_roundw
    case rel => exact ⟨k + 1, by omega, by go_num, take_snoc_all HX.out (by simpa using he) HN.out, hb⟩
    case measure => simp [intOf]; omega
  ·go_wp2_with fail
   go_ret
   exact ⟨ret_int (idx_none (by
    have := HN.out
    rwa [List.take_of_length_le (by have := hr.len; omega)] at this)).symm, hb⟩
end Go.Proofs.Ythofngceiecniaa
/- slices.Contains at ints. -/
namespace Go.Proofs.Ythofngceiecniaa
open Go.RowKit

theorem idx_contains (x : Int) (l : List Int) : decide (0 ≤ idx (fun y => x == y) l) = l.contains x := by
 rw [idx_ge, Bool.eq_iff_iff]
 simp [List.any_eq_true]

/-- A word that simp does not open. -/
def memI (l : List Int) (x : Int) : Bool := l.contains x
theorem contains_int (A : Option Addr) (n c : Nat) (l : List Int) (x : Int) (w : World) (hr : IntsAt w w.heap.size A n l) (hn : n ≤ maxLen) :
  Calls Try.prog 74 #[.slice A n c, .int .i64 x] w fun e w' => e = .returned (.bool (memI l x)) ∧ Below w.heap.size w w' := by
 have H := Lib.hid (index_int A n c l x w hr hn)
 have HD := idx_bd (fun y => x == y) l
 go_enter Try.func74, Try.ntmps74
 go_wp2_with fail
 refine H.out.mono ?_
 rintro e w' ⟨rfl, hb⟩
 go_wp2_with fail
 go_ret
 exact ⟨ret_bool (idx_contains x l), hb⟩
end Go.Proofs.Ythofngceiecniaa
/- mix.without. -/
namespace Go.Proofs.Ythofngceiecniaa
open Go.RowKit

theorem enters_without1 (args : Array Value) (W : World) : (callFunc 110 args).run Try.prog W = .ok (.enter 110 args) W := by
 simp [go_sem]
set_option maxRecDepth 100000 in
theorem without1_any (An : Option Addr) (nn cn : Nat) (ns : List Int) (x : Tast) (g : Nat) (w : World) (hc : w.cell? ⟨g, 0, none⟩ = some (.slice An nn cn)) (hg : g < w.heap.size) (hn : IntsAt w w.heap.size An nn ns) (hnn : nn ≤ 1000) :
  Calls Try.prog 110 (#[.agg #[.int .i64 x.num, .int .i64 x.vessel, .int .i64 x.after, .int .i64 x.fountain, .int .i64 x.lo, .int .i64 x.hi]] ++ #[.pointer (some ⟨g, 0, none⟩)]) w fun e w' => e = .returned (.bool (memI ns x.num)) ∧ Below w.heap.size w w' := by
 have HN := Lib.hid hn
 clear hn
 go_enter Try.func110, Try.ntmps110
 go_wp2_with fail
 have HB := Lib.hid ((Below.refl w.heap.size w).alloc (Nat.le_refl _) (.cells #[.int .i64 x.num, .int .i64 x.vessel, .int .i64 x.after, .int .i64 x.fountain, .int .i64 x.lo, .int .i64 x.hi] 65))
 refine (contains_int An nn cn ns x.num _ ((HN.out.below HB.out).more HB.out.size) (by unfold maxLen; omega)).mono ?_
 rintro e w' ⟨rfl, hb⟩
 have HB2 := Lib.hid (HB.out.trans (hb.mono HB.out.size))
 clear hb
 go_wp2_with fail
 go_ret
 exact ⟨rfl, HB2.out⟩
def WithoutOut (w : World) (nv na nt : Nat) (m : Mix) (ns : List Int) (e : Ending) (w' : World) : Prop :=
 ∃ A1 c1 A2 c2 A3 n3 c3, e = .returned (.agg #[.int .i64 m.fountains, .slice A1 nv c1, .slice A2 na c2, .slice A3 n3 c3]) ∧ MixOwn w' w.heap.size A1 nv c1 A2 na c2 A3 n3 c3 (withT m (lessT m.tastes ns)) ∧ n3 ≤ m.tastes.length ∧ Below w.heap.size w w'

set_option maxRecDepth 100000 in
set_option maxHeartbeats 16000000 in
theorem without_in (Av : Option Addr) (nv cv : Nat) (Aa : Option Addr) (na ca : Nat) (At : Option Addr) (nt ct : Nat) (m : Mix) (An : Option Addr) (nn cn : Nat) (ns : List Int) (w : World) (h : MixS w Av nv Aa na At nt m) (hn : IntsAt w w.heap.size An nn ns) (hnn : nn ≤ 1000) :
  CallsIn Fence.wide 9 Try.prog 80 #[.agg #[.int .i64 m.fountains, .slice Av nv cv, .slice Aa na ca, .slice At nt ct], .slice An nn cn] w (WithoutOut w nv na nt m ns) := by
 have HM := Lib.hid h
 have HLV := Lib.hid h.at_.lenV
 have HLA := Lib.hid h.at_.lenA
 have HLT := Lib.hid h.at_.lenT
 have hnv := h.hv
 have hna := h.ha
 have hnt := h.ht
 clear h
 refine callsIn_of_wp Try.func80 rfl trivial ?_ rfl
 simp only [Try.ntmps80, List.size_toArray, List.length_cons, List.length_nil, Nat.reduceAdd, Nat.reduceSub, Array.replicate_succ, Array.replicate_zero, List.push_toArray, List.append_toArray, List.nil_append, List.cons_append]
 gi_upto_region 1 with fail
 have HLay := Lib.hid (Lay.three w 26 #[.int .i64 m.fountains, .slice Av nv cv, .slice Aa na ca, .slice At nt ct] 57 #[.slice An nn cn] 26 #[.int .i64 0, .slice none 0 0, .slice none 0 0, .slice none 0 0])
 generalize (((w.alloc (.cells #[.int .i64 m.fountains, .slice Av nv cv, .slice Aa na ca, .slice At nt ct] 26)).alloc (.cells #[.slice An nn cn] 57)).alloc (.cells #[.int .i64 0, .slice none 0 0, .slice none 0 0, .slice none 0 0] 26)) = w0 at *
 have HN := Lib.hid hn
 clear hn
 have x0_0 := (HLay.out.blk 0 rfl).cell 0
 have x0_1 := (HLay.out.blk 0 rfl).cell 1
 have x0_2 := (HLay.out.blk 0 rfl).cell 2
 have x0_3 := (HLay.out.blk 0 rfl).cell 3
 have l0_ := HLay.out.lt 0 rfl
 gi_wp2
 clear x0_0 x0_1 x0_2 x0_3 l0_
 have HBL : Hid (w.heap.size < w0.heap.size) := Lib.hid (HLay.out.lt 0 rfl)
 have HBS := Lib.hid (HLay.out.1.size)
 have HBL1 := Lib.hid (HLay.out.lt 1 rfl)
 have HBL2 := Lib.hid (HLay.out.lt 2 rfl)
 refine ⟨trivial, (callsIn_wide.2 (callsIn_wide.1 (copied_in Av nv cv Aa na ca At nt ct m w0 (HM.out.up HLay.out.1)))).mono ?_⟩
 rintro e W1 ⟨A1, c1, A2, c2, A3, c3, rfl, hmo, hb⟩
 have HCB := Lib.hid hb.size
 replace HLay := Lib.hid (HLay.out.below hb)
 clear hb
 have HMO := Lib.hid hmo
 clear hmo
 have x0_0 := (HLay.out.blk 0 rfl).cell 0
 have z0_0 := (HLay.out.blk 0 rfl).frozen 0
 have x0_1 := (HLay.out.blk 0 rfl).cell 1
 have z0_1 := (HLay.out.blk 0 rfl).frozen 1
 have x0_2 := (HLay.out.blk 0 rfl).cell 2
 have z0_2 := (HLay.out.blk 0 rfl).frozen 2
 have x0_3 := (HLay.out.blk 0 rfl).cell 3
 have z0_3 := (HLay.out.blk 0 rfl).frozen 3
 have l0_ := HLay.out.lt 0 rfl
 gi_upto_region 2 with fail
 have R4 := ret4' (HLay.out.blk 0 rfl) (Below.refl w.heap.size W1) (Nat.le_refl _) (.int .i64 m.fountains) (.slice A1 nv c1) (.slice A2 na c2) (.slice A3 nt c3)
 have hl := lay_head HLay.out (fun b hb => by simp only [List.mem_cons, List.not_mem_nil, or_false] at hb; rcases hb with rfl | rfl <;> simp <;> omega) R4.2.2 R4.1
 have HMO2 := Lib.hid (HMO.out.off R4.2.2 HBL.out)
 have HSZ := Lib.hid (Nat.le_trans HCB.out R4.2.2.size)
 clear x0_0 z0_0 x0_1 z0_1 x0_2 z0_2 x0_3 z0_3 l0_
 generalize ((((W1.setCell ⟨w.heap.size, 0, none⟩ (.int .i64 m.fountains)).setCell ⟨w.heap.size, 1, none⟩ (.slice A1 nv c1)).setCell ⟨w.heap.size, 2, none⟩ (.slice A2 na c2)).setCell ⟨w.heap.size, 3, none⟩ (.slice A3 nt c3)) = V2 at *
 replace HLay := Lib.hid hl
 replace HMO := HMO2
 clear R4 HMO2 hl
 have x0_0 := (HLay.out.blk 0 rfl).cell 0
 have x0_1 := (HLay.out.blk 0 rfl).cell 1
 have x0_2 := (HLay.out.blk 0 rfl).cell 2
 have x0_3 := (HLay.out.blk 0 rfl).cell 3
 have l0_ := HLay.out.lt 0 rfl
 have z0_3 := (HLay.out.blk 0 rfl).frozen 3
 have hmf : ∀ (fn : Fn) (first cap : Array Value) (w : World), (Instr.makeFunc fn first cap).run Try.prog w = .ok (.func fn first cap) w := fun _ _ _ _ => rfl
 gi_wp2
 clear x0_0 x0_1 x0_2 x0_3 l0_
 clear z0_3 hmf
 have HP : Hid (PredT V2 w0.heap.size 110 #[.pointer (some ⟨w.heap.size + 1, 0, none⟩)] (fun x => memI ns x.num)) := Lib.hid ⟨enters_without1, fun x W hW => by
  have hl := (HLay.out.blk 1 rfl).below hW HBL1.out
  have hN := (HN.out.below HLay.out.1).below (hW.mono HBS.out)
  refine without1_any An nn cn ns x (w.heap.size + 1) W (hl.cell 0) hl.lt (hN.more ?_) hnn
  have h1 := HBS.out
  have h2 := HSZ.out
  have h3 := hl.lt
  omega⟩
 refine ⟨trivial, (callsIn_wide.2 (deleteFunc_tast w0.heap.size w0.heap.size 110 #[.pointer (some ⟨w.heap.size + 1, 0, none⟩)] (fun x => memI ns x.num) A3 nt c3 m.tastes V2 HMO.out.t (Nat.le_refl _) HSZ.out HP.out)).mono ?_⟩
 rintro e V3 ⟨rfl, hown, hg⟩
 have hrow := own_row HMO.out.t
 have HLA2 := Lib.hid (HLay.out.row hg (fun r e => ⟨by have := (hrow r e).1; have := HBS.out; omega, fun b hb => by have := (hrow r e).1; have := HBL1.out; have := HBL2.out; have := HBL.out; simp only [List.mem_cons, List.not_mem_nil, or_false] at hb; rcases hb with rfl | rfl | rfl <;> dsimp only <;> omega⟩))
 have HMO2 := Lib.hid (HMO.out.tasts hg hown (.inl rfl))
 replace HLay := HLA2
 clear hown hg hrow HLA2 HP
 have x0_0 := (HLay.out.blk 0 rfl).cell 0
 have z0_0 := (HLay.out.blk 0 rfl).frozen 0
 have x0_1 := (HLay.out.blk 0 rfl).cell 1
 have z0_1 := (HLay.out.blk 0 rfl).frozen 1
 have x0_2 := (HLay.out.blk 0 rfl).cell 2
 have z0_2 := (HLay.out.blk 0 rfl).frozen 2
 have x0_3 := (HLay.out.blk 0 rfl).cell 3
 have z0_3 := (HLay.out.blk 0 rfl).frozen 3
 have l0_ := HLay.out.lt 0 rfl
 gi_upto_region 3 with fail
 have hgs := grown_setCell (row := some w.heap.size) (grown_refl V3 _) (p := ⟨w.heap.size, 3, none⟩) (.inl rfl) (.slice A3 (m.tastes.filter fun x => !memI ns x.num).length c3)
 have hl := lay_head HLay.out (fun b hb => by simp only [List.mem_cons, List.not_mem_nil, or_false] at hb; rcases hb with rfl | rfl <;> simp <;> omega) hgs ((HLay.out.blk 0 rfl).set_ 3 (.slice A3 (m.tastes.filter fun x => !memI ns x.num).length c3))
 have HMO3 := Lib.hid (HMO2.out.off hgs HBL.out)
 clear x0_0 z0_0 x0_1 z0_1 x0_2 z0_2 x0_3 z0_3 l0_
 generalize V3.setCell ⟨w.heap.size, 3, none⟩ (.slice A3 (m.tastes.filter fun x => !memI ns x.num).length c3) = V4 at *
 replace HLay := Lib.hid (show Lay w V4 [(w.heap.size, 26, #[.int .i64 m.fountains, .slice A1 nv c1, .slice A2 na c2, .slice A3 (m.tastes.filter fun x => !memI ns x.num).length c3]), (w.heap.size + 1, 57, #[.slice An nn cn]), (w.heap.size + 1 + 1, 26, #[.int .i64 0, .slice none 0 0, .slice none 0 0, .slice none 0 0])] from hl)
 replace HMO := HMO3
 clear hgs hl HMO2 HMO3
 have x0_0 := (HLay.out.blk 0 rfl).cell 0
 have x0_1 := (HLay.out.blk 0 rfl).cell 1
 have x0_2 := (HLay.out.blk 0 rfl).cell 2
 have x0_3 := (HLay.out.blk 0 rfl).cell 3
 have l0_ := HLay.out.lt 0 rfl
 have r0 := (HLay.out.blk 2 rfl).cell 0
 have rz0 := (HLay.out.blk 2 rfl).frozen 0
 have r1 := (HLay.out.blk 2 rfl).cell 1
 have rz1 := (HLay.out.blk 2 rfl).frozen 1
 have r2 := (HLay.out.blk 2 rfl).cell 2
 have rz2 := (HLay.out.blk 2 rfl).frozen 2
 have r3 := (HLay.out.blk 2 rfl).cell 3
 have rz3 := (HLay.out.blk 2 rfl).frozen 3
 have rl := HLay.out.lt 2 rfl
 gi_wp2
 have R4 := ret4' (HLay.out.blk 2 rfl) HLay.out.1 (HLay.out.ge 2 rfl) (.int .i64 m.fountains) (.slice A1 nv c1) (.slice A2 na c2) (.slice A3 (m.tastes.filter fun x => !memI ns x.num).length c3)
 have v0 := R4.1.cell 0
 have v1 := R4.1.cell 1
 have v2 := R4.1.cell 2
 have v3 := R4.1.cell 3
 refine bodyPost_ret (v := .agg #[.int .i64 m.fountains, .slice A1 nv c1, .slice A2 na c2, .slice A3 (m.tastes.filter fun x => !memI ns x.num).length c3]) (by simp [results, Try.results80, go_sem, v0, v1, v2, v3]) rfl ?_
 exact ⟨_, _, _, _, _, _, _, rfl, (HMO.out.off R4.2.2 HBL2.out).mono HBS.out, List.length_filter_le _ _, R4.2.1⟩

end Go.Proofs.Ythofngceiecniaa
/- mix.Strike. -/
namespace Go.Proofs.Ythofngceiecniaa
open Go.RowKit

set_option maxRecDepth 100000 in
set_option maxHeartbeats 16000000 in
theorem strike_in (Av : Option Addr) (nv cv : Nat) (Aa : Option Addr) (na ca : Nat) (At : Option Addr) (nt ct : Nat) (m : Mix) (An : Option Addr) (nn cn : Nat) (ns : List Int) (w : World) (h : MixS w Av nv Aa na At nt m) (hn : IntsAt w w.heap.size An nn ns) (hnn : nn ≤ 1000) :
  CallsIn Fence.wide 9 Try.prog 33 #[.agg #[.int .i64 m.fountains, .slice Av nv cv, .slice Aa na ca, .slice At nt ct], .slice An nn cn] w (ChgOut w (strikeS m ns)) := by
 have HM := Lib.hid h
 have HLV := Lib.hid h.at_.lenV
 have HLA := Lib.hid h.at_.lenA
 have HLT := Lib.hid h.at_.lenT
 have hnv := h.hv
 have hna := h.ha
 have hnt := h.ht
 clear h
 refine callsIn_of_wp Try.func33 rfl trivial ?_ rfl
 simp only [Try.ntmps33, List.size_toArray, List.length_cons, List.length_nil, Nat.reduceAdd, Nat.reduceSub, Array.replicate_succ, Array.replicate_zero, List.push_toArray, List.append_toArray, List.nil_append, List.cons_append]
 gi_upto_region 1 with fail
 have HLay := Lib.hid (Lay.two w 26 #[.int .i64 m.fountains, .slice Av nv cv, .slice Aa na ca, .slice At nt ct] 26 #[.int .i64 0, .slice none 0 0, .slice none 0 0, .slice none 0 0])
 generalize ((w.alloc (.cells #[.int .i64 m.fountains, .slice Av nv cv, .slice Aa na ca, .slice At nt ct] 26)).alloc (.cells #[.int .i64 0, .slice none 0 0, .slice none 0 0, .slice none 0 0] 26)) = w0 at *
 have HN := Lib.hid hn
 have HNL := Lib.hid hn.len
 clear hn
 have x0_0 := (HLay.out.blk 0 rfl).cell 0
 have x0_1 := (HLay.out.blk 0 rfl).cell 1
 have x0_2 := (HLay.out.blk 0 rfl).cell 2
 have x0_3 := (HLay.out.blk 0 rfl).cell 3
 have l0_ := HLay.out.lt 0 rfl
 gi_wp2
 clear x0_0 x0_1 x0_2 x0_3 l0_
 refine ⟨trivial, (callsIn_wide.2 (check_any Av nv cv Aa na ca At nt ct m w0 (HM.out.up HLay.out.1))).mono ?_⟩
 rintro e W1 ⟨rfl, hb⟩
 have HBC := Lib.hid hb
 replace HLay := Lib.hid (HLay.out.below hb)
 clear hb
 cases hk : okMix m with
 | false =>
  have HF : Hid (strikeS m ns = (zeroMix, 40)) := Lib.hid (by unfold strikeS; rw [hk]; rfl)
  rw [show checkE m = 40 from by unfold checkE; rw [hk]; rfl]
  clear hk
  have x1_0 := (HLay.out.blk 1 rfl).cell 0
  have z1_0 := (HLay.out.blk 1 rfl).frozen 0
  have x1_1 := (HLay.out.blk 1 rfl).cell 1
  have z1_1 := (HLay.out.blk 1 rfl).frozen 1
  have x1_2 := (HLay.out.blk 1 rfl).cell 2
  have z1_2 := (HLay.out.blk 1 rfl).frozen 2
  have x1_3 := (HLay.out.blk 1 rfl).cell 3
  have z1_3 := (HLay.out.blk 1 rfl).frozen 3
  have l1_ := HLay.out.lt 1 rfl
  gi_wp2
  have R4 := ret4' (HLay.out.blk 1 rfl) HLay.out.1 (HLay.out.ge 1 rfl) (.int .i64 0) (.slice none 0 0) (.slice none 0 0) (.slice none 0 0)
  have v0 := R4.1.cell 0
  have v1 := R4.1.cell 1
  have v2 := R4.1.cell 2
  have v3 := R4.1.cell 3
  refine bodyPost_ret (v := .tuple #[.agg #[.int .i64 0, .slice none 0 0, .slice none 0 0, .slice none 0 0], .int .i64 40]) (by simp [results, Try.results33, go_sem, v0, v1, v2, v3]) rfl ?_
  rw [HF.out]
  exact ⟨none, 0, 0, none, 0, 0, none, 0, 0, rfl, MixOwn.nothing _ _, ⟨by omega, by omega, by omega⟩, R4.2.1⟩
 | true =>
  have HK := Lib.hid hk
  rw [show checkE m = 0 from by unfold checkE; rw [hk]; rfl]
  clear hk
  have HBS := Lib.hid (HLay.out.1.size)
  have HBL1 := Lib.hid (HLay.out.lt 1 rfl)
  have x0_0 := (HLay.out.blk 0 rfl).cell 0
  have x0_1 := (HLay.out.blk 0 rfl).cell 1
  have x0_2 := (HLay.out.blk 0 rfl).cell 2
  have x0_3 := (HLay.out.blk 0 rfl).cell 3
  have l0_ := HLay.out.lt 0 rfl
  gi_wp2
  clear x0_0 x0_1 x0_2 x0_3 l0_
  refine ⟨trivial, (callsIn_wide.2 (callsIn_wide.1 (without_in Av nv cv Aa na ca At nt ct m An nn cn ns W1 (HM.out.up HLay.out.1) ((HN.out.below HLay.out.1).more HLay.out.1.size) hnn))).mono ?_⟩
  rintro e W2 ⟨A1, c1, A2, c2, A3, n3, c3, rfl, hmo, hn3, hb⟩
  replace HLay := Lib.hid (HLay.out.below hb)
  clear hb
  have HMO := Lib.hid hmo
  have HN3 := Lib.hid (recs_n tast_k (by omega) (hmo.t.reads (Nat.le_refl _)))
  clear hmo
  gi_upto_region 5 with fail
  obtain ⟨V3, hV⟩ : ∃ V, (W2.alloc (.cells #[.int .i64 m.fountains, .slice A1 nv c1, .slice A2 na c2, .slice A3 n3 c3] 26)) = V := ⟨_, rfl⟩
  rw [hV]
  have hb := fbox_bel hV
  have hnew := fbox_blk hV
  have hge := HLay.out.bel.size
  replace HLay := Lib.hid (HLay.out.below hb)
  replace HMO := Lib.hid (HMO.out.below hb)
  replace HLay := Lib.hid (HLay.out.add hge hnew)
  clear hnew hge hb hV
  obtain ⟨G4, hG⟩ : ∃ g, W2.heap.size = g := ⟨_, rfl⟩
  rw [hG] at HLay ⊢
  clear hG
  gi_wp2
  refine ⟨trivial, (callsIn_wide.2 (rising_any An nn cn ns V3 ((HN.out.below HLay.out.1).more HLay.out.1.size) hnn)).mono ?_⟩
  rintro e W5 ⟨rfl, hb⟩
  replace HMO := Lib.hid (HMO.out.below hb)
  replace HLay := Lib.hid (HLay.out.below hb)
  clear hb
  cases hr : risB 0 ns with
  | false =>
   have HF : Hid (strikeS m ns = (zeroMix, 42)) := Lib.hid (by unfold strikeS; rw [if_pos HK.out, hr]; rfl)
   clear hr HMO
   have x1_0 := (HLay.out.blk 1 rfl).cell 0
   have z1_0 := (HLay.out.blk 1 rfl).frozen 0
   have x1_1 := (HLay.out.blk 1 rfl).cell 1
   have z1_1 := (HLay.out.blk 1 rfl).frozen 1
   have x1_2 := (HLay.out.blk 1 rfl).cell 2
   have z1_2 := (HLay.out.blk 1 rfl).frozen 2
   have x1_3 := (HLay.out.blk 1 rfl).cell 3
   have z1_3 := (HLay.out.blk 1 rfl).frozen 3
   have l1_ := HLay.out.lt 1 rfl
   gi_wp2
   have R4 := ret4' (HLay.out.blk 1 rfl) HLay.out.1 (HLay.out.ge 1 rfl) (.int .i64 0) (.slice none 0 0) (.slice none 0 0) (.slice none 0 0)
   have v0 := R4.1.cell 0
   have v1 := R4.1.cell 1
   have v2 := R4.1.cell 2
   have v3 := R4.1.cell 3
   refine bodyPost_ret (v := .tuple #[.agg #[.int .i64 0, .slice none 0 0, .slice none 0 0, .slice none 0 0], .int .i64 42]) (by simp [results, Try.results33, go_sem, v0, v1, v2, v3]) rfl ?_
   rw [HF.out]
   exact ⟨none, 0, 0, none, 0, 0, none, 0, 0, rfl, MixOwn.nothing _ _, ⟨by omega, by omega, by omega⟩, R4.2.1⟩
  | true =>
   have HR := Lib.hid hr
   clear hr
   have hn31 : n3 ≤ 1000 := by have := HLT.out; omega
   by_cases hs : n3 + nn = nt
   ·
    have hsi : (((n3 : Nat) : Int) + ((nn : Nat) : Int) != ((nt : Nat) : Int)) = false := by simp; omega
    have HDE : Hid (decide ((lessT m.tastes ns).length + ns.length = m.tastes.length) = true) := Lib.hid (decide_eq_true (by rw [HLT.out, HNL.out, show (lessT m.tastes ns).length = n3 from HN3.out]; exact hs))
    have HF : Hid (strikeS m ns = (withT m (lessT m.tastes ns), 0)) := Lib.hid (by unfold strikeS; rw [if_pos HK.out, HR.out, HDE.out]; rfl)
    have HS0 := Lib.hid hs
    clear hs
    have x0_0 := (HLay.out.blk 0 rfl).cell 0
    have x0_1 := (HLay.out.blk 0 rfl).cell 1
    have x0_2 := (HLay.out.blk 0 rfl).cell 2
    have x0_3 := (HLay.out.blk 0 rfl).cell 3
    have l0_ := HLay.out.lt 0 rfl
    have r0 := (HLay.out.blk 1 rfl).cell 0
    have rz0 := (HLay.out.blk 1 rfl).frozen 0
    have t0 := (HLay.out.blk 2 rfl).cell 0
    have r1 := (HLay.out.blk 1 rfl).cell 1
    have rz1 := (HLay.out.blk 1 rfl).frozen 1
    have t1 := (HLay.out.blk 2 rfl).cell 1
    have r2 := (HLay.out.blk 1 rfl).cell 2
    have rz2 := (HLay.out.blk 1 rfl).frozen 2
    have t2 := (HLay.out.blk 2 rfl).cell 2
    have r3 := (HLay.out.blk 1 rfl).cell 3
    have rz3 := (HLay.out.blk 1 rfl).frozen 3
    have t3 := (HLay.out.blk 2 rfl).cell 3
    have rl := HLay.out.lt 1 rfl
    have tl := HLay.out.lt 2 rfl
    gi_wp2
    have R4 := ret4' (HLay.out.blk 1 rfl) HLay.out.1 (HLay.out.ge 1 rfl) (.int .i64 m.fountains) (.slice A1 nv c1) (.slice A2 na c2) (.slice A3 n3 c3)
    have v0 := R4.1.cell 0
    have v1 := R4.1.cell 1
    have v2 := R4.1.cell 2
    have v3 := R4.1.cell 3
    refine bodyPost_ret (v := .tuple #[.agg #[.int .i64 m.fountains, .slice A1 nv c1, .slice A2 na c2, .slice A3 n3 c3], .int .i64 0]) (by simp [results, Try.results33, go_sem, v0, v1, v2, v3]) rfl ?_
    rw [HF.out]
    exact ⟨_, _, _, _, _, _, _, _, _, rfl, (HMO.out.off R4.2.2 HBL1.out).mono HBS.out, ⟨by omega, by omega, by omega⟩, R4.2.1⟩
   ·
    have hsi : (((n3 : Nat) : Int) + ((nn : Nat) : Int) != ((nt : Nat) : Int)) = true := by simp; omega
    have HDE : Hid (decide ((lessT m.tastes ns).length + ns.length = m.tastes.length) = false) := Lib.hid (decide_eq_false (by rw [HLT.out, HNL.out, show (lessT m.tastes ns).length = n3 from HN3.out]; exact hs))
    have HF : Hid (strikeS m ns = (zeroMix, 42)) := Lib.hid (by unfold strikeS; rw [if_pos HK.out, HR.out, HDE.out]; rfl)
    have HS0 := Lib.hid hs
    clear hs
    clear HMO
    have x0_0 := (HLay.out.blk 0 rfl).cell 0
    have x0_1 := (HLay.out.blk 0 rfl).cell 1
    have x0_2 := (HLay.out.blk 0 rfl).cell 2
    have x0_3 := (HLay.out.blk 0 rfl).cell 3
    have l0_ := HLay.out.lt 0 rfl
    have x2_0 := (HLay.out.blk 2 rfl).cell 0
    have x2_1 := (HLay.out.blk 2 rfl).cell 1
    have x2_2 := (HLay.out.blk 2 rfl).cell 2
    have x2_3 := (HLay.out.blk 2 rfl).cell 3
    have l2_ := HLay.out.lt 2 rfl
    have x1_0 := (HLay.out.blk 1 rfl).cell 0
    have z1_0 := (HLay.out.blk 1 rfl).frozen 0
    have x1_1 := (HLay.out.blk 1 rfl).cell 1
    have z1_1 := (HLay.out.blk 1 rfl).frozen 1
    have x1_2 := (HLay.out.blk 1 rfl).cell 2
    have z1_2 := (HLay.out.blk 1 rfl).frozen 2
    have x1_3 := (HLay.out.blk 1 rfl).cell 3
    have z1_3 := (HLay.out.blk 1 rfl).frozen 3
    have l1_ := HLay.out.lt 1 rfl
    gi_wp2
    have R4 := ret4' (HLay.out.blk 1 rfl) HLay.out.1 (HLay.out.ge 1 rfl) (.int .i64 0) (.slice none 0 0) (.slice none 0 0) (.slice none 0 0)
    have v0 := R4.1.cell 0
    have v1 := R4.1.cell 1
    have v2 := R4.1.cell 2
    have v3 := R4.1.cell 3
    refine bodyPost_ret (v := .tuple #[.agg #[.int .i64 0, .slice none 0 0, .slice none 0 0, .slice none 0 0], .int .i64 42]) (by simp [results, Try.results33, go_sem, v0, v1, v2, v3]) rfl ?_
    rw [HF.out]
    exact ⟨none, 0, 0, none, 0, 0, none, 0, 0, rfl, MixOwn.nothing _ _, ⟨by omega, by omega, by omega⟩, R4.2.1⟩

end Go.Proofs.Ythofngceiecniaa
/- mix.Do. -/
namespace Go.Proofs.Ythofngceiecniaa
open Go.RowKit

set_option maxRecDepth 100000 in
set_option maxHeartbeats 16000000 in
theorem do_in (Av : Option Addr) (nv cv : Nat) (Aa : Option Addr) (na ca : Nat) (At : Option Addr) (nt ct : Nat) (m : Mix) (x : MAct) (w : World) (h : MixS w Av nv Aa na At nt m) :
  CallsIn Fence.wide 9 Try.prog 35 #[.agg #[.int .i64 m.fountains, .slice Av nv cv, .slice Aa na ca, .slice At nt ct], .agg #[.int .i64 x.kind, .int .i64 x.fr, .int .i64 x.to, .int .i64 x.drops]] w (ChgOut w (doM m x)) := by
 have HM := Lib.hid h
 have HLV := Lib.hid h.at_.lenV
 have HLA := Lib.hid h.at_.lenA
 have HLT := Lib.hid h.at_.lenT
 have hnv := h.hv
 have hna := h.ha
 have hnt := h.ht
 clear h
 refine callsIn_of_wp Try.func35 rfl trivial ?_ rfl
 simp only [Try.ntmps35, List.size_toArray, List.length_cons, List.length_nil, Nat.reduceAdd, Nat.reduceSub, Array.replicate_succ, Array.replicate_zero, List.push_toArray, List.append_toArray, List.nil_append, List.cons_append]
 gi_upto_region 1 with fail
 have HLay := Lib.hid (Lay.three w 26 #[.int .i64 m.fountains, .slice Av nv cv, .slice Aa na ca, .slice At nt ct] 67 #[.int .i64 x.kind, .int .i64 x.fr, .int .i64 x.to, .int .i64 x.drops] 26 #[.int .i64 0, .slice none 0 0, .slice none 0 0, .slice none 0 0])
 generalize (((w.alloc (.cells #[.int .i64 m.fountains, .slice Av nv cv, .slice Aa na ca, .slice At nt ct] 26)).alloc (.cells #[.int .i64 x.kind, .int .i64 x.fr, .int .i64 x.to, .int .i64 x.drops] 67)).alloc (.cells #[.int .i64 0, .slice none 0 0, .slice none 0 0, .slice none 0 0] 26)) = w0 at *
 have x0_0 := (HLay.out.blk 0 rfl).cell 0
 have x0_1 := (HLay.out.blk 0 rfl).cell 1
 have x0_2 := (HLay.out.blk 0 rfl).cell 2
 have x0_3 := (HLay.out.blk 0 rfl).cell 3
 have l0_ := HLay.out.lt 0 rfl
 gi_wp2
 clear x0_0 x0_1 x0_2 x0_3 l0_
 refine ⟨trivial, (callsIn_wide.2 (check_any Av nv cv Aa na ca At nt ct m w0 (HM.out.up HLay.out.1))).mono ?_⟩
 rintro e W1 ⟨rfl, hb⟩
 have HBC := Lib.hid hb
 replace HLay := Lib.hid (HLay.out.below hb)
 clear hb
 cases hk : okMix m with
 | false =>
  have HF : Hid (doM m x = (zeroMix, 40)) := Lib.hid (by unfold doM; rw [hk]; rfl)
  rw [show checkE m = 40 from by unfold checkE; rw [hk]; rfl]
  clear hk
  have x2_0 := (HLay.out.blk 2 rfl).cell 0
  have z2_0 := (HLay.out.blk 2 rfl).frozen 0
  have x2_1 := (HLay.out.blk 2 rfl).cell 1
  have z2_1 := (HLay.out.blk 2 rfl).frozen 1
  have x2_2 := (HLay.out.blk 2 rfl).cell 2
  have z2_2 := (HLay.out.blk 2 rfl).frozen 2
  have x2_3 := (HLay.out.blk 2 rfl).cell 3
  have z2_3 := (HLay.out.blk 2 rfl).frozen 3
  have l2_ := HLay.out.lt 2 rfl
  gi_wp2
  have R4 := ret4' (HLay.out.blk 2 rfl) HLay.out.1 (HLay.out.ge 2 rfl) (.int .i64 0) (.slice none 0 0) (.slice none 0 0) (.slice none 0 0)
  have v0 := R4.1.cell 0
  have v1 := R4.1.cell 1
  have v2 := R4.1.cell 2
  have v3 := R4.1.cell 3
  refine bodyPost_ret (v := .tuple #[.agg #[.int .i64 0, .slice none 0 0, .slice none 0 0, .slice none 0 0], .int .i64 40]) (by simp [results, Try.results35, go_sem, v0, v1, v2, v3]) rfl ?_
  rw [HF.out]
  exact ⟨none, 0, 0, none, 0, 0, none, 0, 0, rfl, MixOwn.nothing _ _, ⟨by omega, by omega, by omega⟩, R4.2.1⟩
 | true =>
  have HK := Lib.hid hk
  have hlim := okMix_vess hk
  have hv4 : nv ≤ 4 := by have := HLV.out; omega
  have ha12 : na ≤ 12 := by have := HLA.out; omega
  have ht8 : nt ≤ 8 := by have := HLT.out; omega
  clear hlim
  rw [show checkE m = 0 from by unfold checkE; rw [hk]; rfl]
  clear hk
  by_cases h12 : na = 12
  ·
   have HF : Hid (doM m x = (zeroMix, 9)) := Lib.hid (by unfold doM; rw [if_pos HK.out, if_pos (by rw [HLA.out]; exact h12)])
   have h12a : ((na : Int) == 12) = true := by simp; omega
   have H12 := Lib.hid h12
   clear h12
   have x0_0 := (HLay.out.blk 0 rfl).cell 0
   have x0_1 := (HLay.out.blk 0 rfl).cell 1
   have x0_2 := (HLay.out.blk 0 rfl).cell 2
   have x0_3 := (HLay.out.blk 0 rfl).cell 3
   have l0_ := HLay.out.lt 0 rfl
   have x2_0 := (HLay.out.blk 2 rfl).cell 0
   have z2_0 := (HLay.out.blk 2 rfl).frozen 0
   have x2_1 := (HLay.out.blk 2 rfl).cell 1
   have z2_1 := (HLay.out.blk 2 rfl).frozen 1
   have x2_2 := (HLay.out.blk 2 rfl).cell 2
   have z2_2 := (HLay.out.blk 2 rfl).frozen 2
   have x2_3 := (HLay.out.blk 2 rfl).cell 3
   have z2_3 := (HLay.out.blk 2 rfl).frozen 3
   have l2_ := HLay.out.lt 2 rfl
   gi_wp2
   have R4 := ret4' (HLay.out.blk 2 rfl) HLay.out.1 (HLay.out.ge 2 rfl) (.int .i64 0) (.slice none 0 0) (.slice none 0 0) (.slice none 0 0)
   have v0 := R4.1.cell 0
   have v1 := R4.1.cell 1
   have v2 := R4.1.cell 2
   have v3 := R4.1.cell 3
   refine bodyPost_ret (v := .tuple #[.agg #[.int .i64 0, .slice none 0 0, .slice none 0 0, .slice none 0 0], .int .i64 9]) (by simp [results, Try.results35, go_sem, v0, v1, v2, v3]) rfl ?_
   rw [HF.out]
   exact ⟨none, 0, 0, none, 0, 0, none, 0, 0, rfl, MixOwn.nothing _ _, ⟨by omega, by omega, by omega⟩, R4.2.1⟩
  ·
   have h12a : ((na : Int) == 12) = false := by simp; omega
   have HF : Hid (doM m x = if okMix (withA m (m.acts ++ [x])) = true then (withA m (m.acts ++ [x]), 0) else (zeroMix, 41)) := Lib.hid (by unfold doM; rw [if_pos HK.out, if_neg (by rw [HLA.out]; exact h12)])
   have H12 := Lib.hid h12
   clear h12
   have x0_0 := (HLay.out.blk 0 rfl).cell 0
   have x0_1 := (HLay.out.blk 0 rfl).cell 1
   have x0_2 := (HLay.out.blk 0 rfl).cell 2
   have x0_3 := (HLay.out.blk 0 rfl).cell 3
   have l0_ := HLay.out.lt 0 rfl
   gi_wp2
   clear x0_0 x0_1 x0_2 x0_3 l0_
   have HBL : Hid (w.heap.size < W1.heap.size) := Lib.hid (HLay.out.lt 0 rfl)
   have HBS := Lib.hid (HLay.out.1.size)
   have HBL1 := Lib.hid (HLay.out.lt 1 rfl)
   have HBL2 := Lib.hid (HLay.out.lt 2 rfl)
   refine ⟨trivial, (callsIn_wide.2 (callsIn_wide.1 (copied_in Av nv cv Aa na ca At nt ct m W1 (HM.out.up HLay.out.1)))).mono ?_⟩
   rintro e W2 ⟨A1, c1, A2, c2, A3, c3, rfl, hmo, hb⟩
   have HCB := Lib.hid hb.size
   replace HLay := Lib.hid (HLay.out.below hb)
   clear hb
   have HMO := Lib.hid hmo
   clear hmo
   have x0_0 := (HLay.out.blk 0 rfl).cell 0
   have z0_0 := (HLay.out.blk 0 rfl).frozen 0
   have x0_1 := (HLay.out.blk 0 rfl).cell 1
   have z0_1 := (HLay.out.blk 0 rfl).frozen 1
   have x0_2 := (HLay.out.blk 0 rfl).cell 2
   have z0_2 := (HLay.out.blk 0 rfl).frozen 2
   have x0_3 := (HLay.out.blk 0 rfl).cell 3
   have z0_3 := (HLay.out.blk 0 rfl).frozen 3
   have l0_ := HLay.out.lt 0 rfl
   gi_upto_region 7 with fail
   have R4 := ret4' (HLay.out.blk 0 rfl) (Below.refl w.heap.size W2) (Nat.le_refl _) (.int .i64 m.fountains) (.slice A1 nv c1) (.slice A2 na c2) (.slice A3 nt c3)
   have hl := lay_head HLay.out (fun b hb => by simp only [List.mem_cons, List.not_mem_nil, or_false] at hb; rcases hb with rfl | rfl <;> simp <;> omega) R4.2.2 R4.1
   have HMO2 := Lib.hid (HMO.out.off R4.2.2 HBL.out)
   have HSZ := Lib.hid (Nat.le_trans HCB.out R4.2.2.size)
   clear x0_0 z0_0 x0_1 z0_1 x0_2 z0_2 x0_3 z0_3 l0_
   generalize ((((W2.setCell ⟨w.heap.size, 0, none⟩ (.int .i64 m.fountains)).setCell ⟨w.heap.size, 1, none⟩ (.slice A1 nv c1)).setCell ⟨w.heap.size, 2, none⟩ (.slice A2 na c2)).setCell ⟨w.heap.size, 3, none⟩ (.slice A3 nt c3)) = V3 at *
   replace HLay := Lib.hid hl
   replace HMO := HMO2
   clear R4 HMO2 hl
   have x0_0 := (HLay.out.blk 0 rfl).cell 0
   have z0_0 := (HLay.out.blk 0 rfl).frozen 0
   have x0_1 := (HLay.out.blk 0 rfl).cell 1
   have z0_1 := (HLay.out.blk 0 rfl).frozen 1
   have x0_2 := (HLay.out.blk 0 rfl).cell 2
   have z0_2 := (HLay.out.blk 0 rfl).frozen 2
   have x0_3 := (HLay.out.blk 0 rfl).cell 3
   have z0_3 := (HLay.out.blk 0 rfl).frozen 3
   have l0_ := HLay.out.lt 0 rfl
   have a0 := (HLay.out.blk 1 rfl).cell 0
   have a1 := (HLay.out.blk 1 rfl).cell 1
   have a2 := (HLay.out.blk 1 rfl).cell 2
   have a3 := (HLay.out.blk 1 rfl).cell 3
   have al := HLay.out.lt 1 rfl
   gi_wp2_with (first | (gi_at_builtin; refine wpListIn_append_any rfl (.tmp 21) (.tmp 23) (by rfl) elem_act rfl (HMO.out.a.alloc (.cells #[.int .i64 x.kind, .int .i64 x.fr, .int .i64 x.to, .int .i64 x.drops] 67)) rfl (reads_new V3 67 x.vals rfl) (act_one1 x) (by unfold maxLen; omega) (by omega) (by have := HSZ.out; simp; omega) ?_) | fail)
   clear x0_0 z0_0 x0_1 z0_1 x0_2 z0_2 x0_3 z0_3 l0_
   clear a0 a1 a2 a3 al
   rintro A9 c9 V4 hown hg hA
   have hrow := own_row HMO.out.a
   have HLA2 := Lib.hid ((HLay.out.below ((Below.refl _ _).alloc (Nat.le_refl _) (.cells #[.int .i64 x.kind, .int .i64 x.fr, .int .i64 x.to, .int .i64 x.drops] 67))).row hg (fun r e => ⟨by have := (hrow r e).1; have := HBS.out; omega, fun b hb => by have := (hrow r e).1; have := HBL1.out; have := HBL2.out; have := HBL.out; simp only [List.mem_cons, List.not_mem_nil, or_false] at hb; rcases hb with rfl | rfl | rfl <;> dsimp only <;> omega⟩))
   have HMO2 := Lib.hid ((HMO.out.below ((Below.refl _ _).alloc (Nat.le_refl _) (.cells #[.int .i64 x.kind, .int .i64 x.fr, .int .i64 x.to, .int .i64 x.drops] 67))).acts hg hown (by rw [World.size_alloc]; exact hA))
   replace HLay := HLA2
   clear hown hg hA hrow HLA2
   have x0_0 := (HLay.out.blk 0 rfl).cell 0
   have z0_0 := (HLay.out.blk 0 rfl).frozen 0
   have x0_1 := (HLay.out.blk 0 rfl).cell 1
   have z0_1 := (HLay.out.blk 0 rfl).frozen 1
   have x0_2 := (HLay.out.blk 0 rfl).cell 2
   have z0_2 := (HLay.out.blk 0 rfl).frozen 2
   have x0_3 := (HLay.out.blk 0 rfl).cell 3
   have z0_3 := (HLay.out.blk 0 rfl).frozen 3
   have l0_ := HLay.out.lt 0 rfl
   gi_upto_region 8 with fail
   have hgs := grown_setCell (row := some w.heap.size) (grown_refl V4 _) (p := ⟨w.heap.size, 2, none⟩) (.inl rfl) (.slice A9 (na + 1) c9)
   have hl := lay_head HLay.out (fun b hb => by simp only [List.mem_cons, List.not_mem_nil, or_false] at hb; rcases hb with rfl | rfl <;> simp <;> omega) hgs ((HLay.out.blk 0 rfl).set_ 2 (.slice A9 (na + 1) c9))
   have HMO3 := Lib.hid (HMO2.out.off hgs HBL.out)
   clear x0_0 z0_0 x0_1 z0_1 x0_2 z0_2 x0_3 z0_3 l0_
   generalize V4.setCell ⟨w.heap.size, 2, none⟩ (.slice A9 (na + 1) c9) = V5 at *
   replace HLay := Lib.hid (show Lay w V5 [(w.heap.size, 26, #[.int .i64 m.fountains, .slice A1 nv c1, .slice A9 (na + 1) c9, .slice A3 nt c3]), (w.heap.size + 1, 67, #[.int .i64 x.kind, .int .i64 x.fr, .int .i64 x.to, .int .i64 x.drops]), (w.heap.size + 1 + 1, 26, #[.int .i64 0, .slice none 0 0, .slice none 0 0, .slice none 0 0])] from hl)
   replace HMO := HMO3
   clear hgs hl HMO2 HMO3
   have x0_0 := (HLay.out.blk 0 rfl).cell 0
   have x0_1 := (HLay.out.blk 0 rfl).cell 1
   have x0_2 := (HLay.out.blk 0 rfl).cell 2
   have x0_3 := (HLay.out.blk 0 rfl).cell 3
   have l0_ := HLay.out.lt 0 rfl
   gi_wp2
   clear x0_0 x0_1 x0_2 x0_3 l0_
   refine ⟨trivial, (callsIn_wide.2 (check_any A1 nv c1 A9 (na + 1) c9 A3 nt c3 (withA m (m.acts ++ [x])) V5 (HMO.out.s hnv (by omega) hnt))).mono ?_⟩
   rintro e W6 ⟨rfl, hb⟩
   have HBC := Lib.hid hb
   replace HLay := Lib.hid (HLay.out.below hb)
   clear hb
   cases hk : okMix (withA m (m.acts ++ [x])) with
   | false =>
    rw [show checkE (withA m (m.acts ++ [x])) = 40 from by unfold checkE; rw [hk]; rfl]
    replace HF : Hid (doM m x = (zeroMix, 41)) := Lib.hid (by rw [HF.out, hk]; rfl)
    clear hk HMO
    have x2_0 := (HLay.out.blk 2 rfl).cell 0
    have z2_0 := (HLay.out.blk 2 rfl).frozen 0
    have x2_1 := (HLay.out.blk 2 rfl).cell 1
    have z2_1 := (HLay.out.blk 2 rfl).frozen 1
    have x2_2 := (HLay.out.blk 2 rfl).cell 2
    have z2_2 := (HLay.out.blk 2 rfl).frozen 2
    have x2_3 := (HLay.out.blk 2 rfl).cell 3
    have z2_3 := (HLay.out.blk 2 rfl).frozen 3
    have l2_ := HLay.out.lt 2 rfl
    gi_wp2
    have R4 := ret4' (HLay.out.blk 2 rfl) HLay.out.1 (HLay.out.ge 2 rfl) (.int .i64 0) (.slice none 0 0) (.slice none 0 0) (.slice none 0 0)
    have v0 := R4.1.cell 0
    have v1 := R4.1.cell 1
    have v2 := R4.1.cell 2
    have v3 := R4.1.cell 3
    refine bodyPost_ret (v := .tuple #[.agg #[.int .i64 0, .slice none 0 0, .slice none 0 0, .slice none 0 0], .int .i64 41]) (by simp [results, Try.results35, go_sem, v0, v1, v2, v3]) rfl ?_
    rw [HF.out]
    exact ⟨none, 0, 0, none, 0, 0, none, 0, 0, rfl, MixOwn.nothing _ _, ⟨by omega, by omega, by omega⟩, R4.2.1⟩
   | true =>
    rw [show checkE (withA m (m.acts ++ [x])) = 0 from by unfold checkE; rw [hk]; rfl]
    replace HF : Hid (doM m x = (withA m (m.acts ++ [x]), 0)) := Lib.hid (by rw [HF.out, hk]; rfl)
    replace HMO := Lib.hid (HMO.out.below HBC.out)
    clear hk
    have x0_0 := (HLay.out.blk 0 rfl).cell 0
    have x0_1 := (HLay.out.blk 0 rfl).cell 1
    have x0_2 := (HLay.out.blk 0 rfl).cell 2
    have x0_3 := (HLay.out.blk 0 rfl).cell 3
    have l0_ := HLay.out.lt 0 rfl
    have r0 := (HLay.out.blk 2 rfl).cell 0
    have rz0 := (HLay.out.blk 2 rfl).frozen 0
    have r1 := (HLay.out.blk 2 rfl).cell 1
    have rz1 := (HLay.out.blk 2 rfl).frozen 1
    have r2 := (HLay.out.blk 2 rfl).cell 2
    have rz2 := (HLay.out.blk 2 rfl).frozen 2
    have r3 := (HLay.out.blk 2 rfl).cell 3
    have rz3 := (HLay.out.blk 2 rfl).frozen 3
    have rl := HLay.out.lt 2 rfl
    gi_wp2
    have R4 := ret4' (HLay.out.blk 2 rfl) HLay.out.1 (HLay.out.ge 2 rfl) (.int .i64 m.fountains) (.slice A1 nv c1) (.slice A9 (na + 1) c9) (.slice A3 nt c3)
    have v0 := R4.1.cell 0
    have v1 := R4.1.cell 1
    have v2 := R4.1.cell 2
    have v3 := R4.1.cell 3
    refine bodyPost_ret (v := .tuple #[.agg #[.int .i64 m.fountains, .slice A1 nv c1, .slice A9 (na + 1) c9, .slice A3 nt c3], .int .i64 0]) (by simp [results, Try.results35, go_sem, v0, v1, v2, v3]) rfl ?_
    rw [HF.out]
    exact ⟨_, _, _, _, _, _, _, _, _, rfl, (HMO.out.off R4.2.2 HBL2.out).mono HBS.out, ⟨by omega, by omega, by omega⟩, R4.2.1⟩

end Go.Proofs.Ythofngceiecniaa
/- mix.Undo. -/
namespace Go.Proofs.Ythofngceiecniaa
open Go.RowKit

theorem flat_take {α : Type} {vals : α → List Value} {sz : Nat} (hk : ∀ x, (vals x).length = sz) : ∀ (l : List α) (k : Nat), (l.take k).flatMap vals = (l.flatMap vals).take (k * sz)
 | [], k => by simp
 | x :: l, 0 => by simp
 | x :: l, k + 1 => by
  rw [List.take_succ_cons, List.flatMap_cons, List.flatMap_cons, flat_take hk l k, List.take_append, hk, List.take_of_length_le (l := vals x) (by rw [hk, Nat.succ_mul]; exact Nat.le_add_left _ _), Nat.succ_mul, Nat.add_sub_cancel]
theorem Own.short {w : World} {base n cap size k : Nat} {e : TypeId} {A : Option Addr} {xs : List Value} (h : Own w base e size A n cap xs) (hk : k ≤ n) (hA : A ≠ none ∨ k = 0 ∧ n = 0) : Own w base e size A k cap (xs.take (k * size)) := by
 rcases h.form with ⟨rfl, rfl, rfl, rfl⟩ | ⟨g, cur, rfl, hb, hg, h1, h2, h3, h4, h5⟩
 ·obtain rfl : k = 0 := by omega
  simpa using Own.none_ w base e size
 ·have hle : k * size ≤ n * size := Nat.mul_le_mul_right _ hk
  refine ⟨by rw [List.length_take, h5, Nat.min_eq_left hle], .inr ⟨g, cap, cur, rfl, hb, hg, Nat.le_trans hk h1, h2, h3, ?_⟩⟩
  rw [← h4, List.take_take, Nat.min_eq_left hle]
theorem MixOwn.fewer {W : World} {base : Nat} {A1 A2 A3 : Option Addr} {nv c1 k c2 nt c3 : Nat} {m : Mix} (h : MixOwn W base A1 nv c1 A2 (k + 1) c2 A3 nt c3 m) (hl : m.acts.length = k + 1) : MixOwn W base A1 nv c1 A2 k c2 A3 nt c3 (withA m (m.acts.take (m.acts.length - 1))) := by
 refine ⟨h.v, ?_, h.t, h.va, h.vt, h.at_⟩
 show Own W base _ 4 A2 k c2 ((m.acts.take (m.acts.length - 1)).flatMap MAct.vals)
 rw [hl, Nat.add_sub_cancel, flat_take act_k]
 refine h.a.short (Nat.le_succ k) (.inl fun e => ?_)
 rcases h.a.form with ⟨_, h0, _⟩ | ⟨g, cur, e2, _⟩
 ·omega
 ·rw [e] at e2; cases e2

set_option maxRecDepth 100000 in
set_option maxHeartbeats 16000000 in
theorem undo_in (Av : Option Addr) (nv cv : Nat) (Aa : Option Addr) (na ca : Nat) (At : Option Addr) (nt ct : Nat) (m : Mix)  (w : World) (h : MixS w Av nv Aa na At nt m) :
  CallsIn Fence.wide 9 Try.prog 37 #[.agg #[.int .i64 m.fountains, .slice Av nv cv, .slice Aa na ca, .slice At nt ct]] w (ChgOut w (undoM m)) := by
 have HM := Lib.hid h
 have HLV := Lib.hid h.at_.lenV
 have HLA := Lib.hid h.at_.lenA
 have HLT := Lib.hid h.at_.lenT
 have hnv := h.hv
 have hna := h.ha
 have hnt := h.ht
 clear h
 refine callsIn_of_wp Try.func37 rfl trivial ?_ rfl
 simp only [Try.ntmps37, List.size_toArray, List.length_cons, List.length_nil, Nat.reduceAdd, Nat.reduceSub, Array.replicate_succ, Array.replicate_zero, List.push_toArray, List.append_toArray, List.nil_append, List.cons_append]
 gi_upto_region 1 with fail
 have HLay := Lib.hid (Lay.two w 26 #[.int .i64 m.fountains, .slice Av nv cv, .slice Aa na ca, .slice At nt ct] 26 #[.int .i64 0, .slice none 0 0, .slice none 0 0, .slice none 0 0])
 generalize ((w.alloc (.cells #[.int .i64 m.fountains, .slice Av nv cv, .slice Aa na ca, .slice At nt ct] 26)).alloc (.cells #[.int .i64 0, .slice none 0 0, .slice none 0 0, .slice none 0 0] 26)) = w0 at *
 have x0_0 := (HLay.out.blk 0 rfl).cell 0
 have x0_1 := (HLay.out.blk 0 rfl).cell 1
 have x0_2 := (HLay.out.blk 0 rfl).cell 2
 have x0_3 := (HLay.out.blk 0 rfl).cell 3
 have l0_ := HLay.out.lt 0 rfl
 gi_wp2
 clear x0_0 x0_1 x0_2 x0_3 l0_
 refine ⟨trivial, (callsIn_wide.2 (check_any Av nv cv Aa na ca At nt ct m w0 (HM.out.up HLay.out.1))).mono ?_⟩
 rintro e W1 ⟨rfl, hb⟩
 have HBC := Lib.hid hb
 replace HLay := Lib.hid (HLay.out.below hb)
 clear hb
 cases hk : okMix m with
 | false =>
  have HF : Hid (undoM m = (zeroMix, 40)) := Lib.hid (by unfold undoM; rw [hk]; rfl)
  rw [show checkE m = 40 from by unfold checkE; rw [hk]; rfl]
  clear hk
  have x1_0 := (HLay.out.blk 1 rfl).cell 0
  have z1_0 := (HLay.out.blk 1 rfl).frozen 0
  have x1_1 := (HLay.out.blk 1 rfl).cell 1
  have z1_1 := (HLay.out.blk 1 rfl).frozen 1
  have x1_2 := (HLay.out.blk 1 rfl).cell 2
  have z1_2 := (HLay.out.blk 1 rfl).frozen 2
  have x1_3 := (HLay.out.blk 1 rfl).cell 3
  have z1_3 := (HLay.out.blk 1 rfl).frozen 3
  have l1_ := HLay.out.lt 1 rfl
  gi_wp2
  have R4 := ret4' (HLay.out.blk 1 rfl) HLay.out.1 (HLay.out.ge 1 rfl) (.int .i64 0) (.slice none 0 0) (.slice none 0 0) (.slice none 0 0)
  have v0 := R4.1.cell 0
  have v1 := R4.1.cell 1
  have v2 := R4.1.cell 2
  have v3 := R4.1.cell 3
  refine bodyPost_ret (v := .tuple #[.agg #[.int .i64 0, .slice none 0 0, .slice none 0 0, .slice none 0 0], .int .i64 40]) (by simp [results, Try.results37, go_sem, v0, v1, v2, v3]) rfl ?_
  rw [HF.out]
  exact ⟨none, 0, 0, none, 0, 0, none, 0, 0, rfl, MixOwn.nothing _ _, ⟨by omega, by omega, by omega⟩, R4.2.1⟩
 | true =>
  have HK := Lib.hid hk
  have hlim := okMix_vess hk
  have hv4 : nv ≤ 4 := by have := HLV.out; omega
  have ha12 : na ≤ 12 := by have := HLA.out; omega
  have ht8 : nt ≤ 8 := by have := HLT.out; omega
  clear hlim
  rw [show checkE m = 0 from by unfold checkE; rw [hk]; rfl]
  clear hk
  by_cases h12 : na = 0
  ·
   have HF : Hid (undoM m = (zeroMix, 6)) := Lib.hid (by unfold undoM; rw [if_pos HK.out, if_pos (by rw [HLA.out]; exact h12)])
   have h12a : ((na : Int) == 0) = true := by simp; omega
   have H12 := Lib.hid h12
   clear h12
   have x0_0 := (HLay.out.blk 0 rfl).cell 0
   have x0_1 := (HLay.out.blk 0 rfl).cell 1
   have x0_2 := (HLay.out.blk 0 rfl).cell 2
   have x0_3 := (HLay.out.blk 0 rfl).cell 3
   have l0_ := HLay.out.lt 0 rfl
   have x1_0 := (HLay.out.blk 1 rfl).cell 0
   have z1_0 := (HLay.out.blk 1 rfl).frozen 0
   have x1_1 := (HLay.out.blk 1 rfl).cell 1
   have z1_1 := (HLay.out.blk 1 rfl).frozen 1
   have x1_2 := (HLay.out.blk 1 rfl).cell 2
   have z1_2 := (HLay.out.blk 1 rfl).frozen 2
   have x1_3 := (HLay.out.blk 1 rfl).cell 3
   have z1_3 := (HLay.out.blk 1 rfl).frozen 3
   have l1_ := HLay.out.lt 1 rfl
   gi_wp2
   have R4 := ret4' (HLay.out.blk 1 rfl) HLay.out.1 (HLay.out.ge 1 rfl) (.int .i64 0) (.slice none 0 0) (.slice none 0 0) (.slice none 0 0)
   have v0 := R4.1.cell 0
   have v1 := R4.1.cell 1
   have v2 := R4.1.cell 2
   have v3 := R4.1.cell 3
   refine bodyPost_ret (v := .tuple #[.agg #[.int .i64 0, .slice none 0 0, .slice none 0 0, .slice none 0 0], .int .i64 6]) (by simp [results, Try.results37, go_sem, v0, v1, v2, v3]) rfl ?_
   rw [HF.out]
   exact ⟨none, 0, 0, none, 0, 0, none, 0, 0, rfl, MixOwn.nothing _ _, ⟨by omega, by omega, by omega⟩, R4.2.1⟩
  ·
   obtain ⟨k, rfl⟩ : ∃ k, na = k + 1 := ⟨na - 1, by omega⟩
   have h12a : (((k + 1 : Nat) : Int) == 0) = false := by simp; omega
   have HF : Hid (undoM m = if okMix (withA m (m.acts.take (m.acts.length - 1))) = true then ((withA m (m.acts.take (m.acts.length - 1))), 0) else (zeroMix, 42)) := Lib.hid (by unfold undoM; rw [if_pos HK.out, if_neg (by rw [HLA.out]; exact h12)])
   have H12 := Lib.hid h12
   clear h12
   have x0_0 := (HLay.out.blk 0 rfl).cell 0
   have x0_1 := (HLay.out.blk 0 rfl).cell 1
   have x0_2 := (HLay.out.blk 0 rfl).cell 2
   have x0_3 := (HLay.out.blk 0 rfl).cell 3
   have l0_ := HLay.out.lt 0 rfl
   gi_wp2
   clear x0_0 x0_1 x0_2 x0_3 l0_
   have HBL : Hid (w.heap.size < W1.heap.size) := Lib.hid (HLay.out.lt 0 rfl)
   have HBS := Lib.hid (HLay.out.1.size)
   have HBL1 := Lib.hid (HLay.out.lt 1 rfl)
   refine ⟨trivial, (callsIn_wide.2 (callsIn_wide.1 (copied_in Av nv cv Aa (k + 1) ca At nt ct m W1 (HM.out.up HLay.out.1)))).mono ?_⟩
   rintro e W2 ⟨A1, c1, A2, c2, A3, c3, rfl, hmo, hb⟩
   have HCB := Lib.hid hb.size
   replace HLay := Lib.hid (HLay.out.below hb)
   clear hb
   have HMO := Lib.hid hmo
   clear hmo
   have x0_0 := (HLay.out.blk 0 rfl).cell 0
   have z0_0 := (HLay.out.blk 0 rfl).frozen 0
   have x0_1 := (HLay.out.blk 0 rfl).cell 1
   have z0_1 := (HLay.out.blk 0 rfl).frozen 1
   have x0_2 := (HLay.out.blk 0 rfl).cell 2
   have z0_2 := (HLay.out.blk 0 rfl).frozen 2
   have x0_3 := (HLay.out.blk 0 rfl).cell 3
   have z0_3 := (HLay.out.blk 0 rfl).frozen 3
   have l0_ := HLay.out.lt 0 rfl
   gi_upto_region 7 with fail
   have R4 := ret4' (HLay.out.blk 0 rfl) (Below.refl w.heap.size W2) (Nat.le_refl _) (.int .i64 m.fountains) (.slice A1 nv c1) (.slice A2 (k + 1) c2) (.slice A3 nt c3)
   have hl := lay_head HLay.out (fun b hb => by simp only [List.mem_cons, List.not_mem_nil, or_false] at hb; rcases hb with rfl <;> simp <;> omega) R4.2.2 R4.1
   have HMO2 := Lib.hid (HMO.out.off R4.2.2 HBL.out)
   have HSZ := Lib.hid (Nat.le_trans HCB.out R4.2.2.size)
   clear x0_0 z0_0 x0_1 z0_1 x0_2 z0_2 x0_3 z0_3 l0_
   generalize ((((W2.setCell ⟨w.heap.size, 0, none⟩ (.int .i64 m.fountains)).setCell ⟨w.heap.size, 1, none⟩ (.slice A1 nv c1)).setCell ⟨w.heap.size, 2, none⟩ (.slice A2 (k + 1) c2)).setCell ⟨w.heap.size, 3, none⟩ (.slice A3 nt c3)) = V3 at *
   replace HLay := Lib.hid hl
   replace HMO := HMO2
   clear R4 HMO2 hl
   have x0_0 := (HLay.out.blk 0 rfl).cell 0
   have z0_0 := (HLay.out.blk 0 rfl).frozen 0
   have x0_1 := (HLay.out.blk 0 rfl).cell 1
   have z0_1 := (HLay.out.blk 0 rfl).frozen 1
   have x0_2 := (HLay.out.blk 0 rfl).cell 2
   have z0_2 := (HLay.out.blk 0 rfl).frozen 2
   have x0_3 := (HLay.out.blk 0 rfl).cell 3
   have z0_3 := (HLay.out.blk 0 rfl).frozen 3
   have l0_ := HLay.out.lt 0 rfl
   have hkc : k ≤ c2 := by have := HMO.out.a.cap_le; omega
   have hcm : c2 ≤ 9223372036854775807 := by have := HMO.out.a.cap_le.2; unfold maxLen at this; omega
   gi_upto_region 8 with fail
   have HMO2 := Lib.hid (HMO.out.fewer (k := k) HLA.out)
   have hgs := grown_setCell (row := some w.heap.size) (grown_refl V3 _) (p := ⟨w.heap.size, 2, none⟩) (.inl rfl) (.slice A2 k c2)
   have hl := lay_head HLay.out (fun b hb => by simp only [List.mem_cons, List.not_mem_nil, or_false] at hb; rcases hb with rfl <;> simp <;> omega) hgs ((HLay.out.blk 0 rfl).set_ 2 (.slice A2 k c2))
   have HMO3 := Lib.hid (HMO2.out.off hgs HBL.out)
   clear x0_0 z0_0 x0_1 z0_1 x0_2 z0_2 x0_3 z0_3 l0_
   generalize V3.setCell ⟨w.heap.size, 2, none⟩ (.slice A2 k c2) = V4 at *
   replace HLay := Lib.hid (show Lay w V4 [(w.heap.size, 26, #[.int .i64 m.fountains, .slice A1 nv c1, .slice A2 k c2, .slice A3 nt c3]), (w.heap.size + 1, 26, #[.int .i64 0, .slice none 0 0, .slice none 0 0, .slice none 0 0])] from hl)
   replace HMO := HMO3
   clear hgs hl HMO2 HMO3
   have x0_0 := (HLay.out.blk 0 rfl).cell 0
   have x0_1 := (HLay.out.blk 0 rfl).cell 1
   have x0_2 := (HLay.out.blk 0 rfl).cell 2
   have x0_3 := (HLay.out.blk 0 rfl).cell 3
   have l0_ := HLay.out.lt 0 rfl
   gi_wp2
   clear x0_0 x0_1 x0_2 x0_3 l0_
   refine ⟨trivial, (callsIn_wide.2 (check_any A1 nv c1 A2 k c2 A3 nt c3 (withA m (m.acts.take (m.acts.length - 1))) V4 (HMO.out.s hnv (by omega) hnt))).mono ?_⟩
   rintro e W5 ⟨rfl, hb⟩
   have HBC := Lib.hid hb
   replace HLay := Lib.hid (HLay.out.below hb)
   clear hb
   cases hk : okMix (withA m (m.acts.take (m.acts.length - 1))) with
   | false =>
    rw [show checkE (withA m (m.acts.take (m.acts.length - 1))) = 40 from by unfold checkE; rw [hk]; rfl]
    replace HF : Hid (undoM m = (zeroMix, 42)) := Lib.hid (by rw [HF.out, hk]; rfl)
    clear hk HMO
    have x1_0 := (HLay.out.blk 1 rfl).cell 0
    have z1_0 := (HLay.out.blk 1 rfl).frozen 0
    have x1_1 := (HLay.out.blk 1 rfl).cell 1
    have z1_1 := (HLay.out.blk 1 rfl).frozen 1
    have x1_2 := (HLay.out.blk 1 rfl).cell 2
    have z1_2 := (HLay.out.blk 1 rfl).frozen 2
    have x1_3 := (HLay.out.blk 1 rfl).cell 3
    have z1_3 := (HLay.out.blk 1 rfl).frozen 3
    have l1_ := HLay.out.lt 1 rfl
    gi_wp2
    have R4 := ret4' (HLay.out.blk 1 rfl) HLay.out.1 (HLay.out.ge 1 rfl) (.int .i64 0) (.slice none 0 0) (.slice none 0 0) (.slice none 0 0)
    have v0 := R4.1.cell 0
    have v1 := R4.1.cell 1
    have v2 := R4.1.cell 2
    have v3 := R4.1.cell 3
    refine bodyPost_ret (v := .tuple #[.agg #[.int .i64 0, .slice none 0 0, .slice none 0 0, .slice none 0 0], .int .i64 42]) (by simp [results, Try.results37, go_sem, v0, v1, v2, v3]) rfl ?_
    rw [HF.out]
    exact ⟨none, 0, 0, none, 0, 0, none, 0, 0, rfl, MixOwn.nothing _ _, ⟨by omega, by omega, by omega⟩, R4.2.1⟩
   | true =>
    rw [show checkE (withA m (m.acts.take (m.acts.length - 1))) = 0 from by unfold checkE; rw [hk]; rfl]
    replace HF : Hid (undoM m = ((withA m (m.acts.take (m.acts.length - 1))), 0)) := Lib.hid (by rw [HF.out, hk]; rfl)
    replace HMO := Lib.hid (HMO.out.below HBC.out)
    clear hk
    have x0_0 := (HLay.out.blk 0 rfl).cell 0
    have x0_1 := (HLay.out.blk 0 rfl).cell 1
    have x0_2 := (HLay.out.blk 0 rfl).cell 2
    have x0_3 := (HLay.out.blk 0 rfl).cell 3
    have l0_ := HLay.out.lt 0 rfl
    have r0 := (HLay.out.blk 1 rfl).cell 0
    have rz0 := (HLay.out.blk 1 rfl).frozen 0
    have r1 := (HLay.out.blk 1 rfl).cell 1
    have rz1 := (HLay.out.blk 1 rfl).frozen 1
    have r2 := (HLay.out.blk 1 rfl).cell 2
    have rz2 := (HLay.out.blk 1 rfl).frozen 2
    have r3 := (HLay.out.blk 1 rfl).cell 3
    have rz3 := (HLay.out.blk 1 rfl).frozen 3
    have rl := HLay.out.lt 1 rfl
    gi_wp2
    have R4 := ret4' (HLay.out.blk 1 rfl) HLay.out.1 (HLay.out.ge 1 rfl) (.int .i64 m.fountains) (.slice A1 nv c1) (.slice A2 k c2) (.slice A3 nt c3)
    have v0 := R4.1.cell 0
    have v1 := R4.1.cell 1
    have v2 := R4.1.cell 2
    have v3 := R4.1.cell 3
    refine bodyPost_ret (v := .tuple #[.agg #[.int .i64 m.fountains, .slice A1 nv c1, .slice A2 k c2, .slice A3 nt c3], .int .i64 0]) (by simp [results, Try.results37, go_sem, v0, v1, v2, v3]) rfl ?_
    rw [HF.out]
    exact ⟨_, _, _, _, _, _, _, _, _, rfl, (HMO.out.off R4.2.2 HBL1.out).mono HBS.out, ⟨by omega, by omega, by omega⟩, R4.2.1⟩

end Go.Proofs.Ythofngceiecniaa
/- append onto an empty slice without room: nothing that lay is touched. -/
namespace Go.Proofs.Ythofngceiecniaa
open Go.RowKit

theorem run_append_fresh {P : Program} (w : World) (ty : TypeId) {base : Nat} {t e : TypeId} {z : Value} {size bytes : Nat} (EE : ElemAt P t e z size bytes) {ad : Addr} (hown : Own w base e size (some ad) 0 0 [])
  {A2 : Option Addr} {m c B : Nat} {news : List Value} (hR : Reads w B size A2 m news) (h1 : ∀ u ∈ news, u.oneCell' = true) (h63 : m ≤ maxLen) (hbytes : m * bytes ≤ 140737488355328) (hbase : base ≤ w.heap.size) :
  ∃ A' cap' w', (Builtin.append_ #[t, t] ty #[.slice (some ad) 0 0, .slice A2 m c]).run P w = .ok (.slice A' m cap') w' ∧ Own w' base e size A' m cap' news ∧ Below w.heap.size w w' ∧ (A' = some ad ∨ A' = some ⟨w.heap.size, 0, none⟩) := by
 obtain ⟨A', cap', w', hr, h2, h3, h4⟩ := run_append_any (P := P) w ty EE hown hR (c := c) h1 (by omega) (by simpa using hbytes) hbase
 rw [Nat.zero_add] at hr h2
 rw [List.nil_append] at h2
 refine ⟨A', cap', w', hr, h2, ?_, h4⟩
 obtain ⟨i, E⟩ := EE
 rcases Nat.eq_zero_or_pos m with h0 | h0
 ·subst h0
  have hne : news = [] := List.eq_nil_of_length_eq_zero (by rw [hR.1]; simp)
  have hw : w' = w := by
   cases A2 with
   | none =>
    simp [Builtin.append_, run_underlying E.und, sizeOf, typeInfo, E.info, Builtin.lenOf, Builtin.firstCells, storeCells] at hr
    exact hr.2.symm
   | some a2 =>
    simp [Builtin.append_, run_underlying E.und, sizeOf, typeInfo, E.info, Builtin.lenOf, Builtin.firstCells, storeCells, loadCells, loadCellsFrom] at hr
    exact hr.2.symm
  rw [hw]
  exact Below.refl _ _
 ·obtain ⟨B1, cap1, w1, hr1, _, h31, _⟩ := run_append_any (P := P) w ty ⟨i, E⟩ (Own.none_ w base e size) hR (c := c) h1 (by omega) (by simpa using hbytes) hbase
  have hm0 : ¬ (m = 0) := by omega
  have h63i : ¬ (9223372036854775807 < (m : Int)) := by unfold maxLen at h63; omega
  have hcap : Builtin.nextslicecap m 0 = m := by unfold Builtin.nextslicecap; rw [if_pos (by omega)]
  have h48 : ¬ (281474976710656 < m * i.bytes) := by rw [E.ibytes]; omega
  have e1 : (Builtin.append_ #[t, t] ty #[.slice (some ad) 0 0, .slice A2 m c]).run P w = (Builtin.append_ #[t, t] ty #[.slice none 0 0, .slice A2 m c]).run P w := by
   simp [Builtin.append_, run_underlying E.und, sizeOf, typeInfo, E.info, Builtin.lenOf, Builtin.firstCells, hm0, h63i, hcap, h48, loadCells, loadCellsFrom]
  rw [e1] at hr
  rw [Nat.zero_add, hr] at hr1
  cases hr1
  exact (Below.refl _ _).grown h31 (Nat.le_refl _) (fun k hk => by cases hk)
theorem wpListIn_append_fresh {F : Fence} {nn : Nat} {P : Program} {w : World} {ops : Array Oper} {rest : List Oper} {o : Oper} {a : Act} {Q : Exit → Act → World → Prop} (hgd : o.guard = none) (s x : Operand) {t e : TypeId}
  (ho : o.op = .call { callee := .builtin .append, args := #[s, x], argTypes := #[t, t] })
  {z : Value} {size bytes : Nat} (EE : ElemAt P t e z size bytes) {base : Nat} {ad : Addr} (hs : a.eval s = .slice (some ad) 0 0) (hown : Own w base e size (some ad) 0 0 [])
  {A2 : Option Addr} {m c B : Nat} {news : List Value} (hx : a.eval x = .slice A2 m c) (hR : Reads w B size A2 m news) (h1 : ∀ u ∈ news, u.oneCell' = true) (h63 : m ≤ maxLen) (hbytes : m * bytes ≤ 140737488355328) (hbase : base ≤ w.heap.size)
  (h : ∀ A' cap' w', Own w' base e size A' m cap' news → Below w.heap.size w w' → (A' = some ad ∨ A' = some ⟨w.heap.size, 0, none⟩) → wpListIn F nn P ops Q rest (a.put o.dst (.slice A' m cap')) w') :
  wpListIn F nn P ops Q (o :: rest) a w := by
 refine wpListIn_plain hgd fun K hK => ?_
 obtain ⟨A', cap', w', hr, h2, h3, h4⟩ := run_append_fresh (P := P) w o.type EE hown hR (c := c) h1 h63 hbytes hbase
 unfold Oper.wpIn
 refine ⟨?_, ?_⟩
 ·simp [Oper.about, ho, resolve, Target.leads, Sem.run_pure]
 ·rw [Oper.semAt_plain F _ _ (by rw [ho]; intro c hc'; cases hc')]
  unfold execOp
  simp only [ho, resolve, invoke, builtin, Sem.run_bind, Sem.run_pure, Result.andThen_ok, List.map_toArray, List.map_cons, List.map_nil, hs, hx, hr]
  exact hK _ _ (h A' cap' w' h2 h3 h4)
end Go.Proofs.Ythofngceiecniaa
/- aguadorref04.Twin. -/
namespace Go.Proofs.Ythofngceiecniaa
open Go.RowKit

structure TwGh where
 e1 : Nat
 e2 : Nat
 e3 : Nat
 A1 : Option Addr
 c1 : Nat
 A2 : Option Addr
 c2 : Nat
 A3 : Option Addr
 c3 : Nat
/-- Mixed water whose three slices the call owns. -/
structure MixNew (w : World) (base : Nat) (A1 : Option Addr) (nv c1 : Nat) (A2 : Option Addr) (na c2 : Nat) (A3 : Option Addr) (nt c3 : Nat) (m : Mix) : Prop where
 v : Own w base 80 2 A1 nv c1 (m.vessels.flatMap Vess.vals)
 a : Own w base 67 4 A2 na c2 (m.acts.flatMap MAct.vals)
 t : Own w base 65 6 A3 nt c3 (m.tastes.flatMap Tast.vals)
def TwinOut (w : World) (nv na nt : Nat) (m : Mix) (e : Ending) (w' : World) : Prop :=
 ∃ A1 c1 A2 c2 A3 c3, e = .returned (.agg #[.int .i64 m.fountains, .slice A1 nv c1, .slice A2 na c2, .slice A3 nt c3]) ∧ MixNew w' w.heap.size A1 nv c1 A2 na c2 A3 nt c3 m ∧ Below w.heap.size w w'
set_option maxRecDepth 100000 in
set_option maxHeartbeats 16000000 in
theorem twin_in (Av : Option Addr) (nv cv : Nat) (Aa : Option Addr) (na ca : Nat) (At : Option Addr) (nt ct : Nat) (m : Mix) (w : World) (h : MixS w Av nv Aa na At nt m) :
  CallsIn Fence.wide 9 Try.prog 8 #[.agg #[.int .i64 m.fountains, .slice Av nv cv, .slice Aa na ca, .slice At nt ct]] w (TwinOut w nv na nt m) := by
 have HM := Lib.hid h
 have hnv := h.hv
 have hna := h.ha
 have hnt := h.ht
 clear h
 refine callsIn_of_wp Try.func8 rfl trivial ?_ rfl
 simp only [Try.ntmps8, List.size_toArray, List.length_cons, List.length_nil, Nat.reduceAdd, Nat.reduceSub, Array.replicate_succ, Array.replicate_zero, List.push_toArray, List.append_toArray, List.nil_append, List.cons_append]
 gi_wp2
 have HLay := Lib.hid (Lay.two w 26 #[.int .i64 m.fountains, .slice Av nv cv, .slice Aa na ca, .slice At nt ct] 26 #[.int .i64 0, .slice none 0 0, .slice none 0 0, .slice none 0 0])
 generalize ((w.alloc (.cells #[.int .i64 m.fountains, .slice Av nv cv, .slice Aa na ca, .slice At nt ct] 26)).alloc (.cells #[.int .i64 0, .slice none 0 0, .slice none 0 0, .slice none 0 0] 26)) = w0 at *
 have HB0 := Lib.hid HLay.out.1
 have HX0 := Lib.hid (HLay.out.blk 0 rfl)
 have HZ0 := Lib.hid (HLay.out.blk 1 rfl)
 clear HLay
 refine wpIn_region_stepsD (by kernel_rfl) (by kernel_rfl) (fun σ : TwGh × (Nat → Value) => { tmps := #[.agg #[.int .i64 m.fountains, .slice Av nv cv, .slice Aa na ca, .slice At nt ct], .pointer (some ⟨w.heap.size, 0, none⟩), .pointer (some ⟨w.heap.size + 1, 0, none⟩), σ.2 3, σ.2 4, σ.2 5, σ.2 6, σ.2 7, σ.2 8, σ.2 9, σ.2 10, σ.2 11, σ.2 12, σ.2 13, σ.2 14, σ.2 15, σ.2 16, σ.2 17], defers := [] })
  (fun L σ W => (Below w.heap.size w W) ∧ (Blk W w.heap.size 26 #[.int .i64 m.fountains, .slice Av nv cv, .slice Aa na ca, .slice At nt ct]) ∧ (L 15 = false → Blk W (w.heap.size + 1) 26 #[.int .i64 0, .slice none 0 0, .slice none 0 0, .slice none 0 0]) ∧ (L 15 = true → Blk W (w.heap.size + 1) 26 #[.int .i64 m.fountains, .slice σ.1.A1 nv σ.1.c1, .slice σ.1.A2 na σ.1.c2, .slice σ.1.A3 nt σ.1.c3]) ∧ (L 2 = true → L 5 = false → Own W (w.heap.size + 2) 80 2 (some ⟨σ.1.e1, 0, none⟩) 0 0 []) ∧ (L 6 = true → L 9 = false → Own W (w.heap.size + 2) 67 4 (some ⟨σ.1.e2, 0, none⟩) 0 0 []) ∧ (L 10 = true → L 13 = false → Own W (w.heap.size + 2) 65 6 (some ⟨σ.1.e3, 0, none⟩) 0 0 []) ∧ (L 5 = true → Own W (w.heap.size + 2) 80 2 σ.1.A1 nv σ.1.c1 (m.vessels.flatMap Vess.vals)) ∧ (L 9 = true → Own W (w.heap.size + 2) 67 4 σ.1.A2 na σ.1.c2 (m.acts.flatMap MAct.vals)) ∧ (L 13 = true → Own W (w.heap.size + 2) 65 6 σ.1.A3 nt σ.1.c3 (m.tastes.flatMap Tast.vals)) ∧ (L 0 = true → σ.2 3 = .pointer (some ⟨w.heap.size, 0, none⟩)) ∧ (L 1 = true → σ.2 4 = .int .i64 m.fountains) ∧ (L 2 = true → σ.2 5 = .slice (some ⟨σ.1.e1, 0, none⟩) 0 0) ∧ (L 3 = true → σ.2 6 = .pointer (some ⟨w.heap.size, 1, none⟩)) ∧ (L 4 = true → σ.2 7 = .slice Av nv cv) ∧ (L 5 = true → σ.2 8 = .slice σ.1.A1 nv σ.1.c1) ∧ (L 6 = true → σ.2 9 = .slice (some ⟨σ.1.e2, 0, none⟩) 0 0) ∧ (L 7 = true → σ.2 10 = .pointer (some ⟨w.heap.size, 2, none⟩)) ∧ (L 8 = true → σ.2 11 = .slice Aa na ca) ∧ (L 9 = true → σ.2 12 = .slice σ.1.A2 na σ.1.c2) ∧ (L 10 = true → σ.2 13 = .slice (some ⟨σ.1.e3, 0, none⟩) 0 0) ∧ (L 11 = true → σ.2 14 = .pointer (some ⟨w.heap.size, 3, none⟩)) ∧ (L 12 = true → σ.2 15 = .slice At nt ct) ∧ (L 13 = true → σ.2 16 = .slice σ.1.A3 nt σ.1.c3) ∧ (L 14 = true → σ.2 17 = .agg #[.int .i64 m.fountains, .slice σ.1.A1 nv σ.1.c1, .slice σ.1.A2 na σ.1.c2, .slice σ.1.A3 nt σ.1.c3]))
  (⟨0, 0, 0, none, 0, none, 0, none, 0⟩, fun k => undef) rfl ?_ ?_ ?_
 ·exact ⟨below_drewN HB0.out 1, HX0.out.drewN 1, (fun _ => HZ0.out.drewN 1), (fun h => by cases h), (fun h => by cases h), (fun h => by cases h), (fun h => by cases h), (fun h => by cases h), (fun h => by cases h), (fun h => by cases h), (fun h => by cases h), (fun h => by cases h), (fun h => by cases h), (fun h => by cases h), (fun h => by cases h), (fun h => by cases h), (fun h => by cases h), (fun h => by cases h), (fun h => by cases h), (fun h => by cases h), (fun h => by cases h), (fun h => by cases h), (fun h => by cases h), (fun h => by cases h), (fun h => by cases h)⟩
 ·refine ⟨?_, ?_, ?_, ?_, ?_, ?_, ?_, ?_, ?_, ?_, ?_, ?_, ?_, ?_, ?_, ?_, trivial⟩
  ·rintro L ⟨gh, s⟩ W hu hd hdn ⟨g1, m0, gz0, gz1, q1, q2, q3, o1, o2, o3, f0, f1, f2, f3, f4, f5, f6, f7, f8, f9, f10, f11, f12, f13, f14⟩ K Q hK
   try dsimp only at g1 m0 gz0 gz1 q1 q2 q3 o1 o2 o3 f0 f1 f2 f3 f4 f5 f6 f7 f8 f9 f10 f11 f12 f13 f14 ⊢
   have hxl := HX0.out.lt
   have HF := Lib.hid (show (Below w.heap.size w W) ∧ (Blk W w.heap.size 26 #[.int .i64 m.fountains, .slice Av nv cv, .slice Aa na ca, .slice At nt ct]) ∧ (L 15 = false → Blk W (w.heap.size + 1) 26 #[.int .i64 0, .slice none 0 0, .slice none 0 0, .slice none 0 0]) ∧ (L 15 = true → Blk W (w.heap.size + 1) 26 #[.int .i64 m.fountains, .slice gh.A1 nv gh.c1, .slice gh.A2 na gh.c2, .slice gh.A3 nt gh.c3]) ∧ (L 2 = true → L 5 = false → Own W (w.heap.size + 2) 80 2 (some ⟨gh.e1, 0, none⟩) 0 0 []) ∧ (L 6 = true → L 9 = false → Own W (w.heap.size + 2) 67 4 (some ⟨gh.e2, 0, none⟩) 0 0 []) ∧ (L 10 = true → L 13 = false → Own W (w.heap.size + 2) 65 6 (some ⟨gh.e3, 0, none⟩) 0 0 []) ∧ (L 5 = true → Own W (w.heap.size + 2) 80 2 gh.A1 nv gh.c1 (m.vessels.flatMap Vess.vals)) ∧ (L 9 = true → Own W (w.heap.size + 2) 67 4 gh.A2 na gh.c2 (m.acts.flatMap MAct.vals)) ∧ (L 13 = true → Own W (w.heap.size + 2) 65 6 gh.A3 nt gh.c3 (m.tastes.flatMap Tast.vals)) ∧ (L 0 = true → s 3 = .pointer (some ⟨w.heap.size, 0, none⟩)) ∧ (L 1 = true → s 4 = .int .i64 m.fountains) ∧ (L 2 = true → s 5 = .slice (some ⟨gh.e1, 0, none⟩) 0 0) ∧ (L 3 = true → s 6 = .pointer (some ⟨w.heap.size, 1, none⟩)) ∧ (L 4 = true → s 7 = .slice Av nv cv) ∧ (L 5 = true → s 8 = .slice gh.A1 nv gh.c1) ∧ (L 6 = true → s 9 = .slice (some ⟨gh.e2, 0, none⟩) 0 0) ∧ (L 7 = true → s 10 = .pointer (some ⟨w.heap.size, 2, none⟩)) ∧ (L 8 = true → s 11 = .slice Aa na ca) ∧ (L 9 = true → s 12 = .slice gh.A2 na gh.c2) ∧ (L 10 = true → s 13 = .slice (some ⟨gh.e3, 0, none⟩) 0 0) ∧ (L 11 = true → s 14 = .pointer (some ⟨w.heap.size, 3, none⟩)) ∧ (L 12 = true → s 15 = .slice At nt ct) ∧ (L 13 = true → s 16 = .slice gh.A3 nt gh.c3) ∧ (L 14 = true → s 17 = .agg #[.int .i64 m.fountains, .slice gh.A1 nv gh.c1, .slice gh.A2 na gh.c2, .slice gh.A3 nt gh.c3]) from ⟨g1, m0, gz0, gz1, q1, q2, q3, o1, o2, o3, f0, f1, f2, f3, f4, f5, f6, f7, f8, f9, f10, f11, f12, f13, f14⟩)
   clear f14 f13 f12 f11 f10 f9 f8 f7 f6 f5 f4 f3 f2 f1 f0 o3 o2 o1 q3 q2 q1 gz1 gz0 m0 g1 hd
   try simp only
   gi_wp2
   obtain ⟨g1, m0, gz0, gz1, q1, q2, q3, o1, o2, o3, f0, f1, f2, f3, f4, f5, f6, f7, f8, f9, f10, f11, f12, f13, f14⟩ := HF.out
   exact hK (gh, (upd s 3 (.pointer (some ⟨w.heap.size, 0, none⟩)))) _ ⟨g1, m0, gz0, gz1, q1, q2, q3, o1, o2, o3, (fun _ => rfl), f1, f2, f3, f4, f5, f6, f7, f8, f9, f10, f11, f12, f13, f14⟩
  ·rintro L ⟨gh, s⟩ W hu hd hdn ⟨g1, m0, gz0, gz1, q1, q2, q3, o1, o2, o3, f0, f1, f2, f3, f4, f5, f6, f7, f8, f9, f10, f11, f12, f13, f14⟩ K Q hK
   try dsimp only at g1 m0 gz0 gz1 q1 q2 q3 o1 o2 o3 f0 f1 f2 f3 f4 f5 f6 f7 f8 f9 f10 f11 f12 f13 f14 ⊢
   have e0 := f0 (hd.at_ 0 rfl)
   have c0 : W.cell? ⟨w.heap.size, 0, none⟩ = some (.int .i64 m.fountains) := m0.cell 0
   have HF := Lib.hid (show (Below w.heap.size w W) ∧ (Blk W w.heap.size 26 #[.int .i64 m.fountains, .slice Av nv cv, .slice Aa na ca, .slice At nt ct]) ∧ (L 15 = false → Blk W (w.heap.size + 1) 26 #[.int .i64 0, .slice none 0 0, .slice none 0 0, .slice none 0 0]) ∧ (L 15 = true → Blk W (w.heap.size + 1) 26 #[.int .i64 m.fountains, .slice gh.A1 nv gh.c1, .slice gh.A2 na gh.c2, .slice gh.A3 nt gh.c3]) ∧ (L 2 = true → L 5 = false → Own W (w.heap.size + 2) 80 2 (some ⟨gh.e1, 0, none⟩) 0 0 []) ∧ (L 6 = true → L 9 = false → Own W (w.heap.size + 2) 67 4 (some ⟨gh.e2, 0, none⟩) 0 0 []) ∧ (L 10 = true → L 13 = false → Own W (w.heap.size + 2) 65 6 (some ⟨gh.e3, 0, none⟩) 0 0 []) ∧ (L 5 = true → Own W (w.heap.size + 2) 80 2 gh.A1 nv gh.c1 (m.vessels.flatMap Vess.vals)) ∧ (L 9 = true → Own W (w.heap.size + 2) 67 4 gh.A2 na gh.c2 (m.acts.flatMap MAct.vals)) ∧ (L 13 = true → Own W (w.heap.size + 2) 65 6 gh.A3 nt gh.c3 (m.tastes.flatMap Tast.vals)) ∧ (L 0 = true → s 3 = .pointer (some ⟨w.heap.size, 0, none⟩)) ∧ (L 1 = true → s 4 = .int .i64 m.fountains) ∧ (L 2 = true → s 5 = .slice (some ⟨gh.e1, 0, none⟩) 0 0) ∧ (L 3 = true → s 6 = .pointer (some ⟨w.heap.size, 1, none⟩)) ∧ (L 4 = true → s 7 = .slice Av nv cv) ∧ (L 5 = true → s 8 = .slice gh.A1 nv gh.c1) ∧ (L 6 = true → s 9 = .slice (some ⟨gh.e2, 0, none⟩) 0 0) ∧ (L 7 = true → s 10 = .pointer (some ⟨w.heap.size, 2, none⟩)) ∧ (L 8 = true → s 11 = .slice Aa na ca) ∧ (L 9 = true → s 12 = .slice gh.A2 na gh.c2) ∧ (L 10 = true → s 13 = .slice (some ⟨gh.e3, 0, none⟩) 0 0) ∧ (L 11 = true → s 14 = .pointer (some ⟨w.heap.size, 3, none⟩)) ∧ (L 12 = true → s 15 = .slice At nt ct) ∧ (L 13 = true → s 16 = .slice gh.A3 nt gh.c3) ∧ (L 14 = true → s 17 = .agg #[.int .i64 m.fountains, .slice gh.A1 nv gh.c1, .slice gh.A2 na gh.c2, .slice gh.A3 nt gh.c3]) from ⟨g1, m0, gz0, gz1, q1, q2, q3, o1, o2, o3, f0, f1, f2, f3, f4, f5, f6, f7, f8, f9, f10, f11, f12, f13, f14⟩)
   clear f14 f13 f12 f11 f10 f9 f8 f7 f6 f5 f4 f3 f2 f1 f0 o3 o2 o1 q3 q2 q1 gz1 gz0 m0 g1 hd
   try simp only at e0 ⊢
   gi_wp2
   obtain ⟨g1, m0, gz0, gz1, q1, q2, q3, o1, o2, o3, f0, f1, f2, f3, f4, f5, f6, f7, f8, f9, f10, f11, f12, f13, f14⟩ := HF.out
   exact hK (gh, (upd (upd s 3 (.pointer (some ⟨w.heap.size, 0, none⟩))) 4 (.int .i64 m.fountains))) _ ⟨g1, m0, gz0, gz1, q1, q2, q3, o1, o2, o3, (fun _ => rfl), (fun _ => rfl), f2, f3, f4, f5, f6, f7, f8, f9, f10, f11, f12, f13, f14⟩
  ·rintro L ⟨gh, s⟩ W hu hd hdn ⟨g1, m0, gz0, gz1, q1, q2, q3, o1, o2, o3, f0, f1, f2, f3, f4, f5, f6, f7, f8, f9, f10, f11, f12, f13, f14⟩ K Q hK
   try dsimp only at g1 m0 gz0 gz1 q1 q2 q3 o1 o2 o3 f0 f1 f2 f3 f4 f5 f6 f7 f8 f9 f10 f11 f12 f13 f14 ⊢
   have h15 : L 15 = false := by
    cases hc : L 15 with
    | false => rfl
    | true => exact hdn.no 15 2 hc rfl hu
   have hWq : w.heap.size + 2 ≤ W.heap.size := (gz0 h15).lt
   have HWq := Lib.hid hWq
   clear hWq
   have HF := Lib.hid (show (Below w.heap.size w W) ∧ (Blk W w.heap.size 26 #[.int .i64 m.fountains, .slice Av nv cv, .slice Aa na ca, .slice At nt ct]) ∧ (L 15 = false → Blk W (w.heap.size + 1) 26 #[.int .i64 0, .slice none 0 0, .slice none 0 0, .slice none 0 0]) ∧ (L 15 = true → Blk W (w.heap.size + 1) 26 #[.int .i64 m.fountains, .slice gh.A1 nv gh.c1, .slice gh.A2 na gh.c2, .slice gh.A3 nt gh.c3]) ∧ (L 2 = true → L 5 = false → Own W (w.heap.size + 2) 80 2 (some ⟨gh.e1, 0, none⟩) 0 0 []) ∧ (L 6 = true → L 9 = false → Own W (w.heap.size + 2) 67 4 (some ⟨gh.e2, 0, none⟩) 0 0 []) ∧ (L 10 = true → L 13 = false → Own W (w.heap.size + 2) 65 6 (some ⟨gh.e3, 0, none⟩) 0 0 []) ∧ (L 5 = true → Own W (w.heap.size + 2) 80 2 gh.A1 nv gh.c1 (m.vessels.flatMap Vess.vals)) ∧ (L 9 = true → Own W (w.heap.size + 2) 67 4 gh.A2 na gh.c2 (m.acts.flatMap MAct.vals)) ∧ (L 13 = true → Own W (w.heap.size + 2) 65 6 gh.A3 nt gh.c3 (m.tastes.flatMap Tast.vals)) ∧ (L 0 = true → s 3 = .pointer (some ⟨w.heap.size, 0, none⟩)) ∧ (L 1 = true → s 4 = .int .i64 m.fountains) ∧ (L 2 = true → s 5 = .slice (some ⟨gh.e1, 0, none⟩) 0 0) ∧ (L 3 = true → s 6 = .pointer (some ⟨w.heap.size, 1, none⟩)) ∧ (L 4 = true → s 7 = .slice Av nv cv) ∧ (L 5 = true → s 8 = .slice gh.A1 nv gh.c1) ∧ (L 6 = true → s 9 = .slice (some ⟨gh.e2, 0, none⟩) 0 0) ∧ (L 7 = true → s 10 = .pointer (some ⟨w.heap.size, 2, none⟩)) ∧ (L 8 = true → s 11 = .slice Aa na ca) ∧ (L 9 = true → s 12 = .slice gh.A2 na gh.c2) ∧ (L 10 = true → s 13 = .slice (some ⟨gh.e3, 0, none⟩) 0 0) ∧ (L 11 = true → s 14 = .pointer (some ⟨w.heap.size, 3, none⟩)) ∧ (L 12 = true → s 15 = .slice At nt ct) ∧ (L 13 = true → s 16 = .slice gh.A3 nt gh.c3) ∧ (L 14 = true → s 17 = .agg #[.int .i64 m.fountains, .slice gh.A1 nv gh.c1, .slice gh.A2 na gh.c2, .slice gh.A3 nt gh.c3]) from ⟨g1, m0, gz0, gz1, q1, q2, q3, o1, o2, o3, f0, f1, f2, f3, f4, f5, f6, f7, f8, f9, f10, f11, f12, f13, f14⟩)
   clear f14 f13 f12 f11 f10 f9 f8 f7 f6 f5 f4 f3 f2 f1 f0 o3 o2 o1 q3 q2 q1 gz1 gz0 m0 g1 hd
   try simp only
   gi_wp2
   obtain ⟨g1, m0, gz0, gz1, q1, q2, q3, o1, o2, o3, f0, f1, f2, f3, f4, f5, f6, f7, f8, f9, f10, f11, f12, f13, f14⟩ := HF.out
   have hb : Below W.heap.size W (W.alloc (.cells #[] 80)) := (Below.refl _ _).alloc (Nat.le_refl _) _
   exact hK ({ gh with e1 := W.heap.size }, (upd s 5 (.slice (some ⟨W.heap.size, 0, none⟩) 0 0))) _ ⟨(g1.trans (hb.mono g1.size)), (m0.below hb m0.lt), (fun h => (gz0 h).below hb (gz0 h).lt), (fun h => (gz1 h).below hb (gz1 h).lt), (fun _ _ => World.ownsRow_made W #[] 0 HWq.out (Nat.zero_le _) (by simp)), (fun h q => (q2 h q).below hb (Nat.le_refl _)), (fun h q => (q3 h q).below hb (Nat.le_refl _)), (fun h => (o1 h).below hb (Nat.le_refl _)), (fun h => (o2 h).below hb (Nat.le_refl _)), (fun h => (o3 h).below hb (Nat.le_refl _)), f0, f1, (fun _ => rfl), f3, f4, f5, f6, f7, f8, f9, f10, f11, f12, f13, f14⟩
  ·rintro L ⟨gh, s⟩ W hu hd hdn ⟨g1, m0, gz0, gz1, q1, q2, q3, o1, o2, o3, f0, f1, f2, f3, f4, f5, f6, f7, f8, f9, f10, f11, f12, f13, f14⟩ K Q hK
   try dsimp only at g1 m0 gz0 gz1 q1 q2 q3 o1 o2 o3 f0 f1 f2 f3 f4 f5 f6 f7 f8 f9 f10 f11 f12 f13 f14 ⊢
   have HF := Lib.hid (show (Below w.heap.size w W) ∧ (Blk W w.heap.size 26 #[.int .i64 m.fountains, .slice Av nv cv, .slice Aa na ca, .slice At nt ct]) ∧ (L 15 = false → Blk W (w.heap.size + 1) 26 #[.int .i64 0, .slice none 0 0, .slice none 0 0, .slice none 0 0]) ∧ (L 15 = true → Blk W (w.heap.size + 1) 26 #[.int .i64 m.fountains, .slice gh.A1 nv gh.c1, .slice gh.A2 na gh.c2, .slice gh.A3 nt gh.c3]) ∧ (L 2 = true → L 5 = false → Own W (w.heap.size + 2) 80 2 (some ⟨gh.e1, 0, none⟩) 0 0 []) ∧ (L 6 = true → L 9 = false → Own W (w.heap.size + 2) 67 4 (some ⟨gh.e2, 0, none⟩) 0 0 []) ∧ (L 10 = true → L 13 = false → Own W (w.heap.size + 2) 65 6 (some ⟨gh.e3, 0, none⟩) 0 0 []) ∧ (L 5 = true → Own W (w.heap.size + 2) 80 2 gh.A1 nv gh.c1 (m.vessels.flatMap Vess.vals)) ∧ (L 9 = true → Own W (w.heap.size + 2) 67 4 gh.A2 na gh.c2 (m.acts.flatMap MAct.vals)) ∧ (L 13 = true → Own W (w.heap.size + 2) 65 6 gh.A3 nt gh.c3 (m.tastes.flatMap Tast.vals)) ∧ (L 0 = true → s 3 = .pointer (some ⟨w.heap.size, 0, none⟩)) ∧ (L 1 = true → s 4 = .int .i64 m.fountains) ∧ (L 2 = true → s 5 = .slice (some ⟨gh.e1, 0, none⟩) 0 0) ∧ (L 3 = true → s 6 = .pointer (some ⟨w.heap.size, 1, none⟩)) ∧ (L 4 = true → s 7 = .slice Av nv cv) ∧ (L 5 = true → s 8 = .slice gh.A1 nv gh.c1) ∧ (L 6 = true → s 9 = .slice (some ⟨gh.e2, 0, none⟩) 0 0) ∧ (L 7 = true → s 10 = .pointer (some ⟨w.heap.size, 2, none⟩)) ∧ (L 8 = true → s 11 = .slice Aa na ca) ∧ (L 9 = true → s 12 = .slice gh.A2 na gh.c2) ∧ (L 10 = true → s 13 = .slice (some ⟨gh.e3, 0, none⟩) 0 0) ∧ (L 11 = true → s 14 = .pointer (some ⟨w.heap.size, 3, none⟩)) ∧ (L 12 = true → s 15 = .slice At nt ct) ∧ (L 13 = true → s 16 = .slice gh.A3 nt gh.c3) ∧ (L 14 = true → s 17 = .agg #[.int .i64 m.fountains, .slice gh.A1 nv gh.c1, .slice gh.A2 na gh.c2, .slice gh.A3 nt gh.c3]) from ⟨g1, m0, gz0, gz1, q1, q2, q3, o1, o2, o3, f0, f1, f2, f3, f4, f5, f6, f7, f8, f9, f10, f11, f12, f13, f14⟩)
   clear f14 f13 f12 f11 f10 f9 f8 f7 f6 f5 f4 f3 f2 f1 f0 o3 o2 o1 q3 q2 q1 gz1 gz0 m0 g1 hd
   try simp only
   gi_wp2
   obtain ⟨g1, m0, gz0, gz1, q1, q2, q3, o1, o2, o3, f0, f1, f2, f3, f4, f5, f6, f7, f8, f9, f10, f11, f12, f13, f14⟩ := HF.out
   exact hK (gh, (upd s 6 (.pointer (some ⟨w.heap.size, 1, none⟩)))) _ ⟨g1, m0, gz0, gz1, q1, q2, q3, o1, o2, o3, f0, f1, f2, (fun _ => rfl), f4, f5, f6, f7, f8, f9, f10, f11, f12, f13, f14⟩
  ·rintro L ⟨gh, s⟩ W hu hd hdn ⟨g1, m0, gz0, gz1, q1, q2, q3, o1, o2, o3, f0, f1, f2, f3, f4, f5, f6, f7, f8, f9, f10, f11, f12, f13, f14⟩ K Q hK
   try dsimp only at g1 m0 gz0 gz1 q1 q2 q3 o1 o2 o3 f0 f1 f2 f3 f4 f5 f6 f7 f8 f9 f10 f11 f12 f13 f14 ⊢
   have e3 := f3 (hd.at_ 3 rfl)
   have c0 : W.cell? ⟨w.heap.size, 1, none⟩ = some (.slice Av nv cv) := m0.cell 1
   have HF := Lib.hid (show (Below w.heap.size w W) ∧ (Blk W w.heap.size 26 #[.int .i64 m.fountains, .slice Av nv cv, .slice Aa na ca, .slice At nt ct]) ∧ (L 15 = false → Blk W (w.heap.size + 1) 26 #[.int .i64 0, .slice none 0 0, .slice none 0 0, .slice none 0 0]) ∧ (L 15 = true → Blk W (w.heap.size + 1) 26 #[.int .i64 m.fountains, .slice gh.A1 nv gh.c1, .slice gh.A2 na gh.c2, .slice gh.A3 nt gh.c3]) ∧ (L 2 = true → L 5 = false → Own W (w.heap.size + 2) 80 2 (some ⟨gh.e1, 0, none⟩) 0 0 []) ∧ (L 6 = true → L 9 = false → Own W (w.heap.size + 2) 67 4 (some ⟨gh.e2, 0, none⟩) 0 0 []) ∧ (L 10 = true → L 13 = false → Own W (w.heap.size + 2) 65 6 (some ⟨gh.e3, 0, none⟩) 0 0 []) ∧ (L 5 = true → Own W (w.heap.size + 2) 80 2 gh.A1 nv gh.c1 (m.vessels.flatMap Vess.vals)) ∧ (L 9 = true → Own W (w.heap.size + 2) 67 4 gh.A2 na gh.c2 (m.acts.flatMap MAct.vals)) ∧ (L 13 = true → Own W (w.heap.size + 2) 65 6 gh.A3 nt gh.c3 (m.tastes.flatMap Tast.vals)) ∧ (L 0 = true → s 3 = .pointer (some ⟨w.heap.size, 0, none⟩)) ∧ (L 1 = true → s 4 = .int .i64 m.fountains) ∧ (L 2 = true → s 5 = .slice (some ⟨gh.e1, 0, none⟩) 0 0) ∧ (L 3 = true → s 6 = .pointer (some ⟨w.heap.size, 1, none⟩)) ∧ (L 4 = true → s 7 = .slice Av nv cv) ∧ (L 5 = true → s 8 = .slice gh.A1 nv gh.c1) ∧ (L 6 = true → s 9 = .slice (some ⟨gh.e2, 0, none⟩) 0 0) ∧ (L 7 = true → s 10 = .pointer (some ⟨w.heap.size, 2, none⟩)) ∧ (L 8 = true → s 11 = .slice Aa na ca) ∧ (L 9 = true → s 12 = .slice gh.A2 na gh.c2) ∧ (L 10 = true → s 13 = .slice (some ⟨gh.e3, 0, none⟩) 0 0) ∧ (L 11 = true → s 14 = .pointer (some ⟨w.heap.size, 3, none⟩)) ∧ (L 12 = true → s 15 = .slice At nt ct) ∧ (L 13 = true → s 16 = .slice gh.A3 nt gh.c3) ∧ (L 14 = true → s 17 = .agg #[.int .i64 m.fountains, .slice gh.A1 nv gh.c1, .slice gh.A2 na gh.c2, .slice gh.A3 nt gh.c3]) from ⟨g1, m0, gz0, gz1, q1, q2, q3, o1, o2, o3, f0, f1, f2, f3, f4, f5, f6, f7, f8, f9, f10, f11, f12, f13, f14⟩)
   clear f14 f13 f12 f11 f10 f9 f8 f7 f6 f5 f4 f3 f2 f1 f0 o3 o2 o1 q3 q2 q1 gz1 gz0 m0 g1 hd
   try simp only at e3 ⊢
   gi_wp2
   obtain ⟨g1, m0, gz0, gz1, q1, q2, q3, o1, o2, o3, f0, f1, f2, f3, f4, f5, f6, f7, f8, f9, f10, f11, f12, f13, f14⟩ := HF.out
   exact hK (gh, (upd (upd s 6 (.pointer (some ⟨w.heap.size, 1, none⟩))) 7 (.slice Av nv cv))) _ ⟨g1, m0, gz0, gz1, q1, q2, q3, o1, o2, o3, f0, f1, f2, (fun _ => rfl), (fun _ => rfl), f5, f6, f7, f8, f9, f10, f11, f12, f13, f14⟩
  ·rintro L ⟨gh, s⟩ W hu hd hdn ⟨g1, m0, gz0, gz1, q1, q2, q3, o1, o2, o3, f0, f1, f2, f3, f4, f5, f6, f7, f8, f9, f10, f11, f12, f13, f14⟩ K Q hK
   try dsimp only at g1 m0 gz0 gz1 q1 q2 q3 o1 o2 o3 f0 f1 f2 f3 f4 f5 f6 f7 f8 f9 f10 f11 f12 f13 f14 ⊢
   have e2 := f2 (hd.at_ 2 rfl)
   have e4 := f4 (hd.at_ 4 rfl)
   have h15 : L 15 = false := by
    cases hc : L 15 with
    | false => rfl
    | true => exact hdn.no 15 5 hc rfl hu
   have h14 : L 14 = false := by
    cases hc : L 14 with
    | false => rfl
    | true => exact hdn.no 14 5 hc rfl hu
   have hWq : w.heap.size + 2 ≤ W.heap.size := (gz0 h15).lt
   have HWq := Lib.hid hWq
   clear hWq
   have HE := Lib.hid (q1 (hd.at_ 2 rfl) hu)
   have HG1 := Lib.hid g1
   have HF := Lib.hid (show (Below w.heap.size w W) ∧ (Blk W w.heap.size 26 #[.int .i64 m.fountains, .slice Av nv cv, .slice Aa na ca, .slice At nt ct]) ∧ (L 15 = false → Blk W (w.heap.size + 1) 26 #[.int .i64 0, .slice none 0 0, .slice none 0 0, .slice none 0 0]) ∧ (L 15 = true → Blk W (w.heap.size + 1) 26 #[.int .i64 m.fountains, .slice gh.A1 nv gh.c1, .slice gh.A2 na gh.c2, .slice gh.A3 nt gh.c3]) ∧ (L 2 = true → L 5 = false → Own W (w.heap.size + 2) 80 2 (some ⟨gh.e1, 0, none⟩) 0 0 []) ∧ (L 6 = true → L 9 = false → Own W (w.heap.size + 2) 67 4 (some ⟨gh.e2, 0, none⟩) 0 0 []) ∧ (L 10 = true → L 13 = false → Own W (w.heap.size + 2) 65 6 (some ⟨gh.e3, 0, none⟩) 0 0 []) ∧ (L 5 = true → Own W (w.heap.size + 2) 80 2 gh.A1 nv gh.c1 (m.vessels.flatMap Vess.vals)) ∧ (L 9 = true → Own W (w.heap.size + 2) 67 4 gh.A2 na gh.c2 (m.acts.flatMap MAct.vals)) ∧ (L 13 = true → Own W (w.heap.size + 2) 65 6 gh.A3 nt gh.c3 (m.tastes.flatMap Tast.vals)) ∧ (L 0 = true → s 3 = .pointer (some ⟨w.heap.size, 0, none⟩)) ∧ (L 1 = true → s 4 = .int .i64 m.fountains) ∧ (L 2 = true → s 5 = .slice (some ⟨gh.e1, 0, none⟩) 0 0) ∧ (L 3 = true → s 6 = .pointer (some ⟨w.heap.size, 1, none⟩)) ∧ (L 4 = true → s 7 = .slice Av nv cv) ∧ (L 5 = true → s 8 = .slice gh.A1 nv gh.c1) ∧ (L 6 = true → s 9 = .slice (some ⟨gh.e2, 0, none⟩) 0 0) ∧ (L 7 = true → s 10 = .pointer (some ⟨w.heap.size, 2, none⟩)) ∧ (L 8 = true → s 11 = .slice Aa na ca) ∧ (L 9 = true → s 12 = .slice gh.A2 na gh.c2) ∧ (L 10 = true → s 13 = .slice (some ⟨gh.e3, 0, none⟩) 0 0) ∧ (L 11 = true → s 14 = .pointer (some ⟨w.heap.size, 3, none⟩)) ∧ (L 12 = true → s 15 = .slice At nt ct) ∧ (L 13 = true → s 16 = .slice gh.A3 nt gh.c3) ∧ (L 14 = true → s 17 = .agg #[.int .i64 m.fountains, .slice gh.A1 nv gh.c1, .slice gh.A2 na gh.c2, .slice gh.A3 nt gh.c3]) from ⟨g1, m0, gz0, gz1, q1, q2, q3, o1, o2, o3, f0, f1, f2, f3, f4, f5, f6, f7, f8, f9, f10, f11, f12, f13, f14⟩)
   clear f14 f13 f12 f11 f10 f9 f8 f7 f6 f5 f4 f3 f2 f1 f0 o3 o2 o1 q3 q2 q1 gz1 gz0 m0 g1 hd
   try simp only at e2 e4 ⊢
   gi_wp2_with (first | (gi_at_builtin; refine wpListIn_append_fresh rfl (.tmp 5) (.tmp 7) (by rfl) elem_vess e2 HE.out e4 ((HM.out.at_.up HG1.out).vessels) (vess_one m.vessels) (by unfold maxLen; omega) (by omega) HWq.out ?_) | fail)
   rintro AN cN W1 hO hb hA
   gi_wp2
   obtain ⟨g1, m0, gz0, gz1, q1, q2, q3, o1, o2, o3, f0, f1, f2, f3, f4, f5, f6, f7, f8, f9, f10, f11, f12, f13, f14⟩ := HF.out
   exact hK ({ gh with A1 := AN, c1 := cN }, (upd (upd (upd s 5 (.slice (some ⟨gh.e1, 0, none⟩) 0 0)) 7 (.slice Av nv cv)) 8 (.slice AN nv cN))) _ ⟨(g1.trans (hb.mono g1.size)), (m0.below hb m0.lt), (fun h => (gz0 h).below hb (gz0 h).lt), (fun h => absurd (h15.symm.trans h) (by decide)), (fun _ h => by cases h), (fun h q => (q2 h q).below hb (Nat.le_refl _)), (fun h q => (q3 h q).below hb (Nat.le_refl _)), (fun _ => hO), (fun h => (o2 h).below hb (Nat.le_refl _)), (fun h => (o3 h).below hb (Nat.le_refl _)), f0, f1, (fun _ => rfl), f3, (fun _ => rfl), (fun _ => rfl), f6, f7, f8, f9, f10, f11, f12, f13, (fun h => absurd (h14.symm.trans h) (by decide))⟩
  ·rintro L ⟨gh, s⟩ W hu hd hdn ⟨g1, m0, gz0, gz1, q1, q2, q3, o1, o2, o3, f0, f1, f2, f3, f4, f5, f6, f7, f8, f9, f10, f11, f12, f13, f14⟩ K Q hK
   try dsimp only at g1 m0 gz0 gz1 q1 q2 q3 o1 o2 o3 f0 f1 f2 f3 f4 f5 f6 f7 f8 f9 f10 f11 f12 f13 f14 ⊢
   have h15 : L 15 = false := by
    cases hc : L 15 with
    | false => rfl
    | true => exact hdn.no 15 6 hc rfl hu
   have hWq : w.heap.size + 2 ≤ W.heap.size := (gz0 h15).lt
   have HWq := Lib.hid hWq
   clear hWq
   have HF := Lib.hid (show (Below w.heap.size w W) ∧ (Blk W w.heap.size 26 #[.int .i64 m.fountains, .slice Av nv cv, .slice Aa na ca, .slice At nt ct]) ∧ (L 15 = false → Blk W (w.heap.size + 1) 26 #[.int .i64 0, .slice none 0 0, .slice none 0 0, .slice none 0 0]) ∧ (L 15 = true → Blk W (w.heap.size + 1) 26 #[.int .i64 m.fountains, .slice gh.A1 nv gh.c1, .slice gh.A2 na gh.c2, .slice gh.A3 nt gh.c3]) ∧ (L 2 = true → L 5 = false → Own W (w.heap.size + 2) 80 2 (some ⟨gh.e1, 0, none⟩) 0 0 []) ∧ (L 6 = true → L 9 = false → Own W (w.heap.size + 2) 67 4 (some ⟨gh.e2, 0, none⟩) 0 0 []) ∧ (L 10 = true → L 13 = false → Own W (w.heap.size + 2) 65 6 (some ⟨gh.e3, 0, none⟩) 0 0 []) ∧ (L 5 = true → Own W (w.heap.size + 2) 80 2 gh.A1 nv gh.c1 (m.vessels.flatMap Vess.vals)) ∧ (L 9 = true → Own W (w.heap.size + 2) 67 4 gh.A2 na gh.c2 (m.acts.flatMap MAct.vals)) ∧ (L 13 = true → Own W (w.heap.size + 2) 65 6 gh.A3 nt gh.c3 (m.tastes.flatMap Tast.vals)) ∧ (L 0 = true → s 3 = .pointer (some ⟨w.heap.size, 0, none⟩)) ∧ (L 1 = true → s 4 = .int .i64 m.fountains) ∧ (L 2 = true → s 5 = .slice (some ⟨gh.e1, 0, none⟩) 0 0) ∧ (L 3 = true → s 6 = .pointer (some ⟨w.heap.size, 1, none⟩)) ∧ (L 4 = true → s 7 = .slice Av nv cv) ∧ (L 5 = true → s 8 = .slice gh.A1 nv gh.c1) ∧ (L 6 = true → s 9 = .slice (some ⟨gh.e2, 0, none⟩) 0 0) ∧ (L 7 = true → s 10 = .pointer (some ⟨w.heap.size, 2, none⟩)) ∧ (L 8 = true → s 11 = .slice Aa na ca) ∧ (L 9 = true → s 12 = .slice gh.A2 na gh.c2) ∧ (L 10 = true → s 13 = .slice (some ⟨gh.e3, 0, none⟩) 0 0) ∧ (L 11 = true → s 14 = .pointer (some ⟨w.heap.size, 3, none⟩)) ∧ (L 12 = true → s 15 = .slice At nt ct) ∧ (L 13 = true → s 16 = .slice gh.A3 nt gh.c3) ∧ (L 14 = true → s 17 = .agg #[.int .i64 m.fountains, .slice gh.A1 nv gh.c1, .slice gh.A2 na gh.c2, .slice gh.A3 nt gh.c3]) from ⟨g1, m0, gz0, gz1, q1, q2, q3, o1, o2, o3, f0, f1, f2, f3, f4, f5, f6, f7, f8, f9, f10, f11, f12, f13, f14⟩)
   clear f14 f13 f12 f11 f10 f9 f8 f7 f6 f5 f4 f3 f2 f1 f0 o3 o2 o1 q3 q2 q1 gz1 gz0 m0 g1 hd
   try simp only
   gi_wp2
   obtain ⟨g1, m0, gz0, gz1, q1, q2, q3, o1, o2, o3, f0, f1, f2, f3, f4, f5, f6, f7, f8, f9, f10, f11, f12, f13, f14⟩ := HF.out
   have hb : Below W.heap.size W (W.alloc (.cells #[] 67)) := (Below.refl _ _).alloc (Nat.le_refl _) _
   exact hK ({ gh with e2 := W.heap.size }, (upd s 9 (.slice (some ⟨W.heap.size, 0, none⟩) 0 0))) _ ⟨(g1.trans (hb.mono g1.size)), (m0.below hb m0.lt), (fun h => (gz0 h).below hb (gz0 h).lt), (fun h => (gz1 h).below hb (gz1 h).lt), (fun h q => (q1 h q).below hb (Nat.le_refl _)), (fun _ _ => World.ownsRow_made W #[] 0 HWq.out (Nat.zero_le _) (by simp)), (fun h q => (q3 h q).below hb (Nat.le_refl _)), (fun h => (o1 h).below hb (Nat.le_refl _)), (fun h => (o2 h).below hb (Nat.le_refl _)), (fun h => (o3 h).below hb (Nat.le_refl _)), f0, f1, f2, f3, f4, f5, (fun _ => rfl), f7, f8, f9, f10, f11, f12, f13, f14⟩
  ·rintro L ⟨gh, s⟩ W hu hd hdn ⟨g1, m0, gz0, gz1, q1, q2, q3, o1, o2, o3, f0, f1, f2, f3, f4, f5, f6, f7, f8, f9, f10, f11, f12, f13, f14⟩ K Q hK
   try dsimp only at g1 m0 gz0 gz1 q1 q2 q3 o1 o2 o3 f0 f1 f2 f3 f4 f5 f6 f7 f8 f9 f10 f11 f12 f13 f14 ⊢
   have HF := Lib.hid (show (Below w.heap.size w W) ∧ (Blk W w.heap.size 26 #[.int .i64 m.fountains, .slice Av nv cv, .slice Aa na ca, .slice At nt ct]) ∧ (L 15 = false → Blk W (w.heap.size + 1) 26 #[.int .i64 0, .slice none 0 0, .slice none 0 0, .slice none 0 0]) ∧ (L 15 = true → Blk W (w.heap.size + 1) 26 #[.int .i64 m.fountains, .slice gh.A1 nv gh.c1, .slice gh.A2 na gh.c2, .slice gh.A3 nt gh.c3]) ∧ (L 2 = true → L 5 = false → Own W (w.heap.size + 2) 80 2 (some ⟨gh.e1, 0, none⟩) 0 0 []) ∧ (L 6 = true → L 9 = false → Own W (w.heap.size + 2) 67 4 (some ⟨gh.e2, 0, none⟩) 0 0 []) ∧ (L 10 = true → L 13 = false → Own W (w.heap.size + 2) 65 6 (some ⟨gh.e3, 0, none⟩) 0 0 []) ∧ (L 5 = true → Own W (w.heap.size + 2) 80 2 gh.A1 nv gh.c1 (m.vessels.flatMap Vess.vals)) ∧ (L 9 = true → Own W (w.heap.size + 2) 67 4 gh.A2 na gh.c2 (m.acts.flatMap MAct.vals)) ∧ (L 13 = true → Own W (w.heap.size + 2) 65 6 gh.A3 nt gh.c3 (m.tastes.flatMap Tast.vals)) ∧ (L 0 = true → s 3 = .pointer (some ⟨w.heap.size, 0, none⟩)) ∧ (L 1 = true → s 4 = .int .i64 m.fountains) ∧ (L 2 = true → s 5 = .slice (some ⟨gh.e1, 0, none⟩) 0 0) ∧ (L 3 = true → s 6 = .pointer (some ⟨w.heap.size, 1, none⟩)) ∧ (L 4 = true → s 7 = .slice Av nv cv) ∧ (L 5 = true → s 8 = .slice gh.A1 nv gh.c1) ∧ (L 6 = true → s 9 = .slice (some ⟨gh.e2, 0, none⟩) 0 0) ∧ (L 7 = true → s 10 = .pointer (some ⟨w.heap.size, 2, none⟩)) ∧ (L 8 = true → s 11 = .slice Aa na ca) ∧ (L 9 = true → s 12 = .slice gh.A2 na gh.c2) ∧ (L 10 = true → s 13 = .slice (some ⟨gh.e3, 0, none⟩) 0 0) ∧ (L 11 = true → s 14 = .pointer (some ⟨w.heap.size, 3, none⟩)) ∧ (L 12 = true → s 15 = .slice At nt ct) ∧ (L 13 = true → s 16 = .slice gh.A3 nt gh.c3) ∧ (L 14 = true → s 17 = .agg #[.int .i64 m.fountains, .slice gh.A1 nv gh.c1, .slice gh.A2 na gh.c2, .slice gh.A3 nt gh.c3]) from ⟨g1, m0, gz0, gz1, q1, q2, q3, o1, o2, o3, f0, f1, f2, f3, f4, f5, f6, f7, f8, f9, f10, f11, f12, f13, f14⟩)
   clear f14 f13 f12 f11 f10 f9 f8 f7 f6 f5 f4 f3 f2 f1 f0 o3 o2 o1 q3 q2 q1 gz1 gz0 m0 g1 hd
   try simp only
   gi_wp2
   obtain ⟨g1, m0, gz0, gz1, q1, q2, q3, o1, o2, o3, f0, f1, f2, f3, f4, f5, f6, f7, f8, f9, f10, f11, f12, f13, f14⟩ := HF.out
   exact hK (gh, (upd s 10 (.pointer (some ⟨w.heap.size, 2, none⟩)))) _ ⟨g1, m0, gz0, gz1, q1, q2, q3, o1, o2, o3, f0, f1, f2, f3, f4, f5, f6, (fun _ => rfl), f8, f9, f10, f11, f12, f13, f14⟩
  ·rintro L ⟨gh, s⟩ W hu hd hdn ⟨g1, m0, gz0, gz1, q1, q2, q3, o1, o2, o3, f0, f1, f2, f3, f4, f5, f6, f7, f8, f9, f10, f11, f12, f13, f14⟩ K Q hK
   try dsimp only at g1 m0 gz0 gz1 q1 q2 q3 o1 o2 o3 f0 f1 f2 f3 f4 f5 f6 f7 f8 f9 f10 f11 f12 f13 f14 ⊢
   have e7 := f7 (hd.at_ 7 rfl)
   have c0 : W.cell? ⟨w.heap.size, 2, none⟩ = some (.slice Aa na ca) := m0.cell 2
   have HF := Lib.hid (show (Below w.heap.size w W) ∧ (Blk W w.heap.size 26 #[.int .i64 m.fountains, .slice Av nv cv, .slice Aa na ca, .slice At nt ct]) ∧ (L 15 = false → Blk W (w.heap.size + 1) 26 #[.int .i64 0, .slice none 0 0, .slice none 0 0, .slice none 0 0]) ∧ (L 15 = true → Blk W (w.heap.size + 1) 26 #[.int .i64 m.fountains, .slice gh.A1 nv gh.c1, .slice gh.A2 na gh.c2, .slice gh.A3 nt gh.c3]) ∧ (L 2 = true → L 5 = false → Own W (w.heap.size + 2) 80 2 (some ⟨gh.e1, 0, none⟩) 0 0 []) ∧ (L 6 = true → L 9 = false → Own W (w.heap.size + 2) 67 4 (some ⟨gh.e2, 0, none⟩) 0 0 []) ∧ (L 10 = true → L 13 = false → Own W (w.heap.size + 2) 65 6 (some ⟨gh.e3, 0, none⟩) 0 0 []) ∧ (L 5 = true → Own W (w.heap.size + 2) 80 2 gh.A1 nv gh.c1 (m.vessels.flatMap Vess.vals)) ∧ (L 9 = true → Own W (w.heap.size + 2) 67 4 gh.A2 na gh.c2 (m.acts.flatMap MAct.vals)) ∧ (L 13 = true → Own W (w.heap.size + 2) 65 6 gh.A3 nt gh.c3 (m.tastes.flatMap Tast.vals)) ∧ (L 0 = true → s 3 = .pointer (some ⟨w.heap.size, 0, none⟩)) ∧ (L 1 = true → s 4 = .int .i64 m.fountains) ∧ (L 2 = true → s 5 = .slice (some ⟨gh.e1, 0, none⟩) 0 0) ∧ (L 3 = true → s 6 = .pointer (some ⟨w.heap.size, 1, none⟩)) ∧ (L 4 = true → s 7 = .slice Av nv cv) ∧ (L 5 = true → s 8 = .slice gh.A1 nv gh.c1) ∧ (L 6 = true → s 9 = .slice (some ⟨gh.e2, 0, none⟩) 0 0) ∧ (L 7 = true → s 10 = .pointer (some ⟨w.heap.size, 2, none⟩)) ∧ (L 8 = true → s 11 = .slice Aa na ca) ∧ (L 9 = true → s 12 = .slice gh.A2 na gh.c2) ∧ (L 10 = true → s 13 = .slice (some ⟨gh.e3, 0, none⟩) 0 0) ∧ (L 11 = true → s 14 = .pointer (some ⟨w.heap.size, 3, none⟩)) ∧ (L 12 = true → s 15 = .slice At nt ct) ∧ (L 13 = true → s 16 = .slice gh.A3 nt gh.c3) ∧ (L 14 = true → s 17 = .agg #[.int .i64 m.fountains, .slice gh.A1 nv gh.c1, .slice gh.A2 na gh.c2, .slice gh.A3 nt gh.c3]) from ⟨g1, m0, gz0, gz1, q1, q2, q3, o1, o2, o3, f0, f1, f2, f3, f4, f5, f6, f7, f8, f9, f10, f11, f12, f13, f14⟩)
   clear f14 f13 f12 f11 f10 f9 f8 f7 f6 f5 f4 f3 f2 f1 f0 o3 o2 o1 q3 q2 q1 gz1 gz0 m0 g1 hd
   try simp only at e7 ⊢
   gi_wp2
   obtain ⟨g1, m0, gz0, gz1, q1, q2, q3, o1, o2, o3, f0, f1, f2, f3, f4, f5, f6, f7, f8, f9, f10, f11, f12, f13, f14⟩ := HF.out
   exact hK (gh, (upd (upd s 10 (.pointer (some ⟨w.heap.size, 2, none⟩))) 11 (.slice Aa na ca))) _ ⟨g1, m0, gz0, gz1, q1, q2, q3, o1, o2, o3, f0, f1, f2, f3, f4, f5, f6, (fun _ => rfl), (fun _ => rfl), f9, f10, f11, f12, f13, f14⟩
  ·rintro L ⟨gh, s⟩ W hu hd hdn ⟨g1, m0, gz0, gz1, q1, q2, q3, o1, o2, o3, f0, f1, f2, f3, f4, f5, f6, f7, f8, f9, f10, f11, f12, f13, f14⟩ K Q hK
   try dsimp only at g1 m0 gz0 gz1 q1 q2 q3 o1 o2 o3 f0 f1 f2 f3 f4 f5 f6 f7 f8 f9 f10 f11 f12 f13 f14 ⊢
   have e6 := f6 (hd.at_ 6 rfl)
   have e8 := f8 (hd.at_ 8 rfl)
   have h15 : L 15 = false := by
    cases hc : L 15 with
    | false => rfl
    | true => exact hdn.no 15 9 hc rfl hu
   have h14 : L 14 = false := by
    cases hc : L 14 with
    | false => rfl
    | true => exact hdn.no 14 9 hc rfl hu
   have hWq : w.heap.size + 2 ≤ W.heap.size := (gz0 h15).lt
   have HWq := Lib.hid hWq
   clear hWq
   have HE := Lib.hid (q2 (hd.at_ 6 rfl) hu)
   have HG1 := Lib.hid g1
   have HF := Lib.hid (show (Below w.heap.size w W) ∧ (Blk W w.heap.size 26 #[.int .i64 m.fountains, .slice Av nv cv, .slice Aa na ca, .slice At nt ct]) ∧ (L 15 = false → Blk W (w.heap.size + 1) 26 #[.int .i64 0, .slice none 0 0, .slice none 0 0, .slice none 0 0]) ∧ (L 15 = true → Blk W (w.heap.size + 1) 26 #[.int .i64 m.fountains, .slice gh.A1 nv gh.c1, .slice gh.A2 na gh.c2, .slice gh.A3 nt gh.c3]) ∧ (L 2 = true → L 5 = false → Own W (w.heap.size + 2) 80 2 (some ⟨gh.e1, 0, none⟩) 0 0 []) ∧ (L 6 = true → L 9 = false → Own W (w.heap.size + 2) 67 4 (some ⟨gh.e2, 0, none⟩) 0 0 []) ∧ (L 10 = true → L 13 = false → Own W (w.heap.size + 2) 65 6 (some ⟨gh.e3, 0, none⟩) 0 0 []) ∧ (L 5 = true → Own W (w.heap.size + 2) 80 2 gh.A1 nv gh.c1 (m.vessels.flatMap Vess.vals)) ∧ (L 9 = true → Own W (w.heap.size + 2) 67 4 gh.A2 na gh.c2 (m.acts.flatMap MAct.vals)) ∧ (L 13 = true → Own W (w.heap.size + 2) 65 6 gh.A3 nt gh.c3 (m.tastes.flatMap Tast.vals)) ∧ (L 0 = true → s 3 = .pointer (some ⟨w.heap.size, 0, none⟩)) ∧ (L 1 = true → s 4 = .int .i64 m.fountains) ∧ (L 2 = true → s 5 = .slice (some ⟨gh.e1, 0, none⟩) 0 0) ∧ (L 3 = true → s 6 = .pointer (some ⟨w.heap.size, 1, none⟩)) ∧ (L 4 = true → s 7 = .slice Av nv cv) ∧ (L 5 = true → s 8 = .slice gh.A1 nv gh.c1) ∧ (L 6 = true → s 9 = .slice (some ⟨gh.e2, 0, none⟩) 0 0) ∧ (L 7 = true → s 10 = .pointer (some ⟨w.heap.size, 2, none⟩)) ∧ (L 8 = true → s 11 = .slice Aa na ca) ∧ (L 9 = true → s 12 = .slice gh.A2 na gh.c2) ∧ (L 10 = true → s 13 = .slice (some ⟨gh.e3, 0, none⟩) 0 0) ∧ (L 11 = true → s 14 = .pointer (some ⟨w.heap.size, 3, none⟩)) ∧ (L 12 = true → s 15 = .slice At nt ct) ∧ (L 13 = true → s 16 = .slice gh.A3 nt gh.c3) ∧ (L 14 = true → s 17 = .agg #[.int .i64 m.fountains, .slice gh.A1 nv gh.c1, .slice gh.A2 na gh.c2, .slice gh.A3 nt gh.c3]) from ⟨g1, m0, gz0, gz1, q1, q2, q3, o1, o2, o3, f0, f1, f2, f3, f4, f5, f6, f7, f8, f9, f10, f11, f12, f13, f14⟩)
   clear f14 f13 f12 f11 f10 f9 f8 f7 f6 f5 f4 f3 f2 f1 f0 o3 o2 o1 q3 q2 q1 gz1 gz0 m0 g1 hd
   try simp only at e6 e8 ⊢
   gi_wp2_with (first | (gi_at_builtin; refine wpListIn_append_fresh rfl (.tmp 9) (.tmp 11) (by rfl) elem_act e6 HE.out e8 ((HM.out.at_.up HG1.out).acts) (act_one m.acts) (by unfold maxLen; omega) (by omega) HWq.out ?_) | fail)
   rintro AN cN W1 hO hb hA
   gi_wp2
   obtain ⟨g1, m0, gz0, gz1, q1, q2, q3, o1, o2, o3, f0, f1, f2, f3, f4, f5, f6, f7, f8, f9, f10, f11, f12, f13, f14⟩ := HF.out
   exact hK ({ gh with A2 := AN, c2 := cN }, (upd (upd (upd s 9 (.slice (some ⟨gh.e2, 0, none⟩) 0 0)) 11 (.slice Aa na ca)) 12 (.slice AN na cN))) _ ⟨(g1.trans (hb.mono g1.size)), (m0.below hb m0.lt), (fun h => (gz0 h).below hb (gz0 h).lt), (fun h => absurd (h15.symm.trans h) (by decide)), (fun h q => (q1 h q).below hb (Nat.le_refl _)), (fun _ h => by cases h), (fun h q => (q3 h q).below hb (Nat.le_refl _)), (fun h => (o1 h).below hb (Nat.le_refl _)), (fun _ => hO), (fun h => (o3 h).below hb (Nat.le_refl _)), f0, f1, f2, f3, f4, f5, (fun _ => rfl), f7, (fun _ => rfl), (fun _ => rfl), f10, f11, f12, f13, (fun h => absurd (h14.symm.trans h) (by decide))⟩
  ·rintro L ⟨gh, s⟩ W hu hd hdn ⟨g1, m0, gz0, gz1, q1, q2, q3, o1, o2, o3, f0, f1, f2, f3, f4, f5, f6, f7, f8, f9, f10, f11, f12, f13, f14⟩ K Q hK
   try dsimp only at g1 m0 gz0 gz1 q1 q2 q3 o1 o2 o3 f0 f1 f2 f3 f4 f5 f6 f7 f8 f9 f10 f11 f12 f13 f14 ⊢
   have h15 : L 15 = false := by
    cases hc : L 15 with
    | false => rfl
    | true => exact hdn.no 15 10 hc rfl hu
   have hWq : w.heap.size + 2 ≤ W.heap.size := (gz0 h15).lt
   have HWq := Lib.hid hWq
   clear hWq
   have HF := Lib.hid (show (Below w.heap.size w W) ∧ (Blk W w.heap.size 26 #[.int .i64 m.fountains, .slice Av nv cv, .slice Aa na ca, .slice At nt ct]) ∧ (L 15 = false → Blk W (w.heap.size + 1) 26 #[.int .i64 0, .slice none 0 0, .slice none 0 0, .slice none 0 0]) ∧ (L 15 = true → Blk W (w.heap.size + 1) 26 #[.int .i64 m.fountains, .slice gh.A1 nv gh.c1, .slice gh.A2 na gh.c2, .slice gh.A3 nt gh.c3]) ∧ (L 2 = true → L 5 = false → Own W (w.heap.size + 2) 80 2 (some ⟨gh.e1, 0, none⟩) 0 0 []) ∧ (L 6 = true → L 9 = false → Own W (w.heap.size + 2) 67 4 (some ⟨gh.e2, 0, none⟩) 0 0 []) ∧ (L 10 = true → L 13 = false → Own W (w.heap.size + 2) 65 6 (some ⟨gh.e3, 0, none⟩) 0 0 []) ∧ (L 5 = true → Own W (w.heap.size + 2) 80 2 gh.A1 nv gh.c1 (m.vessels.flatMap Vess.vals)) ∧ (L 9 = true → Own W (w.heap.size + 2) 67 4 gh.A2 na gh.c2 (m.acts.flatMap MAct.vals)) ∧ (L 13 = true → Own W (w.heap.size + 2) 65 6 gh.A3 nt gh.c3 (m.tastes.flatMap Tast.vals)) ∧ (L 0 = true → s 3 = .pointer (some ⟨w.heap.size, 0, none⟩)) ∧ (L 1 = true → s 4 = .int .i64 m.fountains) ∧ (L 2 = true → s 5 = .slice (some ⟨gh.e1, 0, none⟩) 0 0) ∧ (L 3 = true → s 6 = .pointer (some ⟨w.heap.size, 1, none⟩)) ∧ (L 4 = true → s 7 = .slice Av nv cv) ∧ (L 5 = true → s 8 = .slice gh.A1 nv gh.c1) ∧ (L 6 = true → s 9 = .slice (some ⟨gh.e2, 0, none⟩) 0 0) ∧ (L 7 = true → s 10 = .pointer (some ⟨w.heap.size, 2, none⟩)) ∧ (L 8 = true → s 11 = .slice Aa na ca) ∧ (L 9 = true → s 12 = .slice gh.A2 na gh.c2) ∧ (L 10 = true → s 13 = .slice (some ⟨gh.e3, 0, none⟩) 0 0) ∧ (L 11 = true → s 14 = .pointer (some ⟨w.heap.size, 3, none⟩)) ∧ (L 12 = true → s 15 = .slice At nt ct) ∧ (L 13 = true → s 16 = .slice gh.A3 nt gh.c3) ∧ (L 14 = true → s 17 = .agg #[.int .i64 m.fountains, .slice gh.A1 nv gh.c1, .slice gh.A2 na gh.c2, .slice gh.A3 nt gh.c3]) from ⟨g1, m0, gz0, gz1, q1, q2, q3, o1, o2, o3, f0, f1, f2, f3, f4, f5, f6, f7, f8, f9, f10, f11, f12, f13, f14⟩)
   clear f14 f13 f12 f11 f10 f9 f8 f7 f6 f5 f4 f3 f2 f1 f0 o3 o2 o1 q3 q2 q1 gz1 gz0 m0 g1 hd
   try simp only
   gi_wp2
   obtain ⟨g1, m0, gz0, gz1, q1, q2, q3, o1, o2, o3, f0, f1, f2, f3, f4, f5, f6, f7, f8, f9, f10, f11, f12, f13, f14⟩ := HF.out
   have hb : Below W.heap.size W (W.alloc (.cells #[] 65)) := (Below.refl _ _).alloc (Nat.le_refl _) _
   exact hK ({ gh with e3 := W.heap.size }, (upd s 13 (.slice (some ⟨W.heap.size, 0, none⟩) 0 0))) _ ⟨(g1.trans (hb.mono g1.size)), (m0.below hb m0.lt), (fun h => (gz0 h).below hb (gz0 h).lt), (fun h => (gz1 h).below hb (gz1 h).lt), (fun h q => (q1 h q).below hb (Nat.le_refl _)), (fun h q => (q2 h q).below hb (Nat.le_refl _)), (fun _ _ => World.ownsRow_made W #[] 0 HWq.out (Nat.zero_le _) (by simp)), (fun h => (o1 h).below hb (Nat.le_refl _)), (fun h => (o2 h).below hb (Nat.le_refl _)), (fun h => (o3 h).below hb (Nat.le_refl _)), f0, f1, f2, f3, f4, f5, f6, f7, f8, f9, (fun _ => rfl), f11, f12, f13, f14⟩
  ·rintro L ⟨gh, s⟩ W hu hd hdn ⟨g1, m0, gz0, gz1, q1, q2, q3, o1, o2, o3, f0, f1, f2, f3, f4, f5, f6, f7, f8, f9, f10, f11, f12, f13, f14⟩ K Q hK
   try dsimp only at g1 m0 gz0 gz1 q1 q2 q3 o1 o2 o3 f0 f1 f2 f3 f4 f5 f6 f7 f8 f9 f10 f11 f12 f13 f14 ⊢
   have HF := Lib.hid (show (Below w.heap.size w W) ∧ (Blk W w.heap.size 26 #[.int .i64 m.fountains, .slice Av nv cv, .slice Aa na ca, .slice At nt ct]) ∧ (L 15 = false → Blk W (w.heap.size + 1) 26 #[.int .i64 0, .slice none 0 0, .slice none 0 0, .slice none 0 0]) ∧ (L 15 = true → Blk W (w.heap.size + 1) 26 #[.int .i64 m.fountains, .slice gh.A1 nv gh.c1, .slice gh.A2 na gh.c2, .slice gh.A3 nt gh.c3]) ∧ (L 2 = true → L 5 = false → Own W (w.heap.size + 2) 80 2 (some ⟨gh.e1, 0, none⟩) 0 0 []) ∧ (L 6 = true → L 9 = false → Own W (w.heap.size + 2) 67 4 (some ⟨gh.e2, 0, none⟩) 0 0 []) ∧ (L 10 = true → L 13 = false → Own W (w.heap.size + 2) 65 6 (some ⟨gh.e3, 0, none⟩) 0 0 []) ∧ (L 5 = true → Own W (w.heap.size + 2) 80 2 gh.A1 nv gh.c1 (m.vessels.flatMap Vess.vals)) ∧ (L 9 = true → Own W (w.heap.size + 2) 67 4 gh.A2 na gh.c2 (m.acts.flatMap MAct.vals)) ∧ (L 13 = true → Own W (w.heap.size + 2) 65 6 gh.A3 nt gh.c3 (m.tastes.flatMap Tast.vals)) ∧ (L 0 = true → s 3 = .pointer (some ⟨w.heap.size, 0, none⟩)) ∧ (L 1 = true → s 4 = .int .i64 m.fountains) ∧ (L 2 = true → s 5 = .slice (some ⟨gh.e1, 0, none⟩) 0 0) ∧ (L 3 = true → s 6 = .pointer (some ⟨w.heap.size, 1, none⟩)) ∧ (L 4 = true → s 7 = .slice Av nv cv) ∧ (L 5 = true → s 8 = .slice gh.A1 nv gh.c1) ∧ (L 6 = true → s 9 = .slice (some ⟨gh.e2, 0, none⟩) 0 0) ∧ (L 7 = true → s 10 = .pointer (some ⟨w.heap.size, 2, none⟩)) ∧ (L 8 = true → s 11 = .slice Aa na ca) ∧ (L 9 = true → s 12 = .slice gh.A2 na gh.c2) ∧ (L 10 = true → s 13 = .slice (some ⟨gh.e3, 0, none⟩) 0 0) ∧ (L 11 = true → s 14 = .pointer (some ⟨w.heap.size, 3, none⟩)) ∧ (L 12 = true → s 15 = .slice At nt ct) ∧ (L 13 = true → s 16 = .slice gh.A3 nt gh.c3) ∧ (L 14 = true → s 17 = .agg #[.int .i64 m.fountains, .slice gh.A1 nv gh.c1, .slice gh.A2 na gh.c2, .slice gh.A3 nt gh.c3]) from ⟨g1, m0, gz0, gz1, q1, q2, q3, o1, o2, o3, f0, f1, f2, f3, f4, f5, f6, f7, f8, f9, f10, f11, f12, f13, f14⟩)
   clear f14 f13 f12 f11 f10 f9 f8 f7 f6 f5 f4 f3 f2 f1 f0 o3 o2 o1 q3 q2 q1 gz1 gz0 m0 g1 hd
   try simp only
   gi_wp2
   obtain ⟨g1, m0, gz0, gz1, q1, q2, q3, o1, o2, o3, f0, f1, f2, f3, f4, f5, f6, f7, f8, f9, f10, f11, f12, f13, f14⟩ := HF.out
   exact hK (gh, (upd s 14 (.pointer (some ⟨w.heap.size, 3, none⟩)))) _ ⟨g1, m0, gz0, gz1, q1, q2, q3, o1, o2, o3, f0, f1, f2, f3, f4, f5, f6, f7, f8, f9, f10, (fun _ => rfl), f12, f13, f14⟩
  ·rintro L ⟨gh, s⟩ W hu hd hdn ⟨g1, m0, gz0, gz1, q1, q2, q3, o1, o2, o3, f0, f1, f2, f3, f4, f5, f6, f7, f8, f9, f10, f11, f12, f13, f14⟩ K Q hK
   try dsimp only at g1 m0 gz0 gz1 q1 q2 q3 o1 o2 o3 f0 f1 f2 f3 f4 f5 f6 f7 f8 f9 f10 f11 f12 f13 f14 ⊢
   have e11 := f11 (hd.at_ 11 rfl)
   have c0 : W.cell? ⟨w.heap.size, 3, none⟩ = some (.slice At nt ct) := m0.cell 3
   have HF := Lib.hid (show (Below w.heap.size w W) ∧ (Blk W w.heap.size 26 #[.int .i64 m.fountains, .slice Av nv cv, .slice Aa na ca, .slice At nt ct]) ∧ (L 15 = false → Blk W (w.heap.size + 1) 26 #[.int .i64 0, .slice none 0 0, .slice none 0 0, .slice none 0 0]) ∧ (L 15 = true → Blk W (w.heap.size + 1) 26 #[.int .i64 m.fountains, .slice gh.A1 nv gh.c1, .slice gh.A2 na gh.c2, .slice gh.A3 nt gh.c3]) ∧ (L 2 = true → L 5 = false → Own W (w.heap.size + 2) 80 2 (some ⟨gh.e1, 0, none⟩) 0 0 []) ∧ (L 6 = true → L 9 = false → Own W (w.heap.size + 2) 67 4 (some ⟨gh.e2, 0, none⟩) 0 0 []) ∧ (L 10 = true → L 13 = false → Own W (w.heap.size + 2) 65 6 (some ⟨gh.e3, 0, none⟩) 0 0 []) ∧ (L 5 = true → Own W (w.heap.size + 2) 80 2 gh.A1 nv gh.c1 (m.vessels.flatMap Vess.vals)) ∧ (L 9 = true → Own W (w.heap.size + 2) 67 4 gh.A2 na gh.c2 (m.acts.flatMap MAct.vals)) ∧ (L 13 = true → Own W (w.heap.size + 2) 65 6 gh.A3 nt gh.c3 (m.tastes.flatMap Tast.vals)) ∧ (L 0 = true → s 3 = .pointer (some ⟨w.heap.size, 0, none⟩)) ∧ (L 1 = true → s 4 = .int .i64 m.fountains) ∧ (L 2 = true → s 5 = .slice (some ⟨gh.e1, 0, none⟩) 0 0) ∧ (L 3 = true → s 6 = .pointer (some ⟨w.heap.size, 1, none⟩)) ∧ (L 4 = true → s 7 = .slice Av nv cv) ∧ (L 5 = true → s 8 = .slice gh.A1 nv gh.c1) ∧ (L 6 = true → s 9 = .slice (some ⟨gh.e2, 0, none⟩) 0 0) ∧ (L 7 = true → s 10 = .pointer (some ⟨w.heap.size, 2, none⟩)) ∧ (L 8 = true → s 11 = .slice Aa na ca) ∧ (L 9 = true → s 12 = .slice gh.A2 na gh.c2) ∧ (L 10 = true → s 13 = .slice (some ⟨gh.e3, 0, none⟩) 0 0) ∧ (L 11 = true → s 14 = .pointer (some ⟨w.heap.size, 3, none⟩)) ∧ (L 12 = true → s 15 = .slice At nt ct) ∧ (L 13 = true → s 16 = .slice gh.A3 nt gh.c3) ∧ (L 14 = true → s 17 = .agg #[.int .i64 m.fountains, .slice gh.A1 nv gh.c1, .slice gh.A2 na gh.c2, .slice gh.A3 nt gh.c3]) from ⟨g1, m0, gz0, gz1, q1, q2, q3, o1, o2, o3, f0, f1, f2, f3, f4, f5, f6, f7, f8, f9, f10, f11, f12, f13, f14⟩)
   clear f14 f13 f12 f11 f10 f9 f8 f7 f6 f5 f4 f3 f2 f1 f0 o3 o2 o1 q3 q2 q1 gz1 gz0 m0 g1 hd
   try simp only at e11 ⊢
   gi_wp2
   obtain ⟨g1, m0, gz0, gz1, q1, q2, q3, o1, o2, o3, f0, f1, f2, f3, f4, f5, f6, f7, f8, f9, f10, f11, f12, f13, f14⟩ := HF.out
   exact hK (gh, (upd (upd s 14 (.pointer (some ⟨w.heap.size, 3, none⟩))) 15 (.slice At nt ct))) _ ⟨g1, m0, gz0, gz1, q1, q2, q3, o1, o2, o3, f0, f1, f2, f3, f4, f5, f6, f7, f8, f9, f10, (fun _ => rfl), (fun _ => rfl), f13, f14⟩
  ·rintro L ⟨gh, s⟩ W hu hd hdn ⟨g1, m0, gz0, gz1, q1, q2, q3, o1, o2, o3, f0, f1, f2, f3, f4, f5, f6, f7, f8, f9, f10, f11, f12, f13, f14⟩ K Q hK
   try dsimp only at g1 m0 gz0 gz1 q1 q2 q3 o1 o2 o3 f0 f1 f2 f3 f4 f5 f6 f7 f8 f9 f10 f11 f12 f13 f14 ⊢
   have e10 := f10 (hd.at_ 10 rfl)
   have e12 := f12 (hd.at_ 12 rfl)
   have h15 : L 15 = false := by
    cases hc : L 15 with
    | false => rfl
    | true => exact hdn.no 15 13 hc rfl hu
   have h14 : L 14 = false := by
    cases hc : L 14 with
    | false => rfl
    | true => exact hdn.no 14 13 hc rfl hu
   have hWq : w.heap.size + 2 ≤ W.heap.size := (gz0 h15).lt
   have HWq := Lib.hid hWq
   clear hWq
   have HE := Lib.hid (q3 (hd.at_ 10 rfl) hu)
   have HG1 := Lib.hid g1
   have HF := Lib.hid (show (Below w.heap.size w W) ∧ (Blk W w.heap.size 26 #[.int .i64 m.fountains, .slice Av nv cv, .slice Aa na ca, .slice At nt ct]) ∧ (L 15 = false → Blk W (w.heap.size + 1) 26 #[.int .i64 0, .slice none 0 0, .slice none 0 0, .slice none 0 0]) ∧ (L 15 = true → Blk W (w.heap.size + 1) 26 #[.int .i64 m.fountains, .slice gh.A1 nv gh.c1, .slice gh.A2 na gh.c2, .slice gh.A3 nt gh.c3]) ∧ (L 2 = true → L 5 = false → Own W (w.heap.size + 2) 80 2 (some ⟨gh.e1, 0, none⟩) 0 0 []) ∧ (L 6 = true → L 9 = false → Own W (w.heap.size + 2) 67 4 (some ⟨gh.e2, 0, none⟩) 0 0 []) ∧ (L 10 = true → L 13 = false → Own W (w.heap.size + 2) 65 6 (some ⟨gh.e3, 0, none⟩) 0 0 []) ∧ (L 5 = true → Own W (w.heap.size + 2) 80 2 gh.A1 nv gh.c1 (m.vessels.flatMap Vess.vals)) ∧ (L 9 = true → Own W (w.heap.size + 2) 67 4 gh.A2 na gh.c2 (m.acts.flatMap MAct.vals)) ∧ (L 13 = true → Own W (w.heap.size + 2) 65 6 gh.A3 nt gh.c3 (m.tastes.flatMap Tast.vals)) ∧ (L 0 = true → s 3 = .pointer (some ⟨w.heap.size, 0, none⟩)) ∧ (L 1 = true → s 4 = .int .i64 m.fountains) ∧ (L 2 = true → s 5 = .slice (some ⟨gh.e1, 0, none⟩) 0 0) ∧ (L 3 = true → s 6 = .pointer (some ⟨w.heap.size, 1, none⟩)) ∧ (L 4 = true → s 7 = .slice Av nv cv) ∧ (L 5 = true → s 8 = .slice gh.A1 nv gh.c1) ∧ (L 6 = true → s 9 = .slice (some ⟨gh.e2, 0, none⟩) 0 0) ∧ (L 7 = true → s 10 = .pointer (some ⟨w.heap.size, 2, none⟩)) ∧ (L 8 = true → s 11 = .slice Aa na ca) ∧ (L 9 = true → s 12 = .slice gh.A2 na gh.c2) ∧ (L 10 = true → s 13 = .slice (some ⟨gh.e3, 0, none⟩) 0 0) ∧ (L 11 = true → s 14 = .pointer (some ⟨w.heap.size, 3, none⟩)) ∧ (L 12 = true → s 15 = .slice At nt ct) ∧ (L 13 = true → s 16 = .slice gh.A3 nt gh.c3) ∧ (L 14 = true → s 17 = .agg #[.int .i64 m.fountains, .slice gh.A1 nv gh.c1, .slice gh.A2 na gh.c2, .slice gh.A3 nt gh.c3]) from ⟨g1, m0, gz0, gz1, q1, q2, q3, o1, o2, o3, f0, f1, f2, f3, f4, f5, f6, f7, f8, f9, f10, f11, f12, f13, f14⟩)
   clear f14 f13 f12 f11 f10 f9 f8 f7 f6 f5 f4 f3 f2 f1 f0 o3 o2 o1 q3 q2 q1 gz1 gz0 m0 g1 hd
   try simp only at e10 e12 ⊢
   gi_wp2_with (first | (gi_at_builtin; refine wpListIn_append_fresh rfl (.tmp 13) (.tmp 15) (by rfl) elem_tast e10 HE.out e12 ((HM.out.at_.up HG1.out).tastes) (tast_one m.tastes) (by unfold maxLen; omega) (by omega) HWq.out ?_) | fail)
   rintro AN cN W1 hO hb hA
   gi_wp2
   obtain ⟨g1, m0, gz0, gz1, q1, q2, q3, o1, o2, o3, f0, f1, f2, f3, f4, f5, f6, f7, f8, f9, f10, f11, f12, f13, f14⟩ := HF.out
   exact hK ({ gh with A3 := AN, c3 := cN }, (upd (upd (upd s 13 (.slice (some ⟨gh.e3, 0, none⟩) 0 0)) 15 (.slice At nt ct)) 16 (.slice AN nt cN))) _ ⟨(g1.trans (hb.mono g1.size)), (m0.below hb m0.lt), (fun h => (gz0 h).below hb (gz0 h).lt), (fun h => absurd (h15.symm.trans h) (by decide)), (fun h q => (q1 h q).below hb (Nat.le_refl _)), (fun h q => (q2 h q).below hb (Nat.le_refl _)), (fun _ h => by cases h), (fun h => (o1 h).below hb (Nat.le_refl _)), (fun h => (o2 h).below hb (Nat.le_refl _)), (fun _ => hO), f0, f1, f2, f3, f4, f5, f6, f7, f8, f9, (fun _ => rfl), f11, (fun _ => rfl), (fun _ => rfl), (fun h => absurd (h14.symm.trans h) (by decide))⟩
  ·rintro L ⟨gh, s⟩ W hu hd hdn ⟨g1, m0, gz0, gz1, q1, q2, q3, o1, o2, o3, f0, f1, f2, f3, f4, f5, f6, f7, f8, f9, f10, f11, f12, f13, f14⟩ K Q hK
   try dsimp only at g1 m0 gz0 gz1 q1 q2 q3 o1 o2 o3 f0 f1 f2 f3 f4 f5 f6 f7 f8 f9 f10 f11 f12 f13 f14 ⊢
   have e1 := f1 (hd.at_ 1 rfl)
   have e5 := f5 (hd.at_ 5 rfl)
   have e9 := f9 (hd.at_ 9 rfl)
   have e13 := f13 (hd.at_ 13 rfl)
   have HF := Lib.hid (show (Below w.heap.size w W) ∧ (Blk W w.heap.size 26 #[.int .i64 m.fountains, .slice Av nv cv, .slice Aa na ca, .slice At nt ct]) ∧ (L 15 = false → Blk W (w.heap.size + 1) 26 #[.int .i64 0, .slice none 0 0, .slice none 0 0, .slice none 0 0]) ∧ (L 15 = true → Blk W (w.heap.size + 1) 26 #[.int .i64 m.fountains, .slice gh.A1 nv gh.c1, .slice gh.A2 na gh.c2, .slice gh.A3 nt gh.c3]) ∧ (L 2 = true → L 5 = false → Own W (w.heap.size + 2) 80 2 (some ⟨gh.e1, 0, none⟩) 0 0 []) ∧ (L 6 = true → L 9 = false → Own W (w.heap.size + 2) 67 4 (some ⟨gh.e2, 0, none⟩) 0 0 []) ∧ (L 10 = true → L 13 = false → Own W (w.heap.size + 2) 65 6 (some ⟨gh.e3, 0, none⟩) 0 0 []) ∧ (L 5 = true → Own W (w.heap.size + 2) 80 2 gh.A1 nv gh.c1 (m.vessels.flatMap Vess.vals)) ∧ (L 9 = true → Own W (w.heap.size + 2) 67 4 gh.A2 na gh.c2 (m.acts.flatMap MAct.vals)) ∧ (L 13 = true → Own W (w.heap.size + 2) 65 6 gh.A3 nt gh.c3 (m.tastes.flatMap Tast.vals)) ∧ (L 0 = true → s 3 = .pointer (some ⟨w.heap.size, 0, none⟩)) ∧ (L 1 = true → s 4 = .int .i64 m.fountains) ∧ (L 2 = true → s 5 = .slice (some ⟨gh.e1, 0, none⟩) 0 0) ∧ (L 3 = true → s 6 = .pointer (some ⟨w.heap.size, 1, none⟩)) ∧ (L 4 = true → s 7 = .slice Av nv cv) ∧ (L 5 = true → s 8 = .slice gh.A1 nv gh.c1) ∧ (L 6 = true → s 9 = .slice (some ⟨gh.e2, 0, none⟩) 0 0) ∧ (L 7 = true → s 10 = .pointer (some ⟨w.heap.size, 2, none⟩)) ∧ (L 8 = true → s 11 = .slice Aa na ca) ∧ (L 9 = true → s 12 = .slice gh.A2 na gh.c2) ∧ (L 10 = true → s 13 = .slice (some ⟨gh.e3, 0, none⟩) 0 0) ∧ (L 11 = true → s 14 = .pointer (some ⟨w.heap.size, 3, none⟩)) ∧ (L 12 = true → s 15 = .slice At nt ct) ∧ (L 13 = true → s 16 = .slice gh.A3 nt gh.c3) ∧ (L 14 = true → s 17 = .agg #[.int .i64 m.fountains, .slice gh.A1 nv gh.c1, .slice gh.A2 na gh.c2, .slice gh.A3 nt gh.c3]) from ⟨g1, m0, gz0, gz1, q1, q2, q3, o1, o2, o3, f0, f1, f2, f3, f4, f5, f6, f7, f8, f9, f10, f11, f12, f13, f14⟩)
   clear f14 f13 f12 f11 f10 f9 f8 f7 f6 f5 f4 f3 f2 f1 f0 o3 o2 o1 q3 q2 q1 gz1 gz0 m0 g1 hd
   try simp only at e1 e5 e9 e13 ⊢
   gi_wp2
   obtain ⟨g1, m0, gz0, gz1, q1, q2, q3, o1, o2, o3, f0, f1, f2, f3, f4, f5, f6, f7, f8, f9, f10, f11, f12, f13, f14⟩ := HF.out
   exact hK (gh, (upd (upd (upd (upd (upd s 4 (.int .i64 m.fountains)) 8 (.slice gh.A1 nv gh.c1)) 12 (.slice gh.A2 na gh.c2)) 16 (.slice gh.A3 nt gh.c3)) 17 (.agg #[.int .i64 m.fountains, .slice gh.A1 nv gh.c1, .slice gh.A2 na gh.c2, .slice gh.A3 nt gh.c3]))) _ ⟨g1, m0, gz0, gz1, q1, q2, q3, o1, o2, o3, f0, (fun _ => rfl), f2, f3, f4, (fun _ => rfl), f6, f7, f8, (fun _ => rfl), f10, f11, f12, (fun _ => rfl), (fun _ => rfl)⟩
  ·rintro L ⟨gh, s⟩ W hu hd hdn ⟨g1, m0, gz0, gz1, q1, q2, q3, o1, o2, o3, f0, f1, f2, f3, f4, f5, f6, f7, f8, f9, f10, f11, f12, f13, f14⟩ K Q hK
   try dsimp only at g1 m0 gz0 gz1 q1 q2 q3 o1 o2 o3 f0 f1 f2 f3 f4 f5 f6 f7 f8 f9 f10 f11 f12 f13 f14 ⊢
   have e14 := f14 (hd.at_ 14 rfl)
   have MB := gz0 hu
   have y0 := MB.cell 0
   have z0 := MB.frozen 0
   have y1 := MB.cell 1
   have z1 := MB.frozen 1
   have y2 := MB.cell 2
   have z2 := MB.frozen 2
   have y3 := MB.cell 3
   have z3 := MB.frozen 3
   have rl := MB.lt
   have HMB := Lib.hid MB
   clear MB
   have HD5 := Lib.hid (hd.at_ 5 rfl)
   have HD9 := Lib.hid (hd.at_ 9 rfl)
   have HD13 := Lib.hid (hd.at_ 13 rfl)
   have HF := Lib.hid (show (Below w.heap.size w W) ∧ (Blk W w.heap.size 26 #[.int .i64 m.fountains, .slice Av nv cv, .slice Aa na ca, .slice At nt ct]) ∧ (L 15 = false → Blk W (w.heap.size + 1) 26 #[.int .i64 0, .slice none 0 0, .slice none 0 0, .slice none 0 0]) ∧ (L 15 = true → Blk W (w.heap.size + 1) 26 #[.int .i64 m.fountains, .slice gh.A1 nv gh.c1, .slice gh.A2 na gh.c2, .slice gh.A3 nt gh.c3]) ∧ (L 2 = true → L 5 = false → Own W (w.heap.size + 2) 80 2 (some ⟨gh.e1, 0, none⟩) 0 0 []) ∧ (L 6 = true → L 9 = false → Own W (w.heap.size + 2) 67 4 (some ⟨gh.e2, 0, none⟩) 0 0 []) ∧ (L 10 = true → L 13 = false → Own W (w.heap.size + 2) 65 6 (some ⟨gh.e3, 0, none⟩) 0 0 []) ∧ (L 5 = true → Own W (w.heap.size + 2) 80 2 gh.A1 nv gh.c1 (m.vessels.flatMap Vess.vals)) ∧ (L 9 = true → Own W (w.heap.size + 2) 67 4 gh.A2 na gh.c2 (m.acts.flatMap MAct.vals)) ∧ (L 13 = true → Own W (w.heap.size + 2) 65 6 gh.A3 nt gh.c3 (m.tastes.flatMap Tast.vals)) ∧ (L 0 = true → s 3 = .pointer (some ⟨w.heap.size, 0, none⟩)) ∧ (L 1 = true → s 4 = .int .i64 m.fountains) ∧ (L 2 = true → s 5 = .slice (some ⟨gh.e1, 0, none⟩) 0 0) ∧ (L 3 = true → s 6 = .pointer (some ⟨w.heap.size, 1, none⟩)) ∧ (L 4 = true → s 7 = .slice Av nv cv) ∧ (L 5 = true → s 8 = .slice gh.A1 nv gh.c1) ∧ (L 6 = true → s 9 = .slice (some ⟨gh.e2, 0, none⟩) 0 0) ∧ (L 7 = true → s 10 = .pointer (some ⟨w.heap.size, 2, none⟩)) ∧ (L 8 = true → s 11 = .slice Aa na ca) ∧ (L 9 = true → s 12 = .slice gh.A2 na gh.c2) ∧ (L 10 = true → s 13 = .slice (some ⟨gh.e3, 0, none⟩) 0 0) ∧ (L 11 = true → s 14 = .pointer (some ⟨w.heap.size, 3, none⟩)) ∧ (L 12 = true → s 15 = .slice At nt ct) ∧ (L 13 = true → s 16 = .slice gh.A3 nt gh.c3) ∧ (L 14 = true → s 17 = .agg #[.int .i64 m.fountains, .slice gh.A1 nv gh.c1, .slice gh.A2 na gh.c2, .slice gh.A3 nt gh.c3]) from ⟨g1, m0, gz0, gz1, q1, q2, q3, o1, o2, o3, f0, f1, f2, f3, f4, f5, f6, f7, f8, f9, f10, f11, f12, f13, f14⟩)
   clear f14 f13 f12 f11 f10 f9 f8 f7 f6 f5 f4 f3 f2 f1 f0 o3 o2 o1 q3 q2 q1 gz1 gz0 m0 g1 hd
   try simp only at e14 ⊢
   gi_wp2
   obtain ⟨g1, m0, gz0, gz1, q1, q2, q3, o1, o2, o3, f0, f1, f2, f3, f4, f5, f6, f7, f8, f9, f10, f11, f12, f13, f14⟩ := HF.out
   have R4 := ret4' HMB.out (Below.refl (w.heap.size + 1) W) (Nat.le_refl _) (.int .i64 m.fountains) (.slice gh.A1 nv gh.c1) (.slice gh.A2 na gh.c2) (.slice gh.A3 nt gh.c3)
   have hne : ∀ {e : TypeId} {size n cap : Nat} {A : Option Addr} {xs : List Value}, Own W (w.heap.size + 2) e size A n cap xs → ∀ a, A = some a → some a.block ≠ some (w.heap.size + 1) := fun ho a ha e => by have := (ho.lt ha).1; have := Option.some.inj e; omega
   exact hK (gh, (upd s 17 (.agg #[.int .i64 m.fountains, .slice gh.A1 nv gh.c1, .slice gh.A2 na gh.c2, .slice gh.A3 nt gh.c3]))) _ ⟨(g1.trans (R4.2.1.mono (by omega))), (m0.grown R4.2.2 (by simp)), (fun h => by cases h), (fun _ => R4.1), (fun _ h => absurd (HD5.out.symm.trans h) (by decide)), (fun _ h => absurd (HD9.out.symm.trans h) (by decide)), (fun _ h => absurd (HD13.out.symm.trans h) (by decide)), (fun h => (o1 h).grown R4.2.2 (hne (o1 h))), (fun h => (o2 h).grown R4.2.2 (hne (o2 h))), (fun h => (o3 h).grown R4.2.2 (hne (o3 h))), f0, f1, f2, f3, f4, f5, f6, f7, f8, f9, f10, f11, f12, f13, (fun _ => rfl)⟩
 ·rintro L ⟨gh, s⟩ W hall ⟨g1, m0, gz0, gz1, q1, q2, q3, o1, o2, o3, f0, f1, f2, f3, f4, f5, f6, f7, f8, f9, f10, f11, f12, f13, f14⟩
  have GO1 := Lib.hid (o1 (hall 5 (by decide)))
  have GO2 := Lib.hid (o2 (hall 9 (by decide)))
  have GO3 := Lib.hid (o3 (hall 13 (by decide)))
  have GZ := Lib.hid (gz1 (hall 15 (by decide)))
  have G1 := Lib.hid g1
  clear f14 f13 f12 f11 f10 f9 f8 f7 f6 f5 f4 f3 f2 f1 f0 o3 o2 o1 q3 q2 q1 gz1 gz0 m0 g1 hall
  simp only
  gi_wp2
  have v0 := GZ.out.cell 0
  have v1 := GZ.out.cell 1
  have v2 := GZ.out.cell 2
  have v3 := GZ.out.cell 3
  refine bodyPost_ret (v := .agg #[.int .i64 m.fountains, .slice gh.A1 nv gh.c1, .slice gh.A2 na gh.c2, .slice gh.A3 nt gh.c3]) (by simp [results, Try.results8, go_sem, v0, v1, v2, v3]) rfl ?_
  exact ⟨gh.A1, gh.c1, gh.A2, gh.c2, gh.A3, gh.c3, rfl, ⟨GO1.out.mono (by omega), GO2.out.mono (by omega), GO3.out.mono (by omega)⟩, G1.out⟩

end Go.Proofs.Ythofngceiecniaa
