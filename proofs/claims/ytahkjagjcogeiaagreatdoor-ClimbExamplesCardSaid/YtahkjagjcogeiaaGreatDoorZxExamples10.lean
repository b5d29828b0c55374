/- Part 10 of the texts of this claim, joined. -/
import Derived.Sort.CutIn
import Derived.Lib.AppendZeros
import Derived.Shelf.Spec.SlicesInsert
import Derived.Lib.Overlaps
import Derived.Test.YtahkjagjcogeiaaGreatDoorZxExamples9
set_option linter.unusedVariables false
/- alive: the chapter's examples, walked. -/
namespace Go.Proofs.YtahkjagjcogeiaaGreatDoor
section
open Go.RowKit Go.Shelf
set_option maxRecDepth 100000 in
set_option maxHeartbeats 16000000 in
theorem alive_in (w : World) (hL : Laid w) : CallsIn Fence.wide 9 Tryz.prog 13 #[] w fun e w' => e = .returned (.bool true) ∧ Below w.heap.size w w' := by
 have HL := lh hL
 have hl0 := hL.2.2.2
 clear hL
 have Ly := lh (Lay.nil w)
 refine callsIn_of_wp Tryz.func13 rfl trivial ?_ rfl
 simp only [Tryz.ntmps13, List.size_toArray, List.length_nil, Nat.reduceSub, Array.replicate_succ, Array.replicate_zero, List.push_toArray, List.append_toArray, List.nil_append, List.cons_append]
 gi_wp2
 refine ⟨trivial, (callsIn_wide.2 (town_any w)).mono ?_⟩
 rintro e W1 ⟨g, g2, rfl, ht, hb⟩
 replace Ly := lyb Ly hb
 clear hb
 have HTn := lh ht
 clear ht
 gi_wp2
 refine ⟨trivial, (callsIn_wide.2 (wayl_any (some ⟨g, 0, none⟩) 4 4 (some ⟨g2, 0, none⟩) 4 4 exT 1 4 false W1 (by omega) (by omega) HTn.out (HL.out.below Ly.out.bel hl0))).mono ?_⟩
 rintro e W2 ⟨AA, nAA, cAA, rfl, hi, hb⟩
 replace Ly := lyb Ly hb
 replace HTn := lh ((HTn.out.below hb).more hb.size)
 clear hb
 rw [ex_way.1] at hi
 rw [ex_way.2]
 obtain rfl : nAA = 3 := by have := hi.len; simpa using this.symm
 have HA := lh hi
 clear hi
 clear HTn
 gi_wp2
 refine ⟨trivial, (callsIn_wide.2 (town_any W2)).mono ?_⟩
 rintro e W3 ⟨g, g2, rfl, ht, hb⟩
 replace Ly := lyb Ly hb
 replace HA := iu HA hb
 clear hb
 have HTn := lh ht
 clear ht
 gi_wp2
 refine ⟨trivial, (callsIn_wide.2 (toilw_any (some ⟨g, 0, none⟩) 4 4 (some ⟨g2, 0, none⟩) 4 4 exT 1 4 false W3 (by omega) (by omega) HTn.out (HL.out.below Ly.out.bel hl0))).mono ?_⟩
 rintro e W4 ⟨rfl, hb⟩
 replace Ly := lyb Ly hb
 replace HA := iu HA hb
 replace HTn := lh ((HTn.out.below hb).more hb.size)
 clear hb
 rw [ex_toil, ex_way.2]
 clear HTn
 gi_wp2
 obtain ⟨V5, hV⟩ : ∃ V, (W4.alloc (.cells #[.int .i64 20, .int .i64 140] 34)) = V := ⟨_, rfl⟩
 rw [hV]
 have hb := fbox_bel hV
 have hnew := fbox_blk hV
 have hge := Ly.out.bel.size
 replace Ly := lyb Ly hb
 replace HA := iu HA hb
 replace Ly := lh (Ly.out.add hge hnew)
 clear hnew hge hb hV
 obtain ⟨G6, hG⟩ : ∃ g, W4.heap.size = g := ⟨_, rfl⟩
 rw [hG] at Ly ⊢
 clear hG
 replace Ly := lh (show Lay w V5 [(G6, 34, #[.int .i64 20, .int .i64 140])] from Ly.out)
 refine ⟨trivial, (callsIn_wide.2 (town_any V5)).mono ?_⟩
 rintro e W7 ⟨g, g2, rfl, ht, hb⟩
 replace Ly := lyb Ly hb
 replace HA := iu HA hb
 clear hb
 have HTn := lh ht
 clear ht
 gi_wp2
 refine ⟨trivial, (callsIn_wide.2 (reach_any (some ⟨g, 0, none⟩) 4 4 (some ⟨g2, 0, none⟩) 4 4 exT 1 true W7 (by omega) (by omega) HTn.out (HL.out.below Ly.out.bel hl0))).mono ?_⟩
 rintro e W8 ⟨AB, nAB, cAB, rfl, hi, hb⟩
 replace Ly := lyb Ly hb
 replace HA := iu HA hb
 replace HTn := lh ((HTn.out.below hb).more hb.size)
 clear hb
 rw [ex_reach.1] at hi
 rw [ex_reach.2]
 obtain rfl : nAB = 2 := by have := hi.len; simpa using this.symm
 have HB := lh hi
 clear hi
 clear HTn
 obtain ⟨x0_0, x0_1⟩ := lyc2 Ly 0 rfl
 have l0_ := Ly.out.lt 0 rfl
 gi_wp2
 clear x0_0 x0_1 l0_
 refine ⟨trivial, (callsIn_wide.2 (town_any W8)).mono ?_⟩
 rintro e W9 ⟨g, g2, rfl, ht, hb⟩
 replace Ly := lyb Ly hb
 replace HA := iu HA hb
 replace HB := iu HB hb
 clear hb
 have HTn := lh ht
 clear ht
 gi_wp2
 obtain ⟨V10, hV⟩ : ∃ V, (W9.alloc (.cells #[.int .i64 1, .int .i64 3] 3)) = V := ⟨_, rfl⟩
 rw [hV]
 have hb := fbox_bel hV
 have hnew := fbox_blk hV
 have hge := Ly.out.bel.size
 replace Ly := lyb Ly hb
 replace HA := iu HA hb
 replace HB := iu HB hb
 replace HTn := lh ((HTn.out.below hb).more hb.size)
 replace Ly := lh (Ly.out.add hge hnew)
 clear hnew hge hb hV
 obtain ⟨G11, hG⟩ : ∃ g, W9.heap.size = g := ⟨_, rfl⟩
 rw [hG] at Ly ⊢
 clear hG
 replace Ly := lh (show Lay w V10 [(G6, 34, #[.int .i64 20, .int .i64 140]), (G11, 3, #[.int .i64 1, .int .i64 3])] from Ly.out)
 obtain ⟨x0_0, x0_1⟩ := lyc2 Ly 0 rfl
 have l0_ := Ly.out.lt 0 rfl
 gi_wp2
 clear x0_0 x0_1 l0_
 refine ⟨trivial, (callsIn_wide.2 (walk_any (some ⟨g, 0, none⟩) 4 4 (some ⟨g2, 0, none⟩) 4 4 exT 1 (some ⟨G11, 0, none⟩) 2 2 [1, 3] V10 (by omega) (by omega) (by omega) HTn.out (ints_blk2 [1, 3] (Ly.out.blk 1 rfl)) (HL.out.below Ly.out.bel hl0))).mono ?_⟩
 rintro e W12 ⟨rfl, hb⟩
 replace Ly := lyb Ly hb
 replace HA := iu HA hb
 replace HB := iu HB hb
 replace HTn := lh ((HTn.out.below hb).more hb.size)
 clear hb
 rw [ex_walk]
 clear HTn
 obtain ⟨x0_0, x0_1⟩ := lyc2 Ly 0 rfl
 have l0_ := Ly.out.lt 0 rfl
 gi_wp2
 clear x0_0 x0_1 l0_
 obtain ⟨V13, hV⟩ : ∃ V, (W12.alloc (.cells #[.int .i64 50, .int .i64 50] 34)) = V := ⟨_, rfl⟩
 rw [hV]
 have hb := fbox_bel hV
 have hnew := fbox_blk hV
 have hge := Ly.out.bel.size
 replace Ly := lyb Ly hb
 replace HA := iu HA hb
 replace HB := iu HB hb
 replace Ly := lh (Ly.out.add hge hnew)
 clear hnew hge hb hV
 obtain ⟨G14, hG⟩ : ∃ g, W12.heap.size = g := ⟨_, rfl⟩
 rw [hG] at Ly ⊢
 clear hG
 replace Ly := lh (show Lay w V13 [(G6, 34, #[.int .i64 20, .int .i64 140]), (G11, 3, #[.int .i64 1, .int .i64 3]), (G14, 34, #[.int .i64 50, .int .i64 50])] from Ly.out)
 refine ⟨trivial, (callsIn_wide.2 (town_any V13)).mono ?_⟩
 rintro e W15 ⟨g, g2, rfl, ht, hb⟩
 replace Ly := lyb Ly hb
 replace HA := iu HA hb
 replace HB := iu HB hb
 clear hb
 have HTn := lh ht
 clear ht
 gi_wp2
 refine ⟨trivial, (callsIn_wide.2 (need_any (some ⟨g, 0, none⟩) 4 4 (some ⟨g2, 0, none⟩) 4 4 exT 1 4 false W15 (by omega) (by omega) HTn.out (HL.out.below Ly.out.bel hl0))).mono ?_⟩
 rintro e W16 ⟨AC, nAC, cAC, rfl, hi, hb⟩
 replace Ly := lyb Ly hb
 replace HA := iu HA hb
 replace HB := iu HB hb
 replace HTn := lh ((HTn.out.below hb).more hb.size)
 clear hb
 rw [ex_need] at hi
 rw [ex_way.2]
 obtain rfl : nAC = 1 := by have := hi.len; simpa using this.symm
 have HC := lh hi
 clear hi
 clear HTn
 obtain ⟨x0_0, x0_1⟩ := lyc2 Ly 0 rfl
 have l0_ := Ly.out.lt 0 rfl
 obtain ⟨x2_0, x2_1⟩ := lyc2 Ly 2 rfl
 have l2_ := Ly.out.lt 2 rfl
 gi_wp2
 clear x0_0 x0_1 l0_ x2_0 x2_1 l2_
 refine ⟨trivial, (callsIn_wide.2 (town_any W16)).mono ?_⟩
 rintro e W17 ⟨g, g2, rfl, ht, hb⟩
 replace Ly := lyb Ly hb
 replace HA := iu HA hb
 replace HB := iu HB hb
 replace HC := iu HC hb
 clear hb
 have HTn := lh ht
 clear ht
 gi_wp2
 refine ⟨trivial, (callsIn_wide.2 (gate_any (some ⟨g, 0, none⟩) 4 4 (some ⟨g2, 0, none⟩) 4 4 exT 1 4 false W17 (by omega) (by omega) HTn.out (HL.out.below Ly.out.bel hl0))).mono ?_⟩
 rintro e W18 ⟨AD, nAD, cAD, rfl, hi, hb⟩
 replace Ly := lyb Ly hb
 replace HA := iu HA hb
 replace HB := iu HB hb
 replace HC := iu HC hb
 replace HTn := lh ((HTn.out.below hb).more hb.size)
 clear hb
 rw [ex_gate] at hi
 rw [ex_way.2]
 obtain rfl : nAD = 1 := by have := hi.len; simpa using this.symm
 have HD := lh hi
 clear hi
 clear HTn
 obtain ⟨x0_0, x0_1⟩ := lyc2 Ly 0 rfl
 have l0_ := Ly.out.lt 0 rfl
 obtain ⟨x2_0, x2_1⟩ := lyc2 Ly 2 rfl
 have l2_ := Ly.out.lt 2 rfl
 gi_wp2
 clear x0_0 x0_1 l0_ x2_0 x2_1 l2_
 refine ⟨trivial, (callsIn_wide.2 (town_any W18)).mono ?_⟩
 rintro e W19 ⟨g, g2, rfl, ht, hb⟩
 replace Ly := lyb Ly hb
 replace HA := iu HA hb
 replace HB := iu HB hb
 replace HC := iu HC hb
 replace HD := iu HD hb
 clear hb
 have HTn := lh ht
 clear ht
 gi_wp2
 refine ⟨trivial, (callsIn_wide.2 (worst_any (some ⟨g, 0, none⟩) 4 4 (some ⟨g2, 0, none⟩) 4 4 exT 1 4 false W19 (by omega) (by omega) HTn.out (HL.out.below Ly.out.bel hl0))).mono ?_⟩
 rintro e W20 ⟨rfl, hb⟩
 replace Ly := lyb Ly hb
 replace HA := iu HA hb
 replace HB := iu HB hb
 replace HC := iu HC hb
 replace HD := iu HD hb
 replace HTn := lh ((HTn.out.below hb).more hb.size)
 clear hb
 rw [ex_worst]
 clear HTn
 obtain ⟨x0_0, x0_1⟩ := lyc2 Ly 0 rfl
 have l0_ := Ly.out.lt 0 rfl
 obtain ⟨x2_0, x2_1⟩ := lyc2 Ly 2 rfl
 have l2_ := Ly.out.lt 2 rfl
 gi_wp2
 clear x0_0 x0_1 l0_ x2_0 x2_1 l2_
 obtain ⟨V21, hV⟩ : ∃ V, (W20.alloc (.cells #[.int .i64 50, .int .i64 70] 34)) = V := ⟨_, rfl⟩
 rw [hV]
 have hb := fbox_bel hV
 have hnew := fbox_blk hV
 have hge := Ly.out.bel.size
 replace Ly := lyb Ly hb
 replace HA := iu HA hb
 replace HB := iu HB hb
 replace HC := iu HC hb
 replace HD := iu HD hb
 replace Ly := lh (Ly.out.add hge hnew)
 clear hnew hge hb hV
 obtain ⟨G22, hG⟩ : ∃ g, W20.heap.size = g := ⟨_, rfl⟩
 rw [hG] at Ly ⊢
 clear hG
 replace Ly := lh (show Lay w V21 [(G6, 34, #[.int .i64 20, .int .i64 140]), (G11, 3, #[.int .i64 1, .int .i64 3]), (G14, 34, #[.int .i64 50, .int .i64 50]), (G22, 34, #[.int .i64 50, .int .i64 70])] from Ly.out)
 refine ⟨trivial, (callsIn_wide.2 (town_any V21)).mono ?_⟩
 rintro e W23 ⟨g, g2, rfl, ht, hb⟩
 replace Ly := lyb Ly hb
 replace HA := iu HA hb
 replace HB := iu HB hb
 replace HC := iu HC hb
 replace HD := iu HD hb
 clear hb
 have HTn := lh ht
 clear ht
 gi_wp2
 obtain ⟨V24, hV⟩ : ∃ V, (W23.alloc (.cells #[.int .i64 2, .int .i64 3] 3)) = V := ⟨_, rfl⟩
 rw [hV]
 have hb := fbox_bel hV
 have hnew := fbox_blk hV
 have hge := Ly.out.bel.size
 replace Ly := lyb Ly hb
 replace HA := iu HA hb
 replace HB := iu HB hb
 replace HC := iu HC hb
 replace HD := iu HD hb
 replace HTn := lh ((HTn.out.below hb).more hb.size)
 replace Ly := lh (Ly.out.add hge hnew)
 clear hnew hge hb hV
 obtain ⟨G25, hG⟩ : ∃ g, W23.heap.size = g := ⟨_, rfl⟩
 rw [hG] at Ly ⊢
 clear hG
 replace Ly := lh (show Lay w V24 [(G6, 34, #[.int .i64 20, .int .i64 140]), (G11, 3, #[.int .i64 1, .int .i64 3]), (G14, 34, #[.int .i64 50, .int .i64 50]), (G22, 34, #[.int .i64 50, .int .i64 70]), (G25, 3, #[.int .i64 2, .int .i64 3])] from Ly.out)
 obtain ⟨x0_0, x0_1⟩ := lyc2 Ly 0 rfl
 have l0_ := Ly.out.lt 0 rfl
 obtain ⟨x2_0, x2_1⟩ := lyc2 Ly 2 rfl
 have l2_ := Ly.out.lt 2 rfl
 obtain ⟨x3_0, x3_1⟩ := lyc2 Ly 3 rfl
 have l3_ := Ly.out.lt 3 rfl
 gi_wp2
 clear x0_0 x0_1 l0_ x2_0 x2_1 l2_ x3_0 x3_1 l3_
 refine ⟨trivial, (callsIn_wide.2 (round_any (some ⟨g, 0, none⟩) 4 4 (some ⟨g2, 0, none⟩) 4 4 exT 1 (some ⟨G25, 0, none⟩) 2 2 [2, 3] false V24 (by omega) (by omega) (by omega) HTn.out (ints_blk2 [2, 3] (Ly.out.blk 4 rfl)) (HL.out.below Ly.out.bel hl0))).mono ?_⟩
 rintro e W26 ⟨AE, nAE, cAE, rfl, hi, hb⟩
 replace Ly := lyb Ly hb
 replace HA := iu HA hb
 replace HB := iu HB hb
 replace HC := iu HC hb
 replace HD := iu HD hb
 replace HTn := lh ((HTn.out.below hb).more hb.size)
 clear hb
 rw [ex_round.1] at hi ⊢
 rw [ex_round.2]
 obtain rfl : nAE = 2 := by have := hi.len; simpa using this.symm
 have HE := lh hi
 clear hi
 clear HTn
 obtain ⟨x0_0, x0_1⟩ := lyc2 Ly 0 rfl
 have l0_ := Ly.out.lt 0 rfl
 obtain ⟨x2_0, x2_1⟩ := lyc2 Ly 2 rfl
 have l2_ := Ly.out.lt 2 rfl
 obtain ⟨x3_0, x3_1⟩ := lyc2 Ly 3 rfl
 have l3_ := Ly.out.lt 3 rfl
 gi_wp2
 clear x0_0 x0_1 l0_ x2_0 x2_1 l2_ x3_0 x3_1 l3_
 obtain ⟨V27, hV⟩ : ∃ V, (W26.alloc (.cells #[.int .i64 20, .int .i64 150] 34)) = V := ⟨_, rfl⟩
 rw [hV]
 have hb := fbox_bel hV
 have hnew := fbox_blk hV
 have hge := Ly.out.bel.size
 replace Ly := lyb Ly hb
 replace HA := iu HA hb
 replace HB := iu HB hb
 replace HC := iu HC hb
 replace HD := iu HD hb
 replace HE := iu HE hb
 replace Ly := lh (Ly.out.add hge hnew)
 clear hnew hge hb hV
 obtain ⟨G28, hG⟩ : ∃ g, W26.heap.size = g := ⟨_, rfl⟩
 rw [hG] at Ly ⊢
 clear hG
 replace Ly := lh (show Lay w V27 [(G6, 34, #[.int .i64 20, .int .i64 140]), (G11, 3, #[.int .i64 1, .int .i64 3]), (G14, 34, #[.int .i64 50, .int .i64 50]), (G22, 34, #[.int .i64 50, .int .i64 70]), (G25, 3, #[.int .i64 2, .int .i64 3]), (G28, 34, #[.int .i64 20, .int .i64 150])] from Ly.out)
 obtain ⟨x0_0, x0_1⟩ := lyc2 Ly 0 rfl
 have l0_ := Ly.out.lt 0 rfl
 obtain ⟨x2_0, x2_1⟩ := lyc2 Ly 2 rfl
 have l2_ := Ly.out.lt 2 rfl
 obtain ⟨x3_0, x3_1⟩ := lyc2 Ly 3 rfl
 have l3_ := Ly.out.lt 3 rfl
 obtain ⟨x5_0, x5_1⟩ := lyc2 Ly 5 rfl
 have l5_ := Ly.out.lt 5 rfl
 gi_wp2
 clear x0_0 x0_1 l0_ x2_0 x2_1 l2_ x3_0 x3_1 l3_ x5_0 x5_1 l5_
 have hs20_140 := eqToil_same 20 140
 have hs50_50 := eqToil_same 50 50
 have hs50_70 := eqToil_same 50 70
 have hs20_150 := eqToil_same 20 150
 simp only [List.append_eq, List.cons_append, List.nil_append]
 refine Tr.wpIn_region_tree (G := Tr.Up) (V0 := V27) [([], [true, true], [2]), ([2], [], [3]), ([2, 3], [false, false, false, false, true, true, true, true, true, true, true], [11]), ([2, 3, 11], [false, false, false, false, false, false, false, false, false, false, false, false, true, true, true, true, true], [17]), ([2, 3, 11, 17], [], [18]), ([2, 3, 11, 17, 18], [false, false, false, false, false, false, false, false, false, false, false, false, false, false, false, false, false, false, false, true, true, true, true, true, true, true, true, true, true, true, true], [31]), ([2, 3, 11, 17, 18, 31], [false, false, false, false, false, false, false, false, false, false, false, false, false, false, false, false, false, false, false, false, false, false, false, false, false, false, false, false, false, false, false, false, true, true, true, true, true], [37]), ([2, 3, 11, 17, 18, 31, 37], [], [38]), ([2, 3, 11, 17, 18, 31, 37, 38], [false, false, false, false, false, false, false, false, false, false, false, false, false, false, false, false, false, false, false, false, false, false, false, false, false, false, false, false, false, false, false, false, false, false, false, false, false, false, false, true, true, true, true, true], [44]), ([2, 3, 11, 17, 18, 31, 37, 38, 44], [], [45]), ([2, 3, 11, 17, 18, 31, 37, 38, 44, 45], [false, false, false, false, false, false, false, false, false, false, false, false, false, false, false, false, false, false, false, false, false, false, false, false, false, false, false, false, false, false, false, false, false, false, false, false, false, false, false, false, false, false, false, false, false, false, true, true, true, true, true, true, true, true, true, true, true, true], [58]), ([2, 3, 11, 17, 18, 31, 37, 38, 44, 45, 58], [false, false, false, false, false, false, false, false, false, false, false, false, false, false, false, false, false, false, false, false, false, false, false, false, false, false, false, false, false, false, false, false, false, false, false, false, false, false, false, false, false, false, false, false, false, false, false, false, false, false, false, false, false, false, false, false, false, false, false, true, true, true, true, true], [64]), ([2, 3, 11, 17, 18, 31, 37, 38, 44, 45, 58, 64], [], [65]), ([2, 3, 11, 17, 18, 31, 37, 38, 44, 45, 58, 64, 65], [false, false, false, false, false, false, false, false, false, false, false, false, false, false, false, false, false, false, false, false, false, false, false, false, false, false, false, false, false, false, false, false, false, false, false, false, false, false, false, false, false, false, false, false, false, false, false, false, false, false, false, false, false, false, false, false, false, false, false, false, false, false, false, false, false, false, true, true, true, true], [70]), ([2, 3, 11, 17, 18, 31, 37, 38, 44, 45, 58, 64, 65, 70], [false, false, false, false, false, false, false, false, false, false, false, false, false, false, false, false, false, false, false, false, false, false, false, false, false, false, false, false, false, false, false, false, false, false, false, false, false, false, false, false, false, false, false, false, false, false, false, false, false, false, false, false, false, false, false, false, false, false, false, false, false, false, false, false, false, false, false, false, false, false, false, true, true], [])] 15 [] (by kernel_rfl) (by kernel_rfl) (by kernel_rfl) (below_drewN (Below.refl _ _) 1) ?_
 refine Tr.wpTree_one (A := ?AF1) rfl rfl ?hq1 ?_
 case hq1 =>
  rintro σ hσ of hof hcl
  have HOF := lh hof
  have HCL := lh hcl
  clear hof hcl
  obtain ⟨c0_, c1_⟩ := lyz2 Ly HOF 0 rfl
  obtain ⟨c2_, c3_⟩ := lyz2 Ly HOF 2 rfl
  obtain ⟨c4_, c5_⟩ := lyz2 Ly HOF 3 rfl
  obtain ⟨c6_, c7_⟩ := lyz2 Ly HOF 5 rfl
  have hfw := hfT
  simp only [pickB]
  repeat (gi_big_quiet_step (fail))
  refine wpQuietIn_nil ?_
  exact rfl
 intro W29 hW
 replace Ly := lyb Ly hW
 replace HA := iu HA hW
 replace HB := iu HB hW
 replace HC := iu HC hW
 replace HD := iu HD hW
 replace HE := iu HE hW
 clear hW
 gi_wp2
 have hup : Tr.Up W29 (W29.alloc (.cells #[.int .i64 2, .int .i64 3, .int .i64 4] 3)) := (Below.refl _ _).alloc (Nat.le_refl _) _
 first | refine ⟨trivial, hup, ?_⟩ | refine ⟨hup, ?_⟩
 clear hup
 obtain ⟨V30, hV⟩ : ∃ V, (W29.alloc (.cells #[.int .i64 2, .int .i64 3, .int .i64 4] 3)) = V := ⟨_, rfl⟩
 rw [hV]
 have hb := fbox_bel hV
 have hnew := fbox_blk hV
 have hge := Ly.out.bel.size
 replace Ly := lyb Ly hb
 replace HA := iu HA hb
 replace HB := iu HB hb
 replace HC := iu HC hb
 replace HD := iu HD hb
 replace HE := iu HE hb
 replace Ly := lh (Ly.out.add hge hnew)
 clear hnew hge hb hV
 obtain ⟨G31, hG⟩ : ∃ g, W29.heap.size = g := ⟨_, rfl⟩
 rw [hG] at Ly ⊢
 clear hG
 replace Ly := lh (show Lay w V30 [(G6, 34, #[.int .i64 20, .int .i64 140]), (G11, 3, #[.int .i64 1, .int .i64 3]), (G14, 34, #[.int .i64 50, .int .i64 50]), (G22, 34, #[.int .i64 50, .int .i64 70]), (G25, 3, #[.int .i64 2, .int .i64 3]), (G28, 34, #[.int .i64 20, .int .i64 150]), (G31, 3, #[.int .i64 2, .int .i64 3, .int .i64 4])] from Ly.out)
 refine Tr.wpTree_one (m := []) rfl rfl Gr.Quietly.none ?_
 intro W32 hW
 replace Ly := lyb Ly hW
 replace HA := iu HA hW
 replace HB := iu HB hW
 replace HC := iu HC hW
 replace HD := iu HD hW
 replace HE := iu HE hW
 clear hW
 gi_wp2
 refine ⟨trivial, (callsIn_wide.2 (is_any AA 3 cAA [2, 3, 4] 0 (some ⟨G31, 0, none⟩) 3 3 [2, 3, 4] W32 (by unfold maxLen; omega) (by unfold maxLen; omega) HA.out (ints_blk2 [2, 3, 4] (Ly.out.blk 6 rfl)))).mono ?_⟩
 rintro e W33 ⟨rfl, hb⟩
 replace Ly := lyb Ly hb
 replace HA := iu HA hb
 replace HB := iu HB hb
 replace HC := iu HC hb
 replace HD := iu HD hb
 replace HE := iu HE hb
 rw [show (decide ((0 : Int) = 0) && sameI [2, 3, 4] [2, 3, 4]) = true from by decide]
 gi_wp2
 first | refine ⟨trivial, hb, ?_⟩ | refine ⟨hb, ?_⟩
 clear hb
 refine Tr.wpTree_one (A := ?AF2) rfl rfl ?hq2 ?_
 case hq2 =>
  rintro σ hσ of hof hcl
  have HOF := lh hof
  have HCL := lh hcl
  clear hof hcl
  obtain ⟨c0_, c1_⟩ := lyz2 Ly HOF 0 rfl
  obtain ⟨c2_, c3_⟩ := lyz2 Ly HOF 2 rfl
  obtain ⟨c4_, c5_⟩ := lyz2 Ly HOF 3 rfl
  obtain ⟨c6_, c7_⟩ := lyz2 Ly HOF 5 rfl
  have hfw := hfT
  simp only [pickB]
  repeat (gi_big_quiet_step (fail))
  refine wpQuietIn_nil ?_
  exact rfl
 intro W34 hW
 replace Ly := lyb Ly hW
 replace HA := iu HA hW
 replace HB := iu HB hW
 replace HC := iu HC hW
 replace HD := iu HD hW
 replace HE := iu HE hW
 clear hW
 gi_wp2
 refine ⟨trivial, (callsIn_wide.2 (ltoil_any 20 140 W34)).mono ?_⟩
 rintro e W35 ⟨rfl, hb⟩
 replace Ly := lyb Ly hb
 replace HA := iu HA hb
 replace HB := iu HB hb
 replace HC := iu HC hb
 replace HD := iu HD hb
 replace HE := iu HE hb
 gi_wp2
 first | refine ⟨trivial, hb, ?_⟩ | refine ⟨hb, ?_⟩
 clear hb
 refine Tr.wpTree_one (A := ?AF3) rfl rfl ?hq3 ?_
 case hq3 =>
  rintro σ hσ of hof hcl
  have HOF := lh hof
  have HCL := lh hcl
  clear hof hcl
  obtain ⟨c0_, c1_⟩ := lyz2 Ly HOF 0 rfl
  obtain ⟨c2_, c3_⟩ := lyz2 Ly HOF 2 rfl
  obtain ⟨c4_, c5_⟩ := lyz2 Ly HOF 3 rfl
  obtain ⟨c6_, c7_⟩ := lyz2 Ly HOF 5 rfl
  have hfw := hfT
  simp only [pickB]
  repeat (gi_big_quiet_step (fail))
  refine wpQuietIn_nil ?_
  exact rfl
 intro W36 hW
 replace Ly := lyb Ly hW
 replace HA := iu HA hW
 replace HB := iu HB hW
 replace HC := iu HC hW
 replace HD := iu HD hW
 replace HE := iu HE hW
 clear hW
 gi_wp2
 have hup : Tr.Up W36 (W36.alloc (.cells #[.int .i64 1, .int .i64 3] 3)) := (Below.refl _ _).alloc (Nat.le_refl _) _
 first | refine ⟨trivial, hup, ?_⟩ | refine ⟨hup, ?_⟩
 clear hup
 obtain ⟨V37, hV⟩ : ∃ V, (W36.alloc (.cells #[.int .i64 1, .int .i64 3] 3)) = V := ⟨_, rfl⟩
 rw [hV]
 have hb := fbox_bel hV
 have hnew := fbox_blk hV
 have hge := Ly.out.bel.size
 replace Ly := lyb Ly hb
 replace HA := iu HA hb
 replace HB := iu HB hb
 replace HC := iu HC hb
 replace HD := iu HD hb
 replace HE := iu HE hb
 replace Ly := lh (Ly.out.add hge hnew)
 clear hnew hge hb hV
 obtain ⟨G38, hG⟩ : ∃ g, W36.heap.size = g := ⟨_, rfl⟩
 rw [hG] at Ly ⊢
 clear hG
 replace Ly := lh (show Lay w V37 [(G6, 34, #[.int .i64 20, .int .i64 140]), (G11, 3, #[.int .i64 1, .int .i64 3]), (G14, 34, #[.int .i64 50, .int .i64 50]), (G22, 34, #[.int .i64 50, .int .i64 70]), (G25, 3, #[.int .i64 2, .int .i64 3]), (G28, 34, #[.int .i64 20, .int .i64 150]), (G31, 3, #[.int .i64 2, .int .i64 3, .int .i64 4]), (G38, 3, #[.int .i64 1, .int .i64 3])] from Ly.out)
 refine Tr.wpTree_one (m := []) rfl rfl Gr.Quietly.none ?_
 intro W39 hW
 replace Ly := lyb Ly hW
 replace HA := iu HA hW
 replace HB := iu HB hW
 replace HC := iu HC hW
 replace HD := iu HD hW
 replace HE := iu HE hW
 clear hW
 gi_wp2
 refine ⟨trivial, (callsIn_wide.2 (is_any AB 2 cAB [1, 3] 0 (some ⟨G38, 0, none⟩) 2 2 [1, 3] W39 (by unfold maxLen; omega) (by unfold maxLen; omega) HB.out (ints_blk2 [1, 3] (Ly.out.blk 7 rfl)))).mono ?_⟩
 rintro e W40 ⟨rfl, hb⟩
 replace Ly := lyb Ly hb
 replace HA := iu HA hb
 replace HB := iu HB hb
 replace HC := iu HC hb
 replace HD := iu HD hb
 replace HE := iu HE hb
 rw [show (decide ((0 : Int) = 0) && sameI [1, 3] [1, 3]) = true from by decide]
 gi_wp2
 first | refine ⟨trivial, hb, ?_⟩ | refine ⟨hb, ?_⟩
 clear hb
 refine Tr.wpTree_one (A := ?AF4) rfl rfl ?hq4 ?_
 case hq4 =>
  rintro σ hσ of hof hcl
  have HOF := lh hof
  have HCL := lh hcl
  clear hof hcl
  obtain ⟨c0_, c1_⟩ := lyz2 Ly HOF 0 rfl
  obtain ⟨c2_, c3_⟩ := lyz2 Ly HOF 2 rfl
  obtain ⟨c4_, c5_⟩ := lyz2 Ly HOF 3 rfl
  obtain ⟨c6_, c7_⟩ := lyz2 Ly HOF 5 rfl
  have hfw := hfT
  simp only [pickB]
  repeat (gi_big_quiet_step (fail))
  refine wpQuietIn_nil ?_
  exact rfl
 intro W41 hW
 replace Ly := lyb Ly hW
 replace HA := iu HA hW
 replace HB := iu HB hW
 replace HC := iu HC hW
 replace HD := iu HD hW
 replace HE := iu HE hW
 clear hW
 gi_wp2
 refine ⟨trivial, (callsIn_wide.2 (ltoil_any 50 50 W41)).mono ?_⟩
 rintro e W42 ⟨rfl, hb⟩
 replace Ly := lyb Ly hb
 replace HA := iu HA hb
 replace HB := iu HB hb
 replace HC := iu HC hb
 replace HD := iu HD hb
 replace HE := iu HE hb
 gi_wp2
 first | refine ⟨trivial, hb, ?_⟩ | refine ⟨hb, ?_⟩
 clear hb
 refine Tr.wpTree_one (A := ?AF5) rfl rfl ?hq5 ?_
 case hq5 =>
  rintro σ hσ of hof hcl
  have HOF := lh hof
  have HCL := lh hcl
  clear hof hcl
  obtain ⟨c0_, c1_⟩ := lyz2 Ly HOF 0 rfl
  obtain ⟨c2_, c3_⟩ := lyz2 Ly HOF 2 rfl
  obtain ⟨c4_, c5_⟩ := lyz2 Ly HOF 3 rfl
  obtain ⟨c6_, c7_⟩ := lyz2 Ly HOF 5 rfl
  have hfw := hfT
  simp only [pickB]
  repeat (gi_big_quiet_step (fail))
  refine wpQuietIn_nil ?_
  exact rfl
 intro W43 hW
 replace Ly := lyb Ly hW
 replace HA := iu HA hW
 replace HB := iu HB hW
 replace HC := iu HC hW
 replace HD := iu HD hW
 replace HE := iu HE hW
 clear hW
 gi_wp2
 have hup : Tr.Up W43 (W43.alloc (.cells #[.int .i64 4] 3)) := (Below.refl _ _).alloc (Nat.le_refl _) _
 first | refine ⟨trivial, hup, ?_⟩ | refine ⟨hup, ?_⟩
 clear hup
 obtain ⟨V44, hV⟩ : ∃ V, (W43.alloc (.cells #[.int .i64 4] 3)) = V := ⟨_, rfl⟩
 rw [hV]
 have hb := fbox_bel hV
 have hnew := fbox_blk hV
 have hge := Ly.out.bel.size
 replace Ly := lyb Ly hb
 replace HA := iu HA hb
 replace HB := iu HB hb
 replace HC := iu HC hb
 replace HD := iu HD hb
 replace HE := iu HE hb
 replace Ly := lh (Ly.out.add hge hnew)
 clear hnew hge hb hV
 obtain ⟨G45, hG⟩ : ∃ g, W43.heap.size = g := ⟨_, rfl⟩
 rw [hG] at Ly ⊢
 clear hG
 replace Ly := lh (show Lay w V44 [(G6, 34, #[.int .i64 20, .int .i64 140]), (G11, 3, #[.int .i64 1, .int .i64 3]), (G14, 34, #[.int .i64 50, .int .i64 50]), (G22, 34, #[.int .i64 50, .int .i64 70]), (G25, 3, #[.int .i64 2, .int .i64 3]), (G28, 34, #[.int .i64 20, .int .i64 150]), (G31, 3, #[.int .i64 2, .int .i64 3, .int .i64 4]), (G38, 3, #[.int .i64 1, .int .i64 3]), (G45, 3, #[.int .i64 4])] from Ly.out)
 refine Tr.wpTree_one (m := []) rfl rfl Gr.Quietly.none ?_
 intro W46 hW
 replace Ly := lyb Ly hW
 replace HA := iu HA hW
 replace HB := iu HB hW
 replace HC := iu HC hW
 replace HD := iu HD hW
 replace HE := iu HE hW
 clear hW
 gi_wp2
 refine ⟨trivial, (callsIn_wide.2 (is_any AC 1 cAC [4] 0 (some ⟨G45, 0, none⟩) 1 1 [4] W46 (by unfold maxLen; omega) (by unfold maxLen; omega) HC.out (ints_blk2 [4] (Ly.out.blk 8 rfl)))).mono ?_⟩
 rintro e W47 ⟨rfl, hb⟩
 replace Ly := lyb Ly hb
 replace HA := iu HA hb
 replace HB := iu HB hb
 replace HC := iu HC hb
 replace HD := iu HD hb
 replace HE := iu HE hb
 rw [show (decide ((0 : Int) = 0) && sameI [4] [4]) = true from by decide]
 gi_wp2
 first | refine ⟨trivial, hb, ?_⟩ | refine ⟨hb, ?_⟩
 clear hb
 refine Tr.wpTree_one (A := ?AF6) rfl rfl ?hq6 ?_
 case hq6 =>
  rintro σ hσ of hof hcl
  have HOF := lh hof
  have HCL := lh hcl
  clear hof hcl
  obtain ⟨c0_, c1_⟩ := lyz2 Ly HOF 0 rfl
  obtain ⟨c2_, c3_⟩ := lyz2 Ly HOF 2 rfl
  obtain ⟨c4_, c5_⟩ := lyz2 Ly HOF 3 rfl
  obtain ⟨c6_, c7_⟩ := lyz2 Ly HOF 5 rfl
  have hfw := hfT
  simp only [pickB]
  repeat (gi_big_quiet_step (fail))
  refine wpQuietIn_nil ?_
  exact rfl
 intro W48 hW
 replace Ly := lyb Ly hW
 replace HA := iu HA hW
 replace HB := iu HB hW
 replace HC := iu HC hW
 replace HD := iu HD hW
 replace HE := iu HE hW
 clear hW
 gi_wp2
 have hup : Tr.Up W48 (W48.alloc (.cells #[.int .i64 2] 3)) := (Below.refl _ _).alloc (Nat.le_refl _) _
 first | refine ⟨trivial, hup, ?_⟩ | refine ⟨hup, ?_⟩
 clear hup
 obtain ⟨V49, hV⟩ : ∃ V, (W48.alloc (.cells #[.int .i64 2] 3)) = V := ⟨_, rfl⟩
 rw [hV]
 have hb := fbox_bel hV
 have hnew := fbox_blk hV
 have hge := Ly.out.bel.size
 replace Ly := lyb Ly hb
 replace HA := iu HA hb
 replace HB := iu HB hb
 replace HC := iu HC hb
 replace HD := iu HD hb
 replace HE := iu HE hb
 replace Ly := lh (Ly.out.add hge hnew)
 clear hnew hge hb hV
 obtain ⟨G50, hG⟩ : ∃ g, W48.heap.size = g := ⟨_, rfl⟩
 rw [hG] at Ly ⊢
 clear hG
 replace Ly := lh (show Lay w V49 [(G6, 34, #[.int .i64 20, .int .i64 140]), (G11, 3, #[.int .i64 1, .int .i64 3]), (G14, 34, #[.int .i64 50, .int .i64 50]), (G22, 34, #[.int .i64 50, .int .i64 70]), (G25, 3, #[.int .i64 2, .int .i64 3]), (G28, 34, #[.int .i64 20, .int .i64 150]), (G31, 3, #[.int .i64 2, .int .i64 3, .int .i64 4]), (G38, 3, #[.int .i64 1, .int .i64 3]), (G45, 3, #[.int .i64 4]), (G50, 3, #[.int .i64 2])] from Ly.out)
 refine Tr.wpTree_one (m := []) rfl rfl Gr.Quietly.none ?_
 intro W51 hW
 replace Ly := lyb Ly hW
 replace HA := iu HA hW
 replace HB := iu HB hW
 replace HC := iu HC hW
 replace HD := iu HD hW
 replace HE := iu HE hW
 clear hW
 gi_wp2
 refine ⟨trivial, (callsIn_wide.2 (is_any AD 1 cAD [2] 0 (some ⟨G50, 0, none⟩) 1 1 [2] W51 (by unfold maxLen; omega) (by unfold maxLen; omega) HD.out (ints_blk2 [2] (Ly.out.blk 9 rfl)))).mono ?_⟩
 rintro e W52 ⟨rfl, hb⟩
 replace Ly := lyb Ly hb
 replace HA := iu HA hb
 replace HB := iu HB hb
 replace HC := iu HC hb
 replace HD := iu HD hb
 replace HE := iu HE hb
 rw [show (decide ((0 : Int) = 0) && sameI [2] [2]) = true from by decide]
 gi_wp2
 first | refine ⟨trivial, hb, ?_⟩ | refine ⟨hb, ?_⟩
 clear hb
 refine Tr.wpTree_one (A := ?AF7) rfl rfl ?hq7 ?_
 case hq7 =>
  rintro σ hσ of hof hcl
  have HOF := lh hof
  have HCL := lh hcl
  clear hof hcl
  obtain ⟨c0_, c1_⟩ := lyz2 Ly HOF 0 rfl
  obtain ⟨c2_, c3_⟩ := lyz2 Ly HOF 2 rfl
  obtain ⟨c4_, c5_⟩ := lyz2 Ly HOF 3 rfl
  obtain ⟨c6_, c7_⟩ := lyz2 Ly HOF 5 rfl
  have hfw := hfT
  simp only [pickB]
  repeat (gi_big_quiet_step (fail))
  refine wpQuietIn_nil ?_
  exact rfl
 intro W53 hW
 replace Ly := lyb Ly hW
 replace HA := iu HA hW
 replace HB := iu HB hW
 replace HC := iu HC hW
 replace HD := iu HD hW
 replace HE := iu HE hW
 clear hW
 gi_wp2
 refine ⟨trivial, (callsIn_wide.2 (ltoil_any 50 70 W53)).mono ?_⟩
 rintro e W54 ⟨rfl, hb⟩
 replace Ly := lyb Ly hb
 replace HA := iu HA hb
 replace HB := iu HB hb
 replace HC := iu HC hb
 replace HD := iu HD hb
 replace HE := iu HE hb
 gi_wp2
 first | refine ⟨trivial, hb, ?_⟩ | refine ⟨hb, ?_⟩
 clear hb
 refine Tr.wpTree_one (A := ?AF8) rfl rfl ?hq8 ?_
 case hq8 =>
  rintro σ hσ of hof hcl
  have HOF := lh hof
  have HCL := lh hcl
  clear hof hcl
  obtain ⟨c0_, c1_⟩ := lyz2 Ly HOF 0 rfl
  obtain ⟨c2_, c3_⟩ := lyz2 Ly HOF 2 rfl
  obtain ⟨c4_, c5_⟩ := lyz2 Ly HOF 3 rfl
  obtain ⟨c6_, c7_⟩ := lyz2 Ly HOF 5 rfl
  have hfw := hfT
  simp only [pickB]
  repeat (gi_big_quiet_step (fail))
  refine wpQuietIn_nil ?_
  exact rfl
 intro W55 hW
 replace Ly := lyb Ly hW
 replace HA := iu HA hW
 replace HB := iu HB hW
 replace HC := iu HC hW
 replace HD := iu HD hW
 replace HE := iu HE hW
 clear hW
 gi_wp2
 have hup : Tr.Up W55 (W55.alloc (.cells #[.int .i64 3, .int .i64 2] 3)) := (Below.refl _ _).alloc (Nat.le_refl _) _
 first | refine ⟨trivial, hup, ?_⟩ | refine ⟨hup, ?_⟩
 clear hup
 obtain ⟨V56, hV⟩ : ∃ V, (W55.alloc (.cells #[.int .i64 3, .int .i64 2] 3)) = V := ⟨_, rfl⟩
 rw [hV]
 have hb := fbox_bel hV
 have hnew := fbox_blk hV
 have hge := Ly.out.bel.size
 replace Ly := lyb Ly hb
 replace HA := iu HA hb
 replace HB := iu HB hb
 replace HC := iu HC hb
 replace HD := iu HD hb
 replace HE := iu HE hb
 replace Ly := lh (Ly.out.add hge hnew)
 clear hnew hge hb hV
 obtain ⟨G57, hG⟩ : ∃ g, W55.heap.size = g := ⟨_, rfl⟩
 rw [hG] at Ly ⊢
 clear hG
 replace Ly := lh (show Lay w V56 [(G6, 34, #[.int .i64 20, .int .i64 140]), (G11, 3, #[.int .i64 1, .int .i64 3]), (G14, 34, #[.int .i64 50, .int .i64 50]), (G22, 34, #[.int .i64 50, .int .i64 70]), (G25, 3, #[.int .i64 2, .int .i64 3]), (G28, 34, #[.int .i64 20, .int .i64 150]), (G31, 3, #[.int .i64 2, .int .i64 3, .int .i64 4]), (G38, 3, #[.int .i64 1, .int .i64 3]), (G45, 3, #[.int .i64 4]), (G50, 3, #[.int .i64 2]), (G57, 3, #[.int .i64 3, .int .i64 2])] from Ly.out)
 refine Tr.wpTree_one (m := []) rfl rfl Gr.Quietly.none ?_
 intro W58 hW
 replace Ly := lyb Ly hW
 replace HA := iu HA hW
 replace HB := iu HB hW
 replace HC := iu HC hW
 replace HD := iu HD hW
 replace HE := iu HE hW
 clear hW
 gi_wp2
 refine ⟨trivial, (callsIn_wide.2 (is_any AE 2 cAE [3, 2] 0 (some ⟨G57, 0, none⟩) 2 2 [3, 2] W58 (by unfold maxLen; omega) (by unfold maxLen; omega) HE.out (ints_blk2 [3, 2] (Ly.out.blk 10 rfl)))).mono ?_⟩
 rintro e W59 ⟨rfl, hb⟩
 replace Ly := lyb Ly hb
 replace HA := iu HA hb
 replace HB := iu HB hb
 replace HC := iu HC hb
 replace HD := iu HD hb
 replace HE := iu HE hb
 rw [show (decide ((0 : Int) = 0) && sameI [3, 2] [3, 2]) = true from by decide]
 gi_wp2
 first | refine ⟨trivial, hb, ?_⟩ | refine ⟨hb, ?_⟩
 clear hb
 refine Tr.wpTree_one (A := ?AF9) rfl rfl ?hq9 ?_
 case hq9 =>
  rintro σ hσ of hof hcl
  have HOF := lh hof
  have HCL := lh hcl
  clear hof hcl
  obtain ⟨c0_, c1_⟩ := lyz2 Ly HOF 0 rfl
  obtain ⟨c2_, c3_⟩ := lyz2 Ly HOF 2 rfl
  obtain ⟨c4_, c5_⟩ := lyz2 Ly HOF 3 rfl
  obtain ⟨c6_, c7_⟩ := lyz2 Ly HOF 5 rfl
  have hfw := hfT
  simp only [pickB]
  repeat (gi_big_quiet_step (fail))
  refine wpQuietIn_nil ?_
  exact rfl
 intro W60 hW
 replace Ly := lyb Ly hW
 replace HA := iu HA hW
 replace HB := iu HB hW
 replace HC := iu HC hW
 replace HD := iu HD hW
 replace HE := iu HE hW
 clear hW
 gi_wp2
 refine ⟨trivial, (callsIn_wide.2 (ltoil_any 20 150 W60)).mono ?_⟩
 rintro e W61 ⟨rfl, hb⟩
 replace Ly := lyb Ly hb
 replace HA := iu HA hb
 replace HB := iu HB hb
 replace HC := iu HC hb
 replace HD := iu HD hb
 replace HE := iu HE hb
 gi_wp2
 first | refine ⟨trivial, hb, ?_⟩ | refine ⟨hb, ?_⟩
 clear hb
 refine Tr.wpTree_end (A := ?AF10) rfl ?hq10 ?_
 case hq10 =>
  rintro σ hσ of hof hcl
  have HOF := lh hof
  have HCL := lh hcl
  clear hof hcl
  obtain ⟨c0_, c1_⟩ := lyz2 Ly HOF 0 rfl
  obtain ⟨c2_, c3_⟩ := lyz2 Ly HOF 2 rfl
  obtain ⟨c4_, c5_⟩ := lyz2 Ly HOF 3 rfl
  obtain ⟨c6_, c7_⟩ := lyz2 Ly HOF 5 rfl
  have hfw := hfT
  simp only [pickB]
  repeat (gi_big_quiet_step (fail))
  refine wpQuietIn_nil ?_
  exact rfl
 intro W62 hW
 replace Ly := lyb Ly hW
 replace HA := iu HA hW
 replace HB := iu HB hW
 replace HC := iu HC hW
 replace HD := iu HD hW
 replace HE := iu HE hW
 clear hW
 simp only [pickB]
 refine wpT_nil ?_
 gi_wp2
 clear HA HB HC HD HE
 refine ⟨trivial, (callsIn_wide.2 (town_any W62)).mono ?_⟩
 rintro e W63 ⟨g, g2, rfl, ht, hb⟩
 replace Ly := lyb Ly hb
 clear hb
 have HTn := lh ht
 clear ht
 gi_wp2
 obtain ⟨V64, hV⟩ : ∃ V, (W63.alloc (.cells #[.int .i64 2, .int .i64 3] 3)) = V := ⟨_, rfl⟩
 rw [hV]
 have hb := fbox_bel hV
 have hnew := fbox_blk hV
 have hge := Ly.out.bel.size
 replace Ly := lyb Ly hb
 replace HTn := lh ((HTn.out.below hb).more hb.size)
 replace Ly := lh (Ly.out.add hge hnew)
 clear hnew hge hb hV
 obtain ⟨G65, hG⟩ : ∃ g, W63.heap.size = g := ⟨_, rfl⟩
 rw [hG] at Ly ⊢
 clear hG
 replace Ly := lh (show Lay w V64 [(G6, 34, #[.int .i64 20, .int .i64 140]), (G11, 3, #[.int .i64 1, .int .i64 3]), (G14, 34, #[.int .i64 50, .int .i64 50]), (G22, 34, #[.int .i64 50, .int .i64 70]), (G25, 3, #[.int .i64 2, .int .i64 3]), (G28, 34, #[.int .i64 20, .int .i64 150]), (G31, 3, #[.int .i64 2, .int .i64 3, .int .i64 4]), (G38, 3, #[.int .i64 1, .int .i64 3]), (G45, 3, #[.int .i64 4]), (G50, 3, #[.int .i64 2]), (G57, 3, #[.int .i64 3, .int .i64 2]), (G65, 3, #[.int .i64 2, .int .i64 3])] from Ly.out)
 gi_wp2
 refine ⟨trivial, (callsIn_wide.2 (order_any (some ⟨g, 0, none⟩) 4 4 (some ⟨g2, 0, none⟩) 4 4 exT 1 (some ⟨G65, 0, none⟩) 2 2 [2, 3] false V64 (by omega) (by omega) (by omega) HTn.out (ints_blk2 [2, 3] (Ly.out.blk 11 rfl)) (HL.out.below Ly.out.bel hl0))).mono ?_⟩
 rintro e W66 ⟨rfl, hb⟩
 replace Ly := lyb Ly hb
 replace HTn := lh ((HTn.out.below hb).more hb.size)
 clear hb
 rw [ex_order.1, ex_order.2]
 clear HTn
 gi_wp2
 obtain ⟨V67, hV⟩ : ∃ V, (W66.alloc (.cells #[.int .i64 20, .int .i64 220] 34)) = V := ⟨_, rfl⟩
 rw [hV]
 have hb := fbox_bel hV
 have hnew := fbox_blk hV
 have hge := Ly.out.bel.size
 replace Ly := lyb Ly hb
 replace Ly := lh (Ly.out.add hge hnew)
 clear hnew hge hb hV
 obtain ⟨G68, hG⟩ : ∃ g, W66.heap.size = g := ⟨_, rfl⟩
 rw [hG] at Ly ⊢
 clear hG
 replace Ly := lh (show Lay w V67 [(G6, 34, #[.int .i64 20, .int .i64 140]), (G11, 3, #[.int .i64 1, .int .i64 3]), (G14, 34, #[.int .i64 50, .int .i64 50]), (G22, 34, #[.int .i64 50, .int .i64 70]), (G25, 3, #[.int .i64 2, .int .i64 3]), (G28, 34, #[.int .i64 20, .int .i64 150]), (G31, 3, #[.int .i64 2, .int .i64 3, .int .i64 4]), (G38, 3, #[.int .i64 1, .int .i64 3]), (G45, 3, #[.int .i64 4]), (G50, 3, #[.int .i64 2]), (G57, 3, #[.int .i64 3, .int .i64 2]), (G65, 3, #[.int .i64 2, .int .i64 3]), (G68, 34, #[.int .i64 20, .int .i64 220])] from Ly.out)
 obtain ⟨x12_0, x12_1⟩ := lyc2 Ly 12 rfl
 have l12_ := Ly.out.lt 12 rfl
 gi_wp2
 clear x12_0 x12_1 l12_
 refine ⟨trivial, (callsIn_wide.2 (town_any V67)).mono ?_⟩
 rintro e W69 ⟨g, g2, rfl, ht, hb⟩
 replace Ly := lyb Ly hb
 clear hb
 have HTn := lh ht
 clear ht
 gi_wp2
 refine ⟨trivial, (callsIn_wide.2 (lskin_any W69)).mono ?_⟩
 rintro e W70 ⟨rfl, hb⟩
 replace Ly := lyb Ly hb
 replace HTn := lh ((HTn.out.below hb).more hb.size)
 clear hb
 gi_wp2
 obtain ⟨V71, hV⟩ : ∃ V, (W70.alloc (.cells #[.int .i64 2, .int .i64 3, .int .i64 4] 3)) = V := ⟨_, rfl⟩
 rw [hV]
 have hb := fbox_bel hV
 have hnew := fbox_blk hV
 have hge := Ly.out.bel.size
 replace Ly := lyb Ly hb
 replace HTn := lh ((HTn.out.below hb).more hb.size)
 replace Ly := lh (Ly.out.add hge hnew)
 clear hnew hge hb hV
 obtain ⟨G72, hG⟩ : ∃ g, W70.heap.size = g := ⟨_, rfl⟩
 rw [hG] at Ly ⊢
 clear hG
 replace Ly := lh (show Lay w V71 [(G6, 34, #[.int .i64 20, .int .i64 140]), (G11, 3, #[.int .i64 1, .int .i64 3]), (G14, 34, #[.int .i64 50, .int .i64 50]), (G22, 34, #[.int .i64 50, .int .i64 70]), (G25, 3, #[.int .i64 2, .int .i64 3]), (G28, 34, #[.int .i64 20, .int .i64 150]), (G31, 3, #[.int .i64 2, .int .i64 3, .int .i64 4]), (G38, 3, #[.int .i64 1, .int .i64 3]), (G45, 3, #[.int .i64 4]), (G50, 3, #[.int .i64 2]), (G57, 3, #[.int .i64 3, .int .i64 2]), (G65, 3, #[.int .i64 2, .int .i64 3]), (G68, 34, #[.int .i64 20, .int .i64 220]), (G72, 3, #[.int .i64 2, .int .i64 3, .int .i64 4])] from Ly.out)
 obtain ⟨x12_0, x12_1⟩ := lyc2 Ly 12 rfl
 have l12_ := Ly.out.lt 12 rfl
 gi_wp2
 clear x12_0 x12_1 l12_
 refine ⟨trivial, (callsIn_wide.2 (end_any (some ⟨g, 0, none⟩) 4 4 (some ⟨g2, 0, none⟩) 4 4 exT exS 1 (some ⟨G72, 0, none⟩) 3 3 [2, 3, 4] V71 (by omega) (by omega) (by omega) HTn.out (ints_blk2 [2, 3, 4] (Ly.out.blk 13 rfl)) (HL.out.below Ly.out.bel hl0))).mono ?_⟩
 rintro e W73 ⟨rfl, hb⟩
 replace Ly := lyb Ly hb
 replace HTn := lh ((HTn.out.below hb).more hb.size)
 clear hb
 rw [ex_end.1, ex_end.2]
 clear HTn
 obtain ⟨x12_0, x12_1⟩ := lyc2 Ly 12 rfl
 have l12_ := Ly.out.lt 12 rfl
 gi_wp2
 clear x12_0 x12_1 l12_
 obtain ⟨V74, hV⟩ : ∃ V, (W73.alloc (.cells #[.int .i64 660, .int .i64 860] 63)) = V := ⟨_, rfl⟩
 rw [hV]
 have hb := fbox_bel hV
 have hnew := fbox_blk hV
 have hge := Ly.out.bel.size
 replace Ly := lyb Ly hb
 replace Ly := lh (Ly.out.add hge hnew)
 clear hnew hge hb hV
 obtain ⟨G75, hG⟩ : ∃ g, W73.heap.size = g := ⟨_, rfl⟩
 rw [hG] at Ly ⊢
 clear hG
 replace Ly := lh (show Lay w V74 [(G6, 34, #[.int .i64 20, .int .i64 140]), (G11, 3, #[.int .i64 1, .int .i64 3]), (G14, 34, #[.int .i64 50, .int .i64 50]), (G22, 34, #[.int .i64 50, .int .i64 70]), (G25, 3, #[.int .i64 2, .int .i64 3]), (G28, 34, #[.int .i64 20, .int .i64 150]), (G31, 3, #[.int .i64 2, .int .i64 3, .int .i64 4]), (G38, 3, #[.int .i64 1, .int .i64 3]), (G45, 3, #[.int .i64 4]), (G50, 3, #[.int .i64 2]), (G57, 3, #[.int .i64 3, .int .i64 2]), (G65, 3, #[.int .i64 2, .int .i64 3]), (G68, 34, #[.int .i64 20, .int .i64 220]), (G72, 3, #[.int .i64 2, .int .i64 3, .int .i64 4]), (G75, 63, #[.int .i64 660, .int .i64 860])] from Ly.out)
 obtain ⟨x12_0, x12_1⟩ := lyc2 Ly 12 rfl
 have l12_ := Ly.out.lt 12 rfl
 obtain ⟨x14_0, x14_1⟩ := lyc2 Ly 14 rfl
 have l14_ := Ly.out.lt 14 rfl
 gi_wp2
 clear x12_0 x12_1 l12_ x14_0 x14_1 l14_
 refine ⟨trivial, (callsIn_wide.2 (town_any V74)).mono ?_⟩
 rintro e W76 ⟨g, g2, rfl, ht, hb⟩
 replace Ly := lyb Ly hb
 clear hb
 have HTn := lh ht
 clear ht
 gi_wp2
 refine ⟨trivial, (callsIn_wide.2 (lskin_any W76)).mono ?_⟩
 rintro e W77 ⟨rfl, hb⟩
 replace Ly := lyb Ly hb
 replace HTn := lh ((HTn.out.below hb).more hb.size)
 clear hb
 gi_wp2
 refine ⟨trivial, (callsIn_wide.2 (wet_any (some ⟨g, 0, none⟩) 4 4 (some ⟨g2, 0, none⟩) 4 4 exT exS 1 4 false W77 (by omega) (by omega) HTn.out (HL.out.below Ly.out.bel hl0))).mono ?_⟩
 rintro e W78 ⟨AF, nAF, cAF, rfl, hi, hb⟩
 replace Ly := lyb Ly hb
 replace HTn := lh ((HTn.out.below hb).more hb.size)
 clear hb
 rw [ex_wet] at hi ⊢
 obtain rfl : nAF = 2 := by have := hi.len; simpa using this.symm
 have HF := lh hi
 clear hi
 clear HTn
 obtain ⟨x12_0, x12_1⟩ := lyc2 Ly 12 rfl
 have l12_ := Ly.out.lt 12 rfl
 obtain ⟨x14_0, x14_1⟩ := lyc2 Ly 14 rfl
 have l14_ := Ly.out.lt 14 rfl
 gi_wp2
 clear x12_0 x12_1 l12_ x14_0 x14_1 l14_
 refine ⟨trivial, (callsIn_wide.2 (town_any W78)).mono ?_⟩
 rintro e W79 ⟨g, g2, rfl, ht, hb⟩
 replace Ly := lyb Ly hb
 replace HF := iu HF hb
 clear hb
 have HTn := lh ht
 clear ht
 gi_wp2
 refine ⟨trivial, (callsIn_wide.2 (lgait_any W79)).mono ?_⟩
 rintro e W80 ⟨rfl, hb⟩
 replace Ly := lyb Ly hb
 replace HF := iu HF hb
 replace HTn := lh ((HTn.out.below hb).more hb.size)
 clear hb
 gi_wp2
 obtain ⟨V81, hV⟩ : ∃ V, (W80.alloc (.cells #[.int .i64 2, .int .i64 3, .int .i64 4] 3)) = V := ⟨_, rfl⟩
 rw [hV]
 have hb := fbox_bel hV
 have hnew := fbox_blk hV
 have hge := Ly.out.bel.size
 replace Ly := lyb Ly hb
 replace HF := iu HF hb
 replace HTn := lh ((HTn.out.below hb).more hb.size)
 replace Ly := lh (Ly.out.add hge hnew)
 clear hnew hge hb hV
 obtain ⟨G82, hG⟩ : ∃ g, W80.heap.size = g := ⟨_, rfl⟩
 rw [hG] at Ly ⊢
 clear hG
 replace Ly := lh (show Lay w V81 [(G6, 34, #[.int .i64 20, .int .i64 140]), (G11, 3, #[.int .i64 1, .int .i64 3]), (G14, 34, #[.int .i64 50, .int .i64 50]), (G22, 34, #[.int .i64 50, .int .i64 70]), (G25, 3, #[.int .i64 2, .int .i64 3]), (G28, 34, #[.int .i64 20, .int .i64 150]), (G31, 3, #[.int .i64 2, .int .i64 3, .int .i64 4]), (G38, 3, #[.int .i64 1, .int .i64 3]), (G45, 3, #[.int .i64 4]), (G50, 3, #[.int .i64 2]), (G57, 3, #[.int .i64 3, .int .i64 2]), (G65, 3, #[.int .i64 2, .int .i64 3]), (G68, 34, #[.int .i64 20, .int .i64 220]), (G72, 3, #[.int .i64 2, .int .i64 3, .int .i64 4]), (G75, 63, #[.int .i64 660, .int .i64 860]), (G82, 3, #[.int .i64 2, .int .i64 3, .int .i64 4])] from Ly.out)
 obtain ⟨x12_0, x12_1⟩ := lyc2 Ly 12 rfl
 have l12_ := Ly.out.lt 12 rfl
 obtain ⟨x14_0, x14_1⟩ := lyc2 Ly 14 rfl
 have l14_ := Ly.out.lt 14 rfl
 gi_wp2
 clear x12_0 x12_1 l12_ x14_0 x14_1 l14_
 refine ⟨trivial, (callsIn_wide.2 (seconds_any (some ⟨g, 0, none⟩) 4 4 (some ⟨g2, 0, none⟩) 4 4 exT exG 1 (some ⟨G82, 0, none⟩) 3 3 [2, 3, 4] V81 (by omega) (by omega) (by omega) HTn.out (ints_blk2 [2, 3, 4] (Ly.out.blk 15 rfl)) (HL.out.below Ly.out.bel hl0))).mono ?_⟩
 rintro e W83 ⟨rfl, hb⟩
 replace Ly := lyb Ly hb
 replace HF := iu HF hb
 replace HTn := lh ((HTn.out.below hb).more hb.size)
 clear hb
 rw [ex_sec.1, ex_sec.2]
 clear HTn
 obtain ⟨x12_0, x12_1⟩ := lyc2 Ly 12 rfl
 have l12_ := Ly.out.lt 12 rfl
 obtain ⟨x14_0, x14_1⟩ := lyc2 Ly 14 rfl
 have l14_ := Ly.out.lt 14 rfl
 gi_wp2
 clear x12_0 x12_1 l12_ x14_0 x14_1 l14_
 obtain ⟨V84, hV⟩ : ∃ V, (W83.alloc (.cells #[.int .i64 180, .int .i64 340] 63)) = V := ⟨_, rfl⟩
 rw [hV]
 have hb := fbox_bel hV
 have hnew := fbox_blk hV
 have hge := Ly.out.bel.size
 replace Ly := lyb Ly hb
 replace HF := iu HF hb
 replace Ly := lh (Ly.out.add hge hnew)
 clear hnew hge hb hV
 obtain ⟨G85, hG⟩ : ∃ g, W83.heap.size = g := ⟨_, rfl⟩
 rw [hG] at Ly ⊢
 clear hG
 replace Ly := lh (show Lay w V84 [(G6, 34, #[.int .i64 20, .int .i64 140]), (G11, 3, #[.int .i64 1, .int .i64 3]), (G14, 34, #[.int .i64 50, .int .i64 50]), (G22, 34, #[.int .i64 50, .int .i64 70]), (G25, 3, #[.int .i64 2, .int .i64 3]), (G28, 34, #[.int .i64 20, .int .i64 150]), (G31, 3, #[.int .i64 2, .int .i64 3, .int .i64 4]), (G38, 3, #[.int .i64 1, .int .i64 3]), (G45, 3, #[.int .i64 4]), (G50, 3, #[.int .i64 2]), (G57, 3, #[.int .i64 3, .int .i64 2]), (G65, 3, #[.int .i64 2, .int .i64 3]), (G68, 34, #[.int .i64 20, .int .i64 220]), (G72, 3, #[.int .i64 2, .int .i64 3, .int .i64 4]), (G75, 63, #[.int .i64 660, .int .i64 860]), (G82, 3, #[.int .i64 2, .int .i64 3, .int .i64 4]), (G85, 63, #[.int .i64 180, .int .i64 340])] from Ly.out)
 obtain ⟨x12_0, x12_1⟩ := lyc2 Ly 12 rfl
 have l12_ := Ly.out.lt 12 rfl
 obtain ⟨x14_0, x14_1⟩ := lyc2 Ly 14 rfl
 have l14_ := Ly.out.lt 14 rfl
 obtain ⟨x16_0, x16_1⟩ := lyc2 Ly 16 rfl
 have l16_ := Ly.out.lt 16 rfl
 gi_wp2
 clear x12_0 x12_1 l12_ x14_0 x14_1 l14_ x16_0 x16_1 l16_
 refine ⟨trivial, (callsIn_wide.2 (town_any V84)).mono ?_⟩
 rintro e W86 ⟨g, g2, rfl, ht, hb⟩
 replace Ly := lyb Ly hb
 replace HF := iu HF hb
 clear hb
 have HTn := lh ht
 clear ht
 gi_wp2
 refine ⟨trivial, (callsIn_wide.2 (lgait_any W86)).mono ?_⟩
 rintro e W87 ⟨rfl, hb⟩
 replace Ly := lyb Ly hb
 replace HF := iu HF hb
 replace HTn := lh ((HTn.out.below hb).more hb.size)
 clear hb
 gi_wp2
 refine ⟨trivial, (callsIn_wide.2 (minutes_any (some ⟨g, 0, none⟩) 4 4 (some ⟨g2, 0, none⟩) 4 4 exT exG 1 4 false W87 (by omega) (by omega) HTn.out (HL.out.below Ly.out.bel hl0))).mono ?_⟩
 rintro e W88 ⟨rfl, hb⟩
 replace Ly := lyb Ly hb
 replace HF := iu HF hb
 replace HTn := lh ((HTn.out.below hb).more hb.size)
 clear hb
 rw [ex_min.1, ex_min.2]
 clear HTn
 obtain ⟨x12_0, x12_1⟩ := lyc2 Ly 12 rfl
 have l12_ := Ly.out.lt 12 rfl
 obtain ⟨x14_0, x14_1⟩ := lyc2 Ly 14 rfl
 have l14_ := Ly.out.lt 14 rfl
 obtain ⟨x16_0, x16_1⟩ := lyc2 Ly 16 rfl
 have l16_ := Ly.out.lt 16 rfl
 gi_wp2
 clear x12_0 x12_1 l12_ x14_0 x14_1 l14_ x16_0 x16_1 l16_
 obtain ⟨V89, hV⟩ : ∃ V, (W88.alloc (.cells #[.int .i64 3, .int .i64 6] 63)) = V := ⟨_, rfl⟩
 rw [hV]
 have hb := fbox_bel hV
 have hnew := fbox_blk hV
 have hge := Ly.out.bel.size
 replace Ly := lyb Ly hb
 replace HF := iu HF hb
 replace Ly := lh (Ly.out.add hge hnew)
 clear hnew hge hb hV
 obtain ⟨G90, hG⟩ : ∃ g, W88.heap.size = g := ⟨_, rfl⟩
 rw [hG] at Ly ⊢
 clear hG
 replace Ly := lh (show Lay w V89 [(G6, 34, #[.int .i64 20, .int .i64 140]), (G11, 3, #[.int .i64 1, .int .i64 3]), (G14, 34, #[.int .i64 50, .int .i64 50]), (G22, 34, #[.int .i64 50, .int .i64 70]), (G25, 3, #[.int .i64 2, .int .i64 3]), (G28, 34, #[.int .i64 20, .int .i64 150]), (G31, 3, #[.int .i64 2, .int .i64 3, .int .i64 4]), (G38, 3, #[.int .i64 1, .int .i64 3]), (G45, 3, #[.int .i64 4]), (G50, 3, #[.int .i64 2]), (G57, 3, #[.int .i64 3, .int .i64 2]), (G65, 3, #[.int .i64 2, .int .i64 3]), (G68, 34, #[.int .i64 20, .int .i64 220]), (G72, 3, #[.int .i64 2, .int .i64 3, .int .i64 4]), (G75, 63, #[.int .i64 660, .int .i64 860]), (G82, 3, #[.int .i64 2, .int .i64 3, .int .i64 4]), (G85, 63, #[.int .i64 180, .int .i64 340]), (G90, 63, #[.int .i64 3, .int .i64 6])] from Ly.out)
 obtain ⟨x12_0, x12_1⟩ := lyc2 Ly 12 rfl
 have l12_ := Ly.out.lt 12 rfl
 obtain ⟨x14_0, x14_1⟩ := lyc2 Ly 14 rfl
 have l14_ := Ly.out.lt 14 rfl
 obtain ⟨x16_0, x16_1⟩ := lyc2 Ly 16 rfl
 have l16_ := Ly.out.lt 16 rfl
 obtain ⟨x17_0, x17_1⟩ := lyc2 Ly 17 rfl
 have l17_ := Ly.out.lt 17 rfl
 gi_wp2
 clear x12_0 x12_1 l12_ x14_0 x14_1 l14_ x16_0 x16_1 l16_ x17_0 x17_1 l17_
 refine ⟨trivial, (callsIn_wide.2 (town_any V89)).mono ?_⟩
 rintro e W91 ⟨g, g2, rfl, ht, hb⟩
 replace Ly := lyb Ly hb
 replace HF := iu HF hb
 clear hb
 have HTn := lh ht
 clear ht
 gi_wp2
 refine ⟨trivial, (callsIn_wide.2 (lgait_any W91)).mono ?_⟩
 rintro e W92 ⟨rfl, hb⟩
 replace Ly := lyb Ly hb
 replace HF := iu HF hb
 replace HTn := lh ((HTn.out.below hb).more hb.size)
 clear hb
 gi_wp2
 refine ⟨trivial, (callsIn_wide.2 (quick_any (some ⟨g, 0, none⟩) 4 4 (some ⟨g2, 0, none⟩) 4 4 exT exG 1 4 false W92 (by omega) (by omega) HTn.out (HL.out.below Ly.out.bel hl0))).mono ?_⟩
 rintro e W93 ⟨AG, nAG, cAG, rfl, hi, hb⟩
 replace Ly := lyb Ly hb
 replace HF := iu HF hb
 replace HTn := lh ((HTn.out.below hb).more hb.size)
 clear hb
 rw [ex_quick] at hi ⊢
 obtain rfl : nAG = 2 := by have := hi.len; simpa using this.symm
 have HG := lh hi
 clear hi
 clear HTn
 obtain ⟨x12_0, x12_1⟩ := lyc2 Ly 12 rfl
 have l12_ := Ly.out.lt 12 rfl
 obtain ⟨x14_0, x14_1⟩ := lyc2 Ly 14 rfl
 have l14_ := Ly.out.lt 14 rfl
 obtain ⟨x16_0, x16_1⟩ := lyc2 Ly 16 rfl
 have l16_ := Ly.out.lt 16 rfl
 obtain ⟨x17_0, x17_1⟩ := lyc2 Ly 17 rfl
 have l17_ := Ly.out.lt 17 rfl
 gi_wp2
 clear x12_0 x12_1 l12_ x14_0 x14_1 l14_ x16_0 x16_1 l16_ x17_0 x17_1 l17_
 obtain ⟨V94, hV⟩ : ∃ V, (W93.alloc (.cells #[.int .i64 170, .int .i64 290] 63)) = V := ⟨_, rfl⟩
 rw [hV]
 have hb := fbox_bel hV
 have hnew := fbox_blk hV
 have hge := Ly.out.bel.size
 replace Ly := lyb Ly hb
 replace HF := iu HF hb
 replace HG := iu HG hb
 replace Ly := lh (Ly.out.add hge hnew)
 clear hnew hge hb hV
 obtain ⟨G95, hG⟩ : ∃ g, W93.heap.size = g := ⟨_, rfl⟩
 rw [hG] at Ly ⊢
 clear hG
 replace Ly := lh (show Lay w V94 [(G6, 34, #[.int .i64 20, .int .i64 140]), (G11, 3, #[.int .i64 1, .int .i64 3]), (G14, 34, #[.int .i64 50, .int .i64 50]), (G22, 34, #[.int .i64 50, .int .i64 70]), (G25, 3, #[.int .i64 2, .int .i64 3]), (G28, 34, #[.int .i64 20, .int .i64 150]), (G31, 3, #[.int .i64 2, .int .i64 3, .int .i64 4]), (G38, 3, #[.int .i64 1, .int .i64 3]), (G45, 3, #[.int .i64 4]), (G50, 3, #[.int .i64 2]), (G57, 3, #[.int .i64 3, .int .i64 2]), (G65, 3, #[.int .i64 2, .int .i64 3]), (G68, 34, #[.int .i64 20, .int .i64 220]), (G72, 3, #[.int .i64 2, .int .i64 3, .int .i64 4]), (G75, 63, #[.int .i64 660, .int .i64 860]), (G82, 3, #[.int .i64 2, .int .i64 3, .int .i64 4]), (G85, 63, #[.int .i64 180, .int .i64 340]), (G90, 63, #[.int .i64 3, .int .i64 6]), (G95, 63, #[.int .i64 170, .int .i64 290])] from Ly.out)
 obtain ⟨x12_0, x12_1⟩ := lyc2 Ly 12 rfl
 have l12_ := Ly.out.lt 12 rfl
 obtain ⟨x14_0, x14_1⟩ := lyc2 Ly 14 rfl
 have l14_ := Ly.out.lt 14 rfl
 obtain ⟨x16_0, x16_1⟩ := lyc2 Ly 16 rfl
 have l16_ := Ly.out.lt 16 rfl
 obtain ⟨x17_0, x17_1⟩ := lyc2 Ly 17 rfl
 have l17_ := Ly.out.lt 17 rfl
 obtain ⟨x18_0, x18_1⟩ := lyc2 Ly 18 rfl
 have l18_ := Ly.out.lt 18 rfl
 gi_wp2
 clear x12_0 x12_1 l12_ x14_0 x14_1 l14_ x16_0 x16_1 l16_ x17_0 x17_1 l17_ x18_0 x18_1 l18_
 refine ⟨trivial, (callsIn_wide.2 (town_any V94)).mono ?_⟩
 rintro e W96 ⟨g, g2, rfl, ht, hb⟩
 replace Ly := lyb Ly hb
 replace HF := iu HF hb
 replace HG := iu HG hb
 clear hb
 have HTn := lh ht
 clear ht
 gi_wp2
 obtain ⟨V97, hV⟩ : ∃ V, (W96.alloc (.cells #[.int .i64 2, .int .i64 3] 3)) = V := ⟨_, rfl⟩
 rw [hV]
 have hb := fbox_bel hV
 have hnew := fbox_blk hV
 have hge := Ly.out.bel.size
 replace Ly := lyb Ly hb
 replace HF := iu HF hb
 replace HG := iu HG hb
 replace HTn := lh ((HTn.out.below hb).more hb.size)
 replace Ly := lh (Ly.out.add hge hnew)
 clear hnew hge hb hV
 obtain ⟨G98, hG⟩ : ∃ g, W96.heap.size = g := ⟨_, rfl⟩
 rw [hG] at Ly ⊢
 clear hG
 replace Ly := lh (show Lay w V97 [(G6, 34, #[.int .i64 20, .int .i64 140]), (G11, 3, #[.int .i64 1, .int .i64 3]), (G14, 34, #[.int .i64 50, .int .i64 50]), (G22, 34, #[.int .i64 50, .int .i64 70]), (G25, 3, #[.int .i64 2, .int .i64 3]), (G28, 34, #[.int .i64 20, .int .i64 150]), (G31, 3, #[.int .i64 2, .int .i64 3, .int .i64 4]), (G38, 3, #[.int .i64 1, .int .i64 3]), (G45, 3, #[.int .i64 4]), (G50, 3, #[.int .i64 2]), (G57, 3, #[.int .i64 3, .int .i64 2]), (G65, 3, #[.int .i64 2, .int .i64 3]), (G68, 34, #[.int .i64 20, .int .i64 220]), (G72, 3, #[.int .i64 2, .int .i64 3, .int .i64 4]), (G75, 63, #[.int .i64 660, .int .i64 860]), (G82, 3, #[.int .i64 2, .int .i64 3, .int .i64 4]), (G85, 63, #[.int .i64 180, .int .i64 340]), (G90, 63, #[.int .i64 3, .int .i64 6]), (G95, 63, #[.int .i64 170, .int .i64 290]), (G98, 3, #[.int .i64 2, .int .i64 3])] from Ly.out)
 obtain ⟨x12_0, x12_1⟩ := lyc2 Ly 12 rfl
 have l12_ := Ly.out.lt 12 rfl
 obtain ⟨x14_0, x14_1⟩ := lyc2 Ly 14 rfl
 have l14_ := Ly.out.lt 14 rfl
 obtain ⟨x16_0, x16_1⟩ := lyc2 Ly 16 rfl
 have l16_ := Ly.out.lt 16 rfl
 obtain ⟨x17_0, x17_1⟩ := lyc2 Ly 17 rfl
 have l17_ := Ly.out.lt 17 rfl
 obtain ⟨x18_0, x18_1⟩ := lyc2 Ly 18 rfl
 have l18_ := Ly.out.lt 18 rfl
 gi_wp2
 clear x12_0 x12_1 l12_ x14_0 x14_1 l14_ x16_0 x16_1 l16_ x17_0 x17_1 l17_ x18_0 x18_1 l18_
 refine ⟨trivial, (callsIn_wide.2 (close_any (some ⟨g, 0, none⟩) 4 4 (some ⟨g2, 0, none⟩) 4 4 exT (some ⟨G98, 0, none⟩) 2 2 [2, 3] V97 (by omega) (by omega) (by omega) HTn.out (ints_blk2 [2, 3] (Ly.out.blk 19 rfl)) (HL.out.below Ly.out.bel hl0))).mono ?_⟩
 rintro e W99 ⟨AZ, cZ, AY, cY, rfl, _, _, _, hb⟩
 replace Ly := lyb Ly hb
 replace HF := iu HF hb
 replace HG := iu HG hb
 replace HTn := lh ((HTn.out.below hb).more hb.size)
 clear hb
 rw [ex_close.1, ex_close.2]
 obtain ⟨zp, hzp⟩ : ∃ zp, (closeT exT [2, 3]).places.length = zp := ⟨_, rfl⟩
 rw [hzp]
 clear hzp
 clear HTn
 obtain ⟨x12_0, x12_1⟩ := lyc2 Ly 12 rfl
 have l12_ := Ly.out.lt 12 rfl
 obtain ⟨x14_0, x14_1⟩ := lyc2 Ly 14 rfl
 have l14_ := Ly.out.lt 14 rfl
 obtain ⟨x16_0, x16_1⟩ := lyc2 Ly 16 rfl
 have l16_ := Ly.out.lt 16 rfl
 obtain ⟨x17_0, x17_1⟩ := lyc2 Ly 17 rfl
 have l17_ := Ly.out.lt 17 rfl
 obtain ⟨x18_0, x18_1⟩ := lyc2 Ly 18 rfl
 have l18_ := Ly.out.lt 18 rfl
 gi_wp2
 clear x12_0 x12_1 l12_ x14_0 x14_1 l14_ x16_0 x16_1 l16_ x17_0 x17_1 l17_ x18_0 x18_1 l18_
 obtain ⟨V100, hV⟩ : ∃ V, (W99.alloc (.cells #[.slice AZ zp cZ, .slice AY 2 cY] 25)) = V := ⟨_, rfl⟩
 rw [hV]
 have hb := fbox_bel hV
 have hnew := fbox_blk hV
 have hge := Ly.out.bel.size
 replace Ly := lyb Ly hb
 replace HF := iu HF hb
 replace HG := iu HG hb
 replace Ly := lh (Ly.out.add hge hnew)
 clear hnew hge hb hV
 obtain ⟨G101, hG⟩ : ∃ g, W99.heap.size = g := ⟨_, rfl⟩
 rw [hG] at Ly ⊢
 clear hG
 replace Ly := lh (show Lay w V100 [(G6, 34, #[.int .i64 20, .int .i64 140]), (G11, 3, #[.int .i64 1, .int .i64 3]), (G14, 34, #[.int .i64 50, .int .i64 50]), (G22, 34, #[.int .i64 50, .int .i64 70]), (G25, 3, #[.int .i64 2, .int .i64 3]), (G28, 34, #[.int .i64 20, .int .i64 150]), (G31, 3, #[.int .i64 2, .int .i64 3, .int .i64 4]), (G38, 3, #[.int .i64 1, .int .i64 3]), (G45, 3, #[.int .i64 4]), (G50, 3, #[.int .i64 2]), (G57, 3, #[.int .i64 3, .int .i64 2]), (G65, 3, #[.int .i64 2, .int .i64 3]), (G68, 34, #[.int .i64 20, .int .i64 220]), (G72, 3, #[.int .i64 2, .int .i64 3, .int .i64 4]), (G75, 63, #[.int .i64 660, .int .i64 860]), (G82, 3, #[.int .i64 2, .int .i64 3, .int .i64 4]), (G85, 63, #[.int .i64 180, .int .i64 340]), (G90, 63, #[.int .i64 3, .int .i64 6]), (G95, 63, #[.int .i64 170, .int .i64 290]), (G98, 3, #[.int .i64 2, .int .i64 3]), (G101, 25, #[.slice AZ zp cZ, .slice AY 2 cY])] from Ly.out)
 have ht20 := eqToil_same 20 220
 have hq660 := eqSpan_same 660 860
 have hq180 := eqSpan_same 180 340
 have hq3 := eqSpan_same 3 6
 have hq170 := eqSpan_same 170 290
 try simp only [List.append_eq, List.cons_append, List.nil_append]
 refine Tr.wpIn_region_tree (G := Tr.Up) (V0 := V100) [([], [true, true, true, true], [4]), ([4], [false, false, false, false, false, true, true, true, true, true, true, true, true], [13]), ([4, 13], [false, false, false, false, false, false, false, false, false, false, false, false, false, false, true, true, true, true, true], [19]), ([4, 13, 19], [], [20]), ([4, 13, 19, 20], [false, false, false, false, false, false, false, false, false, false, false, false, false, false, false, false, false, false, false, false, false, true, true, true, true, true, true, true, true, true, true, true], [32]), ([4, 13, 19, 20, 32], [false, false, false, false, false, false, false, false, false, false, false, false, false, false, false, false, false, false, false, false, false, false, false, false, false, false, false, false, false, false, false, false, false, true, true, true, true, true, true, true, true], [41]), ([4, 13, 19, 20, 32, 41], [false, false, false, false, false, false, false, false, false, false, false, false, false, false, false, false, false, false, false, false, false, false, false, false, false, false, false, false, false, false, false, false, false, false, false, false, false, false, false, false, false, false, true, true, true, true, true], [47]), ([4, 13, 19, 20, 32, 41, 47], [], [48]), ([4, 13, 19, 20, 32, 41, 47, 48], [false, false, false, false, false, false, false, false, false, false, false, false, false, false, false, false, false, false, false, false, false, false, false, false, false, false, false, false, false, false, false, false, false, false, false, false, false, false, false, false, false, false, false, false, false, false, false, false, false, true, true, true], [52]), ([4, 13, 19, 20, 32, 41, 47, 48, 52], [false, false, false, false, false, false, false, false, false, false, false, false, false, false, false, false, false, false, false, false, false, false, false, false, false, false, false, false, false, false, false, false, false, false, false, false, false, false, false, false, false, false, false, false, false, false, false, false, false, false, false, false, false, true, true, true, true, true, true, true, true, true, true, true, true, true], [])] 10 [] (by kernel_rfl) (by kernel_rfl) (by kernel_rfl) (below_drewN (Below.refl _ _) 1) ?_
 refine Tr.wpTree_one (A := ?AF11) rfl rfl ?hq11 ?_
 case hq11 =>
  rintro σ hσ of hof hcl
  have HOF := lh hof
  have HCL := lh hcl
  clear hof hcl
  obtain ⟨c0_, c1_⟩ := lyz2 Ly HOF 12 rfl
  obtain ⟨c2_, c3_⟩ := lyz2 Ly HOF 14 rfl
  obtain ⟨c4_, c5_⟩ := lyz2 Ly HOF 16 rfl
  obtain ⟨c6_, c7_⟩ := lyz2 Ly HOF 17 rfl
  obtain ⟨c8_, c9_⟩ := lyz2 Ly HOF 18 rfl
  obtain ⟨c10_, c11_⟩ := lyz2 Ly HOF 20 rfl
  have hfw := hfT
  simp only [pickB]
  repeat (gi_big_quiet_step (fail))
  refine wpQuietIn_nil ?_
  exact rfl
 intro W102 hW
 replace Ly := lyb Ly hW
 replace HF := iu HF hW
 replace HG := iu HG hW
 clear hW
 gi_wp2
 refine ⟨trivial, (callsIn_wide.2 (ltoil_any 20 220 W102)).mono ?_⟩
 rintro e W103 ⟨rfl, hb⟩
 replace Ly := lyb Ly hb
 replace HF := iu HF hb
 replace HG := iu HG hb
 gi_wp2
 first | refine ⟨trivial, hb, ?_⟩ | refine ⟨hb, ?_⟩
 clear hb
 refine Tr.wpTree_one (A := ?AF12) rfl rfl ?hq12 ?_
 case hq12 =>
  rintro σ hσ of hof hcl
  have HOF := lh hof
  have HCL := lh hcl
  clear hof hcl
  obtain ⟨c0_, c1_⟩ := lyz2 Ly HOF 12 rfl
  obtain ⟨c2_, c3_⟩ := lyz2 Ly HOF 14 rfl
  obtain ⟨c4_, c5_⟩ := lyz2 Ly HOF 16 rfl
  obtain ⟨c6_, c7_⟩ := lyz2 Ly HOF 17 rfl
  obtain ⟨c8_, c9_⟩ := lyz2 Ly HOF 18 rfl
  obtain ⟨c10_, c11_⟩ := lyz2 Ly HOF 20 rfl
  have hfw := hfT
  simp only [pickB]
  repeat (gi_big_quiet_step (fail))
  refine wpQuietIn_nil ?_
  exact rfl
 intro W104 hW
 replace Ly := lyb Ly hW
 replace HF := iu HF hW
 replace HG := iu HG hW
 clear hW
 gi_wp2
 refine ⟨trivial, (callsIn_wide.2 (lspan_any 660 860 W104)).mono ?_⟩
 rintro e W105 ⟨rfl, hb⟩
 replace Ly := lyb Ly hb
 replace HF := iu HF hb
 replace HG := iu HG hb
 gi_wp2
 first | refine ⟨trivial, hb, ?_⟩ | refine ⟨hb, ?_⟩
 clear hb
 refine Tr.wpTree_one (A := ?AF13) rfl rfl ?hq13 ?_
 case hq13 =>
  rintro σ hσ of hof hcl
  have HOF := lh hof
  have HCL := lh hcl
  clear hof hcl
  obtain ⟨c0_, c1_⟩ := lyz2 Ly HOF 12 rfl
  obtain ⟨c2_, c3_⟩ := lyz2 Ly HOF 14 rfl
  obtain ⟨c4_, c5_⟩ := lyz2 Ly HOF 16 rfl
  obtain ⟨c6_, c7_⟩ := lyz2 Ly HOF 17 rfl
  obtain ⟨c8_, c9_⟩ := lyz2 Ly HOF 18 rfl
  obtain ⟨c10_, c11_⟩ := lyz2 Ly HOF 20 rfl
  have hfw := hfT
  simp only [pickB]
  repeat (gi_big_quiet_step (fail))
  refine wpQuietIn_nil ?_
  exact rfl
 intro W106 hW
 replace Ly := lyb Ly hW
 replace HF := iu HF hW
 replace HG := iu HG hW
 clear hW
 gi_wp2
 have hup : Tr.Up W106 (W106.alloc (.cells #[.int .i64 1, .int .i64 4] 3)) := (Below.refl _ _).alloc (Nat.le_refl _) _
 first | refine ⟨trivial, hup, ?_⟩ | refine ⟨hup, ?_⟩
 clear hup
 obtain ⟨V107, hV⟩ : ∃ V, (W106.alloc (.cells #[.int .i64 1, .int .i64 4] 3)) = V := ⟨_, rfl⟩
 rw [hV]
 have hb := fbox_bel hV
 have hnew := fbox_blk hV
 have hge := Ly.out.bel.size
 replace Ly := lyb Ly hb
 replace HF := iu HF hb
 replace HG := iu HG hb
 replace Ly := lh (Ly.out.add hge hnew)
 clear hnew hge hb hV
 obtain ⟨G108, hG⟩ : ∃ g, W106.heap.size = g := ⟨_, rfl⟩
 rw [hG] at Ly ⊢
 clear hG
 replace Ly := lh (show Lay w V107 [(G6, 34, #[.int .i64 20, .int .i64 140]), (G11, 3, #[.int .i64 1, .int .i64 3]), (G14, 34, #[.int .i64 50, .int .i64 50]), (G22, 34, #[.int .i64 50, .int .i64 70]), (G25, 3, #[.int .i64 2, .int .i64 3]), (G28, 34, #[.int .i64 20, .int .i64 150]), (G31, 3, #[.int .i64 2, .int .i64 3, .int .i64 4]), (G38, 3, #[.int .i64 1, .int .i64 3]), (G45, 3, #[.int .i64 4]), (G50, 3, #[.int .i64 2]), (G57, 3, #[.int .i64 3, .int .i64 2]), (G65, 3, #[.int .i64 2, .int .i64 3]), (G68, 34, #[.int .i64 20, .int .i64 220]), (G72, 3, #[.int .i64 2, .int .i64 3, .int .i64 4]), (G75, 63, #[.int .i64 660, .int .i64 860]), (G82, 3, #[.int .i64 2, .int .i64 3, .int .i64 4]), (G85, 63, #[.int .i64 180, .int .i64 340]), (G90, 63, #[.int .i64 3, .int .i64 6]), (G95, 63, #[.int .i64 170, .int .i64 290]), (G98, 3, #[.int .i64 2, .int .i64 3]), (G101, 25, #[.slice AZ zp cZ, .slice AY 2 cY]), (G108, 3, #[.int .i64 1, .int .i64 4])] from Ly.out)
 refine Tr.wpTree_one (m := []) rfl rfl Gr.Quietly.none ?_
 intro W109 hW
 replace Ly := lyb Ly hW
 replace HF := iu HF hW
 replace HG := iu HG hW
 clear hW
 gi_wp2
 refine ⟨trivial, (callsIn_wide.2 (is_any AF 2 cAF [1, 4] 0 (some ⟨G108, 0, none⟩) 2 2 [1, 4] W109 (by unfold maxLen; omega) (by unfold maxLen; omega) HF.out (ints_blk2 [1, 4] (Ly.out.blk 21 rfl)))).mono ?_⟩
 rintro e W110 ⟨rfl, hb⟩
 replace Ly := lyb Ly hb
 replace HF := iu HF hb
 replace HG := iu HG hb
 rw [show (decide ((0 : Int) = 0) && sameI [1, 4] [1, 4]) = true from by decide]
 gi_wp2
 first | refine ⟨trivial, hb, ?_⟩ | refine ⟨hb, ?_⟩
 clear hb
 refine Tr.wpTree_one (A := ?AF14) rfl rfl ?hq14 ?_
 case hq14 =>
  rintro σ hσ of hof hcl
  have HOF := lh hof
  have HCL := lh hcl
  clear hof hcl
  obtain ⟨c0_, c1_⟩ := lyz2 Ly HOF 12 rfl
  obtain ⟨c2_, c3_⟩ := lyz2 Ly HOF 14 rfl
  obtain ⟨c4_, c5_⟩ := lyz2 Ly HOF 16 rfl
  obtain ⟨c6_, c7_⟩ := lyz2 Ly HOF 17 rfl
  obtain ⟨c8_, c9_⟩ := lyz2 Ly HOF 18 rfl
  obtain ⟨c10_, c11_⟩ := lyz2 Ly HOF 20 rfl
  have hfw := hfT
  simp only [pickB]
  repeat (gi_big_quiet_step (fail))
  refine wpQuietIn_nil ?_
  exact rfl
 intro W111 hW
 replace Ly := lyb Ly hW
 replace HF := iu HF hW
 replace HG := iu HG hW
 clear hW
 gi_wp2
 refine ⟨trivial, (callsIn_wide.2 (lspan_any 180 340 W111)).mono ?_⟩
 rintro e W112 ⟨rfl, hb⟩
 replace Ly := lyb Ly hb
 replace HF := iu HF hb
 replace HG := iu HG hb
 gi_wp2
 first | refine ⟨trivial, hb, ?_⟩ | refine ⟨hb, ?_⟩
 clear hb
 refine Tr.wpTree_one (A := ?AF15) rfl rfl ?hq15 ?_
 case hq15 =>
  rintro σ hσ of hof hcl
  have HOF := lh hof
  have HCL := lh hcl
  clear hof hcl
  obtain ⟨c0_, c1_⟩ := lyz2 Ly HOF 12 rfl
  obtain ⟨c2_, c3_⟩ := lyz2 Ly HOF 14 rfl
  obtain ⟨c4_, c5_⟩ := lyz2 Ly HOF 16 rfl
  obtain ⟨c6_, c7_⟩ := lyz2 Ly HOF 17 rfl
  obtain ⟨c8_, c9_⟩ := lyz2 Ly HOF 18 rfl
  obtain ⟨c10_, c11_⟩ := lyz2 Ly HOF 20 rfl
  have hfw := hfT
  simp only [pickB]
  repeat (gi_big_quiet_step (fail))
  refine wpQuietIn_nil ?_
  exact rfl
 intro W113 hW
 replace Ly := lyb Ly hW
 replace HF := iu HF hW
 replace HG := iu HG hW
 clear hW
 gi_wp2
 refine ⟨trivial, (callsIn_wide.2 (lspan_any 3 6 W113)).mono ?_⟩
 rintro e W114 ⟨rfl, hb⟩
 replace Ly := lyb Ly hb
 replace HF := iu HF hb
 replace HG := iu HG hb
 gi_wp2
 first | refine ⟨trivial, hb, ?_⟩ | refine ⟨hb, ?_⟩
 clear hb
 refine Tr.wpTree_one (A := ?AF16) rfl rfl ?hq16 ?_
 case hq16 =>
  rintro σ hσ of hof hcl
  have HOF := lh hof
  have HCL := lh hcl
  clear hof hcl
  obtain ⟨c0_, c1_⟩ := lyz2 Ly HOF 12 rfl
  obtain ⟨c2_, c3_⟩ := lyz2 Ly HOF 14 rfl
  obtain ⟨c4_, c5_⟩ := lyz2 Ly HOF 16 rfl
  obtain ⟨c6_, c7_⟩ := lyz2 Ly HOF 17 rfl
  obtain ⟨c8_, c9_⟩ := lyz2 Ly HOF 18 rfl
  obtain ⟨c10_, c11_⟩ := lyz2 Ly HOF 20 rfl
  have hfw := hfT
  simp only [pickB]
  repeat (gi_big_quiet_step (fail))
  refine wpQuietIn_nil ?_
  exact rfl
 intro W115 hW
 replace Ly := lyb Ly hW
 replace HF := iu HF hW
 replace HG := iu HG hW
 clear hW
 gi_wp2
 have hup : Tr.Up W115 (W115.alloc (.cells #[.int .i64 1, .int .i64 4] 3)) := (Below.refl _ _).alloc (Nat.le_refl _) _
 first | refine ⟨trivial, hup, ?_⟩ | refine ⟨hup, ?_⟩
 clear hup
 obtain ⟨V116, hV⟩ : ∃ V, (W115.alloc (.cells #[.int .i64 1, .int .i64 4] 3)) = V := ⟨_, rfl⟩
 rw [hV]
 have hb := fbox_bel hV
 have hnew := fbox_blk hV
 have hge := Ly.out.bel.size
 replace Ly := lyb Ly hb
 replace HF := iu HF hb
 replace HG := iu HG hb
 replace Ly := lh (Ly.out.add hge hnew)
 clear hnew hge hb hV
 obtain ⟨G117, hG⟩ : ∃ g, W115.heap.size = g := ⟨_, rfl⟩
 rw [hG] at Ly ⊢
 clear hG
 replace Ly := lh (show Lay w V116 [(G6, 34, #[.int .i64 20, .int .i64 140]), (G11, 3, #[.int .i64 1, .int .i64 3]), (G14, 34, #[.int .i64 50, .int .i64 50]), (G22, 34, #[.int .i64 50, .int .i64 70]), (G25, 3, #[.int .i64 2, .int .i64 3]), (G28, 34, #[.int .i64 20, .int .i64 150]), (G31, 3, #[.int .i64 2, .int .i64 3, .int .i64 4]), (G38, 3, #[.int .i64 1, .int .i64 3]), (G45, 3, #[.int .i64 4]), (G50, 3, #[.int .i64 2]), (G57, 3, #[.int .i64 3, .int .i64 2]), (G65, 3, #[.int .i64 2, .int .i64 3]), (G68, 34, #[.int .i64 20, .int .i64 220]), (G72, 3, #[.int .i64 2, .int .i64 3, .int .i64 4]), (G75, 63, #[.int .i64 660, .int .i64 860]), (G82, 3, #[.int .i64 2, .int .i64 3, .int .i64 4]), (G85, 63, #[.int .i64 180, .int .i64 340]), (G90, 63, #[.int .i64 3, .int .i64 6]), (G95, 63, #[.int .i64 170, .int .i64 290]), (G98, 3, #[.int .i64 2, .int .i64 3]), (G101, 25, #[.slice AZ zp cZ, .slice AY 2 cY]), (G108, 3, #[.int .i64 1, .int .i64 4]), (G117, 3, #[.int .i64 1, .int .i64 4])] from Ly.out)
 refine Tr.wpTree_one (m := []) rfl rfl Gr.Quietly.none ?_
 intro W118 hW
 replace Ly := lyb Ly hW
 replace HF := iu HF hW
 replace HG := iu HG hW
 clear hW
 gi_wp2
 refine ⟨trivial, (callsIn_wide.2 (is_any AG 2 cAG [1, 4] 0 (some ⟨G117, 0, none⟩) 2 2 [1, 4] W118 (by unfold maxLen; omega) (by unfold maxLen; omega) HG.out (ints_blk2 [1, 4] (Ly.out.blk 22 rfl)))).mono ?_⟩
 rintro e W119 ⟨rfl, hb⟩
 replace Ly := lyb Ly hb
 replace HF := iu HF hb
 replace HG := iu HG hb
 rw [show (decide ((0 : Int) = 0) && sameI [1, 4] [1, 4]) = true from by decide]
 gi_wp2
 first | refine ⟨trivial, hb, ?_⟩ | refine ⟨hb, ?_⟩
 clear hb
 refine Tr.wpTree_one (A := ?AF17) rfl rfl ?hq17 ?_
 case hq17 =>
  rintro σ hσ of hof hcl
  have HOF := lh hof
  have HCL := lh hcl
  clear hof hcl
  obtain ⟨c0_, c1_⟩ := lyz2 Ly HOF 12 rfl
  obtain ⟨c2_, c3_⟩ := lyz2 Ly HOF 14 rfl
  obtain ⟨c4_, c5_⟩ := lyz2 Ly HOF 16 rfl
  obtain ⟨c6_, c7_⟩ := lyz2 Ly HOF 17 rfl
  obtain ⟨c8_, c9_⟩ := lyz2 Ly HOF 18 rfl
  obtain ⟨c10_, c11_⟩ := lyz2 Ly HOF 20 rfl
  have hfw := hfT
  simp only [pickB]
  repeat (gi_big_quiet_step (fail))
  refine wpQuietIn_nil ?_
  exact rfl
 intro W120 hW
 replace Ly := lyb Ly hW
 replace HF := iu HF hW
 replace HG := iu HG hW
 clear hW
 gi_wp2
 refine ⟨trivial, (callsIn_wide.2 (lspan_any 170 290 W120)).mono ?_⟩
 rintro e W121 ⟨rfl, hb⟩
 replace Ly := lyb Ly hb
 replace HF := iu HF hb
 replace HG := iu HG hb
 gi_wp2
 first | refine ⟨trivial, hb, ?_⟩ | refine ⟨hb, ?_⟩
 clear hb
 refine Tr.wpTree_end (A := ?AF18) rfl ?hq18 ?_
 case hq18 =>
  rintro σ hσ of hof hcl
  have HOF := lh hof
  have HCL := lh hcl
  clear hof hcl
  obtain ⟨c0_, c1_⟩ := lyz2 Ly HOF 12 rfl
  obtain ⟨c2_, c3_⟩ := lyz2 Ly HOF 14 rfl
  obtain ⟨c4_, c5_⟩ := lyz2 Ly HOF 16 rfl
  obtain ⟨c6_, c7_⟩ := lyz2 Ly HOF 17 rfl
  obtain ⟨c8_, c9_⟩ := lyz2 Ly HOF 18 rfl
  obtain ⟨c10_, c11_⟩ := lyz2 Ly HOF 20 rfl
  have hfw := hfT
  simp only [pickB]
  repeat (gi_big_quiet_step (fail))
  refine wpQuietIn_nil ?_
  exact rfl
 intro W122 hW
 replace Ly := lyb Ly hW
 replace HF := iu HF hW
 replace HG := iu HG hW
 clear hW
 simp only [pickB]
 refine wpT_nil ?_
 gi_wp2
 exact bodyPost_ret (v := .bool true) (by simp [results, Tryz.results13, go_sem]) rfl ⟨rfl, Ly.out.bel⟩
theorem alive_any (w : World) (hL : Laid w) : Calls Tryz.prog 13 #[] w fun e w' => e = .returned (.bool true) ∧ Below w.heap.size w w' := callsIn_wide.1 (alive_in w hL)
end
section
structure Gone where
 at_ : Int
 paces : Int
 up : Int
 steps : Int
 longer : Int
def Gone.cost (g : Gone) (p : Price) : Cost := ⟨g.paces * p.pace + g.up * p.up + g.steps * p.step, g.up, g.paces, g.longer⟩
def goesF (dk : Bool) (x : Link) (g : Gone) : Option Gone :=
 if dk = true ∧ 0 < x.steps then none
 else if x.fr = g.at_ then some ⟨x.to, g.paces + x.paces, g.up + x.steps, g.steps + x.steps, g.longer + 1⟩
 else if x.to = g.at_ then some ⟨x.fr, g.paces + x.paces, g.up, g.steps + x.steps, g.longer + 1⟩
 else none
theorem cost_eq {a b c d a' b' c' d' : Int} (h1 : a = a') (h2 : b = b') (h3 : c = c') (h4 : d = d') : (⟨a, b, c, d⟩ : Cost) = ⟨a', b', c', d'⟩ := by rw [h1, h2, h3, h4]
theorem goes_some {dk : Bool} {x : Link} {g g' : Gone} (p : Price) (h : goesF dk x g = some g') : ∃ c, leads dk p x g.at_ = some (g'.at_, c) ∧ g'.cost p = addC (g.cost p) c := by
 unfold goesF at h
 unfold leads
 split at h
 ·cases h
 ·rename_i h1
  rw [if_neg h1]
  split at h
  ·rename_i h2
   rw [if_pos h2]
   cases h
   refine ⟨_, rfl, ?_⟩
   refine cost_eq ?_ rfl rfl rfl
   simp only [Gone.cost, Int.add_mul, Int.mul_add]
   omega
  ·rename_i h2
   rw [if_neg h2]
   split at h
   ·rename_i h3
    rw [if_pos h3]
    cases h
    refine ⟨_, rfl, ?_⟩
    refine cost_eq ?_ (Int.add_zero _).symm rfl rfl
    simp only [Gone.cost, Int.add_mul]
    omega
   ·cases h
inductive GW (t : Town) (dk : Bool) : Gone → List Int → Gone → Prop
 | nil (g : Gone) : GW t dk g [] g
 | cons {g m g' : Gone} {x : Link} {l : List Int} (hx : x ∈ t.links) (hg : goesF dk x g = some m) (h : GW t dk m l g') : GW t dk g (x.id :: l) g'
section
variable {t : Town} {dk : Bool} {p : Price} {g m g' : Gone} {l k : List Int} {u v : Int} {c d : Cost} {x : Link}
theorem GW.walk (h : GW t dk g l g') (p : Price) : ∃ c, Walk t dk p g.at_ g'.at_ c l ∧ g'.cost p = addC (g.cost p) c := by
 induction h with
 | nil g => exact ⟨zeroC, .nil _, (addC_zero _).symm⟩
 | cons hx hg _ ih =>
  obtain ⟨c, h1, h2⟩ := goes_some p hg
  obtain ⟨d, h3, h4⟩ := ih
  exact ⟨addC c d, .cons hx h1 h3, by rw [h4, h2, addC_assoc]⟩
theorem GW.append (h : GW t dk g l m) (h' : GW t dk m k g') : GW t dk g (l ++ k) g' := by
 induction h with
 | nil g => exact h'
 | cons hx hg _ ih => exact .cons hx hg (ih h')
theorem GW.snoc (h : GW t dk g l m) (hx : x ∈ t.links) (hg : goesF dk x m = some g') : GW t dk g (l ++ [x.id]) g' := h.append (.cons hx hg (.nil _))
theorem GW.split : ∀ (l : List Int) {g g' : Gone}, GW t dk g (l ++ k) g' → ∃ m, GW t dk g l m ∧ GW t dk m k g'
 | [], g, g', h => ⟨g, .nil g, h⟩
 | i :: l, g, g', h => by
  cases h with
  | @cons _ m _ x _ hx hg h =>
   obtain ⟨m', h1, h2⟩ := GW.split l h
   exact ⟨m', .cons hx hg h1, h2⟩
theorem GW.longer (h : GW t dk g l g') : g'.longer = g.longer + l.length := by
 induction h with
 | nil g => simp
 | @cons g m g' x l hx hg _ ih =>
  obtain ⟨c, h1, h2⟩ := goes_some freeP hg
  have h3 : m.longer = g.longer + 1 := by
   unfold goesF at hg
   split at hg
   ·cases hg
   ·split at hg
    ·cases hg; rfl
    ·split at hg
     ·cases hg; rfl
     ·cases hg
  rw [ih, h3]
  simp; omega
structure Gone.In (g : Gone) (k : Nat) : Prop where
 paces : 0 ≤ g.paces ∧ g.paces ≤ 2000 * k
 up : 0 ≤ g.up ∧ g.up ≤ g.steps
 steps : 0 ≤ g.steps ∧ g.steps ≤ 500 * k
 longer : g.longer = k
theorem goes_in {k : Nat} (h : g.In k) (ht : Fine t) (hx : x ∈ t.links) (hg : goesF dk x g = some g') : g'.In (k + 1) := by
 have h1 := ht.steps x hx
 have h2 := ht.paces x hx
 obtain ⟨a1, a2, a3, a4⟩ := h
 unfold goesF at hg
 split at hg
 ·cases hg
 ·split at hg
  ·cases hg; exact ⟨by simp; omega, by simp; omega, by simp; omega, by simp; omega⟩
  ·split at hg
   ·cases hg; exact ⟨by simp; omega, by simp; omega, by simp; omega, by simp; omega⟩
   ·cases hg
theorem GW.in_ (h : GW t dk g l g') (ht : Fine t) : ∀ {k : Nat}, g.In k → g'.In (k + l.length) := by
 induction h with
 | nil g => intro k h; exact h
 | cons hx hg _ ih =>
  intro k h
  have := ih (goes_in h ht hx hg)
  rw [List.length_cons]
  rwa [Nat.add_assoc, Nat.add_comm 1] at this
theorem GW.same {g1 g2 : Gone} (hi : t.links.Pairwise fun x y => x.id < y.id) (h : GW t dk g l g1) : GW t dk g l g2 → g1 = g2 := by
 induction h with
 | nil g => intro h; cases h; rfl
 | @cons g m g1 x l hx hg _ ih =>
  intro h
  generalize hk : x.id :: l = k at h
  cases h with
  | nil => cases hk
  | @cons _ m2 _ y l2 hy hg2 h2 =>
   injection hk with h3 h4
   subst h4
   have : x = y := by
    obtain ⟨i, hi1⟩ := List.getElem?_of_mem hx
    obtain ⟨j, hj1⟩ := List.getElem?_of_mem hy
    obtain ⟨hi2, hi3⟩ := List.getElem?_eq_some_iff.1 hi1
    obtain ⟨hj2, hj3⟩ := List.getElem?_eq_some_iff.1 hj1
    rcases Nat.lt_trichotomy i j with h4 | h4 | h4
    ·have := List.pairwise_iff_getElem.1 hi i j hi2 hj2 h4
     rw [hi3, hj3] at this
     omega
    ·subst h4
     rw [← hi3, ← hj3]
    ·have := List.pairwise_iff_getElem.1 hi j i hj2 hi2 h4
     rw [hi3, hj3] at this
     omega
   subst this
   rw [hg] at hg2
   cases hg2
   exact ih h2
end
section
variable {t : Town} {dk : Bool} {g g' : Gone} {l : List Int} {id : Int}
end
end
section
open Go.RowKit
def BytesAt (w : World) (B : Nat) (A : Option Addr) (n : Nat) (l : List Nat) : Prop := Reads w B 1 A n (l.map fun b => Value.int .u8 (b : Nat)) ∧ ∀ b ∈ l, b ≤ 255
theorem BytesAt.len {w : World} {B n : Nat} {A : Option Addr} {l : List Nat} (h : BytesAt w B A n l) : l.length = n := by have := h.1.1; simpa using this
theorem BytesAt.below {w w' : World} {B n : Nat} {A : Option Addr} {l : List Nat} (h : BytesAt w B A n l) (hb : Below B w w') : BytesAt w' B A n l := ⟨h.1.below hb, h.2⟩
theorem BytesAt.more {w : World} {B B' n : Nat} {A : Option Addr} {l : List Nat} (h : BytesAt w B A n l) (hB : B ≤ B') : BytesAt w B' A n l := ⟨h.1.more hB, h.2⟩
theorem BytesAt.cell {w : World} {B n : Nat} {A : Option Addr} {l : List Nat} (h : BytesAt w B A n l) {k : Nat} (hk : k < n) : ∃ b off x, A = some ⟨b, off, none⟩ ∧ b < B ∧ l[k]? = some x ∧ w.cell? ⟨b, off + k, none⟩ = some (.int .u8 (x : Nat)) ∧ x ≤ 255 := by
 have hl := h.len
 obtain ⟨b, off, e, hb, hc⟩ := Reads.plain h.1 (by simp; omega)
 have hx : l[k]? = some l[k] := List.getElem?_eq_getElem (by omega)
 exact ⟨b, off, _, e, hb, hx, hc k _ (by rw [List.getElem?_map, hx]; rfl), h.2 _ (List.getElem_mem _)⟩
end
section
open Go.RowKit Go.Shelf
theorem ints_zero {w : World} {B : Nat} {A : Option Addr} : IntsAt w B A 0 [] := ⟨rfl, fun h => absurd h (Nat.lt_irrefl 0)⟩
end
section
open Go.RowKit
theorem open1_any (x : Link) (id : Int) (w : World) :
  Calls Tryz.prog 97 #[.agg #[.int .i64 x.id, .int .i64 x.fr, .int .i64 x.to, .int .i64 x.steps, .int .i64 x.paces], .int .i64 id] w fun e w' => e = .returned (.int .i64 (cmpI x.id id)) ∧ Below w.heap.size w w' := by
 go_enter Tryz.func97, Tryz.ntmps97
 go_wp2_with fail
 refine (cmp_int x.id id _).mono ?_
 rintro e w' ⟨rfl, rfl⟩
 go_wp2_with fail
 go_ret
 exact ⟨rfl, (Below.refl _ _).alloc (Nat.le_refl _) _⟩
def lowB (l : List Link) (id : Int) : Nat := (l.takeWhile fun x => decide (x.id < id)).length
theorem lowB_of {l : List Link} {id : Int} {k : Nat} (hk : k ≤ l.length) (h1 : ∀ x ∈ l.take k, x.id < id) (h2 : ∀ x, l[k]? = some x → ¬ x.id < id) : lowB l id = k := by
 unfold lowB
 induction l generalizing k with
 | nil => simp at hk ⊢; omega
 | cons y l ih =>
  cases k with
  | zero =>
   have := h2 y (by simp)
   rw [List.takeWhile_cons_of_neg (by simpa using this)]; rfl
  | succ k =>
   have := h1 y (by simp)
   rw [List.takeWhile_cons_of_pos (by simpa using this), List.length_cons, ih (by simpa using hk) (fun x hx => h1 x (by simp [hx])) (fun x hx => h2 x (by simpa using hx))]
theorem lowB_le (l : List Link) (id : Int) : lowB l id ≤ l.length := by
 unfold lowB
 exact (List.takeWhile_sublist _).length_le
def SearchAt (k : Nat) (e : Ending) : Prop := ∃ b : Bool, e = .returned (.tuple #[.int .i64 k, .bool b])
set_option maxRecDepth 100000 in
set_option maxHeartbeats 2000000 in
theorem search_link (A : Option Addr) (n c : Nat) (l : List Link) (id : Int) (w : World) (hr : LinksAt w w.heap.size A n l) (hn : n ≤ 1000) (hs : l.Pairwise fun x y => x.id < y.id) :
  Calls Tryz.prog 96 #[.slice A n c, .int .i64 id, .func (.func 97) #[] #[]] w fun e w' => SearchAt (lowB l id) e ∧ Below w.heap.size w w' := by
 have hl := hr.len
 have HS : Hid (∀ (i j : Nat) (x y : Link), l[i]? = some x → l[j]? = some y → i < j → x.id < y.id) := by
  intro i j x y hx hy hij
  obtain ⟨h1, rfl⟩ := List.getElem?_eq_some_iff.1 hx
  obtain ⟨h2, rfl⟩ := List.getElem?_eq_some_iff.1 hy
  exact List.pairwise_iff_getElem.1 hs i j h1 h2 hij
 have HL := lh hl
 clear hs hl
 go_enter Tryz.func96, Tryz.ntmps96
 go_wp2_with fail
 go_loopw [9, 10] (fun vi vj wr => ∃ i j : Nat, vi = .int .i64 i ∧ vj = .int .i64 j ∧ i ≤ j ∧ j ≤ n ∧ (∀ (k : Nat) x, l[k]? = some x → k < i → x.id < id) ∧ (∀ (k : Nat) x, l[k]? = some x → j ≤ k → id ≤ x.id) ∧ Below w.heap.size w wr)
  (fun vi vj _ => (intOf vj).toNat - (intOf vi).toNat)
 case atStart => exact ⟨0, n, rfl, rfl, by omega, by omega, fun _ _ _ h => absurd h (by omega), fun k x hx h => absurd (List.getElem?_eq_some_iff.1 hx).1 (by have := HL.out; omega), Below.refl _ _⟩
 case round =>
  obtain ⟨i, j, rfl, rfl, hij, hjn, h1, h2, hb⟩ := hrel
  have H1 := lh h1
  have H2 := lh h2
  clear h1 h2
  by_cases hlt : i < j
  ·obtain ⟨h, hh, hh1, hh2⟩ : ∃ h : Nat, (i + j) / 2 = h ∧ i ≤ h ∧ h < j := ⟨_, rfl, by omega, by omega⟩
   obtain ⟨b, off, x, rfl, hbB, hx, hc0, hc1, hc2, hc3, hc4⟩ := (hr.below hb).cell (show h < n by omega)
   have HX := lh hx
   clear hx
   go_wp2_with fail
   refine (open1_any x id _).mono ?_
   rintro e w' ⟨rfl, hb'⟩
   have hb2 := hb.trans (hb'.mono hb.size)
   by_cases hxi : x.id < id
   ·have hc : cmpI x.id id = -1 := by unfold cmpI; rw [if_pos hxi]
    go_wp2_with fail
    go_roundw
    case rel => exact ⟨h + 1, j, by go_num, rfl, by omega, by omega, fun k y hy hk => by
     rcases Nat.lt_or_ge k h with h3 | h3
     ·have := HS.out k h y x hy HX.out h3; omega
     ·obtain rfl : k = h := by omega
      have := HX.out
      rw [hy] at this
      cases this
      exact hxi, H2.out, hb2⟩
    case measure => simp [intOf]; omega
   ·have hc : ¬ cmpI x.id id < 0 := by unfold cmpI; rw [if_neg hxi]; split <;> omega
    go_wp2_with fail
    go_roundw
    case rel => exact ⟨i, h, rfl, by rw [← hh]; go_num, by omega, by omega, H1.out, fun k y hy hk => by
     rcases Nat.lt_or_ge h k with h3 | h3
     ·have := HS.out h k x y HX.out hy h3; omega
     ·obtain rfl : k = h := by omega
      have := HX.out
      rw [hy] at this
      cases this
      omega, hb2⟩
    case measure => simp [intOf]; omega
  ·obtain rfl : i = j := by omega
   have HB : Hid (lowB l id = i) := lowB_of (by have := HL.out; omega) (fun x hx => by
    rw [List.mem_take_iff_getElem] at hx
    obtain ⟨k, hk, rfl⟩ := hx
    exact H1.out k _ (List.getElem?_eq_getElem _) (by omega)) (fun x hx => by have := H2.out i x hx (Nat.le_refl _); omega)
   by_cases hin : i < n
   ·obtain ⟨b, off, x, rfl, hbB, hx, hc0, hc1, hc2, hc3, hc4⟩ := (hr.below hb).cell hin
    clear hx
    go_wp2_with fail
    refine (open1_any x id _).mono ?_
    rintro e w' ⟨rfl, hb'⟩
    have hb2 := hb.trans (hb'.mono hb.size)
    go_wp2_with fail
    go_ret2
    rw [HB.out]
    exact ⟨⟨_, rfl⟩, hb2⟩
   ·have hin' : decide ((i : Int) < (n : Int)) = false := by simp; omega
    go_wp2_with fail
    go_ret2
    rw [HB.out]
    exact ⟨⟨_, rfl⟩, hb⟩
end
section
open Go.RowKit
theorem run_copy_blk {P : Program} {w : World} {g : Nat} {e : TypeId} {cs : Array Value} (hb : Blk w g e cs) {dT sT ty elem : TypeId} {size : Nat} (hu : P.underlying dT = some (.slice elem)) (hs : (P.info? elem).map (·.size) = some size) (o dLen dCap : Nat) (a : Addr) (sLen sCap : Nat) (news : List Value)
  (hn : news.length = Nat.min sLen dLen * size) (hsrc : ∀ j v, news[j]? = some v → w.cell? (a.add j) = some v) (hfit : o + news.length ≤ cs.size) (h1 : ∀ v ∈ news, v.oneCell' = true) :
  (Builtin.copy_ #[dT, sT] ty #[.slice (some ⟨g, o, none⟩) dLen dCap, .slice (some a) sLen sCap]).run P w = .ok (goInt (Nat.min sLen dLen)) (w.setCells g o news) := by
 have hl := run_loadCells_list (P := P) w a news hsrc
 have hst := run_storeCells_cells (P := P) g o news 0 w (by
  intro j hj
  rw [hb.cell, Array.getElem?_eq_getElem (by omega)]; rfl) (fun j _ => hb.frozen _) h1
 simp only [Nat.add_zero] at hst
 cases hq : P.info? elem with
 | none => simp [hq] at hs
 | some i =>
  have hi : i.size = size := by simpa [hq] using hs
  simp [Builtin.copy_, run_underlying hu, Builtin.lenOf, Builtin.firstCells, sizeOf, typeInfo, hq, hi, ← hn, hl, hst]
theorem nextcap_le {need cap : Nat} (h : cap < need) (hc : need ≤ 200) : Builtin.nextslicecap need cap ≤ 400 := by
 unfold Builtin.nextslicecap
 split
 ·omega
 ·split
  ·omega
  ·omega
theorem run_append_make {P : Program} {w : World} {g : Nat} {e : TypeId} {cs : Array Value} (hb : Blk w g e cs) {t tn ty : TypeId} {i : TypeInfo} {z : Value} {kn : IntKind} (ht : P.underlying t = some (.slice e)) (htn : P.underlying tn = some (.int kn)) (hi : P.info? e = some i) (hz : i.zero = some z)
  (n cap m : Nat) (olds : List Value) (hold : olds.length = n * i.size) (hcs : ∀ k, k < n * i.size → cs[k]? = olds[k]?) (h0 : 0 < m) (hs : 0 < i.size) (hg : cap < n + m) (hnm : n + m ≤ 200) (hbytes : i.bytes ≤ 1000) :
  (Builtin.append_ #[t, tn] ty #[.slice (some ⟨g, 0, none⟩) n cap, .int .i64 m]).run P w =
   .ok (.slice (some ⟨w.heap.size, 0, none⟩) (n + m) (grownCap w (n + m) cap e)) (w.drew.alloc (.cells (olds.toArray ++ Builtin.zeroCells z.cells m ++ Builtin.zeroCells z.cells (grownCap w (n + m) cap e - (n + m))) e)) := by
 have hn : ¬ (n + m ≤ cap) := by omega
 have hw : IntKind.i64.wrap (m : Int) = m := by rw [IntKind.wrap_i64]; omega
 have h63' : ¬ (9223372036854775807 < ((n : Int) + (m : Int))) := by omega
 have hcap := nextcap_le hg hnm
 have h48' : ¬ (281474976710656 < Builtin.nextslicecap (n + m) cap * i.bytes) := by
  have := Nat.mul_le_mul hcap hbytes
  omega
 have h48i : ¬ (281474976710656 < (m : Int) * (i.bytes : Int)) := by
  rw [← Int.natCast_mul]
  have := Nat.mul_le_mul (show m ≤ 200 by omega) hbytes
  omega
 have hneg : ¬ ((m : Int) < 0) := by omega
 have hns : ¬ (m * i.size = 0) := Nat.mul_ne_zero (by omega) (by omega)
 have hl := run_loadCells_list (P := P) w.drew ⟨g, 0, none⟩ olds (by
  intro j v hv
  have hj : j < n * i.size := by rw [← hold]; exact (List.getElem?_eq_some_iff.1 hv).1
  have ha : ((⟨g, 0, none⟩ : Addr).add j) = ⟨g, j, none⟩ := by
   unfold Addr.add
   by_cases hj : j = 0
   ·simp [hj]
   ·simp [hj]
  rw [ha]
  exact (hb.cell j).trans ((hcs j hj).trans hv))
 rw [hold] at hl
 simp [Builtin.append_, run_underlying ht, run_underlying htn, sizeOf, typeInfo, zeroValue, hi, hz, asInt, asIntOf, hw, hn, hneg, hns, h63', h48', h48i, Question.forced, Builtin.firstCells, hl, newRow, grownCap]
end
section
open Go.RowKit
theorem lit_add (g o k : Nat) : ((⟨g, o, none⟩ : Addr).add k) = ⟨g, o + k, none⟩ := by
 unfold Addr.add
 by_cases hk : k = 0
 ·simp [hk]
 ·simp [hk]
theorem flat_take {α : Type} {vals : α → List Value} {size : Nat} (hv : ∀ x, (vals x).length = size) (l : List α) (k : Nat) : (l.flatMap vals).take (k * size) = (l.take k).flatMap vals := by
 induction l generalizing k with
 | nil => simp
 | cons x l ih =>
  cases k with
  | zero => simp
  | succ k =>
   rw [List.flatMap_cons, List.take_succ_cons, List.flatMap_cons, ← ih k, List.take_append, hv, show (k + 1) * size - size = k * size by rw [Nat.add_mul]; omega, List.take_of_length_le (by rw [hv, Nat.add_mul]; omega)]
theorem flat_drop {α : Type} {vals : α → List Value} {size : Nat} (hv : ∀ x, (vals x).length = size) (l : List α) (k : Nat) : (l.flatMap vals).drop (k * size) = (l.drop k).flatMap vals := by
 induction l generalizing k with
 | nil => simp
 | cons x l ih =>
  cases k with
  | zero => simp
  | succ k =>
   rw [List.flatMap_cons, List.drop_succ_cons, ← ih k, List.drop_append, hv, show (k + 1) * size - size = k * size by rw [Nat.add_mul]; omega, List.drop_of_length_le (by rw [hv, Nat.add_mul]; omega), List.nil_append]
theorem ins_cells {l : List Link} {x : Link} {at_ n : Nat} (hl : l.length = n) (hat : at_ ≤ n) {cs : Array Value} (hsz : (n + 1) * 5 ≤ cs.size) (hhead : ∀ k, k < at_ * 5 → cs[k]? = (l.flatMap Link.vals)[k]?) (first : Bool) :
  ∀ k, k < (n + 1) * 5 → (if first then wrt (wrt cs (at_ * 5) x.vals) ((at_ + 1) * 5) ((l.drop at_).flatMap Link.vals) else wrt (wrt cs ((at_ + 1) * 5) ((l.drop at_).flatMap Link.vals)) (at_ * 5) x.vals)[k]? = ((l.take at_ ++ x :: l.drop at_).flatMap Link.vals)[k]? := by
 have hd : ((l.drop at_).flatMap Link.vals).length = (n - at_) * 5 := by rw [flat_len' vals5, List.length_drop, hl]
 have ht : ((l.take at_).flatMap Link.vals).length = at_ * 5 := by rw [flat_len' vals5, List.length_take]; congr 1; omega
 have hx : x.vals.length = 5 := rfl
 intro k hk
 rw [List.flatMap_append, List.flatMap_cons]
 by_cases h1 : k < at_ * 5
 ·rw [List.getElem?_append_left (by omega)]
  have : (l.flatMap Link.vals)[k]? = ((l.take at_).flatMap Link.vals)[k]? := by
   rw [← flat_take vals5, List.getElem?_take, if_pos h1]
  rw [← this, ← hhead k h1]
  cases first
  ·simp only [Bool.false_eq_true, if_false]
   rw [wrt_out _ _ _ _ (.inl h1), wrt_out _ _ _ _ (.inl (by omega))]
  ·simp only [if_true]
   rw [wrt_out _ _ _ _ (.inl (by omega)), wrt_out _ _ _ _ (.inl h1)]
 ·rw [List.getElem?_append_right (by omega), ht]
  by_cases h2 : k < (at_ + 1) * 5
  ·rw [List.getElem?_append_left (by omega)]
   obtain ⟨q, rfl⟩ : ∃ q, k = at_ * 5 + q := ⟨k - at_ * 5, by omega⟩
   rw [show at_ * 5 + q - at_ * 5 = q by omega]
   cases first
   ·simp only [Bool.false_eq_true, if_false]
    rw [wrt_in _ _ _ _ (by omega) (by rw [wrt_size]; omega)]
   ·simp only [if_true]
    rw [wrt_out _ _ _ _ (.inl (by omega)), wrt_in _ _ _ _ (by omega) (by omega)]
  ·rw [List.getElem?_append_right (by omega), hx]
   obtain ⟨q, rfl⟩ : ∃ q, k = (at_ + 1) * 5 + q := ⟨k - (at_ + 1) * 5, by omega⟩
   rw [show (at_ + 1) * 5 + q - at_ * 5 - 5 = q by omega]
   cases first
   ·simp only [Bool.false_eq_true, if_false]
    rw [wrt_out _ _ _ _ (.inr (by omega)), wrt_in _ _ _ _ (by omega) (by omega)]
   ·simp only [if_true]
    rw [wrt_in _ _ _ _ (by omega) (by rw [wrt_size]; omega)]
theorem one_link {w : World} {vb : Nat} {tv : TypeId} {x : Link} (h : Blk w vb tv #[.int .i64 x.id, .int .i64 x.fr, .int .i64 x.to, .int .i64 x.steps, .int .i64 x.paces]) {B : Nat} (hB : vb < B) : Reads w B 5 (some ⟨vb, 0, none⟩) 1 x.vals :=
 ⟨rfl, fun _ => ⟨_, rfl, hB, fun j u hu => by
  rw [lit_add, Nat.zero_add, h.cell, ← hu]
  simp [Link.vals]⟩⟩
theorem vals_one (x : Link) : ∀ u ∈ x.vals, u.oneCell' = true := by
 intro u hu
 simp only [Link.vals, List.mem_cons, List.not_mem_nil, or_false] at hu
 rcases hu with rfl | rfl | rfl | rfl | rfl <;> rfl
theorem sizeof_link (w : World) : (sizeOf 52).run Tryz.prog w = .ok 5 w := by kernel_rfl
theorem size_link : (Tryz.prog.info? 52).map (·.size) = some 5 := by kernel_rfl
set_option maxRecDepth 100000 in
set_option maxHeartbeats 4000000 in
theorem insert_end (base : Nat) (A : Option Addr) (n c : Nat) (l : List Link) (vb : Nat) (tv : TypeId) (x : Link) (w : World) (hO : Own w base 52 5 A n c (l.flatMap Link.vals)) (hbase : base ≤ w.heap.size) (hn : n ≤ 100) (hx : Blk w vb tv #[.int .i64 x.id, .int .i64 x.fr, .int .i64 x.to, .int .i64 x.steps, .int .i64 x.paces]) :
  Calls Tryz.prog 99 #[.slice A n c, .int .i64 n, .slice (some ⟨vb, 0, none⟩) 1 1] w fun e w' => ∃ A' c', e = .returned (.slice A' (n + 1) c') ∧ Own w' base 52 5 A' (n + 1) c' ((l ++ [x]).flatMap Link.vals) ∧ w.grownBy w' (A.map (·.block)) ∧ (A' = A ∨ A' = some ⟨w.heap.size, 0, none⟩) := by
 have hcap := hO.cap_le
 have hcn := hcap.1
 have hmax : c ≤ 9223372036854775807 := by have := hcap.2; unfold maxLen at this; omega
 have hnil : A = none → n = 0 ∧ c = 0 ∧ l.flatMap Link.vals = [] := fun h => by subst h; exact hO.nil
 have HO := lh hO
 have HX := lh hx
 have HR : Hid (Reads w (vb + 1) 5 (some ⟨vb, 0, none⟩) 1 x.vals) := one_link hx (by omega)
 clear hO hx hcap
 cases A with
 | none =>
  obtain ⟨rfl, rfl, hl0⟩ := hnil rfl
  clear hnil hl0
  go_enter Tryz.func99, Tryz.ntmps99
  go_wp2_with (at_builtin; refine wpList_append_any _ rfl _ _ rfl elem_link rfl HO.out rfl HR.out (vals_one x) (by decide) (by decide) hbase ?_)
  rintro A' cap' w' hown hg hA
  go_wp2_with fail
  go_ret
  exact ⟨A', cap', rfl, by rw [List.flatMap_append]; simpa using hown, hg, hA⟩
 | some a =>
  clear hnil
  obtain ⟨g, rfl⟩ : ∃ g, a = ⟨g, 0, none⟩ := by
   rcases HO.out.form with ⟨h, _⟩ | ⟨g, cur, h, _⟩
   ·cases h
   ·cases h; exact ⟨g, rfl⟩
  go_enter Tryz.func99, Tryz.ntmps99
  go_wp2_with (at_builtin; refine wpList_append_any _ rfl _ _ rfl elem_link rfl HO.out rfl HR.out (vals_one x) (by unfold maxLen; omega) (by omega) hbase ?_)
  all_goals
   rintro A' cap' w' hown hg hA
   go_wp2_with fail
   go_ret
   exact ⟨A', cap', rfl, by rw [List.flatMap_append]; simpa using hown, hg, hA⟩
theorem below_of_grown_setCells {B : Nat} {w : World} : ∀ {vs : List Value} {o : Nat} {w' : World}, Below B w w' → Below B w (w'.setCells B o vs)
 | [], _, _, h => h
 | v :: r, o, w', h => below_of_grown_setCells (vs := r) (o := o + 1) (h.setCell (p := ⟨B, o, none⟩) (Nat.le_refl _) v)
theorem splitc {w : World} {g : Nat} {e : TypeId} {cs : Array Value} (hb : Blk w g e cs) {l : List Link} {n : Nat} (hl : l.length = n) (hcs : ∀ k, k < n * 5 → cs[k]? = (l.flatMap Link.vals)[k]?) (at_ : Nat) (hat : at_ ≤ n) :
  ∀ j v, ((l.drop at_).flatMap Link.vals)[j]? = some v → w.cell? ((⟨g, at_ * 5, none⟩ : Addr).add j) = some v := by
 intro j v hv
 have hd : ((l.drop at_).flatMap Link.vals).length = (n - at_) * 5 := by rw [flat_len' vals5, List.length_drop, hl]
 have hj : j < (n - at_) * 5 := by rw [← hd]; exact (List.getElem?_eq_some_iff.1 hv).1
 rw [lit_add, hb.cell, hcs _ (by omega), ← hv, ← flat_drop vals5, List.getElem?_drop]
set_option maxRecDepth 100000 in
set_option maxHeartbeats 400000 in
theorem insert_room (base g n c at_ : Nat) (l : List Link) (vb : Nat) (x : Link) (w : World) (hO : Own w base 52 5 (some ⟨g, 0, none⟩) n c (l.flatMap Link.vals)) (hat : at_ < n) (hc : n + 1 ≤ c) (hx : Blk w vb 52 #[.int .i64 x.id, .int .i64 x.fr, .int .i64 x.to, .int .i64 x.steps, .int .i64 x.paces]) (hne : vb ≠ g) :
  Calls Tryz.prog 99 #[.slice (some ⟨g, 0, none⟩) n c, .int .i64 at_, .slice (some ⟨vb, 0, none⟩) 1 1] w fun e w' => e = .returned (.slice (some ⟨g, 0, none⟩) (n + 1) c) ∧ Own w' base 52 5 (some ⟨g, 0, none⟩) (n + 1) c ((l.take at_ ++ x :: l.drop at_).flatMap Link.vals) ∧ w.grownBy w' (some g) := by
 have hl : l.length = n := by have := hO.len; rw [flat_len' vals5] at this; omega
 have hcap := hO.cap_le
 have hmax : c ≤ 9223372036854775807 := by have := hcap.2; unfold maxLen at this; omega
 rcases hO.form with ⟨h, _⟩ | ⟨g', cur, h, hbg, hblk, _, _, hsz, htake, _⟩
 ·cases h
 ·cases h
  have hcs : ∀ k, k < n * 5 → cur[k]? = (l.flatMap Link.vals)[k]? := by
   intro k hk
   rw [← htake, List.getElem?_take, if_pos hk, Array.getElem?_toList]
  have hd : ((l.drop at_).flatMap Link.vals).length = (n - at_) * 5 := by rw [flat_len' vals5, List.length_drop, hl]
  have hz1 : ¬ ((at_ : Int) = (n : Int)) := by omega
  have hov : ∀ lb cb, (callFunc 125 #[.slice (some ⟨vb, 0, none⟩) 1 1, .slice (some ⟨g, (at_ + 1) * 5, none⟩) lb cb]).run Tryz.prog w = .ok (.value (.bool false)) w := fun lb cb => by
   rw [run_callFunc_extern (P := Tryz.prog) (f := 125) (fn := Tryz.f125) (by kernel_rfl) (by kernel_rfl) (by kernel_rfl) (by kernel_rfl) (e := Extern.SlicesOverlaps.overlaps #[23, 23] #[4]) (by kernel_rfl),
    Lib.run_overlaps_apart w 23 4 52 Tryz.underlying23 5 sizeof_link ⟨vb, 0, none⟩ ⟨g, (at_ + 1) * 5, none⟩ 1 1 lb cb hne 52 52 5 cur.size
     (by unfold World.shape?; rw [show w.heap[vb]? = _ from hx]; rfl) (by unfold World.shape?; rw [show w.heap[g]? = _ from hblk]) (by omega) (hx.frozen 0) (hx.frozen 5)]
   rfl
  have hcp1 : ∀ ty dc sc, (Builtin.copy_ #[23, 23] ty #[.slice (some ⟨g, (at_ + 1) * 5, none⟩) (n - at_) dc, .slice (some ⟨g, at_ * 5, none⟩) (n + 1 - at_) sc]).run Tryz.prog w.drew = .ok (goInt (Nat.min (n + 1 - at_) (n - at_))) (w.drew.setCells g ((at_ + 1) * 5) ((l.drop at_).flatMap Link.vals)) := fun ty dc sc =>
   run_copy_blk (Blk.drewN hblk 1) Tryz.underlying23 size_link _ _ dc ⟨g, at_ * 5, none⟩ _ sc _ (by rw [hd, show Nat.min (n + 1 - at_) (n - at_) = n - at_ from Nat.min_eq_right (by omega)]) (splitc hblk hl hcs at_ (by omega)) (by rw [hd, hsz]; omega) (links_one _)
  have hb1 := Blk.setCells ((l.drop at_).flatMap Link.vals) ((at_ + 1) * 5) (Blk.drewN hblk 1)
  have hx1 : Blk (w.drew.setCells g ((at_ + 1) * 5) ((l.drop at_).flatMap Link.vals)) vb 52 #[.int .i64 x.id, .int .i64 x.fr, .int .i64 x.to, .int .i64 x.steps, .int .i64 x.paces] := ((grown_setCells (g := g) ((l.drop at_).flatMap Link.vals) ((at_ + 1) * 5) (grown_drew (grown_refl w (some g)) 1) (.inl rfl)).block vb hx.lt (by simp [hne])).trans hx
  have hcp2 : ∀ ty dc, (Builtin.copy_ #[23, 23] ty #[.slice (some ⟨g, at_ * 5, none⟩) (n + 1 - at_) dc, .slice (some ⟨vb, 0, none⟩) 1 1]).run Tryz.prog (w.drew.setCells g ((at_ + 1) * 5) ((l.drop at_).flatMap Link.vals)) = .ok (goInt (Nat.min 1 (n + 1 - at_))) ((w.drew.setCells g ((at_ + 1) * 5) ((l.drop at_).flatMap Link.vals)).setCells g (at_ * 5) x.vals) := fun ty dc =>
   run_copy_blk hb1 Tryz.underlying23 size_link _ _ dc ⟨vb, 0, none⟩ _ 1 _ (by rw [show Nat.min 1 (n + 1 - at_) = 1 from Nat.min_eq_left (by omega)]; rfl) (by
    intro j v hv
    rw [lit_add, Nat.zero_add]
    refine (hx1.cell j).trans ?_
    rw [← hv]
    simp [Link.vals]) (by rw [wrt_size, hsz]; simp [Link.vals]; omega) (vals_one x)
  have hic := ins_cells (x := x) hl (show at_ ≤ n by omega) (cs := cur) (by omega) (fun k hk => hcs k (by omega)) false
  simp only [Bool.false_eq_true, if_false] at hic
  have hfin : Own ((w.drew.setCells g ((at_ + 1) * 5) ((l.drop at_).flatMap Link.vals)).setCells g (at_ * 5) x.vals) base 52 5 (some ⟨g, 0, none⟩) (n + 1) c ((l.take at_ ++ x :: l.drop at_).flatMap Link.vals) :=
   Own.mk_ hbg (Blk.setCells x.vals (at_ * 5) hb1) hc hcap.2 (by rw [wrt_size, wrt_size]; exact hsz) (by rw [flat_len' vals5]; simp; omega) hic
  have hgr : w.grownBy ((w.drew.setCells g ((at_ + 1) * 5) ((l.drop at_).flatMap Link.vals)).setCells g (at_ * 5) x.vals) (some g) := grown_setCells x.vals (at_ * 5) (grown_setCells _ _ (grown_drew (grown_refl w (some g)) 1) (.inl rfl)) (.inl rfl)
  have mixed : Tryz.prog.follows .mixedOrders = true := by kernel_rfl
  have k1 : ((at_ : Int) == (n : Int)) = false := by simp; omega
  have k2 : ¬ (c = at_ + 1) := by omega
  have k3 : ¬ (c = at_) := by omega
  have k4 : decide ((c : Int) < (n : Int) + 1) = false := by simp; omega
  have k5 : ((at_ : Int) + 1).toNat = at_ + 1 := by omega
  have k6 : ((n : Int) + 1).toNat = n + 1 := by omega
  have k7 : IntKind.i64.wrap ((at_ : Int) + 1) = (at_ : Int) + 1 := by rw [IntKind.wrap_i64]; omega
  have k8 : (0 : Int) ≤ (at_ : Int) + 1 := by omega
  have k9 : at_ ≤ n := by omega
  have k10 : (at_ : Int) ≤ (n : Int) + 1 := by omega
  have k11 : n + 1 - (at_ + 1) = n - at_ := by omega
  have HF := lh hfin
  have HG := lh hgr
  have H1 := lh hcp1
  have H2 := lh hcp2
  clear hcp1 hcp2
  clear hfin hgr hic hb1 hx1 hx hO hcs hd hsz htake hl hblk hcap
  go_enter Tryz.func99, Tryz.ntmps99
  go_wp2_with (simp only [hov])
  clear hov
  have hcp1 := H1.out
  go_region
  clear hcp1
  have hcp2 := H2.out
  go_wp2_with fail
  go_ret
  exact ⟨rfl, HF.out, HG.out⟩
theorem under_int_kind : Tryz.prog.underlying 3 = some (.int .i64) := Tryz.underlying3
set_option maxRecDepth 100000 in
set_option maxHeartbeats 1000000 in
theorem insert_grow (base g n c at_ : Nat) (l : List Link) (vb : Nat) (x : Link) (w : World) (hO : Own w base 52 5 (some ⟨g, 0, none⟩) n c (l.flatMap Link.vals)) (hbase : base ≤ w.heap.size) (hat : at_ < n) (hn : n ≤ 100) (hc : c < n + 1) (hx : Blk w vb 52 #[.int .i64 x.id, .int .i64 x.fr, .int .i64 x.to, .int .i64 x.steps, .int .i64 x.paces]) :
  Calls Tryz.prog 99 #[.slice (some ⟨g, 0, none⟩) n c, .int .i64 at_, .slice (some ⟨vb, 0, none⟩) 1 1] w fun e w' => ∃ c', e = .returned (.slice (some ⟨w.heap.size, 0, none⟩) (n + 1) c') ∧ Own w' base 52 5 (some ⟨w.heap.size, 0, none⟩) (n + 1) c' ((l.take at_ ++ x :: l.drop at_).flatMap Link.vals) ∧ Below w.heap.size w w' := by
 have hl : l.length = n := by have := hO.len; rw [flat_len' vals5] at this; omega
 have hcap := hO.cap_le
 have hmax : c ≤ 9223372036854775807 := by have := hcap.2; unfold maxLen at this; omega
 obtain ⟨i0, hi, hz0, hz1, hz2⟩ := info_parts info_link
 rcases hO.form with ⟨h, _⟩ | ⟨g', cur, h, hbg, hblk, _, _, hsz, htake, _⟩
 ·cases h
 ·cases h
  have hcs : ∀ k, k < n * 5 → cur[k]? = (l.flatMap Link.vals)[k]? := by
   intro k hk
   rw [← htake, List.getElem?_take, if_pos hk, Array.getElem?_toList]
  have hd : ((l.drop at_).flatMap Link.vals).length = (n - at_) * 5 := by rw [flat_len' vals5, List.length_drop, hl]
  have htk : ((l.take at_).flatMap Link.vals).length = at_ * 5 := by rw [flat_len' vals5, List.length_take]; congr 1; omega
  have hgl := hblk.lt
  have hxl := hx.lt
  have hap : ∀ ty, (Builtin.append_ #[23, 3] ty #[.slice (some ⟨g, 0, none⟩) at_ c, .int .i64 ((n + 1 - at_ : Nat) : Int)]).run Tryz.prog w = _ := fun ty =>
   run_append_make hblk Tryz.underlying23 under_int_kind hi hz0 at_ c (n + 1 - at_) ((l.take at_).flatMap Link.vals) (by rw [hz1]; exact htk) (by
    intro k hk
    rw [hz1] at hk
    rw [hcs k (by omega), ← flat_take vals5, List.getElem?_take, if_pos hk]) (by omega) (by rw [hz1]; omega) (by omega) (by omega) (by rw [hz2]; omega)
  rw [show at_ + (n + 1 - at_) = n + 1 by omega] at hap
  have hge := grownCap_ge w (n + 1) c 52
  have hle := grownCap_le_maxLen w (n + 1) c 52 (by unfold maxLen; omega)
  generalize grownCap w (n + 1) c 52 = cap' at hap hge hle
  obtain ⟨news, hnews⟩ : ∃ news : Array Value, ((l.take at_).flatMap Link.vals).toArray ++ Builtin.zeroCells (Value.agg #[.int .i64 0, .int .i64 0, .int .i64 0, .int .i64 0, .int .i64 0]).cells (n + 1 - at_) ++ Builtin.zeroCells (Value.agg #[.int .i64 0, .int .i64 0, .int .i64 0, .int .i64 0, .int .i64 0]).cells (cap' - (n + 1)) = news := ⟨_, rfl⟩
  rw [hnews] at hap
  have hns : news.size = cap' * 5 := by
   rw [← hnews]
   simp only [Array.size_append, List.size_toArray, htk, Builtin.zeroCells, Array.size_map, Array.size_range, Value.cells]
   simp
   omega
  have hhead : ∀ k, k < at_ * 5 → news[k]? = (l.flatMap Link.vals)[k]? := by
   intro k hk
   rw [← hnews, Array.append_assoc, Array.getElem?_append_left (by simp [htk]; omega), List.getElem?_toArray, ← flat_take vals5, List.getElem?_take, if_pos hk]
  have hw1 : Blk (w.drew.alloc (.cells news 52)) w.heap.size 52 news := Blk.new w.drew _ _
  have hb1 : Below w.heap.size w (w.drew.alloc (.cells news 52)) := (Below.refl _ _).drew.alloc (Nat.le_refl _) _
  have hx1 := hx.below hb1 hxl
  obtain ⟨W1, hW1⟩ : ∃ W1, w.drew.alloc (.cells news 52) = W1 := ⟨_, rfl⟩
  rw [hW1] at hap hw1 hb1 hx1
  have hcp1 : ∀ ty dc, (Builtin.copy_ #[23, 23] ty #[.slice (some ⟨w.heap.size, at_ * 5, none⟩) (n + 1 - at_) dc, .slice (some ⟨vb, 0, none⟩) 1 1]).run Tryz.prog W1 = .ok (goInt (Nat.min 1 (n + 1 - at_))) (W1.setCells w.heap.size (at_ * 5) x.vals) := fun ty dc =>
   run_copy_blk hw1 Tryz.underlying23 size_link _ _ dc ⟨vb, 0, none⟩ _ 1 _ (by rw [show Nat.min 1 (n + 1 - at_) = 1 from Nat.min_eq_left (by omega)]; rfl) (by
    intro j v hv
    rw [lit_add, Nat.zero_add]
    refine (hx1.cell j).trans ?_
    rw [← hv]
    simp [Link.vals]) (by rw [hns]; simp [Link.vals]; omega) (vals_one x)
  have hw2 := Blk.drewN (Blk.setCells x.vals (at_ * 5) hw1) 1
  have hb2 : Below w.heap.size w (W1.setCells w.heap.size (at_ * 5) x.vals) := below_of_grown_setCells hb1
  obtain ⟨W2, hW2⟩ : ∃ W2, W1.setCells w.heap.size (at_ * 5) x.vals = W2 := ⟨_, rfl⟩
  rw [hW2] at hcp1 hw2 hb2
  have hcp2 : ∀ ty dc sc, (Builtin.copy_ #[23, 23] ty #[.slice (some ⟨w.heap.size, (at_ + 1) * 5, none⟩) (n - at_) dc, .slice (some ⟨g, at_ * 5, none⟩) (n - at_) sc]).run Tryz.prog W2.drew = .ok (goInt (Nat.min (n - at_) (n - at_))) (W2.drew.setCells w.heap.size ((at_ + 1) * 5) ((l.drop at_).flatMap Link.vals)) := fun ty dc sc =>
   run_copy_blk hw2 Tryz.underlying23 size_link _ _ dc ⟨g, at_ * 5, none⟩ _ sc _ (by rw [hd, show Nat.min (n - at_) (n - at_) = n - at_ from Nat.min_self _]) (splitc (Blk.drewN (hblk.below hb2 hgl) 1) hl hcs at_ (by omega)) (by rw [wrt_size, hd, hns]; omega) (links_one _)
  have hic := ins_cells (x := x) hl (show at_ ≤ n by omega) (cs := news) (by omega) hhead true
  simp only [if_true] at hic
  have hfin : Own (W2.drew.setCells w.heap.size ((at_ + 1) * 5) ((l.drop at_).flatMap Link.vals)) base 52 5 (some ⟨w.heap.size, 0, none⟩) (n + 1) cap' ((l.take at_ ++ x :: l.drop at_).flatMap Link.vals) :=
   Own.mk_ hbase (Blk.setCells ((l.drop at_).flatMap Link.vals) ((at_ + 1) * 5) hw2) (by omega) hle (by rw [wrt_size, wrt_size]; exact hns) (by rw [flat_len' vals5]; simp; omega) hic
  have hgr : Below w.heap.size w (W2.drew.setCells w.heap.size ((at_ + 1) * 5) ((l.drop at_).flatMap Link.vals)) := below_of_grown_setCells hb2.drew
  have mixed : Tryz.prog.follows .mixedOrders = true := by kernel_rfl
  have k1 : ((at_ : Int) == (n : Int)) = false := by simp; omega
  have k2 : ¬ (cap' = at_ + 1) := by omega
  have k3 : ¬ (cap' = at_) := by omega
  have k2' : ¬ (c = at_) := by omega
  have k4 : decide ((c : Int) < (n : Int) + 1) = true := by simp; omega
  have k5 : ((at_ : Int) + 1).toNat = at_ + 1 := by omega
  have k6 : ((n : Int) + 1).toNat = n + 1 := by omega
  have k7 : IntKind.i64.wrap ((at_ : Int) + 1) = (at_ : Int) + 1 := by rw [IntKind.wrap_i64]; omega
  have k8 : (0 : Int) ≤ (at_ : Int) + 1 := by omega
  have k9 : at_ ≤ n := by omega
  have k10 : (at_ : Int) ≤ (n : Int) + 1 := by omega
  have k11 : n + 1 - (at_ + 1) = n - at_ := by omega
  have k12 : (n : Int) + 1 - (at_ : Int) = ((n + 1 - at_ : Nat) : Int) := by omega
  have HF := lh hfin
  have HG := lh hgr
  rw [← k12] at hap
  have HA := lh hap
  clear hap k12
  have H1 := lh hcp1
  have H2 := lh hcp2
  clear hfin hgr hic hb1 hx1 hx hO hcs hd hsz htake hl hblk hcap hcp1 hcp2 hW1 hW2 hnews hns hhead hw1 hw2 hb2 hi hz0 hz1 hz2 htk
  go_enter Tryz.func99, Tryz.ntmps99
  have hcp1 := H1.out
  go_wp2_with (at_builtin; refine Lib.wpList_append_run _ rfl _ _ 23 3 rfl _ _ rfl rfl _ _ (HA.out _) ?_)
  clear hcp1
  have hcp2 := H2.out
  go_region
  clear hcp2
  go_wp2_with fail
  go_ret
  exact ⟨cap', rfl, HF.out, HG.out⟩
theorem insert_link (base : Nat) (A : Option Addr) (n c at_ : Nat) (l : List Link) (vb : Nat) (x : Link) (w : World) (hO : Own w base 52 5 A n c (l.flatMap Link.vals)) (hbase : base ≤ w.heap.size) (hat : at_ ≤ n) (hn : n ≤ 100) (hx : Blk w vb 52 #[.int .i64 x.id, .int .i64 x.fr, .int .i64 x.to, .int .i64 x.steps, .int .i64 x.paces]) (hne : ∀ a, A = some a → vb ≠ a.block) :
  Calls Tryz.prog 99 #[.slice A n c, .int .i64 at_, .slice (some ⟨vb, 0, none⟩) 1 1] w fun e w' => ∃ A' c', e = .returned (.slice A' (n + 1) c') ∧ Own w' base 52 5 A' (n + 1) c' ((l.take at_ ++ x :: l.drop at_).flatMap Link.vals) ∧ w.grownBy w' (A.map (·.block)) ∧ (A' = A ∨ A' = some ⟨w.heap.size, 0, none⟩) := by
 have hl : l.length = n := by have := hO.len; rw [flat_len' vals5] at this; omega
 rcases Nat.eq_or_lt_of_le hat with rfl | hlt
 ·refine (insert_end base A at_ c l vb _ x w hO hbase hn hx).mono ?_
  rintro e w' ⟨A', c', h1, h2, h3, h4⟩
  rw [List.take_of_length_le (by omega), List.drop_eq_nil_of_le (by omega)]
  exact ⟨A', c', h1, h2, h3, h4⟩
 ·obtain ⟨g, rfl⟩ : ∃ g, A = some ⟨g, 0, none⟩ := by
   rcases hO.form with ⟨_, h, _⟩ | ⟨g, cur, h, _⟩
   ·omega
   ·exact ⟨g, h⟩
  by_cases hc : n + 1 ≤ c
  ·refine (insert_room base g n c at_ l vb x w hO hlt hc hx (hne _ rfl)).mono ?_
   rintro e w' ⟨h1, h2, h3⟩
   exact ⟨_, _, h1, h2, h3, .inl rfl⟩
  ·refine (insert_grow base g n c at_ l vb x w hO hbase hlt hn (by omega) hx).mono ?_
   rintro e w' ⟨c', h1, h2, h3⟩
   exact ⟨_, _, h1, h2, grown_of_below h3 _, .inr rfl⟩
end
end Go.Proofs.YtahkjagjcogeiaaGreatDoor
