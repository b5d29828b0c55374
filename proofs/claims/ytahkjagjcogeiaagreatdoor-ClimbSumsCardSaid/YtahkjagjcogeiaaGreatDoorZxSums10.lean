/- Part 10 of the texts of this claim, joined. -/
import Derived.Deep.Cut
import Derived.Test.YtahkjagjcogeiaaGreatDoorZxSums9
set_option linter.unusedVariables false
/- alive: the chapter's examples, walked. -/
namespace Go.Proofs.YtahkjagjcogeiaaGreatDoor
open Go.RowKit Go.Shelf

set_option maxRecDepth 100000 in
set_option maxHeartbeats 16000000 in
theorem alive_in (w : World) (hL : Laid w) : CallsIn Fence.wide 9 Tryz.prog 13 #[] w fun e w' => e = .returned (.bool true) ∧ Below w.heap.size w w' := by
 have HL := Lib.hid hL
 have hl0 := hL.2.2.2
 clear hL
 have HLay := Lib.hid (Lay.nil w)
 refine callsIn_of_wp Tryz.func13 rfl trivial ?_ rfl
 simp only [Tryz.ntmps13, List.size_toArray, List.length_nil, Nat.reduceSub, Array.replicate_succ, Array.replicate_zero, List.push_toArray, List.append_toArray, List.nil_append, List.cons_append]
 gi_wp2
 refine ⟨trivial, (callsIn_wide.2 (town_any w)).mono ?_⟩
 rintro e W1 ⟨g, g2, rfl, ht, hb⟩
 replace HLay := Lib.hid (HLay.out.below hb)
 clear hb
 have HTn := Lib.hid ht
 clear ht
 gi_wp2
 refine ⟨trivial, (callsIn_wide.2 (wayl_any (some ⟨g, 0, none⟩) 4 4 (some ⟨g2, 0, none⟩) 4 4 exT 1 4 false W1 (by omega) (by omega) HTn.out (HL.out.below HLay.out.bel hl0))).mono ?_⟩
 rintro e W2 ⟨AA, nAA, cAA, rfl, hi, hb⟩
 replace HLay := Lib.hid (HLay.out.below hb)
 replace HTn := Lib.hid ((HTn.out.below hb).more hb.size)
 clear hb
 rw [ex_way.1] at hi
 rw [ex_way.2]
 obtain rfl : nAA = 3 := by have := hi.len; simpa using this.symm
 have HA := Lib.hid hi
 clear hi
 clear HTn
 gi_wp2
 refine ⟨trivial, (callsIn_wide.2 (town_any W2)).mono ?_⟩
 rintro e W3 ⟨g, g2, rfl, ht, hb⟩
 replace HLay := Lib.hid (HLay.out.below hb)
 replace HA := Lib.hid ((HA.out.below hb).more hb.size)
 clear hb
 have HTn := Lib.hid ht
 clear ht
 gi_wp2
 refine ⟨trivial, (callsIn_wide.2 (toilw_any (some ⟨g, 0, none⟩) 4 4 (some ⟨g2, 0, none⟩) 4 4 exT 1 4 false W3 (by omega) (by omega) HTn.out (HL.out.below HLay.out.bel hl0))).mono ?_⟩
 rintro e W4 ⟨rfl, hb⟩
 replace HLay := Lib.hid (HLay.out.below hb)
 replace HA := Lib.hid ((HA.out.below hb).more hb.size)
 replace HTn := Lib.hid ((HTn.out.below hb).more hb.size)
 clear hb
 rw [ex_toil, ex_way.2]
 clear HTn
 gi_wp2
 obtain ⟨V5, hV⟩ : ∃ V, (W4.alloc (.cells #[.int .i64 20, .int .i64 140] 34)) = V := ⟨_, rfl⟩
 rw [hV]
 have hb := fbox_bel hV
 have hnew := fbox_blk hV
 have hge := HLay.out.bel.size
 replace HLay := Lib.hid (HLay.out.below hb)
 replace HA := Lib.hid ((HA.out.below hb).more hb.size)
 replace HLay := Lib.hid (HLay.out.add hge hnew)
 clear hnew hge hb hV
 obtain ⟨G6, hG⟩ : ∃ g, W4.heap.size = g := ⟨_, rfl⟩
 rw [hG] at HLay ⊢
 clear hG
 replace HLay := Lib.hid (show Lay w V5 [(G6, 34, #[.int .i64 20, .int .i64 140])] from HLay.out)
 refine ⟨trivial, (callsIn_wide.2 (town_any V5)).mono ?_⟩
 rintro e W7 ⟨g, g2, rfl, ht, hb⟩
 replace HLay := Lib.hid (HLay.out.below hb)
 replace HA := Lib.hid ((HA.out.below hb).more hb.size)
 clear hb
 have HTn := Lib.hid ht
 clear ht
 gi_wp2
 refine ⟨trivial, (callsIn_wide.2 (reach_any (some ⟨g, 0, none⟩) 4 4 (some ⟨g2, 0, none⟩) 4 4 exT 1 true W7 (by omega) (by omega) HTn.out (HL.out.below HLay.out.bel hl0))).mono ?_⟩
 rintro e W8 ⟨AB, nAB, cAB, rfl, hi, hb⟩
 replace HLay := Lib.hid (HLay.out.below hb)
 replace HA := Lib.hid ((HA.out.below hb).more hb.size)
 replace HTn := Lib.hid ((HTn.out.below hb).more hb.size)
 clear hb
 rw [ex_reach.1] at hi
 rw [ex_reach.2]
 obtain rfl : nAB = 2 := by have := hi.len; simpa using this.symm
 have HB := Lib.hid hi
 clear hi
 clear HTn
 have x0_0 := (HLay.out.blk 0 rfl).cell 0
 have x0_1 := (HLay.out.blk 0 rfl).cell 1
 have l0_ := HLay.out.lt 0 rfl
 gi_wp2
 clear x0_0 x0_1 l0_
 refine ⟨trivial, (callsIn_wide.2 (town_any W8)).mono ?_⟩
 rintro e W9 ⟨g, g2, rfl, ht, hb⟩
 replace HLay := Lib.hid (HLay.out.below hb)
 replace HA := Lib.hid ((HA.out.below hb).more hb.size)
 replace HB := Lib.hid ((HB.out.below hb).more hb.size)
 clear hb
 have HTn := Lib.hid ht
 clear ht
 gi_wp2
 obtain ⟨V10, hV⟩ : ∃ V, (W9.alloc (.cells #[.int .i64 1, .int .i64 3] 3)) = V := ⟨_, rfl⟩
 rw [hV]
 have hb := fbox_bel hV
 have hnew := fbox_blk hV
 have hge := HLay.out.bel.size
 replace HLay := Lib.hid (HLay.out.below hb)
 replace HA := Lib.hid ((HA.out.below hb).more hb.size)
 replace HB := Lib.hid ((HB.out.below hb).more hb.size)
 replace HTn := Lib.hid ((HTn.out.below hb).more hb.size)
 replace HLay := Lib.hid (HLay.out.add hge hnew)
 clear hnew hge hb hV
 obtain ⟨G11, hG⟩ : ∃ g, W9.heap.size = g := ⟨_, rfl⟩
 rw [hG] at HLay ⊢
 clear hG
 replace HLay := Lib.hid (show Lay w V10 [(G6, 34, #[.int .i64 20, .int .i64 140]), (G11, 3, #[.int .i64 1, .int .i64 3])] from HLay.out)
 have x0_0 := (HLay.out.blk 0 rfl).cell 0
 have x0_1 := (HLay.out.blk 0 rfl).cell 1
 have l0_ := HLay.out.lt 0 rfl
 gi_wp2
 clear x0_0 x0_1 l0_
 refine ⟨trivial, (callsIn_wide.2 (walk_any (some ⟨g, 0, none⟩) 4 4 (some ⟨g2, 0, none⟩) 4 4 exT 1 (some ⟨G11, 0, none⟩) 2 2 [1, 3] V10 (by omega) (by omega) (by omega) HTn.out (ints_blk2 [1, 3] (HLay.out.blk 1 rfl)) (HL.out.below HLay.out.bel hl0))).mono ?_⟩
 rintro e W12 ⟨rfl, hb⟩
 replace HLay := Lib.hid (HLay.out.below hb)
 replace HA := Lib.hid ((HA.out.below hb).more hb.size)
 replace HB := Lib.hid ((HB.out.below hb).more hb.size)
 replace HTn := Lib.hid ((HTn.out.below hb).more hb.size)
 clear hb
 rw [ex_walk]
 clear HTn
 have x0_0 := (HLay.out.blk 0 rfl).cell 0
 have x0_1 := (HLay.out.blk 0 rfl).cell 1
 have l0_ := HLay.out.lt 0 rfl
 gi_wp2
 clear x0_0 x0_1 l0_
 obtain ⟨V13, hV⟩ : ∃ V, (W12.alloc (.cells #[.int .i64 50, .int .i64 50] 34)) = V := ⟨_, rfl⟩
 rw [hV]
 have hb := fbox_bel hV
 have hnew := fbox_blk hV
 have hge := HLay.out.bel.size
 replace HLay := Lib.hid (HLay.out.below hb)
 replace HA := Lib.hid ((HA.out.below hb).more hb.size)
 replace HB := Lib.hid ((HB.out.below hb).more hb.size)
 replace HLay := Lib.hid (HLay.out.add hge hnew)
 clear hnew hge hb hV
 obtain ⟨G14, hG⟩ : ∃ g, W12.heap.size = g := ⟨_, rfl⟩
 rw [hG] at HLay ⊢
 clear hG
 replace HLay := Lib.hid (show Lay w V13 [(G6, 34, #[.int .i64 20, .int .i64 140]), (G11, 3, #[.int .i64 1, .int .i64 3]), (G14, 34, #[.int .i64 50, .int .i64 50])] from HLay.out)
 refine ⟨trivial, (callsIn_wide.2 (town_any V13)).mono ?_⟩
 rintro e W15 ⟨g, g2, rfl, ht, hb⟩
 replace HLay := Lib.hid (HLay.out.below hb)
 replace HA := Lib.hid ((HA.out.below hb).more hb.size)
 replace HB := Lib.hid ((HB.out.below hb).more hb.size)
 clear hb
 have HTn := Lib.hid ht
 clear ht
 gi_wp2
 refine ⟨trivial, (callsIn_wide.2 (need_any (some ⟨g, 0, none⟩) 4 4 (some ⟨g2, 0, none⟩) 4 4 exT 1 4 false W15 (by omega) (by omega) HTn.out (HL.out.below HLay.out.bel hl0))).mono ?_⟩
 rintro e W16 ⟨AC, nAC, cAC, rfl, hi, hb⟩
 replace HLay := Lib.hid (HLay.out.below hb)
 replace HA := Lib.hid ((HA.out.below hb).more hb.size)
 replace HB := Lib.hid ((HB.out.below hb).more hb.size)
 replace HTn := Lib.hid ((HTn.out.below hb).more hb.size)
 clear hb
 rw [ex_need] at hi
 rw [ex_way.2]
 obtain rfl : nAC = 1 := by have := hi.len; simpa using this.symm
 have HC := Lib.hid hi
 clear hi
 clear HTn
 have x0_0 := (HLay.out.blk 0 rfl).cell 0
 have x0_1 := (HLay.out.blk 0 rfl).cell 1
 have l0_ := HLay.out.lt 0 rfl
 have x2_0 := (HLay.out.blk 2 rfl).cell 0
 have x2_1 := (HLay.out.blk 2 rfl).cell 1
 have l2_ := HLay.out.lt 2 rfl
 gi_wp2
 clear x0_0 x0_1 l0_ x2_0 x2_1 l2_
 refine ⟨trivial, (callsIn_wide.2 (town_any W16)).mono ?_⟩
 rintro e W17 ⟨g, g2, rfl, ht, hb⟩
 replace HLay := Lib.hid (HLay.out.below hb)
 replace HA := Lib.hid ((HA.out.below hb).more hb.size)
 replace HB := Lib.hid ((HB.out.below hb).more hb.size)
 replace HC := Lib.hid ((HC.out.below hb).more hb.size)
 clear hb
 have HTn := Lib.hid ht
 clear ht
 gi_wp2
 refine ⟨trivial, (callsIn_wide.2 (gate_any (some ⟨g, 0, none⟩) 4 4 (some ⟨g2, 0, none⟩) 4 4 exT 1 4 false W17 (by omega) (by omega) HTn.out (HL.out.below HLay.out.bel hl0))).mono ?_⟩
 rintro e W18 ⟨AD, nAD, cAD, rfl, hi, hb⟩
 replace HLay := Lib.hid (HLay.out.below hb)
 replace HA := Lib.hid ((HA.out.below hb).more hb.size)
 replace HB := Lib.hid ((HB.out.below hb).more hb.size)
 replace HC := Lib.hid ((HC.out.below hb).more hb.size)
 replace HTn := Lib.hid ((HTn.out.below hb).more hb.size)
 clear hb
 rw [ex_gate] at hi
 rw [ex_way.2]
 obtain rfl : nAD = 1 := by have := hi.len; simpa using this.symm
 have HD := Lib.hid hi
 clear hi
 clear HTn
 have x0_0 := (HLay.out.blk 0 rfl).cell 0
 have x0_1 := (HLay.out.blk 0 rfl).cell 1
 have l0_ := HLay.out.lt 0 rfl
 have x2_0 := (HLay.out.blk 2 rfl).cell 0
 have x2_1 := (HLay.out.blk 2 rfl).cell 1
 have l2_ := HLay.out.lt 2 rfl
 gi_wp2
 clear x0_0 x0_1 l0_ x2_0 x2_1 l2_
 refine ⟨trivial, (callsIn_wide.2 (town_any W18)).mono ?_⟩
 rintro e W19 ⟨g, g2, rfl, ht, hb⟩
 replace HLay := Lib.hid (HLay.out.below hb)
 replace HA := Lib.hid ((HA.out.below hb).more hb.size)
 replace HB := Lib.hid ((HB.out.below hb).more hb.size)
 replace HC := Lib.hid ((HC.out.below hb).more hb.size)
 replace HD := Lib.hid ((HD.out.below hb).more hb.size)
 clear hb
 have HTn := Lib.hid ht
 clear ht
 gi_wp2
 refine ⟨trivial, (callsIn_wide.2 (worst_any (some ⟨g, 0, none⟩) 4 4 (some ⟨g2, 0, none⟩) 4 4 exT 1 4 false W19 (by omega) (by omega) HTn.out (HL.out.below HLay.out.bel hl0))).mono ?_⟩
 rintro e W20 ⟨rfl, hb⟩
 replace HLay := Lib.hid (HLay.out.below hb)
 replace HA := Lib.hid ((HA.out.below hb).more hb.size)
 replace HB := Lib.hid ((HB.out.below hb).more hb.size)
 replace HC := Lib.hid ((HC.out.below hb).more hb.size)
 replace HD := Lib.hid ((HD.out.below hb).more hb.size)
 replace HTn := Lib.hid ((HTn.out.below hb).more hb.size)
 clear hb
 rw [ex_worst]
 clear HTn
 have x0_0 := (HLay.out.blk 0 rfl).cell 0
 have x0_1 := (HLay.out.blk 0 rfl).cell 1
 have l0_ := HLay.out.lt 0 rfl
 have x2_0 := (HLay.out.blk 2 rfl).cell 0
 have x2_1 := (HLay.out.blk 2 rfl).cell 1
 have l2_ := HLay.out.lt 2 rfl
 gi_wp2
 clear x0_0 x0_1 l0_ x2_0 x2_1 l2_
 obtain ⟨V21, hV⟩ : ∃ V, (W20.alloc (.cells #[.int .i64 50, .int .i64 70] 34)) = V := ⟨_, rfl⟩
 rw [hV]
 have hb := fbox_bel hV
 have hnew := fbox_blk hV
 have hge := HLay.out.bel.size
 replace HLay := Lib.hid (HLay.out.below hb)
 replace HA := Lib.hid ((HA.out.below hb).more hb.size)
 replace HB := Lib.hid ((HB.out.below hb).more hb.size)
 replace HC := Lib.hid ((HC.out.below hb).more hb.size)
 replace HD := Lib.hid ((HD.out.below hb).more hb.size)
 replace HLay := Lib.hid (HLay.out.add hge hnew)
 clear hnew hge hb hV
 obtain ⟨G22, hG⟩ : ∃ g, W20.heap.size = g := ⟨_, rfl⟩
 rw [hG] at HLay ⊢
 clear hG
 replace HLay := Lib.hid (show Lay w V21 [(G6, 34, #[.int .i64 20, .int .i64 140]), (G11, 3, #[.int .i64 1, .int .i64 3]), (G14, 34, #[.int .i64 50, .int .i64 50]), (G22, 34, #[.int .i64 50, .int .i64 70])] from HLay.out)
 refine ⟨trivial, (callsIn_wide.2 (town_any V21)).mono ?_⟩
 rintro e W23 ⟨g, g2, rfl, ht, hb⟩
 replace HLay := Lib.hid (HLay.out.below hb)
 replace HA := Lib.hid ((HA.out.below hb).more hb.size)
 replace HB := Lib.hid ((HB.out.below hb).more hb.size)
 replace HC := Lib.hid ((HC.out.below hb).more hb.size)
 replace HD := Lib.hid ((HD.out.below hb).more hb.size)
 clear hb
 have HTn := Lib.hid ht
 clear ht
 gi_wp2
 obtain ⟨V24, hV⟩ : ∃ V, (W23.alloc (.cells #[.int .i64 2, .int .i64 3] 3)) = V := ⟨_, rfl⟩
 rw [hV]
 have hb := fbox_bel hV
 have hnew := fbox_blk hV
 have hge := HLay.out.bel.size
 replace HLay := Lib.hid (HLay.out.below hb)
 replace HA := Lib.hid ((HA.out.below hb).more hb.size)
 replace HB := Lib.hid ((HB.out.below hb).more hb.size)
 replace HC := Lib.hid ((HC.out.below hb).more hb.size)
 replace HD := Lib.hid ((HD.out.below hb).more hb.size)
 replace HTn := Lib.hid ((HTn.out.below hb).more hb.size)
 replace HLay := Lib.hid (HLay.out.add hge hnew)
 clear hnew hge hb hV
 obtain ⟨G25, hG⟩ : ∃ g, W23.heap.size = g := ⟨_, rfl⟩
 rw [hG] at HLay ⊢
 clear hG
 replace HLay := Lib.hid (show Lay w V24 [(G6, 34, #[.int .i64 20, .int .i64 140]), (G11, 3, #[.int .i64 1, .int .i64 3]), (G14, 34, #[.int .i64 50, .int .i64 50]), (G22, 34, #[.int .i64 50, .int .i64 70]), (G25, 3, #[.int .i64 2, .int .i64 3])] from HLay.out)
 have x0_0 := (HLay.out.blk 0 rfl).cell 0
 have x0_1 := (HLay.out.blk 0 rfl).cell 1
 have l0_ := HLay.out.lt 0 rfl
 have x2_0 := (HLay.out.blk 2 rfl).cell 0
 have x2_1 := (HLay.out.blk 2 rfl).cell 1
 have l2_ := HLay.out.lt 2 rfl
 have x3_0 := (HLay.out.blk 3 rfl).cell 0
 have x3_1 := (HLay.out.blk 3 rfl).cell 1
 have l3_ := HLay.out.lt 3 rfl
 gi_wp2
 clear x0_0 x0_1 l0_ x2_0 x2_1 l2_ x3_0 x3_1 l3_
 refine ⟨trivial, (callsIn_wide.2 (round_any (some ⟨g, 0, none⟩) 4 4 (some ⟨g2, 0, none⟩) 4 4 exT 1 (some ⟨G25, 0, none⟩) 2 2 [2, 3] false V24 (by omega) (by omega) (by omega) HTn.out (ints_blk2 [2, 3] (HLay.out.blk 4 rfl)) (HL.out.below HLay.out.bel hl0))).mono ?_⟩
 rintro e W26 ⟨AE, nAE, cAE, rfl, hi, hb⟩
 replace HLay := Lib.hid (HLay.out.below hb)
 replace HA := Lib.hid ((HA.out.below hb).more hb.size)
 replace HB := Lib.hid ((HB.out.below hb).more hb.size)
 replace HC := Lib.hid ((HC.out.below hb).more hb.size)
 replace HD := Lib.hid ((HD.out.below hb).more hb.size)
 replace HTn := Lib.hid ((HTn.out.below hb).more hb.size)
 clear hb
 rw [ex_round.1] at hi ⊢
 rw [ex_round.2]
 obtain rfl : nAE = 2 := by have := hi.len; simpa using this.symm
 have HE := Lib.hid hi
 clear hi
 clear HTn
 have x0_0 := (HLay.out.blk 0 rfl).cell 0
 have x0_1 := (HLay.out.blk 0 rfl).cell 1
 have l0_ := HLay.out.lt 0 rfl
 have x2_0 := (HLay.out.blk 2 rfl).cell 0
 have x2_1 := (HLay.out.blk 2 rfl).cell 1
 have l2_ := HLay.out.lt 2 rfl
 have x3_0 := (HLay.out.blk 3 rfl).cell 0
 have x3_1 := (HLay.out.blk 3 rfl).cell 1
 have l3_ := HLay.out.lt 3 rfl
 gi_wp2
 clear x0_0 x0_1 l0_ x2_0 x2_1 l2_ x3_0 x3_1 l3_
 obtain ⟨V27, hV⟩ : ∃ V, (W26.alloc (.cells #[.int .i64 20, .int .i64 150] 34)) = V := ⟨_, rfl⟩
 rw [hV]
 have hb := fbox_bel hV
 have hnew := fbox_blk hV
 have hge := HLay.out.bel.size
 replace HLay := Lib.hid (HLay.out.below hb)
 replace HA := Lib.hid ((HA.out.below hb).more hb.size)
 replace HB := Lib.hid ((HB.out.below hb).more hb.size)
 replace HC := Lib.hid ((HC.out.below hb).more hb.size)
 replace HD := Lib.hid ((HD.out.below hb).more hb.size)
 replace HE := Lib.hid ((HE.out.below hb).more hb.size)
 replace HLay := Lib.hid (HLay.out.add hge hnew)
 clear hnew hge hb hV
 obtain ⟨G28, hG⟩ : ∃ g, W26.heap.size = g := ⟨_, rfl⟩
 rw [hG] at HLay ⊢
 clear hG
 replace HLay := Lib.hid (show Lay w V27 [(G6, 34, #[.int .i64 20, .int .i64 140]), (G11, 3, #[.int .i64 1, .int .i64 3]), (G14, 34, #[.int .i64 50, .int .i64 50]), (G22, 34, #[.int .i64 50, .int .i64 70]), (G25, 3, #[.int .i64 2, .int .i64 3]), (G28, 34, #[.int .i64 20, .int .i64 150])] from HLay.out)
 have x0_0 := (HLay.out.blk 0 rfl).cell 0
 have x0_1 := (HLay.out.blk 0 rfl).cell 1
 have l0_ := HLay.out.lt 0 rfl
 have x2_0 := (HLay.out.blk 2 rfl).cell 0
 have x2_1 := (HLay.out.blk 2 rfl).cell 1
 have l2_ := HLay.out.lt 2 rfl
 have x3_0 := (HLay.out.blk 3 rfl).cell 0
 have x3_1 := (HLay.out.blk 3 rfl).cell 1
 have l3_ := HLay.out.lt 3 rfl
 have x5_0 := (HLay.out.blk 5 rfl).cell 0
 have x5_1 := (HLay.out.blk 5 rfl).cell 1
 have l5_ := HLay.out.lt 5 rfl
 gi_wp2
 clear x0_0 x0_1 l0_ x2_0 x2_1 l2_ x3_0 x3_1 l3_ x5_0 x5_1 l5_
 have hs20_140 := eqToil_same 20 140
 have hs50_50 := eqToil_same 50 50
 have hs50_70 := eqToil_same 50 70
 have hs20_150 := eqToil_same 20 150
 simp only [List.append_eq, List.cons_append, List.nil_append]
 refine Tr.wpIn_region_tree (G := Tr.Up) (V0 := V27) [([], [true, true], [2]), ([2], [], [3]), ([2, 3], [false, false, false, false, true, true, true, true, true, true, true], [11]), ([2, 3, 11], [false, false, false, false, false, false, false, false, false, false, false, false, true, true, true, true, true], [17]), ([2, 3, 11, 17], [], [18]), ([2, 3, 11, 17, 18], [false, false, false, false, false, false, false, false, false, false, false, false, false, false, false, false, false, false, false, true, true, true, true, true, true, true, true, true, true, true, true], [31]), ([2, 3, 11, 17, 18, 31], [false, false, false, false, false, false, false, false, false, false, false, false, false, false, false, false, false, false, false, false, false, false, false, false, false, false, false, false, false, false, false, false, true, true, true, true, true], [37]), ([2, 3, 11, 17, 18, 31, 37], [], [38]), ([2, 3, 11, 17, 18, 31, 37, 38], [false, false, false, false, false, false, false, false, false, false, false, false, false, false, false, false, false, false, false, false, false, false, false, false, false, false, false, false, false, false, false, false, false, false, false, false, false, false, false, true, true, true, true, true], [44]), ([2, 3, 11, 17, 18, 31, 37, 38, 44], [], [45]), ([2, 3, 11, 17, 18, 31, 37, 38, 44, 45], [false, false, false, false, false, false, false, false, false, false, false, false, false, false, false, false, false, false, false, false, false, false, false, false, false, false, false, false, false, false, false, false, false, false, false, false, false, false, false, false, false, false, false, false, false, false, true, true, true, true, true, true, true, true, true, true, true, true], [58]), ([2, 3, 11, 17, 18, 31, 37, 38, 44, 45, 58], [false, false, false, false, false, false, false, false, false, false, false, false, false, false, false, false, false, false, false, false, false, false, false, false, false, false, false, false, false, false, false, false, false, false, false, false, false, false, false, false, false, false, false, false, false, false, false, false, false, false, false, false, false, false, false, false, false, false, false, true, true, true, true, true], [64]), ([2, 3, 11, 17, 18, 31, 37, 38, 44, 45, 58, 64], [], [65]), ([2, 3, 11, 17, 18, 31, 37, 38, 44, 45, 58, 64, 65], [false, false, false, false, false, false, false, false, false, false, false, false, false, false, false, false, false, false, false, false, false, false, false, false, false, false, false, false, false, false, false, false, false, false, false, false, false, false, false, false, false, false, false, false, false, false, false, false, false, false, false, false, false, false, false, false, false, false, false, false, false, false, false, false, false, false, true, true, true, true], [70]), ([2, 3, 11, 17, 18, 31, 37, 38, 44, 45, 58, 64, 65, 70], [false, false, false, false, false, false, false, false, false, false, false, false, false, false, false, false, false, false, false, false, false, false, false, false, false, false, false, false, false, false, false, false, false, false, false, false, false, false, false, false, false, false, false, false, false, false, false, false, false, false, false, false, false, false, false, false, false, false, false, false, false, false, false, false, false, false, false, false, false, false, false, true, true], [])] 15 [] (by kernel_rfl) (by kernel_rfl) (by kernel_rfl) (below_drewN (Below.refl _ _) 1) ?_
 refine Tr.wpTree_one (A := ?AF1) rfl rfl ?hq1 ?_
 case hq1 =>
  rintro σ hσ of hof hcl
  have HOF := Lib.hid hof
  have HCL := Lib.hid hcl
  clear hof hcl
  have c0_ : ∀ z, (of z).cell? ⟨G6, 0, none⟩ = some (.int .i64 20) := fun z => ((HLay.out.below (HOF.out z)).blk 0 rfl).cell 0
  have c1_ : ∀ z, (of z).cell? ⟨G6, 1, none⟩ = some (.int .i64 140) := fun z => ((HLay.out.below (HOF.out z)).blk 0 rfl).cell 1
  have c2_ : ∀ z, (of z).cell? ⟨G14, 0, none⟩ = some (.int .i64 50) := fun z => ((HLay.out.below (HOF.out z)).blk 2 rfl).cell 0
  have c3_ : ∀ z, (of z).cell? ⟨G14, 1, none⟩ = some (.int .i64 50) := fun z => ((HLay.out.below (HOF.out z)).blk 2 rfl).cell 1
  have c4_ : ∀ z, (of z).cell? ⟨G22, 0, none⟩ = some (.int .i64 50) := fun z => ((HLay.out.below (HOF.out z)).blk 3 rfl).cell 0
  have c5_ : ∀ z, (of z).cell? ⟨G22, 1, none⟩ = some (.int .i64 70) := fun z => ((HLay.out.below (HOF.out z)).blk 3 rfl).cell 1
  have c6_ : ∀ z, (of z).cell? ⟨G28, 0, none⟩ = some (.int .i64 20) := fun z => ((HLay.out.below (HOF.out z)).blk 5 rfl).cell 0
  have c7_ : ∀ z, (of z).cell? ⟨G28, 1, none⟩ = some (.int .i64 150) := fun z => ((HLay.out.below (HOF.out z)).blk 5 rfl).cell 1
  have hfw : ∀ f, Fence.wide.fn f := fun _ => trivial
  simp only [pickB]
  repeat (gi_big_quiet_step (fail))
  refine wpQuietIn_nil ?_
  exact rfl
 intro W29 hW
 replace HLay := Lib.hid (HLay.out.below hW)
 replace HA := Lib.hid ((HA.out.below hW).more hW.size)
 replace HB := Lib.hid ((HB.out.below hW).more hW.size)
 replace HC := Lib.hid ((HC.out.below hW).more hW.size)
 replace HD := Lib.hid ((HD.out.below hW).more hW.size)
 replace HE := Lib.hid ((HE.out.below hW).more hW.size)
 clear hW
 gi_wp2
 have hup : Tr.Up W29 (W29.alloc (.cells #[.int .i64 2, .int .i64 3, .int .i64 4] 3)) := (Below.refl _ _).alloc (Nat.le_refl _) _
 first | refine ⟨trivial, hup, ?_⟩ | refine ⟨hup, ?_⟩
 clear hup
 obtain ⟨V30, hV⟩ : ∃ V, (W29.alloc (.cells #[.int .i64 2, .int .i64 3, .int .i64 4] 3)) = V := ⟨_, rfl⟩
 rw [hV]
 have hb := fbox_bel hV
 have hnew := fbox_blk hV
 have hge := HLay.out.bel.size
 replace HLay := Lib.hid (HLay.out.below hb)
 replace HA := Lib.hid ((HA.out.below hb).more hb.size)
 replace HB := Lib.hid ((HB.out.below hb).more hb.size)
 replace HC := Lib.hid ((HC.out.below hb).more hb.size)
 replace HD := Lib.hid ((HD.out.below hb).more hb.size)
 replace HE := Lib.hid ((HE.out.below hb).more hb.size)
 replace HLay := Lib.hid (HLay.out.add hge hnew)
 clear hnew hge hb hV
 obtain ⟨G31, hG⟩ : ∃ g, W29.heap.size = g := ⟨_, rfl⟩
 rw [hG] at HLay ⊢
 clear hG
 replace HLay := Lib.hid (show Lay w V30 [(G6, 34, #[.int .i64 20, .int .i64 140]), (G11, 3, #[.int .i64 1, .int .i64 3]), (G14, 34, #[.int .i64 50, .int .i64 50]), (G22, 34, #[.int .i64 50, .int .i64 70]), (G25, 3, #[.int .i64 2, .int .i64 3]), (G28, 34, #[.int .i64 20, .int .i64 150]), (G31, 3, #[.int .i64 2, .int .i64 3, .int .i64 4])] from HLay.out)
 refine Tr.wpTree_one (m := []) rfl rfl Gr.Quietly.none ?_
 intro W32 hW
 replace HLay := Lib.hid (HLay.out.below hW)
 replace HA := Lib.hid ((HA.out.below hW).more hW.size)
 replace HB := Lib.hid ((HB.out.below hW).more hW.size)
 replace HC := Lib.hid ((HC.out.below hW).more hW.size)
 replace HD := Lib.hid ((HD.out.below hW).more hW.size)
 replace HE := Lib.hid ((HE.out.below hW).more hW.size)
 clear hW
 gi_wp2
 refine ⟨trivial, (callsIn_wide.2 (is_any AA 3 cAA [2, 3, 4] 0 (some ⟨G31, 0, none⟩) 3 3 [2, 3, 4] W32 (by unfold maxLen; omega) (by unfold maxLen; omega) HA.out (ints_blk2 [2, 3, 4] (HLay.out.blk 6 rfl)))).mono ?_⟩
 rintro e W33 ⟨rfl, hb⟩
 replace HLay := Lib.hid (HLay.out.below hb)
 replace HA := Lib.hid ((HA.out.below hb).more hb.size)
 replace HB := Lib.hid ((HB.out.below hb).more hb.size)
 replace HC := Lib.hid ((HC.out.below hb).more hb.size)
 replace HD := Lib.hid ((HD.out.below hb).more hb.size)
 replace HE := Lib.hid ((HE.out.below hb).more hb.size)
 rw [show (decide ((0 : Int) = 0) && sameI [2, 3, 4] [2, 3, 4]) = true from by decide]
 gi_wp2
 first | refine ⟨trivial, hb, ?_⟩ | refine ⟨hb, ?_⟩
 clear hb
 refine Tr.wpTree_one (A := ?AF2) rfl rfl ?hq2 ?_
 case hq2 =>
  rintro σ hσ of hof hcl
  have HOF := Lib.hid hof
  have HCL := Lib.hid hcl
  clear hof hcl
  have c0_ : ∀ z, (of z).cell? ⟨G6, 0, none⟩ = some (.int .i64 20) := fun z => ((HLay.out.below (HOF.out z)).blk 0 rfl).cell 0
  have c1_ : ∀ z, (of z).cell? ⟨G6, 1, none⟩ = some (.int .i64 140) := fun z => ((HLay.out.below (HOF.out z)).blk 0 rfl).cell 1
  have c2_ : ∀ z, (of z).cell? ⟨G14, 0, none⟩ = some (.int .i64 50) := fun z => ((HLay.out.below (HOF.out z)).blk 2 rfl).cell 0
  have c3_ : ∀ z, (of z).cell? ⟨G14, 1, none⟩ = some (.int .i64 50) := fun z => ((HLay.out.below (HOF.out z)).blk 2 rfl).cell 1
  have c4_ : ∀ z, (of z).cell? ⟨G22, 0, none⟩ = some (.int .i64 50) := fun z => ((HLay.out.below (HOF.out z)).blk 3 rfl).cell 0
  have c5_ : ∀ z, (of z).cell? ⟨G22, 1, none⟩ = some (.int .i64 70) := fun z => ((HLay.out.below (HOF.out z)).blk 3 rfl).cell 1
  have c6_ : ∀ z, (of z).cell? ⟨G28, 0, none⟩ = some (.int .i64 20) := fun z => ((HLay.out.below (HOF.out z)).blk 5 rfl).cell 0
  have c7_ : ∀ z, (of z).cell? ⟨G28, 1, none⟩ = some (.int .i64 150) := fun z => ((HLay.out.below (HOF.out z)).blk 5 rfl).cell 1
  have hfw : ∀ f, Fence.wide.fn f := fun _ => trivial
  simp only [pickB]
  repeat (gi_big_quiet_step (fail))
  refine wpQuietIn_nil ?_
  exact rfl
 intro W34 hW
 replace HLay := Lib.hid (HLay.out.below hW)
 replace HA := Lib.hid ((HA.out.below hW).more hW.size)
 replace HB := Lib.hid ((HB.out.below hW).more hW.size)
 replace HC := Lib.hid ((HC.out.below hW).more hW.size)
 replace HD := Lib.hid ((HD.out.below hW).more hW.size)
 replace HE := Lib.hid ((HE.out.below hW).more hW.size)
 clear hW
 gi_wp2
 refine ⟨trivial, (callsIn_wide.2 (ltoil_any 20 140 W34)).mono ?_⟩
 rintro e W35 ⟨rfl, hb⟩
 replace HLay := Lib.hid (HLay.out.below hb)
 replace HA := Lib.hid ((HA.out.below hb).more hb.size)
 replace HB := Lib.hid ((HB.out.below hb).more hb.size)
 replace HC := Lib.hid ((HC.out.below hb).more hb.size)
 replace HD := Lib.hid ((HD.out.below hb).more hb.size)
 replace HE := Lib.hid ((HE.out.below hb).more hb.size)
 gi_wp2
 first | refine ⟨trivial, hb, ?_⟩ | refine ⟨hb, ?_⟩
 clear hb
 refine Tr.wpTree_one (A := ?AF3) rfl rfl ?hq3 ?_
 case hq3 =>
  rintro σ hσ of hof hcl
  have HOF := Lib.hid hof
  have HCL := Lib.hid hcl
  clear hof hcl
  have c0_ : ∀ z, (of z).cell? ⟨G6, 0, none⟩ = some (.int .i64 20) := fun z => ((HLay.out.below (HOF.out z)).blk 0 rfl).cell 0
  have c1_ : ∀ z, (of z).cell? ⟨G6, 1, none⟩ = some (.int .i64 140) := fun z => ((HLay.out.below (HOF.out z)).blk 0 rfl).cell 1
  have c2_ : ∀ z, (of z).cell? ⟨G14, 0, none⟩ = some (.int .i64 50) := fun z => ((HLay.out.below (HOF.out z)).blk 2 rfl).cell 0
  have c3_ : ∀ z, (of z).cell? ⟨G14, 1, none⟩ = some (.int .i64 50) := fun z => ((HLay.out.below (HOF.out z)).blk 2 rfl).cell 1
  have c4_ : ∀ z, (of z).cell? ⟨G22, 0, none⟩ = some (.int .i64 50) := fun z => ((HLay.out.below (HOF.out z)).blk 3 rfl).cell 0
  have c5_ : ∀ z, (of z).cell? ⟨G22, 1, none⟩ = some (.int .i64 70) := fun z => ((HLay.out.below (HOF.out z)).blk 3 rfl).cell 1
  have c6_ : ∀ z, (of z).cell? ⟨G28, 0, none⟩ = some (.int .i64 20) := fun z => ((HLay.out.below (HOF.out z)).blk 5 rfl).cell 0
  have c7_ : ∀ z, (of z).cell? ⟨G28, 1, none⟩ = some (.int .i64 150) := fun z => ((HLay.out.below (HOF.out z)).blk 5 rfl).cell 1
  have hfw : ∀ f, Fence.wide.fn f := fun _ => trivial
  simp only [pickB]
  repeat (gi_big_quiet_step (fail))
  refine wpQuietIn_nil ?_
  exact rfl
 intro W36 hW
 replace HLay := Lib.hid (HLay.out.below hW)
 replace HA := Lib.hid ((HA.out.below hW).more hW.size)
 replace HB := Lib.hid ((HB.out.below hW).more hW.size)
 replace HC := Lib.hid ((HC.out.below hW).more hW.size)
 replace HD := Lib.hid ((HD.out.below hW).more hW.size)
 replace HE := Lib.hid ((HE.out.below hW).more hW.size)
 clear hW
 gi_wp2
 have hup : Tr.Up W36 (W36.alloc (.cells #[.int .i64 1, .int .i64 3] 3)) := (Below.refl _ _).alloc (Nat.le_refl _) _
 first | refine ⟨trivial, hup, ?_⟩ | refine ⟨hup, ?_⟩
 clear hup
 obtain ⟨V37, hV⟩ : ∃ V, (W36.alloc (.cells #[.int .i64 1, .int .i64 3] 3)) = V := ⟨_, rfl⟩
 rw [hV]
 have hb := fbox_bel hV
 have hnew := fbox_blk hV
 have hge := HLay.out.bel.size
 replace HLay := Lib.hid (HLay.out.below hb)
 replace HA := Lib.hid ((HA.out.below hb).more hb.size)
 replace HB := Lib.hid ((HB.out.below hb).more hb.size)
 replace HC := Lib.hid ((HC.out.below hb).more hb.size)
 replace HD := Lib.hid ((HD.out.below hb).more hb.size)
 replace HE := Lib.hid ((HE.out.below hb).more hb.size)
 replace HLay := Lib.hid (HLay.out.add hge hnew)
 clear hnew hge hb hV
 obtain ⟨G38, hG⟩ : ∃ g, W36.heap.size = g := ⟨_, rfl⟩
 rw [hG] at HLay ⊢
 clear hG
 replace HLay := Lib.hid (show Lay w V37 [(G6, 34, #[.int .i64 20, .int .i64 140]), (G11, 3, #[.int .i64 1, .int .i64 3]), (G14, 34, #[.int .i64 50, .int .i64 50]), (G22, 34, #[.int .i64 50, .int .i64 70]), (G25, 3, #[.int .i64 2, .int .i64 3]), (G28, 34, #[.int .i64 20, .int .i64 150]), (G31, 3, #[.int .i64 2, .int .i64 3, .int .i64 4]), (G38, 3, #[.int .i64 1, .int .i64 3])] from HLay.out)
 refine Tr.wpTree_one (m := []) rfl rfl Gr.Quietly.none ?_
 intro W39 hW
 replace HLay := Lib.hid (HLay.out.below hW)
 replace HA := Lib.hid ((HA.out.below hW).more hW.size)
 replace HB := Lib.hid ((HB.out.below hW).more hW.size)
 replace HC := Lib.hid ((HC.out.below hW).more hW.size)
 replace HD := Lib.hid ((HD.out.below hW).more hW.size)
 replace HE := Lib.hid ((HE.out.below hW).more hW.size)
 clear hW
 gi_wp2
 refine ⟨trivial, (callsIn_wide.2 (is_any AB 2 cAB [1, 3] 0 (some ⟨G38, 0, none⟩) 2 2 [1, 3] W39 (by unfold maxLen; omega) (by unfold maxLen; omega) HB.out (ints_blk2 [1, 3] (HLay.out.blk 7 rfl)))).mono ?_⟩
 rintro e W40 ⟨rfl, hb⟩
 replace HLay := Lib.hid (HLay.out.below hb)
 replace HA := Lib.hid ((HA.out.below hb).more hb.size)
 replace HB := Lib.hid ((HB.out.below hb).more hb.size)
 replace HC := Lib.hid ((HC.out.below hb).more hb.size)
 replace HD := Lib.hid ((HD.out.below hb).more hb.size)
 replace HE := Lib.hid ((HE.out.below hb).more hb.size)
 rw [show (decide ((0 : Int) = 0) && sameI [1, 3] [1, 3]) = true from by decide]
 gi_wp2
 first | refine ⟨trivial, hb, ?_⟩ | refine ⟨hb, ?_⟩
 clear hb
 refine Tr.wpTree_one (A := ?AF4) rfl rfl ?hq4 ?_
 case hq4 =>
  rintro σ hσ of hof hcl
  have HOF := Lib.hid hof
  have HCL := Lib.hid hcl
  clear hof hcl
  have c0_ : ∀ z, (of z).cell? ⟨G6, 0, none⟩ = some (.int .i64 20) := fun z => ((HLay.out.below (HOF.out z)).blk 0 rfl).cell 0
  have c1_ : ∀ z, (of z).cell? ⟨G6, 1, none⟩ = some (.int .i64 140) := fun z => ((HLay.out.below (HOF.out z)).blk 0 rfl).cell 1
  have c2_ : ∀ z, (of z).cell? ⟨G14, 0, none⟩ = some (.int .i64 50) := fun z => ((HLay.out.below (HOF.out z)).blk 2 rfl).cell 0
  have c3_ : ∀ z, (of z).cell? ⟨G14, 1, none⟩ = some (.int .i64 50) := fun z => ((HLay.out.below (HOF.out z)).blk 2 rfl).cell 1
  have c4_ : ∀ z, (of z).cell? ⟨G22, 0, none⟩ = some (.int .i64 50) := fun z => ((HLay.out.below (HOF.out z)).blk 3 rfl).cell 0
  have c5_ : ∀ z, (of z).cell? ⟨G22, 1, none⟩ = some (.int .i64 70) := fun z => ((HLay.out.below (HOF.out z)).blk 3 rfl).cell 1
  have c6_ : ∀ z, (of z).cell? ⟨G28, 0, none⟩ = some (.int .i64 20) := fun z => ((HLay.out.below (HOF.out z)).blk 5 rfl).cell 0
  have c7_ : ∀ z, (of z).cell? ⟨G28, 1, none⟩ = some (.int .i64 150) := fun z => ((HLay.out.below (HOF.out z)).blk 5 rfl).cell 1
  have hfw : ∀ f, Fence.wide.fn f := fun _ => trivial
  simp only [pickB]
  repeat (gi_big_quiet_step (fail))
  refine wpQuietIn_nil ?_
  exact rfl
 intro W41 hW
 replace HLay := Lib.hid (HLay.out.below hW)
 replace HA := Lib.hid ((HA.out.below hW).more hW.size)
 replace HB := Lib.hid ((HB.out.below hW).more hW.size)
 replace HC := Lib.hid ((HC.out.below hW).more hW.size)
 replace HD := Lib.hid ((HD.out.below hW).more hW.size)
 replace HE := Lib.hid ((HE.out.below hW).more hW.size)
 clear hW
 gi_wp2
 refine ⟨trivial, (callsIn_wide.2 (ltoil_any 50 50 W41)).mono ?_⟩
 rintro e W42 ⟨rfl, hb⟩
 replace HLay := Lib.hid (HLay.out.below hb)
 replace HA := Lib.hid ((HA.out.below hb).more hb.size)
 replace HB := Lib.hid ((HB.out.below hb).more hb.size)
 replace HC := Lib.hid ((HC.out.below hb).more hb.size)
 replace HD := Lib.hid ((HD.out.below hb).more hb.size)
 replace HE := Lib.hid ((HE.out.below hb).more hb.size)
 gi_wp2
 first | refine ⟨trivial, hb, ?_⟩ | refine ⟨hb, ?_⟩
 clear hb
 refine Tr.wpTree_one (A := ?AF5) rfl rfl ?hq5 ?_
 case hq5 =>
  rintro σ hσ of hof hcl
  have HOF := Lib.hid hof
  have HCL := Lib.hid hcl
  clear hof hcl
  have c0_ : ∀ z, (of z).cell? ⟨G6, 0, none⟩ = some (.int .i64 20) := fun z => ((HLay.out.below (HOF.out z)).blk 0 rfl).cell 0
  have c1_ : ∀ z, (of z).cell? ⟨G6, 1, none⟩ = some (.int .i64 140) := fun z => ((HLay.out.below (HOF.out z)).blk 0 rfl).cell 1
  have c2_ : ∀ z, (of z).cell? ⟨G14, 0, none⟩ = some (.int .i64 50) := fun z => ((HLay.out.below (HOF.out z)).blk 2 rfl).cell 0
  have c3_ : ∀ z, (of z).cell? ⟨G14, 1, none⟩ = some (.int .i64 50) := fun z => ((HLay.out.below (HOF.out z)).blk 2 rfl).cell 1
  have c4_ : ∀ z, (of z).cell? ⟨G22, 0, none⟩ = some (.int .i64 50) := fun z => ((HLay.out.below (HOF.out z)).blk 3 rfl).cell 0
  have c5_ : ∀ z, (of z).cell? ⟨G22, 1, none⟩ = some (.int .i64 70) := fun z => ((HLay.out.below (HOF.out z)).blk 3 rfl).cell 1
  have c6_ : ∀ z, (of z).cell? ⟨G28, 0, none⟩ = some (.int .i64 20) := fun z => ((HLay.out.below (HOF.out z)).blk 5 rfl).cell 0
  have c7_ : ∀ z, (of z).cell? ⟨G28, 1, none⟩ = some (.int .i64 150) := fun z => ((HLay.out.below (HOF.out z)).blk 5 rfl).cell 1
  have hfw : ∀ f, Fence.wide.fn f := fun _ => trivial
  simp only [pickB]
  repeat (gi_big_quiet_step (fail))
  refine wpQuietIn_nil ?_
  exact rfl
 intro W43 hW
 replace HLay := Lib.hid (HLay.out.below hW)
 replace HA := Lib.hid ((HA.out.below hW).more hW.size)
 replace HB := Lib.hid ((HB.out.below hW).more hW.size)
 replace HC := Lib.hid ((HC.out.below hW).more hW.size)
 replace HD := Lib.hid ((HD.out.below hW).more hW.size)
 replace HE := Lib.hid ((HE.out.below hW).more hW.size)
 clear hW
 gi_wp2
 have hup : Tr.Up W43 (W43.alloc (.cells #[.int .i64 4] 3)) := (Below.refl _ _).alloc (Nat.le_refl _) _
 first | refine ⟨trivial, hup, ?_⟩ | refine ⟨hup, ?_⟩
 clear hup
 obtain ⟨V44, hV⟩ : ∃ V, (W43.alloc (.cells #[.int .i64 4] 3)) = V := ⟨_, rfl⟩
 rw [hV]
 have hb := fbox_bel hV
 have hnew := fbox_blk hV
 have hge := HLay.out.bel.size
 replace HLay := Lib.hid (HLay.out.below hb)
 replace HA := Lib.hid ((HA.out.below hb).more hb.size)
 replace HB := Lib.hid ((HB.out.below hb).more hb.size)
 replace HC := Lib.hid ((HC.out.below hb).more hb.size)
 replace HD := Lib.hid ((HD.out.below hb).more hb.size)
 replace HE := Lib.hid ((HE.out.below hb).more hb.size)
 replace HLay := Lib.hid (HLay.out.add hge hnew)
 clear hnew hge hb hV
 obtain ⟨G45, hG⟩ : ∃ g, W43.heap.size = g := ⟨_, rfl⟩
 rw [hG] at HLay ⊢
 clear hG
 replace HLay := Lib.hid (show Lay w V44 [(G6, 34, #[.int .i64 20, .int .i64 140]), (G11, 3, #[.int .i64 1, .int .i64 3]), (G14, 34, #[.int .i64 50, .int .i64 50]), (G22, 34, #[.int .i64 50, .int .i64 70]), (G25, 3, #[.int .i64 2, .int .i64 3]), (G28, 34, #[.int .i64 20, .int .i64 150]), (G31, 3, #[.int .i64 2, .int .i64 3, .int .i64 4]), (G38, 3, #[.int .i64 1, .int .i64 3]), (G45, 3, #[.int .i64 4])] from HLay.out)
 refine Tr.wpTree_one (m := []) rfl rfl Gr.Quietly.none ?_
 intro W46 hW
 replace HLay := Lib.hid (HLay.out.below hW)
 replace HA := Lib.hid ((HA.out.below hW).more hW.size)
 replace HB := Lib.hid ((HB.out.below hW).more hW.size)
 replace HC := Lib.hid ((HC.out.below hW).more hW.size)
 replace HD := Lib.hid ((HD.out.below hW).more hW.size)
 replace HE := Lib.hid ((HE.out.below hW).more hW.size)
 clear hW
 gi_wp2
 refine ⟨trivial, (callsIn_wide.2 (is_any AC 1 cAC [4] 0 (some ⟨G45, 0, none⟩) 1 1 [4] W46 (by unfold maxLen; omega) (by unfold maxLen; omega) HC.out (ints_blk2 [4] (HLay.out.blk 8 rfl)))).mono ?_⟩
 rintro e W47 ⟨rfl, hb⟩
 replace HLay := Lib.hid (HLay.out.below hb)
 replace HA := Lib.hid ((HA.out.below hb).more hb.size)
 replace HB := Lib.hid ((HB.out.below hb).more hb.size)
 replace HC := Lib.hid ((HC.out.below hb).more hb.size)
 replace HD := Lib.hid ((HD.out.below hb).more hb.size)
 replace HE := Lib.hid ((HE.out.below hb).more hb.size)
 rw [show (decide ((0 : Int) = 0) && sameI [4] [4]) = true from by decide]
 gi_wp2
 first | refine ⟨trivial, hb, ?_⟩ | refine ⟨hb, ?_⟩
 clear hb
 refine Tr.wpTree_one (A := ?AF6) rfl rfl ?hq6 ?_
 case hq6 =>
  rintro σ hσ of hof hcl
  have HOF := Lib.hid hof
  have HCL := Lib.hid hcl
  clear hof hcl
  have c0_ : ∀ z, (of z).cell? ⟨G6, 0, none⟩ = some (.int .i64 20) := fun z => ((HLay.out.below (HOF.out z)).blk 0 rfl).cell 0
  have c1_ : ∀ z, (of z).cell? ⟨G6, 1, none⟩ = some (.int .i64 140) := fun z => ((HLay.out.below (HOF.out z)).blk 0 rfl).cell 1
  have c2_ : ∀ z, (of z).cell? ⟨G14, 0, none⟩ = some (.int .i64 50) := fun z => ((HLay.out.below (HOF.out z)).blk 2 rfl).cell 0
  have c3_ : ∀ z, (of z).cell? ⟨G14, 1, none⟩ = some (.int .i64 50) := fun z => ((HLay.out.below (HOF.out z)).blk 2 rfl).cell 1
  have c4_ : ∀ z, (of z).cell? ⟨G22, 0, none⟩ = some (.int .i64 50) := fun z => ((HLay.out.below (HOF.out z)).blk 3 rfl).cell 0
  have c5_ : ∀ z, (of z).cell? ⟨G22, 1, none⟩ = some (.int .i64 70) := fun z => ((HLay.out.below (HOF.out z)).blk 3 rfl).cell 1
  have c6_ : ∀ z, (of z).cell? ⟨G28, 0, none⟩ = some (.int .i64 20) := fun z => ((HLay.out.below (HOF.out z)).blk 5 rfl).cell 0
  have c7_ : ∀ z, (of z).cell? ⟨G28, 1, none⟩ = some (.int .i64 150) := fun z => ((HLay.out.below (HOF.out z)).blk 5 rfl).cell 1
  have hfw : ∀ f, Fence.wide.fn f := fun _ => trivial
  simp only [pickB]
  repeat (gi_big_quiet_step (fail))
  refine wpQuietIn_nil ?_
  exact rfl
 intro W48 hW
 replace HLay := Lib.hid (HLay.out.below hW)
 replace HA := Lib.hid ((HA.out.below hW).more hW.size)
 replace HB := Lib.hid ((HB.out.below hW).more hW.size)
 replace HC := Lib.hid ((HC.out.below hW).more hW.size)
 replace HD := Lib.hid ((HD.out.below hW).more hW.size)
 replace HE := Lib.hid ((HE.out.below hW).more hW.size)
 clear hW
 gi_wp2
 have hup : Tr.Up W48 (W48.alloc (.cells #[.int .i64 2] 3)) := (Below.refl _ _).alloc (Nat.le_refl _) _
 first | refine ⟨trivial, hup, ?_⟩ | refine ⟨hup, ?_⟩
 clear hup
 obtain ⟨V49, hV⟩ : ∃ V, (W48.alloc (.cells #[.int .i64 2] 3)) = V := ⟨_, rfl⟩
 rw [hV]
 have hb := fbox_bel hV
 have hnew := fbox_blk hV
 have hge := HLay.out.bel.size
 replace HLay := Lib.hid (HLay.out.below hb)
 replace HA := Lib.hid ((HA.out.below hb).more hb.size)
 replace HB := Lib.hid ((HB.out.below hb).more hb.size)
 replace HC := Lib.hid ((HC.out.below hb).more hb.size)
 replace HD := Lib.hid ((HD.out.below hb).more hb.size)
 replace HE := Lib.hid ((HE.out.below hb).more hb.size)
 replace HLay := Lib.hid (HLay.out.add hge hnew)
 clear hnew hge hb hV
 obtain ⟨G50, hG⟩ : ∃ g, W48.heap.size = g := ⟨_, rfl⟩
 rw [hG] at HLay ⊢
 clear hG
 replace HLay := Lib.hid (show Lay w V49 [(G6, 34, #[.int .i64 20, .int .i64 140]), (G11, 3, #[.int .i64 1, .int .i64 3]), (G14, 34, #[.int .i64 50, .int .i64 50]), (G22, 34, #[.int .i64 50, .int .i64 70]), (G25, 3, #[.int .i64 2, .int .i64 3]), (G28, 34, #[.int .i64 20, .int .i64 150]), (G31, 3, #[.int .i64 2, .int .i64 3, .int .i64 4]), (G38, 3, #[.int .i64 1, .int .i64 3]), (G45, 3, #[.int .i64 4]), (G50, 3, #[.int .i64 2])] from HLay.out)
 refine Tr.wpTree_one (m := []) rfl rfl Gr.Quietly.none ?_
 intro W51 hW
 replace HLay := Lib.hid (HLay.out.below hW)
 replace HA := Lib.hid ((HA.out.below hW).more hW.size)
 replace HB := Lib.hid ((HB.out.below hW).more hW.size)
 replace HC := Lib.hid ((HC.out.below hW).more hW.size)
 replace HD := Lib.hid ((HD.out.below hW).more hW.size)
 replace HE := Lib.hid ((HE.out.below hW).more hW.size)
 clear hW
 gi_wp2
 refine ⟨trivial, (callsIn_wide.2 (is_any AD 1 cAD [2] 0 (some ⟨G50, 0, none⟩) 1 1 [2] W51 (by unfold maxLen; omega) (by unfold maxLen; omega) HD.out (ints_blk2 [2] (HLay.out.blk 9 rfl)))).mono ?_⟩
 rintro e W52 ⟨rfl, hb⟩
 replace HLay := Lib.hid (HLay.out.below hb)
 replace HA := Lib.hid ((HA.out.below hb).more hb.size)
 replace HB := Lib.hid ((HB.out.below hb).more hb.size)
 replace HC := Lib.hid ((HC.out.below hb).more hb.size)
 replace HD := Lib.hid ((HD.out.below hb).more hb.size)
 replace HE := Lib.hid ((HE.out.below hb).more hb.size)
 rw [show (decide ((0 : Int) = 0) && sameI [2] [2]) = true from by decide]
 gi_wp2
 first | refine ⟨trivial, hb, ?_⟩ | refine ⟨hb, ?_⟩
 clear hb
 refine Tr.wpTree_one (A := ?AF7) rfl rfl ?hq7 ?_
 case hq7 =>
  rintro σ hσ of hof hcl
  have HOF := Lib.hid hof
  have HCL := Lib.hid hcl
  clear hof hcl
  have c0_ : ∀ z, (of z).cell? ⟨G6, 0, none⟩ = some (.int .i64 20) := fun z => ((HLay.out.below (HOF.out z)).blk 0 rfl).cell 0
  have c1_ : ∀ z, (of z).cell? ⟨G6, 1, none⟩ = some (.int .i64 140) := fun z => ((HLay.out.below (HOF.out z)).blk 0 rfl).cell 1
  have c2_ : ∀ z, (of z).cell? ⟨G14, 0, none⟩ = some (.int .i64 50) := fun z => ((HLay.out.below (HOF.out z)).blk 2 rfl).cell 0
  have c3_ : ∀ z, (of z).cell? ⟨G14, 1, none⟩ = some (.int .i64 50) := fun z => ((HLay.out.below (HOF.out z)).blk 2 rfl).cell 1
  have c4_ : ∀ z, (of z).cell? ⟨G22, 0, none⟩ = some (.int .i64 50) := fun z => ((HLay.out.below (HOF.out z)).blk 3 rfl).cell 0
  have c5_ : ∀ z, (of z).cell? ⟨G22, 1, none⟩ = some (.int .i64 70) := fun z => ((HLay.out.below (HOF.out z)).blk 3 rfl).cell 1
  have c6_ : ∀ z, (of z).cell? ⟨G28, 0, none⟩ = some (.int .i64 20) := fun z => ((HLay.out.below (HOF.out z)).blk 5 rfl).cell 0
  have c7_ : ∀ z, (of z).cell? ⟨G28, 1, none⟩ = some (.int .i64 150) := fun z => ((HLay.out.below (HOF.out z)).blk 5 rfl).cell 1
  have hfw : ∀ f, Fence.wide.fn f := fun _ => trivial
  simp only [pickB]
  repeat (gi_big_quiet_step (fail))
  refine wpQuietIn_nil ?_
  exact rfl
 intro W53 hW
 replace HLay := Lib.hid (HLay.out.below hW)
 replace HA := Lib.hid ((HA.out.below hW).more hW.size)
 replace HB := Lib.hid ((HB.out.below hW).more hW.size)
 replace HC := Lib.hid ((HC.out.below hW).more hW.size)
 replace HD := Lib.hid ((HD.out.below hW).more hW.size)
 replace HE := Lib.hid ((HE.out.below hW).more hW.size)
 clear hW
 gi_wp2
 refine ⟨trivial, (callsIn_wide.2 (ltoil_any 50 70 W53)).mono ?_⟩
 rintro e W54 ⟨rfl, hb⟩
 replace HLay := Lib.hid (HLay.out.below hb)
 replace HA := Lib.hid ((HA.out.below hb).more hb.size)
 replace HB := Lib.hid ((HB.out.below hb).more hb.size)
 replace HC := Lib.hid ((HC.out.below hb).more hb.size)
 replace HD := Lib.hid ((HD.out.below hb).more hb.size)
 replace HE := Lib.hid ((HE.out.below hb).more hb.size)
 gi_wp2
 first | refine ⟨trivial, hb, ?_⟩ | refine ⟨hb, ?_⟩
 clear hb
 refine Tr.wpTree_one (A := ?AF8) rfl rfl ?hq8 ?_
 case hq8 =>
  rintro σ hσ of hof hcl
  have HOF := Lib.hid hof
  have HCL := Lib.hid hcl
  clear hof hcl
  have c0_ : ∀ z, (of z).cell? ⟨G6, 0, none⟩ = some (.int .i64 20) := fun z => ((HLay.out.below (HOF.out z)).blk 0 rfl).cell 0
  have c1_ : ∀ z, (of z).cell? ⟨G6, 1, none⟩ = some (.int .i64 140) := fun z => ((HLay.out.below (HOF.out z)).blk 0 rfl).cell 1
  have c2_ : ∀ z, (of z).cell? ⟨G14, 0, none⟩ = some (.int .i64 50) := fun z => ((HLay.out.below (HOF.out z)).blk 2 rfl).cell 0
  have c3_ : ∀ z, (of z).cell? ⟨G14, 1, none⟩ = some (.int .i64 50) := fun z => ((HLay.out.below (HOF.out z)).blk 2 rfl).cell 1
  have c4_ : ∀ z, (of z).cell? ⟨G22, 0, none⟩ = some (.int .i64 50) := fun z => ((HLay.out.below (HOF.out z)).blk 3 rfl).cell 0
  have c5_ : ∀ z, (of z).cell? ⟨G22, 1, none⟩ = some (.int .i64 70) := fun z => ((HLay.out.below (HOF.out z)).blk 3 rfl).cell 1
  have c6_ : ∀ z, (of z).cell? ⟨G28, 0, none⟩ = some (.int .i64 20) := fun z => ((HLay.out.below (HOF.out z)).blk 5 rfl).cell 0
  have c7_ : ∀ z, (of z).cell? ⟨G28, 1, none⟩ = some (.int .i64 150) := fun z => ((HLay.out.below (HOF.out z)).blk 5 rfl).cell 1
  have hfw : ∀ f, Fence.wide.fn f := fun _ => trivial
  simp only [pickB]
  repeat (gi_big_quiet_step (fail))
  refine wpQuietIn_nil ?_
  exact rfl
 intro W55 hW
 replace HLay := Lib.hid (HLay.out.below hW)
 replace HA := Lib.hid ((HA.out.below hW).more hW.size)
 replace HB := Lib.hid ((HB.out.below hW).more hW.size)
 replace HC := Lib.hid ((HC.out.below hW).more hW.size)
 replace HD := Lib.hid ((HD.out.below hW).more hW.size)
 replace HE := Lib.hid ((HE.out.below hW).more hW.size)
 clear hW
 gi_wp2
 have hup : Tr.Up W55 (W55.alloc (.cells #[.int .i64 3, .int .i64 2] 3)) := (Below.refl _ _).alloc (Nat.le_refl _) _
 first | refine ⟨trivial, hup, ?_⟩ | refine ⟨hup, ?_⟩
 clear hup
 obtain ⟨V56, hV⟩ : ∃ V, (W55.alloc (.cells #[.int .i64 3, .int .i64 2] 3)) = V := ⟨_, rfl⟩
 rw [hV]
 have hb := fbox_bel hV
 have hnew := fbox_blk hV
 have hge := HLay.out.bel.size
 replace HLay := Lib.hid (HLay.out.below hb)
 replace HA := Lib.hid ((HA.out.below hb).more hb.size)
 replace HB := Lib.hid ((HB.out.below hb).more hb.size)
 replace HC := Lib.hid ((HC.out.below hb).more hb.size)
 replace HD := Lib.hid ((HD.out.below hb).more hb.size)
 replace HE := Lib.hid ((HE.out.below hb).more hb.size)
 replace HLay := Lib.hid (HLay.out.add hge hnew)
 clear hnew hge hb hV
 obtain ⟨G57, hG⟩ : ∃ g, W55.heap.size = g := ⟨_, rfl⟩
 rw [hG] at HLay ⊢
 clear hG
 replace HLay := Lib.hid (show Lay w V56 [(G6, 34, #[.int .i64 20, .int .i64 140]), (G11, 3, #[.int .i64 1, .int .i64 3]), (G14, 34, #[.int .i64 50, .int .i64 50]), (G22, 34, #[.int .i64 50, .int .i64 70]), (G25, 3, #[.int .i64 2, .int .i64 3]), (G28, 34, #[.int .i64 20, .int .i64 150]), (G31, 3, #[.int .i64 2, .int .i64 3, .int .i64 4]), (G38, 3, #[.int .i64 1, .int .i64 3]), (G45, 3, #[.int .i64 4]), (G50, 3, #[.int .i64 2]), (G57, 3, #[.int .i64 3, .int .i64 2])] from HLay.out)
 refine Tr.wpTree_one (m := []) rfl rfl Gr.Quietly.none ?_
 intro W58 hW
 replace HLay := Lib.hid (HLay.out.below hW)
 replace HA := Lib.hid ((HA.out.below hW).more hW.size)
 replace HB := Lib.hid ((HB.out.below hW).more hW.size)
 replace HC := Lib.hid ((HC.out.below hW).more hW.size)
 replace HD := Lib.hid ((HD.out.below hW).more hW.size)
 replace HE := Lib.hid ((HE.out.below hW).more hW.size)
 clear hW
 gi_wp2
 refine ⟨trivial, (callsIn_wide.2 (is_any AE 2 cAE [3, 2] 0 (some ⟨G57, 0, none⟩) 2 2 [3, 2] W58 (by unfold maxLen; omega) (by unfold maxLen; omega) HE.out (ints_blk2 [3, 2] (HLay.out.blk 10 rfl)))).mono ?_⟩
 rintro e W59 ⟨rfl, hb⟩
 replace HLay := Lib.hid (HLay.out.below hb)
 replace HA := Lib.hid ((HA.out.below hb).more hb.size)
 replace HB := Lib.hid ((HB.out.below hb).more hb.size)
 replace HC := Lib.hid ((HC.out.below hb).more hb.size)
 replace HD := Lib.hid ((HD.out.below hb).more hb.size)
 replace HE := Lib.hid ((HE.out.below hb).more hb.size)
 rw [show (decide ((0 : Int) = 0) && sameI [3, 2] [3, 2]) = true from by decide]
 gi_wp2
 first | refine ⟨trivial, hb, ?_⟩ | refine ⟨hb, ?_⟩
 clear hb
 refine Tr.wpTree_one (A := ?AF9) rfl rfl ?hq9 ?_
 case hq9 =>
  rintro σ hσ of hof hcl
  have HOF := Lib.hid hof
  have HCL := Lib.hid hcl
  clear hof hcl
  have c0_ : ∀ z, (of z).cell? ⟨G6, 0, none⟩ = some (.int .i64 20) := fun z => ((HLay.out.below (HOF.out z)).blk 0 rfl).cell 0
  have c1_ : ∀ z, (of z).cell? ⟨G6, 1, none⟩ = some (.int .i64 140) := fun z => ((HLay.out.below (HOF.out z)).blk 0 rfl).cell 1
  have c2_ : ∀ z, (of z).cell? ⟨G14, 0, none⟩ = some (.int .i64 50) := fun z => ((HLay.out.below (HOF.out z)).blk 2 rfl).cell 0
  have c3_ : ∀ z, (of z).cell? ⟨G14, 1, none⟩ = some (.int .i64 50) := fun z => ((HLay.out.below (HOF.out z)).blk 2 rfl).cell 1
  have c4_ : ∀ z, (of z).cell? ⟨G22, 0, none⟩ = some (.int .i64 50) := fun z => ((HLay.out.below (HOF.out z)).blk 3 rfl).cell 0
  have c5_ : ∀ z, (of z).cell? ⟨G22, 1, none⟩ = some (.int .i64 70) := fun z => ((HLay.out.below (HOF.out z)).blk 3 rfl).cell 1
  have c6_ : ∀ z, (of z).cell? ⟨G28, 0, none⟩ = some (.int .i64 20) := fun z => ((HLay.out.below (HOF.out z)).blk 5 rfl).cell 0
  have c7_ : ∀ z, (of z).cell? ⟨G28, 1, none⟩ = some (.int .i64 150) := fun z => ((HLay.out.below (HOF.out z)).blk 5 rfl).cell 1
  have hfw : ∀ f, Fence.wide.fn f := fun _ => trivial
  simp only [pickB]
  repeat (gi_big_quiet_step (fail))
  refine wpQuietIn_nil ?_
  exact rfl
 intro W60 hW
 replace HLay := Lib.hid (HLay.out.below hW)
 replace HA := Lib.hid ((HA.out.below hW).more hW.size)
 replace HB := Lib.hid ((HB.out.below hW).more hW.size)
 replace HC := Lib.hid ((HC.out.below hW).more hW.size)
 replace HD := Lib.hid ((HD.out.below hW).more hW.size)
 replace HE := Lib.hid ((HE.out.below hW).more hW.size)
 clear hW
 gi_wp2
 refine ⟨trivial, (callsIn_wide.2 (ltoil_any 20 150 W60)).mono ?_⟩
 rintro e W61 ⟨rfl, hb⟩
 replace HLay := Lib.hid (HLay.out.below hb)
 replace HA := Lib.hid ((HA.out.below hb).more hb.size)
 replace HB := Lib.hid ((HB.out.below hb).more hb.size)
 replace HC := Lib.hid ((HC.out.below hb).more hb.size)
 replace HD := Lib.hid ((HD.out.below hb).more hb.size)
 replace HE := Lib.hid ((HE.out.below hb).more hb.size)
 gi_wp2
 first | refine ⟨trivial, hb, ?_⟩ | refine ⟨hb, ?_⟩
 clear hb
 refine Tr.wpTree_end (A := ?AF10) rfl ?hq10 ?_
 case hq10 =>
  rintro σ hσ of hof hcl
  have HOF := Lib.hid hof
  have HCL := Lib.hid hcl
  clear hof hcl
  have c0_ : ∀ z, (of z).cell? ⟨G6, 0, none⟩ = some (.int .i64 20) := fun z => ((HLay.out.below (HOF.out z)).blk 0 rfl).cell 0
  have c1_ : ∀ z, (of z).cell? ⟨G6, 1, none⟩ = some (.int .i64 140) := fun z => ((HLay.out.below (HOF.out z)).blk 0 rfl).cell 1
  have c2_ : ∀ z, (of z).cell? ⟨G14, 0, none⟩ = some (.int .i64 50) := fun z => ((HLay.out.below (HOF.out z)).blk 2 rfl).cell 0
  have c3_ : ∀ z, (of z).cell? ⟨G14, 1, none⟩ = some (.int .i64 50) := fun z => ((HLay.out.below (HOF.out z)).blk 2 rfl).cell 1
  have c4_ : ∀ z, (of z).cell? ⟨G22, 0, none⟩ = some (.int .i64 50) := fun z => ((HLay.out.below (HOF.out z)).blk 3 rfl).cell 0
  have c5_ : ∀ z, (of z).cell? ⟨G22, 1, none⟩ = some (.int .i64 70) := fun z => ((HLay.out.below (HOF.out z)).blk 3 rfl).cell 1
  have c6_ : ∀ z, (of z).cell? ⟨G28, 0, none⟩ = some (.int .i64 20) := fun z => ((HLay.out.below (HOF.out z)).blk 5 rfl).cell 0
  have c7_ : ∀ z, (of z).cell? ⟨G28, 1, none⟩ = some (.int .i64 150) := fun z => ((HLay.out.below (HOF.out z)).blk 5 rfl).cell 1
  have hfw : ∀ f, Fence.wide.fn f := fun _ => trivial
  simp only [pickB]
  repeat (gi_big_quiet_step (fail))
  refine wpQuietIn_nil ?_
  exact rfl
 intro W62 hW
 replace HLay := Lib.hid (HLay.out.below hW)
 replace HA := Lib.hid ((HA.out.below hW).more hW.size)
 replace HB := Lib.hid ((HB.out.below hW).more hW.size)
 replace HC := Lib.hid ((HC.out.below hW).more hW.size)
 replace HD := Lib.hid ((HD.out.below hW).more hW.size)
 replace HE := Lib.hid ((HE.out.below hW).more hW.size)
 clear hW
 simp only [pickB]
 refine wpT_nil ?_
 gi_wp2
 clear HA HB HC HD HE
 refine ⟨trivial, (callsIn_wide.2 (town_any W62)).mono ?_⟩
 rintro e W63 ⟨g, g2, rfl, ht, hb⟩
 replace HLay := Lib.hid (HLay.out.below hb)
 clear hb
 have HTn := Lib.hid ht
 clear ht
 gi_wp2
 obtain ⟨V64, hV⟩ : ∃ V, (W63.alloc (.cells #[.int .i64 2, .int .i64 3] 3)) = V := ⟨_, rfl⟩
 rw [hV]
 have hb := fbox_bel hV
 have hnew := fbox_blk hV
 have hge := HLay.out.bel.size
 replace HLay := Lib.hid (HLay.out.below hb)
 replace HTn := Lib.hid ((HTn.out.below hb).more hb.size)
 replace HLay := Lib.hid (HLay.out.add hge hnew)
 clear hnew hge hb hV
 obtain ⟨G65, hG⟩ : ∃ g, W63.heap.size = g := ⟨_, rfl⟩
 rw [hG] at HLay ⊢
 clear hG
 replace HLay := Lib.hid (show Lay w V64 [(G6, 34, #[.int .i64 20, .int .i64 140]), (G11, 3, #[.int .i64 1, .int .i64 3]), (G14, 34, #[.int .i64 50, .int .i64 50]), (G22, 34, #[.int .i64 50, .int .i64 70]), (G25, 3, #[.int .i64 2, .int .i64 3]), (G28, 34, #[.int .i64 20, .int .i64 150]), (G31, 3, #[.int .i64 2, .int .i64 3, .int .i64 4]), (G38, 3, #[.int .i64 1, .int .i64 3]), (G45, 3, #[.int .i64 4]), (G50, 3, #[.int .i64 2]), (G57, 3, #[.int .i64 3, .int .i64 2]), (G65, 3, #[.int .i64 2, .int .i64 3])] from HLay.out)
 gi_wp2
 refine ⟨trivial, (callsIn_wide.2 (order_any (some ⟨g, 0, none⟩) 4 4 (some ⟨g2, 0, none⟩) 4 4 exT 1 (some ⟨G65, 0, none⟩) 2 2 [2, 3] false V64 (by omega) (by omega) (by omega) HTn.out (ints_blk2 [2, 3] (HLay.out.blk 11 rfl)) (HL.out.below HLay.out.bel hl0))).mono ?_⟩
 rintro e W66 ⟨rfl, hb⟩
 replace HLay := Lib.hid (HLay.out.below hb)
 replace HTn := Lib.hid ((HTn.out.below hb).more hb.size)
 clear hb
 rw [ex_order.1, ex_order.2]
 clear HTn
 gi_wp2
 obtain ⟨V67, hV⟩ : ∃ V, (W66.alloc (.cells #[.int .i64 20, .int .i64 220] 34)) = V := ⟨_, rfl⟩
 rw [hV]
 have hb := fbox_bel hV
 have hnew := fbox_blk hV
 have hge := HLay.out.bel.size
 replace HLay := Lib.hid (HLay.out.below hb)
 replace HLay := Lib.hid (HLay.out.add hge hnew)
 clear hnew hge hb hV
 obtain ⟨G68, hG⟩ : ∃ g, W66.heap.size = g := ⟨_, rfl⟩
 rw [hG] at HLay ⊢
 clear hG
 replace HLay := Lib.hid (show Lay w V67 [(G6, 34, #[.int .i64 20, .int .i64 140]), (G11, 3, #[.int .i64 1, .int .i64 3]), (G14, 34, #[.int .i64 50, .int .i64 50]), (G22, 34, #[.int .i64 50, .int .i64 70]), (G25, 3, #[.int .i64 2, .int .i64 3]), (G28, 34, #[.int .i64 20, .int .i64 150]), (G31, 3, #[.int .i64 2, .int .i64 3, .int .i64 4]), (G38, 3, #[.int .i64 1, .int .i64 3]), (G45, 3, #[.int .i64 4]), (G50, 3, #[.int .i64 2]), (G57, 3, #[.int .i64 3, .int .i64 2]), (G65, 3, #[.int .i64 2, .int .i64 3]), (G68, 34, #[.int .i64 20, .int .i64 220])] from HLay.out)
 have x12_0 := (HLay.out.blk 12 rfl).cell 0
 have x12_1 := (HLay.out.blk 12 rfl).cell 1
 have l12_ := HLay.out.lt 12 rfl
 gi_wp2
 clear x12_0 x12_1 l12_
 refine ⟨trivial, (callsIn_wide.2 (town_any V67)).mono ?_⟩
 rintro e W69 ⟨g, g2, rfl, ht, hb⟩
 replace HLay := Lib.hid (HLay.out.below hb)
 clear hb
 have HTn := Lib.hid ht
 clear ht
 gi_wp2
 refine ⟨trivial, (callsIn_wide.2 (lskin_any W69)).mono ?_⟩
 rintro e W70 ⟨rfl, hb⟩
 replace HLay := Lib.hid (HLay.out.below hb)
 replace HTn := Lib.hid ((HTn.out.below hb).more hb.size)
 clear hb
 gi_wp2
 obtain ⟨V71, hV⟩ : ∃ V, (W70.alloc (.cells #[.int .i64 2, .int .i64 3, .int .i64 4] 3)) = V := ⟨_, rfl⟩
 rw [hV]
 have hb := fbox_bel hV
 have hnew := fbox_blk hV
 have hge := HLay.out.bel.size
 replace HLay := Lib.hid (HLay.out.below hb)
 replace HTn := Lib.hid ((HTn.out.below hb).more hb.size)
 replace HLay := Lib.hid (HLay.out.add hge hnew)
 clear hnew hge hb hV
 obtain ⟨G72, hG⟩ : ∃ g, W70.heap.size = g := ⟨_, rfl⟩
 rw [hG] at HLay ⊢
 clear hG
 replace HLay := Lib.hid (show Lay w V71 [(G6, 34, #[.int .i64 20, .int .i64 140]), (G11, 3, #[.int .i64 1, .int .i64 3]), (G14, 34, #[.int .i64 50, .int .i64 50]), (G22, 34, #[.int .i64 50, .int .i64 70]), (G25, 3, #[.int .i64 2, .int .i64 3]), (G28, 34, #[.int .i64 20, .int .i64 150]), (G31, 3, #[.int .i64 2, .int .i64 3, .int .i64 4]), (G38, 3, #[.int .i64 1, .int .i64 3]), (G45, 3, #[.int .i64 4]), (G50, 3, #[.int .i64 2]), (G57, 3, #[.int .i64 3, .int .i64 2]), (G65, 3, #[.int .i64 2, .int .i64 3]), (G68, 34, #[.int .i64 20, .int .i64 220]), (G72, 3, #[.int .i64 2, .int .i64 3, .int .i64 4])] from HLay.out)
 have x12_0 := (HLay.out.blk 12 rfl).cell 0
 have x12_1 := (HLay.out.blk 12 rfl).cell 1
 have l12_ := HLay.out.lt 12 rfl
 gi_wp2
 clear x12_0 x12_1 l12_
 refine ⟨trivial, (callsIn_wide.2 (end_any (some ⟨g, 0, none⟩) 4 4 (some ⟨g2, 0, none⟩) 4 4 exT exS 1 (some ⟨G72, 0, none⟩) 3 3 [2, 3, 4] V71 (by omega) (by omega) (by omega) HTn.out (ints_blk2 [2, 3, 4] (HLay.out.blk 13 rfl)) (HL.out.below HLay.out.bel hl0))).mono ?_⟩
 rintro e W73 ⟨rfl, hb⟩
 replace HLay := Lib.hid (HLay.out.below hb)
 replace HTn := Lib.hid ((HTn.out.below hb).more hb.size)
 clear hb
 rw [ex_end.1, ex_end.2]
 clear HTn
 have x12_0 := (HLay.out.blk 12 rfl).cell 0
 have x12_1 := (HLay.out.blk 12 rfl).cell 1
 have l12_ := HLay.out.lt 12 rfl
 gi_wp2
 clear x12_0 x12_1 l12_
 obtain ⟨V74, hV⟩ : ∃ V, (W73.alloc (.cells #[.int .i64 660, .int .i64 860] 63)) = V := ⟨_, rfl⟩
 rw [hV]
 have hb := fbox_bel hV
 have hnew := fbox_blk hV
 have hge := HLay.out.bel.size
 replace HLay := Lib.hid (HLay.out.below hb)
 replace HLay := Lib.hid (HLay.out.add hge hnew)
 clear hnew hge hb hV
 obtain ⟨G75, hG⟩ : ∃ g, W73.heap.size = g := ⟨_, rfl⟩
 rw [hG] at HLay ⊢
 clear hG
 replace HLay := Lib.hid (show Lay w V74 [(G6, 34, #[.int .i64 20, .int .i64 140]), (G11, 3, #[.int .i64 1, .int .i64 3]), (G14, 34, #[.int .i64 50, .int .i64 50]), (G22, 34, #[.int .i64 50, .int .i64 70]), (G25, 3, #[.int .i64 2, .int .i64 3]), (G28, 34, #[.int .i64 20, .int .i64 150]), (G31, 3, #[.int .i64 2, .int .i64 3, .int .i64 4]), (G38, 3, #[.int .i64 1, .int .i64 3]), (G45, 3, #[.int .i64 4]), (G50, 3, #[.int .i64 2]), (G57, 3, #[.int .i64 3, .int .i64 2]), (G65, 3, #[.int .i64 2, .int .i64 3]), (G68, 34, #[.int .i64 20, .int .i64 220]), (G72, 3, #[.int .i64 2, .int .i64 3, .int .i64 4]), (G75, 63, #[.int .i64 660, .int .i64 860])] from HLay.out)
 have x12_0 := (HLay.out.blk 12 rfl).cell 0
 have x12_1 := (HLay.out.blk 12 rfl).cell 1
 have l12_ := HLay.out.lt 12 rfl
 have x14_0 := (HLay.out.blk 14 rfl).cell 0
 have x14_1 := (HLay.out.blk 14 rfl).cell 1
 have l14_ := HLay.out.lt 14 rfl
 gi_wp2
 clear x12_0 x12_1 l12_ x14_0 x14_1 l14_
 refine ⟨trivial, (callsIn_wide.2 (town_any V74)).mono ?_⟩
 rintro e W76 ⟨g, g2, rfl, ht, hb⟩
 replace HLay := Lib.hid (HLay.out.below hb)
 clear hb
 have HTn := Lib.hid ht
 clear ht
 gi_wp2
 refine ⟨trivial, (callsIn_wide.2 (lskin_any W76)).mono ?_⟩
 rintro e W77 ⟨rfl, hb⟩
 replace HLay := Lib.hid (HLay.out.below hb)
 replace HTn := Lib.hid ((HTn.out.below hb).more hb.size)
 clear hb
 gi_wp2
 refine ⟨trivial, (callsIn_wide.2 (wet_any (some ⟨g, 0, none⟩) 4 4 (some ⟨g2, 0, none⟩) 4 4 exT exS 1 4 false W77 (by omega) (by omega) HTn.out (HL.out.below HLay.out.bel hl0))).mono ?_⟩
 rintro e W78 ⟨AF, nAF, cAF, rfl, hi, hb⟩
 replace HLay := Lib.hid (HLay.out.below hb)
 replace HTn := Lib.hid ((HTn.out.below hb).more hb.size)
 clear hb
 rw [ex_wet] at hi ⊢
 obtain rfl : nAF = 2 := by have := hi.len; simpa using this.symm
 have HF := Lib.hid hi
 clear hi
 clear HTn
 have x12_0 := (HLay.out.blk 12 rfl).cell 0
 have x12_1 := (HLay.out.blk 12 rfl).cell 1
 have l12_ := HLay.out.lt 12 rfl
 have x14_0 := (HLay.out.blk 14 rfl).cell 0
 have x14_1 := (HLay.out.blk 14 rfl).cell 1
 have l14_ := HLay.out.lt 14 rfl
 gi_wp2
 clear x12_0 x12_1 l12_ x14_0 x14_1 l14_
 refine ⟨trivial, (callsIn_wide.2 (town_any W78)).mono ?_⟩
 rintro e W79 ⟨g, g2, rfl, ht, hb⟩
 replace HLay := Lib.hid (HLay.out.below hb)
 replace HF := Lib.hid ((HF.out.below hb).more hb.size)
 clear hb
 have HTn := Lib.hid ht
 clear ht
 gi_wp2
 refine ⟨trivial, (callsIn_wide.2 (lgait_any W79)).mono ?_⟩
 rintro e W80 ⟨rfl, hb⟩
 replace HLay := Lib.hid (HLay.out.below hb)
 replace HF := Lib.hid ((HF.out.below hb).more hb.size)
 replace HTn := Lib.hid ((HTn.out.below hb).more hb.size)
 clear hb
 gi_wp2
 obtain ⟨V81, hV⟩ : ∃ V, (W80.alloc (.cells #[.int .i64 2, .int .i64 3, .int .i64 4] 3)) = V := ⟨_, rfl⟩
 rw [hV]
 have hb := fbox_bel hV
 have hnew := fbox_blk hV
 have hge := HLay.out.bel.size
 replace HLay := Lib.hid (HLay.out.below hb)
 replace HF := Lib.hid ((HF.out.below hb).more hb.size)
 replace HTn := Lib.hid ((HTn.out.below hb).more hb.size)
 replace HLay := Lib.hid (HLay.out.add hge hnew)
 clear hnew hge hb hV
 obtain ⟨G82, hG⟩ : ∃ g, W80.heap.size = g := ⟨_, rfl⟩
 rw [hG] at HLay ⊢
 clear hG
 replace HLay := Lib.hid (show Lay w V81 [(G6, 34, #[.int .i64 20, .int .i64 140]), (G11, 3, #[.int .i64 1, .int .i64 3]), (G14, 34, #[.int .i64 50, .int .i64 50]), (G22, 34, #[.int .i64 50, .int .i64 70]), (G25, 3, #[.int .i64 2, .int .i64 3]), (G28, 34, #[.int .i64 20, .int .i64 150]), (G31, 3, #[.int .i64 2, .int .i64 3, .int .i64 4]), (G38, 3, #[.int .i64 1, .int .i64 3]), (G45, 3, #[.int .i64 4]), (G50, 3, #[.int .i64 2]), (G57, 3, #[.int .i64 3, .int .i64 2]), (G65, 3, #[.int .i64 2, .int .i64 3]), (G68, 34, #[.int .i64 20, .int .i64 220]), (G72, 3, #[.int .i64 2, .int .i64 3, .int .i64 4]), (G75, 63, #[.int .i64 660, .int .i64 860]), (G82, 3, #[.int .i64 2, .int .i64 3, .int .i64 4])] from HLay.out)
 have x12_0 := (HLay.out.blk 12 rfl).cell 0
 have x12_1 := (HLay.out.blk 12 rfl).cell 1
 have l12_ := HLay.out.lt 12 rfl
 have x14_0 := (HLay.out.blk 14 rfl).cell 0
 have x14_1 := (HLay.out.blk 14 rfl).cell 1
 have l14_ := HLay.out.lt 14 rfl
 gi_wp2
 clear x12_0 x12_1 l12_ x14_0 x14_1 l14_
 refine ⟨trivial, (callsIn_wide.2 (seconds_any (some ⟨g, 0, none⟩) 4 4 (some ⟨g2, 0, none⟩) 4 4 exT exG 1 (some ⟨G82, 0, none⟩) 3 3 [2, 3, 4] V81 (by omega) (by omega) (by omega) HTn.out (ints_blk2 [2, 3, 4] (HLay.out.blk 15 rfl)) (HL.out.below HLay.out.bel hl0))).mono ?_⟩
 rintro e W83 ⟨rfl, hb⟩
 replace HLay := Lib.hid (HLay.out.below hb)
 replace HF := Lib.hid ((HF.out.below hb).more hb.size)
 replace HTn := Lib.hid ((HTn.out.below hb).more hb.size)
 clear hb
 rw [ex_sec.1, ex_sec.2]
 clear HTn
 have x12_0 := (HLay.out.blk 12 rfl).cell 0
 have x12_1 := (HLay.out.blk 12 rfl).cell 1
 have l12_ := HLay.out.lt 12 rfl
 have x14_0 := (HLay.out.blk 14 rfl).cell 0
 have x14_1 := (HLay.out.blk 14 rfl).cell 1
 have l14_ := HLay.out.lt 14 rfl
 gi_wp2
 clear x12_0 x12_1 l12_ x14_0 x14_1 l14_
 obtain ⟨V84, hV⟩ : ∃ V, (W83.alloc (.cells #[.int .i64 180, .int .i64 340] 63)) = V := ⟨_, rfl⟩
 rw [hV]
 have hb := fbox_bel hV
 have hnew := fbox_blk hV
 have hge := HLay.out.bel.size
 replace HLay := Lib.hid (HLay.out.below hb)
 replace HF := Lib.hid ((HF.out.below hb).more hb.size)
 replace HLay := Lib.hid (HLay.out.add hge hnew)
 clear hnew hge hb hV
 obtain ⟨G85, hG⟩ : ∃ g, W83.heap.size = g := ⟨_, rfl⟩
 rw [hG] at HLay ⊢
 clear hG
 replace HLay := Lib.hid (show Lay w V84 [(G6, 34, #[.int .i64 20, .int .i64 140]), (G11, 3, #[.int .i64 1, .int .i64 3]), (G14, 34, #[.int .i64 50, .int .i64 50]), (G22, 34, #[.int .i64 50, .int .i64 70]), (G25, 3, #[.int .i64 2, .int .i64 3]), (G28, 34, #[.int .i64 20, .int .i64 150]), (G31, 3, #[.int .i64 2, .int .i64 3, .int .i64 4]), (G38, 3, #[.int .i64 1, .int .i64 3]), (G45, 3, #[.int .i64 4]), (G50, 3, #[.int .i64 2]), (G57, 3, #[.int .i64 3, .int .i64 2]), (G65, 3, #[.int .i64 2, .int .i64 3]), (G68, 34, #[.int .i64 20, .int .i64 220]), (G72, 3, #[.int .i64 2, .int .i64 3, .int .i64 4]), (G75, 63, #[.int .i64 660, .int .i64 860]), (G82, 3, #[.int .i64 2, .int .i64 3, .int .i64 4]), (G85, 63, #[.int .i64 180, .int .i64 340])] from HLay.out)
 have x12_0 := (HLay.out.blk 12 rfl).cell 0
 have x12_1 := (HLay.out.blk 12 rfl).cell 1
 have l12_ := HLay.out.lt 12 rfl
 have x14_0 := (HLay.out.blk 14 rfl).cell 0
 have x14_1 := (HLay.out.blk 14 rfl).cell 1
 have l14_ := HLay.out.lt 14 rfl
 have x16_0 := (HLay.out.blk 16 rfl).cell 0
 have x16_1 := (HLay.out.blk 16 rfl).cell 1
 have l16_ := HLay.out.lt 16 rfl
 gi_wp2
 clear x12_0 x12_1 l12_ x14_0 x14_1 l14_ x16_0 x16_1 l16_
 refine ⟨trivial, (callsIn_wide.2 (town_any V84)).mono ?_⟩
 rintro e W86 ⟨g, g2, rfl, ht, hb⟩
 replace HLay := Lib.hid (HLay.out.below hb)
 replace HF := Lib.hid ((HF.out.below hb).more hb.size)
 clear hb
 have HTn := Lib.hid ht
 clear ht
 gi_wp2
 refine ⟨trivial, (callsIn_wide.2 (lgait_any W86)).mono ?_⟩
 rintro e W87 ⟨rfl, hb⟩
 replace HLay := Lib.hid (HLay.out.below hb)
 replace HF := Lib.hid ((HF.out.below hb).more hb.size)
 replace HTn := Lib.hid ((HTn.out.below hb).more hb.size)
 clear hb
 gi_wp2
 refine ⟨trivial, (callsIn_wide.2 (minutes_any (some ⟨g, 0, none⟩) 4 4 (some ⟨g2, 0, none⟩) 4 4 exT exG 1 4 false W87 (by omega) (by omega) HTn.out (HL.out.below HLay.out.bel hl0))).mono ?_⟩
 rintro e W88 ⟨rfl, hb⟩
 replace HLay := Lib.hid (HLay.out.below hb)
 replace HF := Lib.hid ((HF.out.below hb).more hb.size)
 replace HTn := Lib.hid ((HTn.out.below hb).more hb.size)
 clear hb
 rw [ex_min.1, ex_min.2]
 clear HTn
 have x12_0 := (HLay.out.blk 12 rfl).cell 0
 have x12_1 := (HLay.out.blk 12 rfl).cell 1
 have l12_ := HLay.out.lt 12 rfl
 have x14_0 := (HLay.out.blk 14 rfl).cell 0
 have x14_1 := (HLay.out.blk 14 rfl).cell 1
 have l14_ := HLay.out.lt 14 rfl
 have x16_0 := (HLay.out.blk 16 rfl).cell 0
 have x16_1 := (HLay.out.blk 16 rfl).cell 1
 have l16_ := HLay.out.lt 16 rfl
 gi_wp2
 clear x12_0 x12_1 l12_ x14_0 x14_1 l14_ x16_0 x16_1 l16_
 obtain ⟨V89, hV⟩ : ∃ V, (W88.alloc (.cells #[.int .i64 3, .int .i64 6] 63)) = V := ⟨_, rfl⟩
 rw [hV]
 have hb := fbox_bel hV
 have hnew := fbox_blk hV
 have hge := HLay.out.bel.size
 replace HLay := Lib.hid (HLay.out.below hb)
 replace HF := Lib.hid ((HF.out.below hb).more hb.size)
 replace HLay := Lib.hid (HLay.out.add hge hnew)
 clear hnew hge hb hV
 obtain ⟨G90, hG⟩ : ∃ g, W88.heap.size = g := ⟨_, rfl⟩
 rw [hG] at HLay ⊢
 clear hG
 replace HLay := Lib.hid (show Lay w V89 [(G6, 34, #[.int .i64 20, .int .i64 140]), (G11, 3, #[.int .i64 1, .int .i64 3]), (G14, 34, #[.int .i64 50, .int .i64 50]), (G22, 34, #[.int .i64 50, .int .i64 70]), (G25, 3, #[.int .i64 2, .int .i64 3]), (G28, 34, #[.int .i64 20, .int .i64 150]), (G31, 3, #[.int .i64 2, .int .i64 3, .int .i64 4]), (G38, 3, #[.int .i64 1, .int .i64 3]), (G45, 3, #[.int .i64 4]), (G50, 3, #[.int .i64 2]), (G57, 3, #[.int .i64 3, .int .i64 2]), (G65, 3, #[.int .i64 2, .int .i64 3]), (G68, 34, #[.int .i64 20, .int .i64 220]), (G72, 3, #[.int .i64 2, .int .i64 3, .int .i64 4]), (G75, 63, #[.int .i64 660, .int .i64 860]), (G82, 3, #[.int .i64 2, .int .i64 3, .int .i64 4]), (G85, 63, #[.int .i64 180, .int .i64 340]), (G90, 63, #[.int .i64 3, .int .i64 6])] from HLay.out)
 have x12_0 := (HLay.out.blk 12 rfl).cell 0
 have x12_1 := (HLay.out.blk 12 rfl).cell 1
 have l12_ := HLay.out.lt 12 rfl
 have x14_0 := (HLay.out.blk 14 rfl).cell 0
 have x14_1 := (HLay.out.blk 14 rfl).cell 1
 have l14_ := HLay.out.lt 14 rfl
 have x16_0 := (HLay.out.blk 16 rfl).cell 0
 have x16_1 := (HLay.out.blk 16 rfl).cell 1
 have l16_ := HLay.out.lt 16 rfl
 have x17_0 := (HLay.out.blk 17 rfl).cell 0
 have x17_1 := (HLay.out.blk 17 rfl).cell 1
 have l17_ := HLay.out.lt 17 rfl
 gi_wp2
 clear x12_0 x12_1 l12_ x14_0 x14_1 l14_ x16_0 x16_1 l16_ x17_0 x17_1 l17_
 refine ⟨trivial, (callsIn_wide.2 (town_any V89)).mono ?_⟩
 rintro e W91 ⟨g, g2, rfl, ht, hb⟩
 replace HLay := Lib.hid (HLay.out.below hb)
 replace HF := Lib.hid ((HF.out.below hb).more hb.size)
 clear hb
 have HTn := Lib.hid ht
 clear ht
 gi_wp2
 refine ⟨trivial, (callsIn_wide.2 (lgait_any W91)).mono ?_⟩
 rintro e W92 ⟨rfl, hb⟩
 replace HLay := Lib.hid (HLay.out.below hb)
 replace HF := Lib.hid ((HF.out.below hb).more hb.size)
 replace HTn := Lib.hid ((HTn.out.below hb).more hb.size)
 clear hb
 gi_wp2
 refine ⟨trivial, (callsIn_wide.2 (quick_any (some ⟨g, 0, none⟩) 4 4 (some ⟨g2, 0, none⟩) 4 4 exT exG 1 4 false W92 (by omega) (by omega) HTn.out (HL.out.below HLay.out.bel hl0))).mono ?_⟩
 rintro e W93 ⟨AG, nAG, cAG, rfl, hi, hb⟩
 replace HLay := Lib.hid (HLay.out.below hb)
 replace HF := Lib.hid ((HF.out.below hb).more hb.size)
 replace HTn := Lib.hid ((HTn.out.below hb).more hb.size)
 clear hb
 rw [ex_quick] at hi ⊢
 obtain rfl : nAG = 2 := by have := hi.len; simpa using this.symm
 have HG := Lib.hid hi
 clear hi
 clear HTn
 have x12_0 := (HLay.out.blk 12 rfl).cell 0
 have x12_1 := (HLay.out.blk 12 rfl).cell 1
 have l12_ := HLay.out.lt 12 rfl
 have x14_0 := (HLay.out.blk 14 rfl).cell 0
 have x14_1 := (HLay.out.blk 14 rfl).cell 1
 have l14_ := HLay.out.lt 14 rfl
 have x16_0 := (HLay.out.blk 16 rfl).cell 0
 have x16_1 := (HLay.out.blk 16 rfl).cell 1
 have l16_ := HLay.out.lt 16 rfl
 have x17_0 := (HLay.out.blk 17 rfl).cell 0
 have x17_1 := (HLay.out.blk 17 rfl).cell 1
 have l17_ := HLay.out.lt 17 rfl
 gi_wp2
 clear x12_0 x12_1 l12_ x14_0 x14_1 l14_ x16_0 x16_1 l16_ x17_0 x17_1 l17_
 obtain ⟨V94, hV⟩ : ∃ V, (W93.alloc (.cells #[.int .i64 170, .int .i64 290] 63)) = V := ⟨_, rfl⟩
 rw [hV]
 have hb := fbox_bel hV
 have hnew := fbox_blk hV
 have hge := HLay.out.bel.size
 replace HLay := Lib.hid (HLay.out.below hb)
 replace HF := Lib.hid ((HF.out.below hb).more hb.size)
 replace HG := Lib.hid ((HG.out.below hb).more hb.size)
 replace HLay := Lib.hid (HLay.out.add hge hnew)
 clear hnew hge hb hV
 obtain ⟨G95, hG⟩ : ∃ g, W93.heap.size = g := ⟨_, rfl⟩
 rw [hG] at HLay ⊢
 clear hG
 replace HLay := Lib.hid (show Lay w V94 [(G6, 34, #[.int .i64 20, .int .i64 140]), (G11, 3, #[.int .i64 1, .int .i64 3]), (G14, 34, #[.int .i64 50, .int .i64 50]), (G22, 34, #[.int .i64 50, .int .i64 70]), (G25, 3, #[.int .i64 2, .int .i64 3]), (G28, 34, #[.int .i64 20, .int .i64 150]), (G31, 3, #[.int .i64 2, .int .i64 3, .int .i64 4]), (G38, 3, #[.int .i64 1, .int .i64 3]), (G45, 3, #[.int .i64 4]), (G50, 3, #[.int .i64 2]), (G57, 3, #[.int .i64 3, .int .i64 2]), (G65, 3, #[.int .i64 2, .int .i64 3]), (G68, 34, #[.int .i64 20, .int .i64 220]), (G72, 3, #[.int .i64 2, .int .i64 3, .int .i64 4]), (G75, 63, #[.int .i64 660, .int .i64 860]), (G82, 3, #[.int .i64 2, .int .i64 3, .int .i64 4]), (G85, 63, #[.int .i64 180, .int .i64 340]), (G90, 63, #[.int .i64 3, .int .i64 6]), (G95, 63, #[.int .i64 170, .int .i64 290])] from HLay.out)
 have x12_0 := (HLay.out.blk 12 rfl).cell 0
 have x12_1 := (HLay.out.blk 12 rfl).cell 1
 have l12_ := HLay.out.lt 12 rfl
 have x14_0 := (HLay.out.blk 14 rfl).cell 0
 have x14_1 := (HLay.out.blk 14 rfl).cell 1
 have l14_ := HLay.out.lt 14 rfl
 have x16_0 := (HLay.out.blk 16 rfl).cell 0
 have x16_1 := (HLay.out.blk 16 rfl).cell 1
 have l16_ := HLay.out.lt 16 rfl
 have x17_0 := (HLay.out.blk 17 rfl).cell 0
 have x17_1 := (HLay.out.blk 17 rfl).cell 1
 have l17_ := HLay.out.lt 17 rfl
 have x18_0 := (HLay.out.blk 18 rfl).cell 0
 have x18_1 := (HLay.out.blk 18 rfl).cell 1
 have l18_ := HLay.out.lt 18 rfl
 gi_wp2
 clear x12_0 x12_1 l12_ x14_0 x14_1 l14_ x16_0 x16_1 l16_ x17_0 x17_1 l17_ x18_0 x18_1 l18_
 refine ⟨trivial, (callsIn_wide.2 (town_any V94)).mono ?_⟩
 rintro e W96 ⟨g, g2, rfl, ht, hb⟩
 replace HLay := Lib.hid (HLay.out.below hb)
 replace HF := Lib.hid ((HF.out.below hb).more hb.size)
 replace HG := Lib.hid ((HG.out.below hb).more hb.size)
 clear hb
 have HTn := Lib.hid ht
 clear ht
 gi_wp2
 obtain ⟨V97, hV⟩ : ∃ V, (W96.alloc (.cells #[.int .i64 2, .int .i64 3] 3)) = V := ⟨_, rfl⟩
 rw [hV]
 have hb := fbox_bel hV
 have hnew := fbox_blk hV
 have hge := HLay.out.bel.size
 replace HLay := Lib.hid (HLay.out.below hb)
 replace HF := Lib.hid ((HF.out.below hb).more hb.size)
 replace HG := Lib.hid ((HG.out.below hb).more hb.size)
 replace HTn := Lib.hid ((HTn.out.below hb).more hb.size)
 replace HLay := Lib.hid (HLay.out.add hge hnew)
 clear hnew hge hb hV
 obtain ⟨G98, hG⟩ : ∃ g, W96.heap.size = g := ⟨_, rfl⟩
 rw [hG] at HLay ⊢
 clear hG
 replace HLay := Lib.hid (show Lay w V97 [(G6, 34, #[.int .i64 20, .int .i64 140]), (G11, 3, #[.int .i64 1, .int .i64 3]), (G14, 34, #[.int .i64 50, .int .i64 50]), (G22, 34, #[.int .i64 50, .int .i64 70]), (G25, 3, #[.int .i64 2, .int .i64 3]), (G28, 34, #[.int .i64 20, .int .i64 150]), (G31, 3, #[.int .i64 2, .int .i64 3, .int .i64 4]), (G38, 3, #[.int .i64 1, .int .i64 3]), (G45, 3, #[.int .i64 4]), (G50, 3, #[.int .i64 2]), (G57, 3, #[.int .i64 3, .int .i64 2]), (G65, 3, #[.int .i64 2, .int .i64 3]), (G68, 34, #[.int .i64 20, .int .i64 220]), (G72, 3, #[.int .i64 2, .int .i64 3, .int .i64 4]), (G75, 63, #[.int .i64 660, .int .i64 860]), (G82, 3, #[.int .i64 2, .int .i64 3, .int .i64 4]), (G85, 63, #[.int .i64 180, .int .i64 340]), (G90, 63, #[.int .i64 3, .int .i64 6]), (G95, 63, #[.int .i64 170, .int .i64 290]), (G98, 3, #[.int .i64 2, .int .i64 3])] from HLay.out)
 have x12_0 := (HLay.out.blk 12 rfl).cell 0
 have x12_1 := (HLay.out.blk 12 rfl).cell 1
 have l12_ := HLay.out.lt 12 rfl
 have x14_0 := (HLay.out.blk 14 rfl).cell 0
 have x14_1 := (HLay.out.blk 14 rfl).cell 1
 have l14_ := HLay.out.lt 14 rfl
 have x16_0 := (HLay.out.blk 16 rfl).cell 0
 have x16_1 := (HLay.out.blk 16 rfl).cell 1
 have l16_ := HLay.out.lt 16 rfl
 have x17_0 := (HLay.out.blk 17 rfl).cell 0
 have x17_1 := (HLay.out.blk 17 rfl).cell 1
 have l17_ := HLay.out.lt 17 rfl
 have x18_0 := (HLay.out.blk 18 rfl).cell 0
 have x18_1 := (HLay.out.blk 18 rfl).cell 1
 have l18_ := HLay.out.lt 18 rfl
 gi_wp2
 clear x12_0 x12_1 l12_ x14_0 x14_1 l14_ x16_0 x16_1 l16_ x17_0 x17_1 l17_ x18_0 x18_1 l18_
 refine ⟨trivial, (callsIn_wide.2 (close_any (some ⟨g, 0, none⟩) 4 4 (some ⟨g2, 0, none⟩) 4 4 exT (some ⟨G98, 0, none⟩) 2 2 [2, 3] V97 (by omega) (by omega) (by omega) HTn.out (ints_blk2 [2, 3] (HLay.out.blk 19 rfl)) (HL.out.below HLay.out.bel hl0))).mono ?_⟩
 rintro e W99 ⟨AZ, cZ, AY, cY, rfl, _, _, _, hb⟩
 replace HLay := Lib.hid (HLay.out.below hb)
 replace HF := Lib.hid ((HF.out.below hb).more hb.size)
 replace HG := Lib.hid ((HG.out.below hb).more hb.size)
 replace HTn := Lib.hid ((HTn.out.below hb).more hb.size)
 clear hb
 rw [ex_close.1, ex_close.2]
 obtain ⟨zp, hzp⟩ : ∃ zp, (closeT exT [2, 3]).places.length = zp := ⟨_, rfl⟩
 rw [hzp]
 clear hzp
 clear HTn
 have x12_0 := (HLay.out.blk 12 rfl).cell 0
 have x12_1 := (HLay.out.blk 12 rfl).cell 1
 have l12_ := HLay.out.lt 12 rfl
 have x14_0 := (HLay.out.blk 14 rfl).cell 0
 have x14_1 := (HLay.out.blk 14 rfl).cell 1
 have l14_ := HLay.out.lt 14 rfl
 have x16_0 := (HLay.out.blk 16 rfl).cell 0
 have x16_1 := (HLay.out.blk 16 rfl).cell 1
 have l16_ := HLay.out.lt 16 rfl
 have x17_0 := (HLay.out.blk 17 rfl).cell 0
 have x17_1 := (HLay.out.blk 17 rfl).cell 1
 have l17_ := HLay.out.lt 17 rfl
 have x18_0 := (HLay.out.blk 18 rfl).cell 0
 have x18_1 := (HLay.out.blk 18 rfl).cell 1
 have l18_ := HLay.out.lt 18 rfl
 gi_wp2
 clear x12_0 x12_1 l12_ x14_0 x14_1 l14_ x16_0 x16_1 l16_ x17_0 x17_1 l17_ x18_0 x18_1 l18_
 obtain ⟨V100, hV⟩ : ∃ V, (W99.alloc (.cells #[.slice AZ zp cZ, .slice AY 2 cY] 25)) = V := ⟨_, rfl⟩
 rw [hV]
 have hb := fbox_bel hV
 have hnew := fbox_blk hV
 have hge := HLay.out.bel.size
 replace HLay := Lib.hid (HLay.out.below hb)
 replace HF := Lib.hid ((HF.out.below hb).more hb.size)
 replace HG := Lib.hid ((HG.out.below hb).more hb.size)
 replace HLay := Lib.hid (HLay.out.add hge hnew)
 clear hnew hge hb hV
 obtain ⟨G101, hG⟩ : ∃ g, W99.heap.size = g := ⟨_, rfl⟩
 rw [hG] at HLay ⊢
 clear hG
 replace HLay := Lib.hid (show Lay w V100 [(G6, 34, #[.int .i64 20, .int .i64 140]), (G11, 3, #[.int .i64 1, .int .i64 3]), (G14, 34, #[.int .i64 50, .int .i64 50]), (G22, 34, #[.int .i64 50, .int .i64 70]), (G25, 3, #[.int .i64 2, .int .i64 3]), (G28, 34, #[.int .i64 20, .int .i64 150]), (G31, 3, #[.int .i64 2, .int .i64 3, .int .i64 4]), (G38, 3, #[.int .i64 1, .int .i64 3]), (G45, 3, #[.int .i64 4]), (G50, 3, #[.int .i64 2]), (G57, 3, #[.int .i64 3, .int .i64 2]), (G65, 3, #[.int .i64 2, .int .i64 3]), (G68, 34, #[.int .i64 20, .int .i64 220]), (G72, 3, #[.int .i64 2, .int .i64 3, .int .i64 4]), (G75, 63, #[.int .i64 660, .int .i64 860]), (G82, 3, #[.int .i64 2, .int .i64 3, .int .i64 4]), (G85, 63, #[.int .i64 180, .int .i64 340]), (G90, 63, #[.int .i64 3, .int .i64 6]), (G95, 63, #[.int .i64 170, .int .i64 290]), (G98, 3, #[.int .i64 2, .int .i64 3]), (G101, 25, #[.slice AZ zp cZ, .slice AY 2 cY])] from HLay.out)
 have ht20 := eqToil_same 20 220
 have hq660 := eqSpan_same 660 860
 have hq180 := eqSpan_same 180 340
 have hq3 := eqSpan_same 3 6
 have hq170 := eqSpan_same 170 290
 try simp only [List.append_eq, List.cons_append, List.nil_append]
 refine Tr.wpIn_region_tree (G := Tr.Up) (V0 := V100) [([], [true, true, true, true], [4]), ([4], [false, false, false, false, false, true, true, true, true, true, true, true, true], [13]), ([4, 13], [false, false, false, false, false, false, false, false, false, false, false, false, false, false, true, true, true, true, true], [19]), ([4, 13, 19], [], [20]), ([4, 13, 19, 20], [false, false, false, false, false, false, false, false, false, false, false, false, false, false, false, false, false, false, false, false, false, true, true, true, true, true, true, true, true, true, true, true], [32]), ([4, 13, 19, 20, 32], [false, false, false, false, false, false, false, false, false, false, false, false, false, false, false, false, false, false, false, false, false, false, false, false, false, false, false, false, false, false, false, false, false, true, true, true, true, true, true, true, true], [41]), ([4, 13, 19, 20, 32, 41], [false, false, false, false, false, false, false, false, false, false, false, false, false, false, false, false, false, false, false, false, false, false, false, false, false, false, false, false, false, false, false, false, false, false, false, false, false, false, false, false, false, false, true, true, true, true, true], [47]), ([4, 13, 19, 20, 32, 41, 47], [], [48]), ([4, 13, 19, 20, 32, 41, 47, 48], [false, false, false, false, false, false, false, false, false, false, false, false, false, false, false, false, false, false, false, false, false, false, false, false, false, false, false, false, false, false, false, false, false, false, false, false, false, false, false, false, false, false, false, false, false, false, false, false, false, true, true, true], [52]), ([4, 13, 19, 20, 32, 41, 47, 48, 52], [false, false, false, false, false, false, false, false, false, false, false, false, false, false, false, false, false, false, false, false, false, false, false, false, false, false, false, false, false, false, false, false, false, false, false, false, false, false, false, false, false, false, false, false, false, false, false, false, false, false, false, false, false, true, true, true, true, true, true, true, true, true, true, true, true, true], [])] 10 [] (by kernel_rfl) (by kernel_rfl) (by kernel_rfl) (below_drewN (Below.refl _ _) 1) ?_
 refine Tr.wpTree_one (A := ?AF11) rfl rfl ?hq11 ?_
 case hq11 =>
  rintro σ hσ of hof hcl
  have HOF := Lib.hid hof
  have HCL := Lib.hid hcl
  clear hof hcl
  have c0_ : ∀ z, (of z).cell? ⟨G68, 0, none⟩ = some (.int .i64 20) := fun z => ((HLay.out.below (HOF.out z)).blk 12 rfl).cell 0
  have c1_ : ∀ z, (of z).cell? ⟨G68, 1, none⟩ = some (.int .i64 220) := fun z => ((HLay.out.below (HOF.out z)).blk 12 rfl).cell 1
  have c2_ : ∀ z, (of z).cell? ⟨G75, 0, none⟩ = some (.int .i64 660) := fun z => ((HLay.out.below (HOF.out z)).blk 14 rfl).cell 0
  have c3_ : ∀ z, (of z).cell? ⟨G75, 1, none⟩ = some (.int .i64 860) := fun z => ((HLay.out.below (HOF.out z)).blk 14 rfl).cell 1
  have c4_ : ∀ z, (of z).cell? ⟨G85, 0, none⟩ = some (.int .i64 180) := fun z => ((HLay.out.below (HOF.out z)).blk 16 rfl).cell 0
  have c5_ : ∀ z, (of z).cell? ⟨G85, 1, none⟩ = some (.int .i64 340) := fun z => ((HLay.out.below (HOF.out z)).blk 16 rfl).cell 1
  have c6_ : ∀ z, (of z).cell? ⟨G90, 0, none⟩ = some (.int .i64 3) := fun z => ((HLay.out.below (HOF.out z)).blk 17 rfl).cell 0
  have c7_ : ∀ z, (of z).cell? ⟨G90, 1, none⟩ = some (.int .i64 6) := fun z => ((HLay.out.below (HOF.out z)).blk 17 rfl).cell 1
  have c8_ : ∀ z, (of z).cell? ⟨G95, 0, none⟩ = some (.int .i64 170) := fun z => ((HLay.out.below (HOF.out z)).blk 18 rfl).cell 0
  have c9_ : ∀ z, (of z).cell? ⟨G95, 1, none⟩ = some (.int .i64 290) := fun z => ((HLay.out.below (HOF.out z)).blk 18 rfl).cell 1
  have c10_ : ∀ z, (of z).cell? ⟨G101, 0, none⟩ = some (.slice AZ zp cZ) := fun z => ((HLay.out.below (HOF.out z)).blk 20 rfl).cell 0
  have c11_ : ∀ z, (of z).cell? ⟨G101, 1, none⟩ = some (.slice AY 2 cY) := fun z => ((HLay.out.below (HOF.out z)).blk 20 rfl).cell 1
  have hfw : ∀ f, Fence.wide.fn f := fun _ => trivial
  simp only [pickB]
  repeat (gi_big_quiet_step (fail))
  refine wpQuietIn_nil ?_
  exact rfl
 intro W102 hW
 replace HLay := Lib.hid (HLay.out.below hW)
 replace HF := Lib.hid ((HF.out.below hW).more hW.size)
 replace HG := Lib.hid ((HG.out.below hW).more hW.size)
 clear hW
 gi_wp2
 refine ⟨trivial, (callsIn_wide.2 (ltoil_any 20 220 W102)).mono ?_⟩
 rintro e W103 ⟨rfl, hb⟩
 replace HLay := Lib.hid (HLay.out.below hb)
 replace HF := Lib.hid ((HF.out.below hb).more hb.size)
 replace HG := Lib.hid ((HG.out.below hb).more hb.size)
 gi_wp2
 first | refine ⟨trivial, hb, ?_⟩ | refine ⟨hb, ?_⟩
 clear hb
 refine Tr.wpTree_one (A := ?AF12) rfl rfl ?hq12 ?_
 case hq12 =>
  rintro σ hσ of hof hcl
  have HOF := Lib.hid hof
  have HCL := Lib.hid hcl
  clear hof hcl
  have c0_ : ∀ z, (of z).cell? ⟨G68, 0, none⟩ = some (.int .i64 20) := fun z => ((HLay.out.below (HOF.out z)).blk 12 rfl).cell 0
  have c1_ : ∀ z, (of z).cell? ⟨G68, 1, none⟩ = some (.int .i64 220) := fun z => ((HLay.out.below (HOF.out z)).blk 12 rfl).cell 1
  have c2_ : ∀ z, (of z).cell? ⟨G75, 0, none⟩ = some (.int .i64 660) := fun z => ((HLay.out.below (HOF.out z)).blk 14 rfl).cell 0
  have c3_ : ∀ z, (of z).cell? ⟨G75, 1, none⟩ = some (.int .i64 860) := fun z => ((HLay.out.below (HOF.out z)).blk 14 rfl).cell 1
  have c4_ : ∀ z, (of z).cell? ⟨G85, 0, none⟩ = some (.int .i64 180) := fun z => ((HLay.out.below (HOF.out z)).blk 16 rfl).cell 0
  have c5_ : ∀ z, (of z).cell? ⟨G85, 1, none⟩ = some (.int .i64 340) := fun z => ((HLay.out.below (HOF.out z)).blk 16 rfl).cell 1
  have c6_ : ∀ z, (of z).cell? ⟨G90, 0, none⟩ = some (.int .i64 3) := fun z => ((HLay.out.below (HOF.out z)).blk 17 rfl).cell 0
  have c7_ : ∀ z, (of z).cell? ⟨G90, 1, none⟩ = some (.int .i64 6) := fun z => ((HLay.out.below (HOF.out z)).blk 17 rfl).cell 1
  have c8_ : ∀ z, (of z).cell? ⟨G95, 0, none⟩ = some (.int .i64 170) := fun z => ((HLay.out.below (HOF.out z)).blk 18 rfl).cell 0
  have c9_ : ∀ z, (of z).cell? ⟨G95, 1, none⟩ = some (.int .i64 290) := fun z => ((HLay.out.below (HOF.out z)).blk 18 rfl).cell 1
  have c10_ : ∀ z, (of z).cell? ⟨G101, 0, none⟩ = some (.slice AZ zp cZ) := fun z => ((HLay.out.below (HOF.out z)).blk 20 rfl).cell 0
  have c11_ : ∀ z, (of z).cell? ⟨G101, 1, none⟩ = some (.slice AY 2 cY) := fun z => ((HLay.out.below (HOF.out z)).blk 20 rfl).cell 1
  have hfw : ∀ f, Fence.wide.fn f := fun _ => trivial
  simp only [pickB]
  repeat (gi_big_quiet_step (fail))
  refine wpQuietIn_nil ?_
  exact rfl
 intro W104 hW
 replace HLay := Lib.hid (HLay.out.below hW)
 replace HF := Lib.hid ((HF.out.below hW).more hW.size)
 replace HG := Lib.hid ((HG.out.below hW).more hW.size)
 clear hW
 gi_wp2
 refine ⟨trivial, (callsIn_wide.2 (lspan_any 660 860 W104)).mono ?_⟩
 rintro e W105 ⟨rfl, hb⟩
 replace HLay := Lib.hid (HLay.out.below hb)
 replace HF := Lib.hid ((HF.out.below hb).more hb.size)
 replace HG := Lib.hid ((HG.out.below hb).more hb.size)
 gi_wp2
 first | refine ⟨trivial, hb, ?_⟩ | refine ⟨hb, ?_⟩
 clear hb
 refine Tr.wpTree_one (A := ?AF13) rfl rfl ?hq13 ?_
 case hq13 =>
  rintro σ hσ of hof hcl
  have HOF := Lib.hid hof
  have HCL := Lib.hid hcl
  clear hof hcl
  have c0_ : ∀ z, (of z).cell? ⟨G68, 0, none⟩ = some (.int .i64 20) := fun z => ((HLay.out.below (HOF.out z)).blk 12 rfl).cell 0
  have c1_ : ∀ z, (of z).cell? ⟨G68, 1, none⟩ = some (.int .i64 220) := fun z => ((HLay.out.below (HOF.out z)).blk 12 rfl).cell 1
  have c2_ : ∀ z, (of z).cell? ⟨G75, 0, none⟩ = some (.int .i64 660) := fun z => ((HLay.out.below (HOF.out z)).blk 14 rfl).cell 0
  have c3_ : ∀ z, (of z).cell? ⟨G75, 1, none⟩ = some (.int .i64 860) := fun z => ((HLay.out.below (HOF.out z)).blk 14 rfl).cell 1
  have c4_ : ∀ z, (of z).cell? ⟨G85, 0, none⟩ = some (.int .i64 180) := fun z => ((HLay.out.below (HOF.out z)).blk 16 rfl).cell 0
  have c5_ : ∀ z, (of z).cell? ⟨G85, 1, none⟩ = some (.int .i64 340) := fun z => ((HLay.out.below (HOF.out z)).blk 16 rfl).cell 1
  have c6_ : ∀ z, (of z).cell? ⟨G90, 0, none⟩ = some (.int .i64 3) := fun z => ((HLay.out.below (HOF.out z)).blk 17 rfl).cell 0
  have c7_ : ∀ z, (of z).cell? ⟨G90, 1, none⟩ = some (.int .i64 6) := fun z => ((HLay.out.below (HOF.out z)).blk 17 rfl).cell 1
  have c8_ : ∀ z, (of z).cell? ⟨G95, 0, none⟩ = some (.int .i64 170) := fun z => ((HLay.out.below (HOF.out z)).blk 18 rfl).cell 0
  have c9_ : ∀ z, (of z).cell? ⟨G95, 1, none⟩ = some (.int .i64 290) := fun z => ((HLay.out.below (HOF.out z)).blk 18 rfl).cell 1
  have c10_ : ∀ z, (of z).cell? ⟨G101, 0, none⟩ = some (.slice AZ zp cZ) := fun z => ((HLay.out.below (HOF.out z)).blk 20 rfl).cell 0
  have c11_ : ∀ z, (of z).cell? ⟨G101, 1, none⟩ = some (.slice AY 2 cY) := fun z => ((HLay.out.below (HOF.out z)).blk 20 rfl).cell 1
  have hfw : ∀ f, Fence.wide.fn f := fun _ => trivial
  simp only [pickB]
  repeat (gi_big_quiet_step (fail))
  refine wpQuietIn_nil ?_
  exact rfl
 intro W106 hW
 replace HLay := Lib.hid (HLay.out.below hW)
 replace HF := Lib.hid ((HF.out.below hW).more hW.size)
 replace HG := Lib.hid ((HG.out.below hW).more hW.size)
 clear hW
 gi_wp2
 have hup : Tr.Up W106 (W106.alloc (.cells #[.int .i64 1, .int .i64 4] 3)) := (Below.refl _ _).alloc (Nat.le_refl _) _
 first | refine ⟨trivial, hup, ?_⟩ | refine ⟨hup, ?_⟩
 clear hup
 obtain ⟨V107, hV⟩ : ∃ V, (W106.alloc (.cells #[.int .i64 1, .int .i64 4] 3)) = V := ⟨_, rfl⟩
 rw [hV]
 have hb := fbox_bel hV
 have hnew := fbox_blk hV
 have hge := HLay.out.bel.size
 replace HLay := Lib.hid (HLay.out.below hb)
 replace HF := Lib.hid ((HF.out.below hb).more hb.size)
 replace HG := Lib.hid ((HG.out.below hb).more hb.size)
 replace HLay := Lib.hid (HLay.out.add hge hnew)
 clear hnew hge hb hV
 obtain ⟨G108, hG⟩ : ∃ g, W106.heap.size = g := ⟨_, rfl⟩
 rw [hG] at HLay ⊢
 clear hG
 replace HLay := Lib.hid (show Lay w V107 [(G6, 34, #[.int .i64 20, .int .i64 140]), (G11, 3, #[.int .i64 1, .int .i64 3]), (G14, 34, #[.int .i64 50, .int .i64 50]), (G22, 34, #[.int .i64 50, .int .i64 70]), (G25, 3, #[.int .i64 2, .int .i64 3]), (G28, 34, #[.int .i64 20, .int .i64 150]), (G31, 3, #[.int .i64 2, .int .i64 3, .int .i64 4]), (G38, 3, #[.int .i64 1, .int .i64 3]), (G45, 3, #[.int .i64 4]), (G50, 3, #[.int .i64 2]), (G57, 3, #[.int .i64 3, .int .i64 2]), (G65, 3, #[.int .i64 2, .int .i64 3]), (G68, 34, #[.int .i64 20, .int .i64 220]), (G72, 3, #[.int .i64 2, .int .i64 3, .int .i64 4]), (G75, 63, #[.int .i64 660, .int .i64 860]), (G82, 3, #[.int .i64 2, .int .i64 3, .int .i64 4]), (G85, 63, #[.int .i64 180, .int .i64 340]), (G90, 63, #[.int .i64 3, .int .i64 6]), (G95, 63, #[.int .i64 170, .int .i64 290]), (G98, 3, #[.int .i64 2, .int .i64 3]), (G101, 25, #[.slice AZ zp cZ, .slice AY 2 cY]), (G108, 3, #[.int .i64 1, .int .i64 4])] from HLay.out)
 refine Tr.wpTree_one (m := []) rfl rfl Gr.Quietly.none ?_
 intro W109 hW
 replace HLay := Lib.hid (HLay.out.below hW)
 replace HF := Lib.hid ((HF.out.below hW).more hW.size)
 replace HG := Lib.hid ((HG.out.below hW).more hW.size)
 clear hW
 gi_wp2
 refine ⟨trivial, (callsIn_wide.2 (is_any AF 2 cAF [1, 4] 0 (some ⟨G108, 0, none⟩) 2 2 [1, 4] W109 (by unfold maxLen; omega) (by unfold maxLen; omega) HF.out (ints_blk2 [1, 4] (HLay.out.blk 21 rfl)))).mono ?_⟩
 rintro e W110 ⟨rfl, hb⟩
 replace HLay := Lib.hid (HLay.out.below hb)
 replace HF := Lib.hid ((HF.out.below hb).more hb.size)
 replace HG := Lib.hid ((HG.out.below hb).more hb.size)
 rw [show (decide ((0 : Int) = 0) && sameI [1, 4] [1, 4]) = true from by decide]
 gi_wp2
 first | refine ⟨trivial, hb, ?_⟩ | refine ⟨hb, ?_⟩
 clear hb
 refine Tr.wpTree_one (A := ?AF14) rfl rfl ?hq14 ?_
 case hq14 =>
  rintro σ hσ of hof hcl
  have HOF := Lib.hid hof
  have HCL := Lib.hid hcl
  clear hof hcl
  have c0_ : ∀ z, (of z).cell? ⟨G68, 0, none⟩ = some (.int .i64 20) := fun z => ((HLay.out.below (HOF.out z)).blk 12 rfl).cell 0
  have c1_ : ∀ z, (of z).cell? ⟨G68, 1, none⟩ = some (.int .i64 220) := fun z => ((HLay.out.below (HOF.out z)).blk 12 rfl).cell 1
  have c2_ : ∀ z, (of z).cell? ⟨G75, 0, none⟩ = some (.int .i64 660) := fun z => ((HLay.out.below (HOF.out z)).blk 14 rfl).cell 0
  have c3_ : ∀ z, (of z).cell? ⟨G75, 1, none⟩ = some (.int .i64 860) := fun z => ((HLay.out.below (HOF.out z)).blk 14 rfl).cell 1
  have c4_ : ∀ z, (of z).cell? ⟨G85, 0, none⟩ = some (.int .i64 180) := fun z => ((HLay.out.below (HOF.out z)).blk 16 rfl).cell 0
  have c5_ : ∀ z, (of z).cell? ⟨G85, 1, none⟩ = some (.int .i64 340) := fun z => ((HLay.out.below (HOF.out z)).blk 16 rfl).cell 1
  have c6_ : ∀ z, (of z).cell? ⟨G90, 0, none⟩ = some (.int .i64 3) := fun z => ((HLay.out.below (HOF.out z)).blk 17 rfl).cell 0
  have c7_ : ∀ z, (of z).cell? ⟨G90, 1, none⟩ = some (.int .i64 6) := fun z => ((HLay.out.below (HOF.out z)).blk 17 rfl).cell 1
  have c8_ : ∀ z, (of z).cell? ⟨G95, 0, none⟩ = some (.int .i64 170) := fun z => ((HLay.out.below (HOF.out z)).blk 18 rfl).cell 0
  have c9_ : ∀ z, (of z).cell? ⟨G95, 1, none⟩ = some (.int .i64 290) := fun z => ((HLay.out.below (HOF.out z)).blk 18 rfl).cell 1
  have c10_ : ∀ z, (of z).cell? ⟨G101, 0, none⟩ = some (.slice AZ zp cZ) := fun z => ((HLay.out.below (HOF.out z)).blk 20 rfl).cell 0
  have c11_ : ∀ z, (of z).cell? ⟨G101, 1, none⟩ = some (.slice AY 2 cY) := fun z => ((HLay.out.below (HOF.out z)).blk 20 rfl).cell 1
  have hfw : ∀ f, Fence.wide.fn f := fun _ => trivial
  simp only [pickB]
  repeat (gi_big_quiet_step (fail))
  refine wpQuietIn_nil ?_
  exact rfl
 intro W111 hW
 replace HLay := Lib.hid (HLay.out.below hW)
 replace HF := Lib.hid ((HF.out.below hW).more hW.size)
 replace HG := Lib.hid ((HG.out.below hW).more hW.size)
 clear hW
 gi_wp2
 refine ⟨trivial, (callsIn_wide.2 (lspan_any 180 340 W111)).mono ?_⟩
 rintro e W112 ⟨rfl, hb⟩
 replace HLay := Lib.hid (HLay.out.below hb)
 replace HF := Lib.hid ((HF.out.below hb).more hb.size)
 replace HG := Lib.hid ((HG.out.below hb).more hb.size)
 gi_wp2
 first | refine ⟨trivial, hb, ?_⟩ | refine ⟨hb, ?_⟩
 clear hb
 refine Tr.wpTree_one (A := ?AF15) rfl rfl ?hq15 ?_
 case hq15 =>
  rintro σ hσ of hof hcl
  have HOF := Lib.hid hof
  have HCL := Lib.hid hcl
  clear hof hcl
  have c0_ : ∀ z, (of z).cell? ⟨G68, 0, none⟩ = some (.int .i64 20) := fun z => ((HLay.out.below (HOF.out z)).blk 12 rfl).cell 0
  have c1_ : ∀ z, (of z).cell? ⟨G68, 1, none⟩ = some (.int .i64 220) := fun z => ((HLay.out.below (HOF.out z)).blk 12 rfl).cell 1
  have c2_ : ∀ z, (of z).cell? ⟨G75, 0, none⟩ = some (.int .i64 660) := fun z => ((HLay.out.below (HOF.out z)).blk 14 rfl).cell 0
  have c3_ : ∀ z, (of z).cell? ⟨G75, 1, none⟩ = some (.int .i64 860) := fun z => ((HLay.out.below (HOF.out z)).blk 14 rfl).cell 1
  have c4_ : ∀ z, (of z).cell? ⟨G85, 0, none⟩ = some (.int .i64 180) := fun z => ((HLay.out.below (HOF.out z)).blk 16 rfl).cell 0
  have c5_ : ∀ z, (of z).cell? ⟨G85, 1, none⟩ = some (.int .i64 340) := fun z => ((HLay.out.below (HOF.out z)).blk 16 rfl).cell 1
  have c6_ : ∀ z, (of z).cell? ⟨G90, 0, none⟩ = some (.int .i64 3) := fun z => ((HLay.out.below (HOF.out z)).blk 17 rfl).cell 0
  have c7_ : ∀ z, (of z).cell? ⟨G90, 1, none⟩ = some (.int .i64 6) := fun z => ((HLay.out.below (HOF.out z)).blk 17 rfl).cell 1
  have c8_ : ∀ z, (of z).cell? ⟨G95, 0, none⟩ = some (.int .i64 170) := fun z => ((HLay.out.below (HOF.out z)).blk 18 rfl).cell 0
  have c9_ : ∀ z, (of z).cell? ⟨G95, 1, none⟩ = some (.int .i64 290) := fun z => ((HLay.out.below (HOF.out z)).blk 18 rfl).cell 1
  have c10_ : ∀ z, (of z).cell? ⟨G101, 0, none⟩ = some (.slice AZ zp cZ) := fun z => ((HLay.out.below (HOF.out z)).blk 20 rfl).cell 0
  have c11_ : ∀ z, (of z).cell? ⟨G101, 1, none⟩ = some (.slice AY 2 cY) := fun z => ((HLay.out.below (HOF.out z)).blk 20 rfl).cell 1
  have hfw : ∀ f, Fence.wide.fn f := fun _ => trivial
  simp only [pickB]
  repeat (gi_big_quiet_step (fail))
  refine wpQuietIn_nil ?_
  exact rfl
 intro W113 hW
 replace HLay := Lib.hid (HLay.out.below hW)
 replace HF := Lib.hid ((HF.out.below hW).more hW.size)
 replace HG := Lib.hid ((HG.out.below hW).more hW.size)
 clear hW
 gi_wp2
 refine ⟨trivial, (callsIn_wide.2 (lspan_any 3 6 W113)).mono ?_⟩
 rintro e W114 ⟨rfl, hb⟩
 replace HLay := Lib.hid (HLay.out.below hb)
 replace HF := Lib.hid ((HF.out.below hb).more hb.size)
 replace HG := Lib.hid ((HG.out.below hb).more hb.size)
 gi_wp2
 first | refine ⟨trivial, hb, ?_⟩ | refine ⟨hb, ?_⟩
 clear hb
 refine Tr.wpTree_one (A := ?AF16) rfl rfl ?hq16 ?_
 case hq16 =>
  rintro σ hσ of hof hcl
  have HOF := Lib.hid hof
  have HCL := Lib.hid hcl
  clear hof hcl
  have c0_ : ∀ z, (of z).cell? ⟨G68, 0, none⟩ = some (.int .i64 20) := fun z => ((HLay.out.below (HOF.out z)).blk 12 rfl).cell 0
  have c1_ : ∀ z, (of z).cell? ⟨G68, 1, none⟩ = some (.int .i64 220) := fun z => ((HLay.out.below (HOF.out z)).blk 12 rfl).cell 1
  have c2_ : ∀ z, (of z).cell? ⟨G75, 0, none⟩ = some (.int .i64 660) := fun z => ((HLay.out.below (HOF.out z)).blk 14 rfl).cell 0
  have c3_ : ∀ z, (of z).cell? ⟨G75, 1, none⟩ = some (.int .i64 860) := fun z => ((HLay.out.below (HOF.out z)).blk 14 rfl).cell 1
  have c4_ : ∀ z, (of z).cell? ⟨G85, 0, none⟩ = some (.int .i64 180) := fun z => ((HLay.out.below (HOF.out z)).blk 16 rfl).cell 0
  have c5_ : ∀ z, (of z).cell? ⟨G85, 1, none⟩ = some (.int .i64 340) := fun z => ((HLay.out.below (HOF.out z)).blk 16 rfl).cell 1
  have c6_ : ∀ z, (of z).cell? ⟨G90, 0, none⟩ = some (.int .i64 3) := fun z => ((HLay.out.below (HOF.out z)).blk 17 rfl).cell 0
  have c7_ : ∀ z, (of z).cell? ⟨G90, 1, none⟩ = some (.int .i64 6) := fun z => ((HLay.out.below (HOF.out z)).blk 17 rfl).cell 1
  have c8_ : ∀ z, (of z).cell? ⟨G95, 0, none⟩ = some (.int .i64 170) := fun z => ((HLay.out.below (HOF.out z)).blk 18 rfl).cell 0
  have c9_ : ∀ z, (of z).cell? ⟨G95, 1, none⟩ = some (.int .i64 290) := fun z => ((HLay.out.below (HOF.out z)).blk 18 rfl).cell 1
  have c10_ : ∀ z, (of z).cell? ⟨G101, 0, none⟩ = some (.slice AZ zp cZ) := fun z => ((HLay.out.below (HOF.out z)).blk 20 rfl).cell 0
  have c11_ : ∀ z, (of z).cell? ⟨G101, 1, none⟩ = some (.slice AY 2 cY) := fun z => ((HLay.out.below (HOF.out z)).blk 20 rfl).cell 1
  have hfw : ∀ f, Fence.wide.fn f := fun _ => trivial
  simp only [pickB]
  repeat (gi_big_quiet_step (fail))
  refine wpQuietIn_nil ?_
  exact rfl
 intro W115 hW
 replace HLay := Lib.hid (HLay.out.below hW)
 replace HF := Lib.hid ((HF.out.below hW).more hW.size)
 replace HG := Lib.hid ((HG.out.below hW).more hW.size)
 clear hW
 gi_wp2
 have hup : Tr.Up W115 (W115.alloc (.cells #[.int .i64 1, .int .i64 4] 3)) := (Below.refl _ _).alloc (Nat.le_refl _) _
 first | refine ⟨trivial, hup, ?_⟩ | refine ⟨hup, ?_⟩
 clear hup
 obtain ⟨V116, hV⟩ : ∃ V, (W115.alloc (.cells #[.int .i64 1, .int .i64 4] 3)) = V := ⟨_, rfl⟩
 rw [hV]
 have hb := fbox_bel hV
 have hnew := fbox_blk hV
 have hge := HLay.out.bel.size
 replace HLay := Lib.hid (HLay.out.below hb)
 replace HF := Lib.hid ((HF.out.below hb).more hb.size)
 replace HG := Lib.hid ((HG.out.below hb).more hb.size)
 replace HLay := Lib.hid (HLay.out.add hge hnew)
 clear hnew hge hb hV
 obtain ⟨G117, hG⟩ : ∃ g, W115.heap.size = g := ⟨_, rfl⟩
 rw [hG] at HLay ⊢
 clear hG
 replace HLay := Lib.hid (show Lay w V116 [(G6, 34, #[.int .i64 20, .int .i64 140]), (G11, 3, #[.int .i64 1, .int .i64 3]), (G14, 34, #[.int .i64 50, .int .i64 50]), (G22, 34, #[.int .i64 50, .int .i64 70]), (G25, 3, #[.int .i64 2, .int .i64 3]), (G28, 34, #[.int .i64 20, .int .i64 150]), (G31, 3, #[.int .i64 2, .int .i64 3, .int .i64 4]), (G38, 3, #[.int .i64 1, .int .i64 3]), (G45, 3, #[.int .i64 4]), (G50, 3, #[.int .i64 2]), (G57, 3, #[.int .i64 3, .int .i64 2]), (G65, 3, #[.int .i64 2, .int .i64 3]), (G68, 34, #[.int .i64 20, .int .i64 220]), (G72, 3, #[.int .i64 2, .int .i64 3, .int .i64 4]), (G75, 63, #[.int .i64 660, .int .i64 860]), (G82, 3, #[.int .i64 2, .int .i64 3, .int .i64 4]), (G85, 63, #[.int .i64 180, .int .i64 340]), (G90, 63, #[.int .i64 3, .int .i64 6]), (G95, 63, #[.int .i64 170, .int .i64 290]), (G98, 3, #[.int .i64 2, .int .i64 3]), (G101, 25, #[.slice AZ zp cZ, .slice AY 2 cY]), (G108, 3, #[.int .i64 1, .int .i64 4]), (G117, 3, #[.int .i64 1, .int .i64 4])] from HLay.out)
 refine Tr.wpTree_one (m := []) rfl rfl Gr.Quietly.none ?_
 intro W118 hW
 replace HLay := Lib.hid (HLay.out.below hW)
 replace HF := Lib.hid ((HF.out.below hW).more hW.size)
 replace HG := Lib.hid ((HG.out.below hW).more hW.size)
 clear hW
 gi_wp2
 refine ⟨trivial, (callsIn_wide.2 (is_any AG 2 cAG [1, 4] 0 (some ⟨G117, 0, none⟩) 2 2 [1, 4] W118 (by unfold maxLen; omega) (by unfold maxLen; omega) HG.out (ints_blk2 [1, 4] (HLay.out.blk 22 rfl)))).mono ?_⟩
 rintro e W119 ⟨rfl, hb⟩
 replace HLay := Lib.hid (HLay.out.below hb)
 replace HF := Lib.hid ((HF.out.below hb).more hb.size)
 replace HG := Lib.hid ((HG.out.below hb).more hb.size)
 rw [show (decide ((0 : Int) = 0) && sameI [1, 4] [1, 4]) = true from by decide]
 gi_wp2
 first | refine ⟨trivial, hb, ?_⟩ | refine ⟨hb, ?_⟩
 clear hb
 refine Tr.wpTree_one (A := ?AF17) rfl rfl ?hq17 ?_
 case hq17 =>
  rintro σ hσ of hof hcl
  have HOF := Lib.hid hof
  have HCL := Lib.hid hcl
  clear hof hcl
  have c0_ : ∀ z, (of z).cell? ⟨G68, 0, none⟩ = some (.int .i64 20) := fun z => ((HLay.out.below (HOF.out z)).blk 12 rfl).cell 0
  have c1_ : ∀ z, (of z).cell? ⟨G68, 1, none⟩ = some (.int .i64 220) := fun z => ((HLay.out.below (HOF.out z)).blk 12 rfl).cell 1
  have c2_ : ∀ z, (of z).cell? ⟨G75, 0, none⟩ = some (.int .i64 660) := fun z => ((HLay.out.below (HOF.out z)).blk 14 rfl).cell 0
  have c3_ : ∀ z, (of z).cell? ⟨G75, 1, none⟩ = some (.int .i64 860) := fun z => ((HLay.out.below (HOF.out z)).blk 14 rfl).cell 1
  have c4_ : ∀ z, (of z).cell? ⟨G85, 0, none⟩ = some (.int .i64 180) := fun z => ((HLay.out.below (HOF.out z)).blk 16 rfl).cell 0
  have c5_ : ∀ z, (of z).cell? ⟨G85, 1, none⟩ = some (.int .i64 340) := fun z => ((HLay.out.below (HOF.out z)).blk 16 rfl).cell 1
  have c6_ : ∀ z, (of z).cell? ⟨G90, 0, none⟩ = some (.int .i64 3) := fun z => ((HLay.out.below (HOF.out z)).blk 17 rfl).cell 0
  have c7_ : ∀ z, (of z).cell? ⟨G90, 1, none⟩ = some (.int .i64 6) := fun z => ((HLay.out.below (HOF.out z)).blk 17 rfl).cell 1
  have c8_ : ∀ z, (of z).cell? ⟨G95, 0, none⟩ = some (.int .i64 170) := fun z => ((HLay.out.below (HOF.out z)).blk 18 rfl).cell 0
  have c9_ : ∀ z, (of z).cell? ⟨G95, 1, none⟩ = some (.int .i64 290) := fun z => ((HLay.out.below (HOF.out z)).blk 18 rfl).cell 1
  have c10_ : ∀ z, (of z).cell? ⟨G101, 0, none⟩ = some (.slice AZ zp cZ) := fun z => ((HLay.out.below (HOF.out z)).blk 20 rfl).cell 0
  have c11_ : ∀ z, (of z).cell? ⟨G101, 1, none⟩ = some (.slice AY 2 cY) := fun z => ((HLay.out.below (HOF.out z)).blk 20 rfl).cell 1
  have hfw : ∀ f, Fence.wide.fn f := fun _ => trivial
  simp only [pickB]
  repeat (gi_big_quiet_step (fail))
  refine wpQuietIn_nil ?_
  exact rfl
 intro W120 hW
 replace HLay := Lib.hid (HLay.out.below hW)
 replace HF := Lib.hid ((HF.out.below hW).more hW.size)
 replace HG := Lib.hid ((HG.out.below hW).more hW.size)
 clear hW
 gi_wp2
 refine ⟨trivial, (callsIn_wide.2 (lspan_any 170 290 W120)).mono ?_⟩
 rintro e W121 ⟨rfl, hb⟩
 replace HLay := Lib.hid (HLay.out.below hb)
 replace HF := Lib.hid ((HF.out.below hb).more hb.size)
 replace HG := Lib.hid ((HG.out.below hb).more hb.size)
 gi_wp2
 first | refine ⟨trivial, hb, ?_⟩ | refine ⟨hb, ?_⟩
 clear hb
 refine Tr.wpTree_end (A := ?AF18) rfl ?hq18 ?_
 case hq18 =>
  rintro σ hσ of hof hcl
  have HOF := Lib.hid hof
  have HCL := Lib.hid hcl
  clear hof hcl
  have c0_ : ∀ z, (of z).cell? ⟨G68, 0, none⟩ = some (.int .i64 20) := fun z => ((HLay.out.below (HOF.out z)).blk 12 rfl).cell 0
  have c1_ : ∀ z, (of z).cell? ⟨G68, 1, none⟩ = some (.int .i64 220) := fun z => ((HLay.out.below (HOF.out z)).blk 12 rfl).cell 1
  have c2_ : ∀ z, (of z).cell? ⟨G75, 0, none⟩ = some (.int .i64 660) := fun z => ((HLay.out.below (HOF.out z)).blk 14 rfl).cell 0
  have c3_ : ∀ z, (of z).cell? ⟨G75, 1, none⟩ = some (.int .i64 860) := fun z => ((HLay.out.below (HOF.out z)).blk 14 rfl).cell 1
  have c4_ : ∀ z, (of z).cell? ⟨G85, 0, none⟩ = some (.int .i64 180) := fun z => ((HLay.out.below (HOF.out z)).blk 16 rfl).cell 0
  have c5_ : ∀ z, (of z).cell? ⟨G85, 1, none⟩ = some (.int .i64 340) := fun z => ((HLay.out.below (HOF.out z)).blk 16 rfl).cell 1
  have c6_ : ∀ z, (of z).cell? ⟨G90, 0, none⟩ = some (.int .i64 3) := fun z => ((HLay.out.below (HOF.out z)).blk 17 rfl).cell 0
  have c7_ : ∀ z, (of z).cell? ⟨G90, 1, none⟩ = some (.int .i64 6) := fun z => ((HLay.out.below (HOF.out z)).blk 17 rfl).cell 1
  have c8_ : ∀ z, (of z).cell? ⟨G95, 0, none⟩ = some (.int .i64 170) := fun z => ((HLay.out.below (HOF.out z)).blk 18 rfl).cell 0
  have c9_ : ∀ z, (of z).cell? ⟨G95, 1, none⟩ = some (.int .i64 290) := fun z => ((HLay.out.below (HOF.out z)).blk 18 rfl).cell 1
  have c10_ : ∀ z, (of z).cell? ⟨G101, 0, none⟩ = some (.slice AZ zp cZ) := fun z => ((HLay.out.below (HOF.out z)).blk 20 rfl).cell 0
  have c11_ : ∀ z, (of z).cell? ⟨G101, 1, none⟩ = some (.slice AY 2 cY) := fun z => ((HLay.out.below (HOF.out z)).blk 20 rfl).cell 1
  have hfw : ∀ f, Fence.wide.fn f := fun _ => trivial
  simp only [pickB]
  repeat (gi_big_quiet_step (fail))
  refine wpQuietIn_nil ?_
  exact rfl
 intro W122 hW
 replace HLay := Lib.hid (HLay.out.below hW)
 replace HF := Lib.hid ((HF.out.below hW).more hW.size)
 replace HG := Lib.hid ((HG.out.below hW).more hW.size)
 clear hW
 simp only [pickB]
 refine wpT_nil ?_
 gi_wp2
 exact bodyPost_ret (v := .bool true) (by simp [results, Tryz.results13, go_sem]) rfl ⟨rfl, HLay.out.bel⟩
theorem alive_any (w : World) (hL : Laid w) : Calls Tryz.prog 13 #[] w fun e w' => e = .returned (.bool true) ∧ Below w.heap.size w w' := callsIn_wide.1 (alive_in w hL)
end Go.Proofs.YtahkjagjcogeiaaGreatDoor
/- What links come to, one behind the other; lists followed; which list is ahead: plain Lean. -/
namespace Go.Proofs.YtahkjagjcogeiaaGreatDoor

structure Gone where
 at_ : Int
 paces : Int
 up : Int
 steps : Int
 longer : Int

def Gone.cost (g : Gone) (p : Price) : Cost := ⟨g.paces * p.pace + g.up * p.up + g.steps * p.step, g.up, g.paces, g.longer⟩
def startG (u : Int) : Gone := ⟨u, 0, 0, 0, 0⟩
theorem startG_cost (u : Int) (p : Price) : (startG u).cost p = zeroC := by simp [startG, Gone.cost, zeroC]
/-- A link gone. -/
def goesF (dk : Bool) (x : Link) (g : Gone) : Option Gone :=
 if dk = true ∧ 0 < x.steps then none
 else if x.fr = g.at_ then some ⟨x.to, g.paces + x.paces, g.up + x.steps, g.steps + x.steps, g.longer + 1⟩
 else if x.to = g.at_ then some ⟨x.fr, g.paces + x.paces, g.up, g.steps + x.steps, g.longer + 1⟩
 else none
theorem cost_eq {a b c d a' b' c' d' : Int} (h1 : a = a') (h2 : b = b') (h3 : c = c') (h4 : d = d') : (⟨a, b, c, d⟩ : Cost) = ⟨a', b', c', d'⟩ := by rw [h1, h2, h3, h4]
theorem goes_some {dk : Bool} {x : Link} {g g' : Gone} (p : Price) (h : goesF dk x g = some g') : ∃ c, leads dk p x g.at_ = some (g'.at_, c) ∧ g'.cost p = addC (g.cost p) c := by
 unfold goesF at h
 unfold leads
 split at h
 ·cases h
 ·rename_i h1
  rw [if_neg h1]
  split at h
  ·rename_i h2
   rw [if_pos h2]
   cases h
   refine ⟨_, rfl, ?_⟩
   refine cost_eq ?_ rfl rfl rfl
   simp only [Gone.cost, Int.add_mul, Int.mul_add]
   omega
  ·rename_i h2
   rw [if_neg h2]
   split at h
   ·rename_i h3
    rw [if_pos h3]
    cases h
    refine ⟨_, rfl, ?_⟩
    refine cost_eq ?_ (Int.add_zero _).symm rfl rfl
    simp only [Gone.cost, Int.add_mul]
    omega
   ·cases h
/-- Links gone, one behind the other. -/
inductive GW (t : Town) (dk : Bool) : Gone → List Int → Gone → Prop
 | nil (g : Gone) : GW t dk g [] g
 | cons {g m g' : Gone} {x : Link} {l : List Int} (hx : x ∈ t.links) (hg : goesF dk x g = some m) (h : GW t dk m l g') : GW t dk g (x.id :: l) g'

section
variable {t : Town} {dk : Bool} {p : Price} {g m g' : Gone} {l k : List Int} {u v : Int} {c d : Cost} {x : Link}
theorem GW.walk (h : GW t dk g l g') (p : Price) : ∃ c, Walk t dk p g.at_ g'.at_ c l ∧ g'.cost p = addC (g.cost p) c := by
 induction h with
 | nil g => exact ⟨zeroC, .nil _, (addC_zero _).symm⟩
 | cons hx hg _ ih =>
  obtain ⟨c, h1, h2⟩ := goes_some p hg
  obtain ⟨d, h3, h4⟩ := ih
  exact ⟨addC c d, .cons hx h1 h3, by rw [h4, h2, addC_assoc]⟩
theorem GW.walk0 (h : GW t dk (startG u) l g') (p : Price) : Walk t dk p u g'.at_ (g'.cost p) l := by
 obtain ⟨c, h1, h2⟩ := h.walk p
 rw [startG_cost, zero_addC] at h2
 rw [h2]
 exact h1
theorem GW.append (h : GW t dk g l m) (h' : GW t dk m k g') : GW t dk g (l ++ k) g' := by
 induction h with
 | nil g => exact h'
 | cons hx hg _ ih => exact .cons hx hg (ih h')
theorem GW.snoc (h : GW t dk g l m) (hx : x ∈ t.links) (hg : goesF dk x m = some g') : GW t dk g (l ++ [x.id]) g' := h.append (.cons hx hg (.nil _))
theorem GW.split : ∀ (l : List Int) {g g' : Gone}, GW t dk g (l ++ k) g' → ∃ m, GW t dk g l m ∧ GW t dk m k g'
 | [], g, g', h => ⟨g, .nil g, h⟩
 | i :: l, g, g', h => by
  cases h with
  | @cons _ m _ x _ hx hg h =>
   obtain ⟨m', h1, h2⟩ := GW.split l h
   exact ⟨m', .cons hx hg h1, h2⟩
theorem GW.longer (h : GW t dk g l g') : g'.longer = g.longer + l.length := by
 induction h with
 | nil g => simp
 | @cons g m g' x l hx hg _ ih =>
  obtain ⟨c, h1, h2⟩ := goes_some freeP hg
  have h3 : m.longer = g.longer + 1 := by
   unfold goesF at hg
   split at hg
   ·cases hg
   ·split at hg
    ·cases hg; rfl
    ·split at hg
     ·cases hg; rfl
     ·cases hg
  rw [ih, h3]
  simp; omega
/-- The numbers stay small. -/
structure Gone.In (g : Gone) (k : Nat) : Prop where
 paces : 0 ≤ g.paces ∧ g.paces ≤ 2000 * k
 up : 0 ≤ g.up ∧ g.up ≤ g.steps
 steps : 0 ≤ g.steps ∧ g.steps ≤ 500 * k
 longer : g.longer = k
theorem startG_in (u : Int) : (startG u).In 0 := ⟨by simp [startG], by simp [startG], by simp [startG], rfl⟩
theorem goes_in {k : Nat} (h : g.In k) (ht : Fine t) (hx : x ∈ t.links) (hg : goesF dk x g = some g') : g'.In (k + 1) := by
 have h1 := ht.steps x hx
 have h2 := ht.paces x hx
 obtain ⟨a1, a2, a3, a4⟩ := h
 unfold goesF at hg
 split at hg
 ·cases hg
 ·split at hg
  ·cases hg; exact ⟨by simp; omega, by simp; omega, by simp; omega, by simp; omega⟩
  ·split at hg
   ·cases hg; exact ⟨by simp; omega, by simp; omega, by simp; omega, by simp; omega⟩
   ·cases hg
theorem GW.in_ (h : GW t dk g l g') (ht : Fine t) : ∀ {k : Nat}, g.In k → g'.In (k + l.length) := by
 induction h with
 | nil g => intro k h; exact h
 | cons hx hg _ ih =>
  intro k h
  have := ih (goes_in h ht hx hg)
  rw [List.length_cons]
  rwa [Nat.add_assoc, Nat.add_comm 1] at this
theorem GW.same {g1 g2 : Gone} (hi : t.links.Pairwise fun x y => x.id < y.id) (h : GW t dk g l g1) : GW t dk g l g2 → g1 = g2 := by
 induction h with
 | nil g => intro h; cases h; rfl
 | @cons g m g1 x l hx hg _ ih =>
  intro h
  generalize hk : x.id :: l = k at h
  cases h with
  | nil => cases hk
  | @cons _ m2 _ y l2 hy hg2 h2 =>
   injection hk with h3 h4
   subst h4
   have : x = y := by
    obtain ⟨i, hi1⟩ := List.getElem?_of_mem hx
    obtain ⟨j, hj1⟩ := List.getElem?_of_mem hy
    obtain ⟨hi2, hi3⟩ := List.getElem?_eq_some_iff.1 hi1
    obtain ⟨hj2, hj3⟩ := List.getElem?_eq_some_iff.1 hj1
    rcases Nat.lt_trichotomy i j with h4 | h4 | h4
    ·have := List.pairwise_iff_getElem.1 hi i j hi2 hj2 h4
     rw [hi3, hj3] at this
     omega
    ·subst h4
     rw [← hi3, ← hj3]
    ·have := List.pairwise_iff_getElem.1 hi j i hj2 hi2 h4
     rw [hi3, hj3] at this
     omega
   subst this
   rw [hg] at hg2
   cases hg2
   exact ih h2
end

section
variable {t : Town} {dk : Bool} {g g' : Gone} {l : List Int} {id : Int}
end

/-- What came out of a stroll. -/
def Strolled (t : Town) (dk : Bool) (u : Int) (n : Nat) (g : Gone) (l : List Int) : Prop := GW t dk (startG u) l g ∧ l.length ≤ 40 ∧ l.length ≤ n
end Go.Proofs.YtahkjagjcogeiaaGreatDoor
/- The law's goes: a link gone, or not. -/
namespace Go.Proofs.YtahkjagjcogeiaaGreatDoor
open Go.RowKit

/-- What is gone, as cells. -/
@[reducible] def Gone.vals (g : Gone) : Array Value := #[.int .i64 g.at_, .int .i64 g.up, .int .i64 g.paces, .int .i64 g.paces, .int .i64 g.up, .int .i64 g.steps, .int .i64 g.longer]
@[reducible] def Gone.val (g : Gone) : Value := .agg #[.int .i64 g.at_, .int .i64 g.up, .int .i64 g.paces, .int .i64 g.paces, .int .i64 g.up, .int .i64 g.steps, .int .i64 g.longer]
/-- A link gone, if it can be. -/
def goesP (dk : Bool) (x : Link) (g : Gone) : Gone × Bool := match goesF dk x g with
 | some h => (h, true)
 | none => (g, false)
def GoesOut (w : World) (r : Gone × Bool) (e : Ending) (w' : World) : Prop := e = .returned (.tuple #[r.1.val, .bool r.2]) ∧ Below w.heap.size w w'
/-- A block of seven cells written anew. -/
theorem ret7 {w W : World} {B g : Nat} {t : TypeId} {z0 z1 z2 z3 z4 z5 z6 : Value} (R : Blk W g t #[z0, z1, z2, z3, z4, z5, z6]) (L : Below B w W) (hg : B ≤ g) (v0 v1 v2 v3 v4 v5 v6 : Value) :
  Blk (((((((W.setCell ⟨g, 0, none⟩ v0).setCell ⟨g, 1, none⟩ v1).setCell ⟨g, 2, none⟩ v2).setCell ⟨g, 3, none⟩ v3).setCell ⟨g, 4, none⟩ v4).setCell ⟨g, 5, none⟩ v5).setCell ⟨g, 6, none⟩ v6) g t #[v0, v1, v2, v3, v4, v5, v6] ∧
  Below B w (((((((W.setCell ⟨g, 0, none⟩ v0).setCell ⟨g, 1, none⟩ v1).setCell ⟨g, 2, none⟩ v2).setCell ⟨g, 3, none⟩ v3).setCell ⟨g, 4, none⟩ v4).setCell ⟨g, 5, none⟩ v5).setCell ⟨g, 6, none⟩ v6) := by
 have h := ((((((R.set_ 0 v0).set_ 1 v1).set_ 2 v2).set_ 3 v3).set_ 4 v4).set_ 5 v5).set_ 6 v6
 refine ⟨by simpa using h, ?_⟩
 clear h
 exact ((((((L.setCell (p := ⟨g, 0, none⟩) hg _).setCell (p := ⟨g, 1, none⟩) hg _).setCell (p := ⟨g, 2, none⟩) hg _).setCell (p := ⟨g, 3, none⟩) hg _).setCell (p := ⟨g, 4, none⟩) hg _).setCell (p := ⟨g, 5, none⟩) hg _).setCell (p := ⟨g, 6, none⟩) hg _

/-- A link gone, as it is written: climbed, and not. -/
theorem up7 {W : World} {g g2 : Nat} {t t2 : TypeId} {z0 z1 z2 z3 z4 z5 z6 : Value} {cs : Array Value} (R : Blk W g t #[z0, z1, z2, z3, z4, z5, z6]) (R2 : Blk W g2 t2 cs) (hne : g2 ≠ g) (v0 v1 v2 v3 v4 v5 v6 : Value) :
  Blk (((((((W.setCell ⟨g, 0, none⟩ v0).setCell ⟨g, 4, none⟩ v4).setCell ⟨g, 3, none⟩ v3).setCell ⟨g, 5, none⟩ v5).setCell ⟨g, 6, none⟩ v6).setCell ⟨g, 1, none⟩ v1).setCell ⟨g, 2, none⟩ v2) g t #[v0, v1, v2, v3, v4, v5, v6] ∧
  Blk (((((((W.setCell ⟨g, 0, none⟩ v0).setCell ⟨g, 4, none⟩ v4).setCell ⟨g, 3, none⟩ v3).setCell ⟨g, 5, none⟩ v5).setCell ⟨g, 6, none⟩ v6).setCell ⟨g, 1, none⟩ v1).setCell ⟨g, 2, none⟩ v2) g2 t2 cs := by
 have h := ((((((R.set_ 0 v0).set_ 4 v4).set_ 3 v3).set_ 5 v5).set_ 6 v6).set_ 1 v1).set_ 2 v2
 refine ⟨by simpa using h, ?_⟩
 clear h
 exact ((((((R2.far (p := ⟨g, 0, none⟩) hne _).far (p := ⟨g, 4, none⟩) hne _).far (p := ⟨g, 3, none⟩) hne _).far (p := ⟨g, 5, none⟩) hne _).far (p := ⟨g, 6, none⟩) hne _).far (p := ⟨g, 1, none⟩) hne _).far (p := ⟨g, 2, none⟩) hne _
theorem upB7 {w W : World} {B g : Nat} (L : Below B w W) (hg : B ≤ g) (v0 v1 v2 v3 v4 v5 v6 : Value) :
  Below B w (((((((W.setCell ⟨g, 0, none⟩ v0).setCell ⟨g, 4, none⟩ v4).setCell ⟨g, 3, none⟩ v3).setCell ⟨g, 5, none⟩ v5).setCell ⟨g, 6, none⟩ v6).setCell ⟨g, 1, none⟩ v1).setCell ⟨g, 2, none⟩ v2) :=
 ((((((L.setCell (p := ⟨g, 0, none⟩) hg _).setCell (p := ⟨g, 4, none⟩) hg _).setCell (p := ⟨g, 3, none⟩) hg _).setCell (p := ⟨g, 5, none⟩) hg _).setCell (p := ⟨g, 6, none⟩) hg _).setCell (p := ⟨g, 1, none⟩) hg _).setCell (p := ⟨g, 2, none⟩) hg _
theorem dn7 {W : World} {g g2 : Nat} {t t2 : TypeId} {z0 z1 z2 z3 z4 z5 z6 : Value} {cs : Array Value} (R : Blk W g t #[z0, z1, z2, z3, z4, z5, z6]) (R2 : Blk W g2 t2 cs) (hne : g2 ≠ g) (v0 v1 v2 v3 v5 v6 : Value) :
  Blk ((((((W.setCell ⟨g, 0, none⟩ v0).setCell ⟨g, 3, none⟩ v3).setCell ⟨g, 5, none⟩ v5).setCell ⟨g, 6, none⟩ v6).setCell ⟨g, 1, none⟩ v1).setCell ⟨g, 2, none⟩ v2) g t #[v0, v1, v2, v3, z4, v5, v6] ∧
  Blk ((((((W.setCell ⟨g, 0, none⟩ v0).setCell ⟨g, 3, none⟩ v3).setCell ⟨g, 5, none⟩ v5).setCell ⟨g, 6, none⟩ v6).setCell ⟨g, 1, none⟩ v1).setCell ⟨g, 2, none⟩ v2) g2 t2 cs := by
 have h := (((((R.set_ 0 v0).set_ 3 v3).set_ 5 v5).set_ 6 v6).set_ 1 v1).set_ 2 v2
 refine ⟨by simpa using h, ?_⟩
 clear h
 exact (((((R2.far (p := ⟨g, 0, none⟩) hne _).far (p := ⟨g, 3, none⟩) hne _).far (p := ⟨g, 5, none⟩) hne _).far (p := ⟨g, 6, none⟩) hne _).far (p := ⟨g, 1, none⟩) hne _).far (p := ⟨g, 2, none⟩) hne _
theorem dnB7 {w W : World} {B g : Nat} (L : Below B w W) (hg : B ≤ g) (v0 v1 v2 v3 v5 v6 : Value) :
  Below B w ((((((W.setCell ⟨g, 0, none⟩ v0).setCell ⟨g, 3, none⟩ v3).setCell ⟨g, 5, none⟩ v5).setCell ⟨g, 6, none⟩ v6).setCell ⟨g, 1, none⟩ v1).setCell ⟨g, 2, none⟩ v2) :=
 (((((L.setCell (p := ⟨g, 0, none⟩) hg _).setCell (p := ⟨g, 3, none⟩) hg _).setCell (p := ⟨g, 5, none⟩) hg _).setCell (p := ⟨g, 6, none⟩) hg _).setCell (p := ⟨g, 1, none⟩) hg _).setCell (p := ⟨g, 2, none⟩) hg _

set_option maxRecDepth 100000 in
set_option maxHeartbeats 8000000 in
theorem goes_any (g : Gone) (x : Link) (dk : Bool) (k : Nat) (w : World) (hg : g.In k) (hk : k ≤ 1000) (hx : 0 ≤ x.steps ∧ x.steps ≤ 500) (hp : 1 ≤ x.paces ∧ x.paces ≤ 2000) :
  Calls Tryz.prog 61 #[.agg #[.int .i64 g.at_, .int .i64 g.up, .int .i64 g.paces, .int .i64 g.paces, .int .i64 g.up, .int .i64 g.steps, .int .i64 g.longer], linkV x, .bool dk] w (GoesOut w (goesP dk x g)) := by
 obtain ⟨a, p, u, s, l⟩ := g
 obtain ⟨id, fr, to, st, pa⟩ := x
 obtain ⟨i1, i2, i3, i4⟩ := hg
 have hb1 : 0 ≤ p ∧ p ≤ 2000000 := by simp at i1; omega
 have hb2 : 0 ≤ u ∧ u ≤ 500000 := by simp at i2 i3; omega
 have hb3 : 0 ≤ s ∧ s ≤ 500000 := by simp at i3; omega
 have hb4 : 0 ≤ l ∧ l ≤ 1000 := by simp at i4; omega
 simp only at hx hp
 clear i1 i2 i3 i4 hk
 have HLay := Lib.hid (Lay.three w 39 #[.int .i64 a, .int .i64 u, .int .i64 p, .int .i64 p, .int .i64 u, .int .i64 s, .int .i64 l] 52 #[.int .i64 id, .int .i64 fr, .int .i64 to, .int .i64 st, .int .i64 pa] 39 #[.int .i64 0, .int .i64 0, .int .i64 0, .int .i64 0, .int .i64 0, .int .i64 0, .int .i64 0])
 have HR := Lib.hid (show goesP dk ⟨id, fr, to, st, pa⟩ ⟨a, p, u, s, l⟩ = if dk = true ∧ 0 < st then (⟨a, p, u, s, l⟩, false) else if fr = a then (⟨to, p + pa, u + st, s + st, l + 1⟩, true) else if to = a then (⟨fr, p + pa, u, s + st, l + 1⟩, true) else (⟨a, p, u, s, l⟩, false) from by
  unfold goesP goesF
  simp only
  by_cases h1 : dk = true ∧ 0 < st
  ·rw [if_pos h1, if_pos h1]
  ·rw [if_neg h1, if_neg h1]
   by_cases h2 : fr = a
   ·rw [if_pos h2, if_pos h2]
   ·rw [if_neg h2, if_neg h2]
    by_cases h3 : to = a
    ·rw [if_pos h3, if_pos h3]
    ·rw [if_neg h3, if_neg h3])
 go_enter Tryz.func61, Tryz.ntmps61
 go_upto_region 2 with fail
 generalize (((w.alloc (.cells #[.int .i64 a, .int .i64 u, .int .i64 p, .int .i64 p, .int .i64 u, .int .i64 s, .int .i64 l] 39)).alloc (.cells #[.int .i64 id, .int .i64 fr, .int .i64 to, .int .i64 st, .int .i64 pa] 52)).alloc (.cells #[.int .i64 0, .int .i64 0, .int .i64 0, .int .i64 0, .int .i64 0, .int .i64 0, .int .i64 0] 39)) = w0 at *
 have x00 := (HLay.out.blk 0 rfl).cell 0
 have z00 := (HLay.out.blk 0 rfl).frozen 0
 have x01 := (HLay.out.blk 0 rfl).cell 1
 have z01 := (HLay.out.blk 0 rfl).frozen 1
 have x02 := (HLay.out.blk 0 rfl).cell 2
 have z02 := (HLay.out.blk 0 rfl).frozen 2
 have x03 := (HLay.out.blk 0 rfl).cell 3
 have z03 := (HLay.out.blk 0 rfl).frozen 3
 have x04 := (HLay.out.blk 0 rfl).cell 4
 have z04 := (HLay.out.blk 0 rfl).frozen 4
 have x05 := (HLay.out.blk 0 rfl).cell 5
 have z05 := (HLay.out.blk 0 rfl).frozen 5
 have x06 := (HLay.out.blk 0 rfl).cell 6
 have z06 := (HLay.out.blk 0 rfl).frozen 6
 have l0 := HLay.out.lt 0 rfl
 have x10 := (HLay.out.blk 1 rfl).cell 0
 have x11 := (HLay.out.blk 1 rfl).cell 1
 have x12 := (HLay.out.blk 1 rfl).cell 2
 have x13 := (HLay.out.blk 1 rfl).cell 3
 have x14 := (HLay.out.blk 1 rfl).cell 4
 have l1 := HLay.out.lt 1 rfl
 have x20 := (HLay.out.blk 2 rfl).cell 0
 have z20 := (HLay.out.blk 2 rfl).frozen 0
 have x21 := (HLay.out.blk 2 rfl).cell 1
 have z21 := (HLay.out.blk 2 rfl).frozen 1
 have x22 := (HLay.out.blk 2 rfl).cell 2
 have z22 := (HLay.out.blk 2 rfl).frozen 2
 have x23 := (HLay.out.blk 2 rfl).cell 3
 have z23 := (HLay.out.blk 2 rfl).frozen 3
 have x24 := (HLay.out.blk 2 rfl).cell 4
 have z24 := (HLay.out.blk 2 rfl).frozen 4
 have x25 := (HLay.out.blk 2 rfl).cell 5
 have z25 := (HLay.out.blk 2 rfl).frozen 5
 have x26 := (HLay.out.blk 2 rfl).cell 6
 have z26 := (HLay.out.blk 2 rfl).frozen 6
 have l2 := HLay.out.lt 2 rfl
 by_cases hd : dk = true ∧ 0 < st
 ·obtain ⟨rfl, hst⟩ := hd
  go_wp2_with fail
  have R1 := ret7 (HLay.out.blk 2 rfl) HLay.out.1 (by omega) (.int .i64 a) (.int .i64 u) (.int .i64 p) (.int .i64 p) (.int .i64 u) (.int .i64 s) (.int .i64 l)
  have r0 := R1.1.cell 0
  have r1 := R1.1.cell 1
  have r2 := R1.1.cell 2
  have r3 := R1.1.cell 3
  have r4 := R1.1.cell 4
  have r5 := R1.1.cell 5
  have r6 := R1.1.cell 6
  refine bodyPost_ret (v := .tuple #[.agg #[.int .i64 a, .int .i64 u, .int .i64 p, .int .i64 p, .int .i64 u, .int .i64 s, .int .i64 l], .bool false]) (by simp [results, Tryz.results61, go_sem, r0, r1, r2, r3, r4, r5, r6]) rfl ⟨?_, R1.2⟩
  rw [HR.out, if_pos ⟨trivial, hst⟩]
 ·have hdk : (if dk = true then decide (0 < st) else false) = false := by
   cases dk with
   | false => rfl
   | true => simp; simp at hd; omega
  cases dk with
  | true =>
   have hst : decide (0 < st) = false := by simpa using hdk
   have HD := Lib.hid hd
   clear hd hdk
   by_cases h1 : fr = a
   ·subst h1
    go_upto_region 13 with fail
    have R0 := up7 (HLay.out.blk 0 rfl) (HLay.out.blk 2 rfl) (by omega) (.int .i64 to) (.int .i64 (u + st)) (.int .i64 (p + pa)) (.int .i64 (p + pa)) (.int .i64 (u + st)) (.int .i64 (s + st)) (.int .i64 (l + 1))
    have HB := upB7 (g := w.heap.size) HLay.out.1 (Nat.le_refl _) (.int .i64 to) (.int .i64 (u + st)) (.int .i64 (p + pa)) (.int .i64 (p + pa)) (.int .i64 (u + st)) (.int .i64 (s + st)) (.int .i64 (l + 1))
    generalize (((((((w0.setCell ⟨w.heap.size, 0, none⟩ (.int .i64 to)).setCell ⟨w.heap.size, 4, none⟩ (.int .i64 (u + st))).setCell ⟨w.heap.size, 3, none⟩ (.int .i64 (p + pa))).setCell ⟨w.heap.size, 5, none⟩ (.int .i64 (s + st))).setCell ⟨w.heap.size, 6, none⟩ (.int .i64 (l + 1))).setCell ⟨w.heap.size, 1, none⟩ (.int .i64 (u + st))).setCell ⟨w.heap.size, 2, none⟩ (.int .i64 (p + pa))) = W1 at *
    obtain ⟨HX0, HX2⟩ := R0
    clear x00 z00 x20 z20 x01 z01 x21 z21 x02 z02 x22 z22 x03 z03 x23 z23 x04 z04 x24 z24 x05 z05 x25 z25 x06 z06 x26 z26 x10 x11 x12 x13 x14 l0 l1 l2
    have x00 := HX0.cell 0
    have x01 := HX0.cell 1
    have x02 := HX0.cell 2
    have x03 := HX0.cell 3
    have x04 := HX0.cell 4
    have x05 := HX0.cell 5
    have x06 := HX0.cell 6
    have x20 := HX2.cell 0
    have z20 := HX2.frozen 0
    have x21 := HX2.cell 1
    have z21 := HX2.frozen 1
    have x22 := HX2.cell 2
    have z22 := HX2.frozen 2
    have x23 := HX2.cell 3
    have z23 := HX2.frozen 3
    have x24 := HX2.cell 4
    have z24 := HX2.frozen 4
    have x25 := HX2.cell 5
    have z25 := HX2.frozen 5
    have x26 := HX2.cell 6
    have z26 := HX2.frozen 6
    have l0 := HX0.lt
    have l2 := HX2.lt
    go_wp2_with fail
    have R1 := ret7 HX2 HB (by omega) (.int .i64 to) (.int .i64 (u + st)) (.int .i64 (p + pa)) (.int .i64 (p + pa)) (.int .i64 (u + st)) (.int .i64 (s + st)) (.int .i64 (l + 1))
    have r0 := R1.1.cell 0
    have r1 := R1.1.cell 1
    have r2 := R1.1.cell 2
    have r3 := R1.1.cell 3
    have r4 := R1.1.cell 4
    have r5 := R1.1.cell 5
    have r6 := R1.1.cell 6
    refine bodyPost_ret (v := .tuple #[.agg #[.int .i64 to, .int .i64 (u + st), .int .i64 (p + pa), .int .i64 (p + pa), .int .i64 (u + st), .int .i64 (s + st), .int .i64 (l + 1)], .bool true]) (by simp [results, Tryz.results61, go_sem, r0, r1, r2, r3, r4, r5, r6]) rfl ⟨?_, R1.2⟩
    rw [HR.out, if_neg HD.out, if_pos trivial]
   ·by_cases h2 : to = a
    ·subst h2
     go_upto_region 13 with fail
     have R0 := dn7 (HLay.out.blk 0 rfl) (HLay.out.blk 2 rfl) (by omega) (.int .i64 fr) (.int .i64 u) (.int .i64 (p + pa)) (.int .i64 (p + pa)) (.int .i64 (s + st)) (.int .i64 (l + 1))
     have HB := dnB7 (g := w.heap.size) HLay.out.1 (Nat.le_refl _) (.int .i64 fr) (.int .i64 u) (.int .i64 (p + pa)) (.int .i64 (p + pa)) (.int .i64 (s + st)) (.int .i64 (l + 1))
     generalize ((((((w0.setCell ⟨w.heap.size, 0, none⟩ (.int .i64 fr)).setCell ⟨w.heap.size, 3, none⟩ (.int .i64 (p + pa))).setCell ⟨w.heap.size, 5, none⟩ (.int .i64 (s + st))).setCell ⟨w.heap.size, 6, none⟩ (.int .i64 (l + 1))).setCell ⟨w.heap.size, 1, none⟩ (.int .i64 u)).setCell ⟨w.heap.size, 2, none⟩ (.int .i64 (p + pa))) = W1 at *
     obtain ⟨HX0, HX2⟩ := R0
     clear x00 z00 x20 z20 x01 z01 x21 z21 x02 z02 x22 z22 x03 z03 x23 z23 x04 z04 x24 z24 x05 z05 x25 z25 x06 z06 x26 z26 x10 x11 x12 x13 x14 l0 l1 l2
     have x00 := HX0.cell 0
     have x01 := HX0.cell 1
     have x02 := HX0.cell 2
     have x03 := HX0.cell 3
     have x04 := HX0.cell 4
     have x05 := HX0.cell 5
     have x06 := HX0.cell 6
     have x20 := HX2.cell 0
     have z20 := HX2.frozen 0
     have x21 := HX2.cell 1
     have z21 := HX2.frozen 1
     have x22 := HX2.cell 2
     have z22 := HX2.frozen 2
     have x23 := HX2.cell 3
     have z23 := HX2.frozen 3
     have x24 := HX2.cell 4
     have z24 := HX2.frozen 4
     have x25 := HX2.cell 5
     have z25 := HX2.frozen 5
     have x26 := HX2.cell 6
     have z26 := HX2.frozen 6
     have l0 := HX0.lt
     have l2 := HX2.lt
     go_wp2_with fail
     have R1 := ret7 HX2 HB (by omega) (.int .i64 fr) (.int .i64 u) (.int .i64 (p + pa)) (.int .i64 (p + pa)) (.int .i64 u) (.int .i64 (s + st)) (.int .i64 (l + 1))
     have r0 := R1.1.cell 0
     have r1 := R1.1.cell 1
     have r2 := R1.1.cell 2
     have r3 := R1.1.cell 3
     have r4 := R1.1.cell 4
     have r5 := R1.1.cell 5
     have r6 := R1.1.cell 6
     refine bodyPost_ret (v := .tuple #[.agg #[.int .i64 fr, .int .i64 u, .int .i64 (p + pa), .int .i64 (p + pa), .int .i64 u, .int .i64 (s + st), .int .i64 (l + 1)], .bool true]) (by simp [results, Tryz.results61, go_sem, r0, r1, r2, r3, r4, r5, r6]) rfl ⟨?_, R1.2⟩
     rw [HR.out, if_neg HD.out, if_neg h1, if_pos trivial]
    ·go_wp2_with fail
     have R1 := ret7 (HLay.out.blk 2 rfl) HLay.out.1 (by omega) (.int .i64 a) (.int .i64 u) (.int .i64 p) (.int .i64 p) (.int .i64 u) (.int .i64 s) (.int .i64 l)
     have r0 := R1.1.cell 0
     have r1 := R1.1.cell 1
     have r2 := R1.1.cell 2
     have r3 := R1.1.cell 3
     have r4 := R1.1.cell 4
     have r5 := R1.1.cell 5
     have r6 := R1.1.cell 6
     refine bodyPost_ret (v := .tuple #[.agg #[.int .i64 a, .int .i64 u, .int .i64 p, .int .i64 p, .int .i64 u, .int .i64 s, .int .i64 l], .bool false]) (by simp [results, Tryz.results61, go_sem, r0, r1, r2, r3, r4, r5, r6]) rfl ⟨?_, R1.2⟩
     rw [HR.out, if_neg HD.out, if_neg h1, if_neg h2]
  | false =>
   have HD := Lib.hid hd
   clear hd hdk
   by_cases h1 : fr = a
   ·subst h1
    go_upto_region 13 with fail
    have R0 := up7 (HLay.out.blk 0 rfl) (HLay.out.blk 2 rfl) (by omega) (.int .i64 to) (.int .i64 (u + st)) (.int .i64 (p + pa)) (.int .i64 (p + pa)) (.int .i64 (u + st)) (.int .i64 (s + st)) (.int .i64 (l + 1))
    have HB := upB7 (g := w.heap.size) HLay.out.1 (Nat.le_refl _) (.int .i64 to) (.int .i64 (u + st)) (.int .i64 (p + pa)) (.int .i64 (p + pa)) (.int .i64 (u + st)) (.int .i64 (s + st)) (.int .i64 (l + 1))
    generalize (((((((w0.setCell ⟨w.heap.size, 0, none⟩ (.int .i64 to)).setCell ⟨w.heap.size, 4, none⟩ (.int .i64 (u + st))).setCell ⟨w.heap.size, 3, none⟩ (.int .i64 (p + pa))).setCell ⟨w.heap.size, 5, none⟩ (.int .i64 (s + st))).setCell ⟨w.heap.size, 6, none⟩ (.int .i64 (l + 1))).setCell ⟨w.heap.size, 1, none⟩ (.int .i64 (u + st))).setCell ⟨w.heap.size, 2, none⟩ (.int .i64 (p + pa))) = W1 at *
    obtain ⟨HX0, HX2⟩ := R0
    clear x00 z00 x20 z20 x01 z01 x21 z21 x02 z02 x22 z22 x03 z03 x23 z23 x04 z04 x24 z24 x05 z05 x25 z25 x06 z06 x26 z26 x10 x11 x12 x13 x14 l0 l1 l2
    have x00 := HX0.cell 0
    have x01 := HX0.cell 1
    have x02 := HX0.cell 2
    have x03 := HX0.cell 3
    have x04 := HX0.cell 4
    have x05 := HX0.cell 5
    have x06 := HX0.cell 6
    have x20 := HX2.cell 0
    have z20 := HX2.frozen 0
    have x21 := HX2.cell 1
    have z21 := HX2.frozen 1
    have x22 := HX2.cell 2
    have z22 := HX2.frozen 2
    have x23 := HX2.cell 3
    have z23 := HX2.frozen 3
    have x24 := HX2.cell 4
    have z24 := HX2.frozen 4
    have x25 := HX2.cell 5
    have z25 := HX2.frozen 5
    have x26 := HX2.cell 6
    have z26 := HX2.frozen 6
    have l0 := HX0.lt
    have l2 := HX2.lt
    go_wp2_with fail
    have R1 := ret7 HX2 HB (by omega) (.int .i64 to) (.int .i64 (u + st)) (.int .i64 (p + pa)) (.int .i64 (p + pa)) (.int .i64 (u + st)) (.int .i64 (s + st)) (.int .i64 (l + 1))
    have r0 := R1.1.cell 0
    have r1 := R1.1.cell 1
    have r2 := R1.1.cell 2
    have r3 := R1.1.cell 3
    have r4 := R1.1.cell 4
    have r5 := R1.1.cell 5
    have r6 := R1.1.cell 6
    refine bodyPost_ret (v := .tuple #[.agg #[.int .i64 to, .int .i64 (u + st), .int .i64 (p + pa), .int .i64 (p + pa), .int .i64 (u + st), .int .i64 (s + st), .int .i64 (l + 1)], .bool true]) (by simp [results, Tryz.results61, go_sem, r0, r1, r2, r3, r4, r5, r6]) rfl ⟨?_, R1.2⟩
    rw [HR.out, if_neg HD.out, if_pos trivial]
   ·by_cases h2 : to = a
    ·subst h2
     go_upto_region 13 with fail
     have R0 := dn7 (HLay.out.blk 0 rfl) (HLay.out.blk 2 rfl) (by omega) (.int .i64 fr) (.int .i64 u) (.int .i64 (p + pa)) (.int .i64 (p + pa)) (.int .i64 (s + st)) (.int .i64 (l + 1))
     have HB := dnB7 (g := w.heap.size) HLay.out.1 (Nat.le_refl _) (.int .i64 fr) (.int .i64 u) (.int .i64 (p + pa)) (.int .i64 (p + pa)) (.int .i64 (s + st)) (.int .i64 (l + 1))
     generalize ((((((w0.setCell ⟨w.heap.size, 0, none⟩ (.int .i64 fr)).setCell ⟨w.heap.size, 3, none⟩ (.int .i64 (p + pa))).setCell ⟨w.heap.size, 5, none⟩ (.int .i64 (s + st))).setCell ⟨w.heap.size, 6, none⟩ (.int .i64 (l + 1))).setCell ⟨w.heap.size, 1, none⟩ (.int .i64 u)).setCell ⟨w.heap.size, 2, none⟩ (.int .i64 (p + pa))) = W1 at *
     obtain ⟨HX0, HX2⟩ := R0
     clear x00 z00 x20 z20 x01 z01 x21 z21 x02 z02 x22 z22 x03 z03 x23 z23 x04 z04 x24 z24 x05 z05 x25 z25 x06 z06 x26 z26 x10 x11 x12 x13 x14 l0 l1 l2
     have x00 := HX0.cell 0
     have x01 := HX0.cell 1
     have x02 := HX0.cell 2
     have x03 := HX0.cell 3
     have x04 := HX0.cell 4
     have x05 := HX0.cell 5
     have x06 := HX0.cell 6
     have x20 := HX2.cell 0
     have z20 := HX2.frozen 0
     have x21 := HX2.cell 1
     have z21 := HX2.frozen 1
     have x22 := HX2.cell 2
     have z22 := HX2.frozen 2
     have x23 := HX2.cell 3
     have z23 := HX2.frozen 3
     have x24 := HX2.cell 4
     have z24 := HX2.frozen 4
     have x25 := HX2.cell 5
     have z25 := HX2.frozen 5
     have x26 := HX2.cell 6
     have z26 := HX2.frozen 6
     have l0 := HX0.lt
     have l2 := HX2.lt
     go_wp2_with fail
     have R1 := ret7 HX2 HB (by omega) (.int .i64 fr) (.int .i64 u) (.int .i64 (p + pa)) (.int .i64 (p + pa)) (.int .i64 u) (.int .i64 (s + st)) (.int .i64 (l + 1))
     have r0 := R1.1.cell 0
     have r1 := R1.1.cell 1
     have r2 := R1.1.cell 2
     have r3 := R1.1.cell 3
     have r4 := R1.1.cell 4
     have r5 := R1.1.cell 5
     have r6 := R1.1.cell 6
     refine bodyPost_ret (v := .tuple #[.agg #[.int .i64 fr, .int .i64 u, .int .i64 (p + pa), .int .i64 (p + pa), .int .i64 u, .int .i64 (s + st), .int .i64 (l + 1)], .bool true]) (by simp [results, Tryz.results61, go_sem, r0, r1, r2, r3, r4, r5, r6]) rfl ⟨?_, R1.2⟩
     rw [HR.out, if_neg HD.out, if_neg h1, if_pos trivial]
    ·go_wp2_with fail
     have R1 := ret7 (HLay.out.blk 2 rfl) HLay.out.1 (by omega) (.int .i64 a) (.int .i64 u) (.int .i64 p) (.int .i64 p) (.int .i64 u) (.int .i64 s) (.int .i64 l)
     have r0 := R1.1.cell 0
     have r1 := R1.1.cell 1
     have r2 := R1.1.cell 2
     have r3 := R1.1.cell 3
     have r4 := R1.1.cell 4
     have r5 := R1.1.cell 5
     have r6 := R1.1.cell 6
     refine bodyPost_ret (v := .tuple #[.agg #[.int .i64 a, .int .i64 u, .int .i64 p, .int .i64 p, .int .i64 u, .int .i64 s, .int .i64 l], .bool false]) (by simp [results, Tryz.results61, go_sem, r0, r1, r2, r3, r4, r5, r6]) rfl ⟨?_, R1.2⟩
     rw [HR.out, if_neg HD.out, if_neg h1, if_neg h2]
end Go.Proofs.YtahkjagjcogeiaaGreatDoor
/- The law's ready, and place. -/
namespace Go.Proofs.YtahkjagjcogeiaaGreatDoor
open Go.RowKit

def readyB (n m : Nat) (t : Town) : Bool := !greatB n m && townB t
theorem great_small {n m : Nat} (h : greatB n m = false) : n ≤ 20 ∧ m ≤ 40 := by unfold greatB at h; simp at h; omega

set_option maxRecDepth 100000 in
set_option maxHeartbeats 4000000 in
theorem ready_any (A : Option Addr) (n c : Nat) (A' : Option Addr) (m d : Nat) (t : Town) (w : World) (ht : TownAt w w.heap.size A n A' m t) :
  Calls Tryz.prog 14 #[.agg #[.slice A n c, .slice A' m d]] w fun e w' => e = .returned (.bool (readyB n m t)) ∧ Below w.heap.size w w' := by
 have HT := Lib.hid ht
 clear ht
 have HLay := Lib.hid (Lay.one w 25 #[.slice A n c, .slice A' m d])
 go_enter Tryz.func14, Tryz.ntmps14
 go_upto_region 1 with fail
 generalize (w.alloc (.cells #[.slice A n c, .slice A' m d] 25)) = w0 at *
 have y0 := (HLay.out.blk 0 rfl).cell 0
 have y1 := (HLay.out.blk 0 rfl).cell 1
 have ly := HLay.out.lt 0 rfl
 go_wp2_with fail
 refine (great_any A n c A' m d w0).mono ?_
 rintro e W1 ⟨rfl, hb1⟩
 have HL1 := Lib.hid (HLay.out.below hb1)
 clear hb1 y0 y1 ly
 cases hg : greatB n m with
 | true =>
  have HG := Lib.hid hg
  clear hg
  go_wp2_with fail
  go_ret
  exact ⟨ret_bool (by unfold readyB; rw [HG.out]; rfl), HL1.out.1⟩
 | false =>
  have HG := Lib.hid hg
  have hsz := great_small hg
  clear hg
  have y0 := (HL1.out.blk 0 rfl).cell 0
  have y1 := (HL1.out.blk 0 rfl).cell 1
  have ly := HL1.out.lt 0 rfl
  go_wp2_with fail
  refine (rtown_any A n c A' m d t W1 (by omega) (by omega) ((HT.out.below HL1.out.1).more HL1.out.1.size)).mono ?_
  rintro e W2 ⟨rfl, hb2⟩
  have HB2 := Lib.hid (HL1.out.1.trans (hb2.mono HL1.out.1.size))
  clear hb2
  go_wp2_with fail
  go_ret
  exact ⟨ret_bool (by unfold readyB; rw [HG.out]; rfl), HB2.out⟩

/-- A place, by a number. -/
def plN (t : Town) (b : Nat) : Int := (t.places[b % t.places.length]?).getD 0
theorem plN_mem {t : Town} (h : 1 ≤ t.places.length) (b : Nat) : plN t b ∈ t.places := by
 unfold plN
 have hlt : b % t.places.length < t.places.length := Nat.mod_lt _ (by omega)
 rw [List.getElem?_eq_getElem hlt]
 exact List.getElem_mem hlt

set_option maxRecDepth 100000 in
set_option maxHeartbeats 4000000 in
theorem lplace_any (A : Option Addr) (n c : Nat) (A' : Option Addr) (m d : Nat) (t : Town) (b : Nat) (w : World) (hn : 1 ≤ n) (hn2 : n ≤ 1000) (hb : b ≤ 255) (ht : IntsAt w w.heap.size A n t.places) :
  Calls Tryz.prog 15 #[.agg #[.slice A n c, .slice A' m d], .int .u8 b] w fun e w' => e = .returned (.int .i64 (plN t b)) ∧ Below w.heap.size w w' := by
 have HT := Lib.hid ht
 have hln := ht.len
 have hlt : b % n < n := Nat.mod_lt _ (by omega)
 obtain ⟨q, hq⟩ : ∃ q, b % n = q := ⟨_, rfl⟩
 rw [hq] at hlt
 obtain ⟨bb, off, x, hA, hbl, hx, hc⟩ := ht.cell hlt
 subst hA
 have HX : Hid (plN t b = x) := Lib.hid (by unfold plN; rw [hln, hq, hx]; rfl)
 have HLay := Lib.hid (Lay.one w 25 #[.slice (some ⟨bb, off, none⟩) n c, .slice A' m d])
 have HC := Lib.hid hc
 have hm : (b : Int).tmod (n : Int) = (q : Int) := by
  rw [Int.tmod_eq_emod_of_nonneg (by omega)]
  omega
 clear ht hx hc hq hln
 go_enter Tryz.func15, Tryz.ntmps15
 go_upto_region 1 with fail
 generalize (w.alloc (.cells #[.slice (some ⟨bb, off, none⟩) n c, .slice A' m d] 25)) = w0 at *
 have hc := ((HLay.out.1.cell (p := ⟨bb, off + q, none⟩) hbl).trans HC.out)
 have y0 := (HLay.out.blk 0 rfl).cell 0
 have y1 := (HLay.out.blk 0 rfl).cell 1
 have ly := HLay.out.lt 0 rfl
 go_region
 all_goals
  go_wp2_with fail
  go_ret
  exact ⟨by rw [HX.out]; rfl, below_drewN HLay.out.1 1⟩
end Go.Proofs.YtahkjagjcogeiaaGreatDoor
/- The law's ahead, and stops. -/
namespace Go.Proofs.YtahkjagjcogeiaaGreatDoor
open Go.RowKit

theorem set7_far {W : World} {g g2 : Nat} {t2 : TypeId} {cs : Array Value} (R2 : Blk W g2 t2 cs) (hne : g2 ≠ g) (v0 v1 v2 v3 v4 v5 v6 : Value) :
  Blk (((((((W.setCell ⟨g, 0, none⟩ v0).setCell ⟨g, 1, none⟩ v1).setCell ⟨g, 2, none⟩ v2).setCell ⟨g, 3, none⟩ v3).setCell ⟨g, 4, none⟩ v4).setCell ⟨g, 5, none⟩ v5).setCell ⟨g, 6, none⟩ v6) g2 t2 cs :=
 ((((((R2.far (p := ⟨g, 0, none⟩) hne _).far (p := ⟨g, 1, none⟩) hne _).far (p := ⟨g, 2, none⟩) hne _).far (p := ⟨g, 3, none⟩) hne _).far (p := ⟨g, 4, none⟩) hne _).far (p := ⟨g, 5, none⟩) hne _).far (p := ⟨g, 6, none⟩) hne _
theorem lay3 {w W : World} {g : Nat} {t0 t1 t2 : TypeId} {c0 c1 c2 : Array Value} (hb : Below w.heap.size w W) (hg : w.heap.size ≤ g) (h0 : Blk W g t0 c0) (h1 : Blk W (g + 1) t1 c1) (h2 : Blk W (g + 1 + 1) t2 c2) : Lay w W [(g, t0, c0), (g + 1, t1, c1), (g + 1 + 1, t2, c2)] :=
 ⟨hb, fun b k => by
  simp only [List.mem_cons, List.not_mem_nil, or_false] at k
  rcases k with rfl | rfl | rfl
  ·exact ⟨hg, h0⟩
  ·exact ⟨by simp; omega, h1⟩
  ·exact ⟨by simp; omega, h2⟩⟩


/-- A slice of bytes. -/
def BytesAt (w : World) (B : Nat) (A : Option Addr) (n : Nat) (l : List Nat) : Prop := Reads w B 1 A n (l.map fun b => Value.int .u8 (b : Nat)) ∧ ∀ b ∈ l, b ≤ 255
theorem BytesAt.len {w : World} {B n : Nat} {A : Option Addr} {l : List Nat} (h : BytesAt w B A n l) : l.length = n := by have := h.1.1; simpa using this
theorem BytesAt.below {w w' : World} {B n : Nat} {A : Option Addr} {l : List Nat} (h : BytesAt w B A n l) (hb : Below B w w') : BytesAt w' B A n l := ⟨h.1.below hb, h.2⟩
theorem BytesAt.more {w : World} {B B' n : Nat} {A : Option Addr} {l : List Nat} (h : BytesAt w B A n l) (hB : B ≤ B') : BytesAt w B' A n l := ⟨h.1.more hB, h.2⟩
theorem BytesAt.cell {w : World} {B n : Nat} {A : Option Addr} {l : List Nat} (h : BytesAt w B A n l) {k : Nat} (hk : k < n) : ∃ b off x, A = some ⟨b, off, none⟩ ∧ b < B ∧ l[k]? = some x ∧ w.cell? ⟨b, off + k, none⟩ = some (.int .u8 (x : Nat)) ∧ x ≤ 255 := by
 have hl := h.len
 obtain ⟨b, off, e, hb, hc⟩ := Reads.plain h.1 (by simp; omega)
 have hx : l[k]? = some l[k] := List.getElem?_eq_getElem (by omega)
 exact ⟨b, off, _, e, hb, hx, hc k _ (by rw [List.getElem?_map, hx]; rfl), h.2 _ (List.getElem_mem _)⟩

end Go.Proofs.YtahkjagjcogeiaaGreatDoor
