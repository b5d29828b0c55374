/- Part 10 of the texts of this claim, joined. -/
import Derived.Deep.Cut
import Derived.Sort.CutIn
import Derived.Test.YtahkjagjcogeiaaGreatDoorZxRound9
set_option linter.unusedVariables false
/- alive: the chapter's examples, walked. -/
namespace Go.Proofs.YtahkjagjcogeiaaGreatDoor
open Go.RowKit Go.Shelf

set_option maxRecDepth 100000 in
set_option maxHeartbeats 16000000 in
theorem alive_in (w : World) (hL : Laid w) : CallsIn Fence.wide 9 Tryz.prog 13 #[] w fun e w' => e = .returned (.bool true) ∧ Below w.heap.size w w' := by
 have HL := Lib.hid hL
 have hl0 := hL.2.2.2
 clear hL
 have HLay := Lib.hid (Lay.nil w)
 refine callsIn_of_wp Tryz.func13 rfl trivial ?_ rfl
 simp only [Tryz.ntmps13, List.size_toArray, List.length_nil, Nat.reduceSub, Array.replicate_succ, Array.replicate_zero, List.push_toArray, List.append_toArray, List.nil_append, List.cons_append]
 gi_wp2
 refine ⟨trivial, (callsIn_wide.2 (town_any w)).mono ?_⟩
 rintro e W1 ⟨g, g2, rfl, ht, hb⟩
 replace HLay := Lib.hid (HLay.out.below hb)
 clear hb
 have HTn := Lib.hid ht
 clear ht
 gi_wp2
 refine ⟨trivial, (callsIn_wide.2 (wayl_any (some ⟨g, 0, none⟩) 4 4 (some ⟨g2, 0, none⟩) 4 4 exT 1 4 false W1 (by omega) (by omega) HTn.out (HL.out.below HLay.out.bel hl0))).mono ?_⟩
 rintro e W2 ⟨AA, nAA, cAA, rfl, hi, hb⟩
 replace HLay := Lib.hid (HLay.out.below hb)
 replace HTn := Lib.hid ((HTn.out.below hb).more hb.size)
 clear hb
 rw [ex_way.1] at hi
 rw [ex_way.2]
 obtain rfl : nAA = 3 := by have := hi.len; simpa using this.symm
 have HA := Lib.hid hi
 clear hi
 clear HTn
 gi_wp2
 refine ⟨trivial, (callsIn_wide.2 (town_any W2)).mono ?_⟩
 rintro e W3 ⟨g, g2, rfl, ht, hb⟩
 replace HLay := Lib.hid (HLay.out.below hb)
 replace HA := Lib.hid ((HA.out.below hb).more hb.size)
 clear hb
 have HTn := Lib.hid ht
 clear ht
 gi_wp2
 refine ⟨trivial, (callsIn_wide.2 (toilw_any (some ⟨g, 0, none⟩) 4 4 (some ⟨g2, 0, none⟩) 4 4 exT 1 4 false W3 (by omega) (by omega) HTn.out (HL.out.below HLay.out.bel hl0))).mono ?_⟩
 rintro e W4 ⟨rfl, hb⟩
 replace HLay := Lib.hid (HLay.out.below hb)
 replace HA := Lib.hid ((HA.out.below hb).more hb.size)
 replace HTn := Lib.hid ((HTn.out.below hb).more hb.size)
 clear hb
 rw [ex_toil, ex_way.2]
 clear HTn
 gi_wp2
 obtain ⟨V5, hV⟩ : ∃ V, (W4.alloc (.cells #[.int .i64 20, .int .i64 140] 34)) = V := ⟨_, rfl⟩
 rw [hV]
 have hb := fbox_bel hV
 have hnew := fbox_blk hV
 have hge := HLay.out.bel.size
 replace HLay := Lib.hid (HLay.out.below hb)
 replace HA := Lib.hid ((HA.out.below hb).more hb.size)
 replace HLay := Lib.hid (HLay.out.add hge hnew)
 clear hnew hge hb hV
 obtain ⟨G6, hG⟩ : ∃ g, W4.heap.size = g := ⟨_, rfl⟩
 rw [hG] at HLay ⊢
 clear hG
 replace HLay := Lib.hid (show Lay w V5 [(G6, 34, #[.int .i64 20, .int .i64 140])] from HLay.out)
 refine ⟨trivial, (callsIn_wide.2 (town_any V5)).mono ?_⟩
 rintro e W7 ⟨g, g2, rfl, ht, hb⟩
 replace HLay := Lib.hid (HLay.out.below hb)
 replace HA := Lib.hid ((HA.out.below hb).more hb.size)
 clear hb
 have HTn := Lib.hid ht
 clear ht
 gi_wp2
 refine ⟨trivial, (callsIn_wide.2 (reach_any (some ⟨g, 0, none⟩) 4 4 (some ⟨g2, 0, none⟩) 4 4 exT 1 true W7 (by omega) (by omega) HTn.out (HL.out.below HLay.out.bel hl0))).mono ?_⟩
 rintro e W8 ⟨AB, nAB, cAB, rfl, hi, hb⟩
 replace HLay := Lib.hid (HLay.out.below hb)
 replace HA := Lib.hid ((HA.out.below hb).more hb.size)
 replace HTn := Lib.hid ((HTn.out.below hb).more hb.size)
 clear hb
 rw [ex_reach.1] at hi
 rw [ex_reach.2]
 obtain rfl : nAB = 2 := by have := hi.len; simpa using this.symm
 have HB := Lib.hid hi
 clear hi
 clear HTn
 have x0_0 := (HLay.out.blk 0 rfl).cell 0
 have x0_1 := (HLay.out.blk 0 rfl).cell 1
 have l0_ := HLay.out.lt 0 rfl
 gi_wp2
 clear x0_0 x0_1 l0_
 refine ⟨trivial, (callsIn_wide.2 (town_any W8)).mono ?_⟩
 rintro e W9 ⟨g, g2, rfl, ht, hb⟩
 replace HLay := Lib.hid (HLay.out.below hb)
 replace HA := Lib.hid ((HA.out.below hb).more hb.size)
 replace HB := Lib.hid ((HB.out.below hb).more hb.size)
 clear hb
 have HTn := Lib.hid ht
 clear ht
 gi_wp2
 obtain ⟨V10, hV⟩ : ∃ V, (W9.alloc (.cells #[.int .i64 1, .int .i64 3] 3)) = V := ⟨_, rfl⟩
 rw [hV]
 have hb := fbox_bel hV
 have hnew := fbox_blk hV
 have hge := HLay.out.bel.size
 replace HLay := Lib.hid (HLay.out.below hb)
 replace HA := Lib.hid ((HA.out.below hb).more hb.size)
 replace HB := Lib.hid ((HB.out.below hb).more hb.size)
 replace HTn := Lib.hid ((HTn.out.below hb).more hb.size)
 replace HLay := Lib.hid (HLay.out.add hge hnew)
 clear hnew hge hb hV
 obtain ⟨G11, hG⟩ : ∃ g, W9.heap.size = g := ⟨_, rfl⟩
 rw [hG] at HLay ⊢
 clear hG
 replace HLay := Lib.hid (show Lay w V10 [(G6, 34, #[.int .i64 20, .int .i64 140]), (G11, 3, #[.int .i64 1, .int .i64 3])] from HLay.out)
 have x0_0 := (HLay.out.blk 0 rfl).cell 0
 have x0_1 := (HLay.out.blk 0 rfl).cell 1
 have l0_ := HLay.out.lt 0 rfl
 gi_wp2
 clear x0_0 x0_1 l0_
 refine ⟨trivial, (callsIn_wide.2 (walk_any (some ⟨g, 0, none⟩) 4 4 (some ⟨g2, 0, none⟩) 4 4 exT 1 (some ⟨G11, 0, none⟩) 2 2 [1, 3] V10 (by omega) (by omega) (by omega) HTn.out (ints_blk2 [1, 3] (HLay.out.blk 1 rfl)) (HL.out.below HLay.out.bel hl0))).mono ?_⟩
 rintro e W12 ⟨rfl, hb⟩
 replace HLay := Lib.hid (HLay.out.below hb)
 replace HA := Lib.hid ((HA.out.below hb).more hb.size)
 replace HB := Lib.hid ((HB.out.below hb).more hb.size)
 replace HTn := Lib.hid ((HTn.out.below hb).more hb.size)
 clear hb
 rw [ex_walk]
 clear HTn
 have x0_0 := (HLay.out.blk 0 rfl).cell 0
 have x0_1 := (HLay.out.blk 0 rfl).cell 1
 have l0_ := HLay.out.lt 0 rfl
 gi_wp2
 clear x0_0 x0_1 l0_
 obtain ⟨V13, hV⟩ : ∃ V, (W12.alloc (.cells #[.int .i64 50, .int .i64 50] 34)) = V := ⟨_, rfl⟩
 rw [hV]
 have hb := fbox_bel hV
 have hnew := fbox_blk hV
 have hge := HLay.out.bel.size
 replace HLay := Lib.hid (HLay.out.below hb)
 replace HA := Lib.hid ((HA.out.below hb).more hb.size)
 replace HB := Lib.hid ((HB.out.below hb).more hb.size)
 replace HLay := Lib.hid (HLay.out.add hge hnew)
 clear hnew hge hb hV
 obtain ⟨G14, hG⟩ : ∃ g, W12.heap.size = g := ⟨_, rfl⟩
 rw [hG] at HLay ⊢
 clear hG
 replace HLay := Lib.hid (show Lay w V13 [(G6, 34, #[.int .i64 20, .int .i64 140]), (G11, 3, #[.int .i64 1, .int .i64 3]), (G14, 34, #[.int .i64 50, .int .i64 50])] from HLay.out)
 refine ⟨trivial, (callsIn_wide.2 (town_any V13)).mono ?_⟩
 rintro e W15 ⟨g, g2, rfl, ht, hb⟩
 replace HLay := Lib.hid (HLay.out.below hb)
 replace HA := Lib.hid ((HA.out.below hb).more hb.size)
 replace HB := Lib.hid ((HB.out.below hb).more hb.size)
 clear hb
 have HTn := Lib.hid ht
 clear ht
 gi_wp2
 refine ⟨trivial, (callsIn_wide.2 (need_any (some ⟨g, 0, none⟩) 4 4 (some ⟨g2, 0, none⟩) 4 4 exT 1 4 false W15 (by omega) (by omega) HTn.out (HL.out.below HLay.out.bel hl0))).mono ?_⟩
 rintro e W16 ⟨AC, nAC, cAC, rfl, hi, hb⟩
 replace HLay := Lib.hid (HLay.out.below hb)
 replace HA := Lib.hid ((HA.out.below hb).more hb.size)
 replace HB := Lib.hid ((HB.out.below hb).more hb.size)
 replace HTn := Lib.hid ((HTn.out.below hb).more hb.size)
 clear hb
 rw [ex_need] at hi
 rw [ex_way.2]
 obtain rfl : nAC = 1 := by have := hi.len; simpa using this.symm
 have HC := Lib.hid hi
 clear hi
 clear HTn
 have x0_0 := (HLay.out.blk 0 rfl).cell 0
 have x0_1 := (HLay.out.blk 0 rfl).cell 1
 have l0_ := HLay.out.lt 0 rfl
 have x2_0 := (HLay.out.blk 2 rfl).cell 0
 have x2_1 := (HLay.out.blk 2 rfl).cell 1
 have l2_ := HLay.out.lt 2 rfl
 gi_wp2
 clear x0_0 x0_1 l0_ x2_0 x2_1 l2_
 refine ⟨trivial, (callsIn_wide.2 (town_any W16)).mono ?_⟩
 rintro e W17 ⟨g, g2, rfl, ht, hb⟩
 replace HLay := Lib.hid (HLay.out.below hb)
 replace HA := Lib.hid ((HA.out.below hb).more hb.size)
 replace HB := Lib.hid ((HB.out.below hb).more hb.size)
 replace HC := Lib.hid ((HC.out.below hb).more hb.size)
 clear hb
 have HTn := Lib.hid ht
 clear ht
 gi_wp2
 refine ⟨trivial, (callsIn_wide.2 (gate_any (some ⟨g, 0, none⟩) 4 4 (some ⟨g2, 0, none⟩) 4 4 exT 1 4 false W17 (by omega) (by omega) HTn.out (HL.out.below HLay.out.bel hl0))).mono ?_⟩
 rintro e W18 ⟨AD, nAD, cAD, rfl, hi, hb⟩
 replace HLay := Lib.hid (HLay.out.below hb)
 replace HA := Lib.hid ((HA.out.below hb).more hb.size)
 replace HB := Lib.hid ((HB.out.below hb).more hb.size)
 replace HC := Lib.hid ((HC.out.below hb).more hb.size)
 replace HTn := Lib.hid ((HTn.out.below hb).more hb.size)
 clear hb
 rw [ex_gate] at hi
 rw [ex_way.2]
 obtain rfl : nAD = 1 := by have := hi.len; simpa using this.symm
 have HD := Lib.hid hi
 clear hi
 clear HTn
 have x0_0 := (HLay.out.blk 0 rfl).cell 0
 have x0_1 := (HLay.out.blk 0 rfl).cell 1
 have l0_ := HLay.out.lt 0 rfl
 have x2_0 := (HLay.out.blk 2 rfl).cell 0
 have x2_1 := (HLay.out.blk 2 rfl).cell 1
 have l2_ := HLay.out.lt 2 rfl
 gi_wp2
 clear x0_0 x0_1 l0_ x2_0 x2_1 l2_
 refine ⟨trivial, (callsIn_wide.2 (town_any W18)).mono ?_⟩
 rintro e W19 ⟨g, g2, rfl, ht, hb⟩
 replace HLay := Lib.hid (HLay.out.below hb)
 replace HA := Lib.hid ((HA.out.below hb).more hb.size)
 replace HB := Lib.hid ((HB.out.below hb).more hb.size)
 replace HC := Lib.hid ((HC.out.below hb).more hb.size)
 replace HD := Lib.hid ((HD.out.below hb).more hb.size)
 clear hb
 have HTn := Lib.hid ht
 clear ht
 gi_wp2
 refine ⟨trivial, (callsIn_wide.2 (worst_any (some ⟨g, 0, none⟩) 4 4 (some ⟨g2, 0, none⟩) 4 4 exT 1 4 false W19 (by omega) (by omega) HTn.out (HL.out.below HLay.out.bel hl0))).mono ?_⟩
 rintro e W20 ⟨rfl, hb⟩
 replace HLay := Lib.hid (HLay.out.below hb)
 replace HA := Lib.hid ((HA.out.below hb).more hb.size)
 replace HB := Lib.hid ((HB.out.below hb).more hb.size)
 replace HC := Lib.hid ((HC.out.below hb).more hb.size)
 replace HD := Lib.hid ((HD.out.below hb).more hb.size)
 replace HTn := Lib.hid ((HTn.out.below hb).more hb.size)
 clear hb
 rw [ex_worst]
 clear HTn
 have x0_0 := (HLay.out.blk 0 rfl).cell 0
 have x0_1 := (HLay.out.blk 0 rfl).cell 1
 have l0_ := HLay.out.lt 0 rfl
 have x2_0 := (HLay.out.blk 2 rfl).cell 0
 have x2_1 := (HLay.out.blk 2 rfl).cell 1
 have l2_ := HLay.out.lt 2 rfl
 gi_wp2
 clear x0_0 x0_1 l0_ x2_0 x2_1 l2_
 obtain ⟨V21, hV⟩ : ∃ V, (W20.alloc (.cells #[.int .i64 50, .int .i64 70] 34)) = V := ⟨_, rfl⟩
 rw [hV]
 have hb := fbox_bel hV
 have hnew := fbox_blk hV
 have hge := HLay.out.bel.size
 replace HLay := Lib.hid (HLay.out.below hb)
 replace HA := Lib.hid ((HA.out.below hb).more hb.size)
 replace HB := Lib.hid ((HB.out.below hb).more hb.size)
 replace HC := Lib.hid ((HC.out.below hb).more hb.size)
 replace HD := Lib.hid ((HD.out.below hb).more hb.size)
 replace HLay := Lib.hid (HLay.out.add hge hnew)
 clear hnew hge hb hV
 obtain ⟨G22, hG⟩ : ∃ g, W20.heap.size = g := ⟨_, rfl⟩
 rw [hG] at HLay ⊢
 clear hG
 replace HLay := Lib.hid (show Lay w V21 [(G6, 34, #[.int .i64 20, .int .i64 140]), (G11, 3, #[.int .i64 1, .int .i64 3]), (G14, 34, #[.int .i64 50, .int .i64 50]), (G22, 34, #[.int .i64 50, .int .i64 70])] from HLay.out)
 refine ⟨trivial, (callsIn_wide.2 (town_any V21)).mono ?_⟩
 rintro e W23 ⟨g, g2, rfl, ht, hb⟩
 replace HLay := Lib.hid (HLay.out.below hb)
 replace HA := Lib.hid ((HA.out.below hb).more hb.size)
 replace HB := Lib.hid ((HB.out.below hb).more hb.size)
 replace HC := Lib.hid ((HC.out.below hb).more hb.size)
 replace HD := Lib.hid ((HD.out.below hb).more hb.size)
 clear hb
 have HTn := Lib.hid ht
 clear ht
 gi_wp2
 obtain ⟨V24, hV⟩ : ∃ V, (W23.alloc (.cells #[.int .i64 2, .int .i64 3] 3)) = V := ⟨_, rfl⟩
 rw [hV]
 have hb := fbox_bel hV
 have hnew := fbox_blk hV
 have hge := HLay.out.bel.size
 replace HLay := Lib.hid (HLay.out.below hb)
 replace HA := Lib.hid ((HA.out.below hb).more hb.size)
 replace HB := Lib.hid ((HB.out.below hb).more hb.size)
 replace HC := Lib.hid ((HC.out.below hb).more hb.size)
 replace HD := Lib.hid ((HD.out.below hb).more hb.size)
 replace HTn := Lib.hid ((HTn.out.below hb).more hb.size)
 replace HLay := Lib.hid (HLay.out.add hge hnew)
 clear hnew hge hb hV
 obtain ⟨G25, hG⟩ : ∃ g, W23.heap.size = g := ⟨_, rfl⟩
 rw [hG] at HLay ⊢
 clear hG
 replace HLay := Lib.hid (show Lay w V24 [(G6, 34, #[.int .i64 20, .int .i64 140]), (G11, 3, #[.int .i64 1, .int .i64 3]), (G14, 34, #[.int .i64 50, .int .i64 50]), (G22, 34, #[.int .i64 50, .int .i64 70]), (G25, 3, #[.int .i64 2, .int .i64 3])] from HLay.out)
 have x0_0 := (HLay.out.blk 0 rfl).cell 0
 have x0_1 := (HLay.out.blk 0 rfl).cell 1
 have l0_ := HLay.out.lt 0 rfl
 have x2_0 := (HLay.out.blk 2 rfl).cell 0
 have x2_1 := (HLay.out.blk 2 rfl).cell 1
 have l2_ := HLay.out.lt 2 rfl
 have x3_0 := (HLay.out.blk 3 rfl).cell 0
 have x3_1 := (HLay.out.blk 3 rfl).cell 1
 have l3_ := HLay.out.lt 3 rfl
 gi_wp2
 clear x0_0 x0_1 l0_ x2_0 x2_1 l2_ x3_0 x3_1 l3_
 refine ⟨trivial, (callsIn_wide.2 (round_any (some ⟨g, 0, none⟩) 4 4 (some ⟨g2, 0, none⟩) 4 4 exT 1 (some ⟨G25, 0, none⟩) 2 2 [2, 3] false V24 (by omega) (by omega) (by omega) HTn.out (ints_blk2 [2, 3] (HLay.out.blk 4 rfl)) (HL.out.below HLay.out.bel hl0))).mono ?_⟩
 rintro e W26 ⟨AE, nAE, cAE, rfl, hi, hb⟩
 replace HLay := Lib.hid (HLay.out.below hb)
 replace HA := Lib.hid ((HA.out.below hb).more hb.size)
 replace HB := Lib.hid ((HB.out.below hb).more hb.size)
 replace HC := Lib.hid ((HC.out.below hb).more hb.size)
 replace HD := Lib.hid ((HD.out.below hb).more hb.size)
 replace HTn := Lib.hid ((HTn.out.below hb).more hb.size)
 clear hb
 rw [ex_round.1] at hi ⊢
 rw [ex_round.2]
 obtain rfl : nAE = 2 := by have := hi.len; simpa using this.symm
 have HE := Lib.hid hi
 clear hi
 clear HTn
 have x0_0 := (HLay.out.blk 0 rfl).cell 0
 have x0_1 := (HLay.out.blk 0 rfl).cell 1
 have l0_ := HLay.out.lt 0 rfl
 have x2_0 := (HLay.out.blk 2 rfl).cell 0
 have x2_1 := (HLay.out.blk 2 rfl).cell 1
 have l2_ := HLay.out.lt 2 rfl
 have x3_0 := (HLay.out.blk 3 rfl).cell 0
 have x3_1 := (HLay.out.blk 3 rfl).cell 1
 have l3_ := HLay.out.lt 3 rfl
 gi_wp2
 clear x0_0 x0_1 l0_ x2_0 x2_1 l2_ x3_0 x3_1 l3_
 obtain ⟨V27, hV⟩ : ∃ V, (W26.alloc (.cells #[.int .i64 20, .int .i64 150] 34)) = V := ⟨_, rfl⟩
 rw [hV]
 have hb := fbox_bel hV
 have hnew := fbox_blk hV
 have hge := HLay.out.bel.size
 replace HLay := Lib.hid (HLay.out.below hb)
 replace HA := Lib.hid ((HA.out.below hb).more hb.size)
 replace HB := Lib.hid ((HB.out.below hb).more hb.size)
 replace HC := Lib.hid ((HC.out.below hb).more hb.size)
 replace HD := Lib.hid ((HD.out.below hb).more hb.size)
 replace HE := Lib.hid ((HE.out.below hb).more hb.size)
 replace HLay := Lib.hid (HLay.out.add hge hnew)
 clear hnew hge hb hV
 obtain ⟨G28, hG⟩ : ∃ g, W26.heap.size = g := ⟨_, rfl⟩
 rw [hG] at HLay ⊢
 clear hG
 replace HLay := Lib.hid (show Lay w V27 [(G6, 34, #[.int .i64 20, .int .i64 140]), (G11, 3, #[.int .i64 1, .int .i64 3]), (G14, 34, #[.int .i64 50, .int .i64 50]), (G22, 34, #[.int .i64 50, .int .i64 70]), (G25, 3, #[.int .i64 2, .int .i64 3]), (G28, 34, #[.int .i64 20, .int .i64 150])] from HLay.out)
 have x0_0 := (HLay.out.blk 0 rfl).cell 0
 have x0_1 := (HLay.out.blk 0 rfl).cell 1
 have l0_ := HLay.out.lt 0 rfl
 have x2_0 := (HLay.out.blk 2 rfl).cell 0
 have x2_1 := (HLay.out.blk 2 rfl).cell 1
 have l2_ := HLay.out.lt 2 rfl
 have x3_0 := (HLay.out.blk 3 rfl).cell 0
 have x3_1 := (HLay.out.blk 3 rfl).cell 1
 have l3_ := HLay.out.lt 3 rfl
 have x5_0 := (HLay.out.blk 5 rfl).cell 0
 have x5_1 := (HLay.out.blk 5 rfl).cell 1
 have l5_ := HLay.out.lt 5 rfl
 gi_wp2
 clear x0_0 x0_1 l0_ x2_0 x2_1 l2_ x3_0 x3_1 l3_ x5_0 x5_1 l5_
 have hs20_140 := eqToil_same 20 140
 have hs50_50 := eqToil_same 50 50
 have hs50_70 := eqToil_same 50 70
 have hs20_150 := eqToil_same 20 150
 simp only [List.append_eq, List.cons_append, List.nil_append]
 refine Tr.wpIn_region_tree (G := Tr.Up) (V0 := V27) [([], [true, true], [2]), ([2], [], [3]), ([2, 3], [false, false, false, false, true, true, true, true, true, true, true], [11]), ([2, 3, 11], [false, false, false, false, false, false, false, false, false, false, false, false, true, true, true, true, true], [17]), ([2, 3, 11, 17], [], [18]), ([2, 3, 11, 17, 18], [false, false, false, false, false, false, false, false, false, false, false, false, false, false, false, false, false, false, false, true, true, true, true, true, true, true, true, true, true, true, true], [31]), ([2, 3, 11, 17, 18, 31], [false, false, false, false, false, false, false, false, false, false, false, false, false, false, false, false, false, false, false, false, false, false, false, false, false, false, false, false, false, false, false, false, true, true, true, true, true], [37]), ([2, 3, 11, 17, 18, 31, 37], [], [38]), ([2, 3, 11, 17, 18, 31, 37, 38], [false, false, false, false, false, false, false, false, false, false, false, false, false, false, false, false, false, false, false, false, false, false, false, false, false, false, false, false, false, false, false, false, false, false, false, false, false, false, false, true, true, true, true, true], [44]), ([2, 3, 11, 17, 18, 31, 37, 38, 44], [], [45]), ([2, 3, 11, 17, 18, 31, 37, 38, 44, 45], [false, false, false, false, false, false, false, false, false, false, false, false, false, false, false, false, false, false, false, false, false, false, false, false, false, false, false, false, false, false, false, false, false, false, false, false, false, false, false, false, false, false, false, false, false, false, true, true, true, true, true, true, true, true, true, true, true, true], [58]), ([2, 3, 11, 17, 18, 31, 37, 38, 44, 45, 58], [false, false, false, false, false, false, false, false, false, false, false, false, false, false, false, false, false, false, false, false, false, false, false, false, false, false, false, false, false, false, false, false, false, false, false, false, false, false, false, false, false, false, false, false, false, false, false, false, false, false, false, false, false, false, false, false, false, false, false, true, true, true, true, true], [64]), ([2, 3, 11, 17, 18, 31, 37, 38, 44, 45, 58, 64], [], [65]), ([2, 3, 11, 17, 18, 31, 37, 38, 44, 45, 58, 64, 65], [false, false, false, false, false, false, false, false, false, false, false, false, false, false, false, false, false, false, false, false, false, false, false, false, false, false, false, false, false, false, false, false, false, false, false, false, false, false, false, false, false, false, false, false, false, false, false, false, false, false, false, false, false, false, false, false, false, false, false, false, false, false, false, false, false, false, true, true, true, true], [70]), ([2, 3, 11, 17, 18, 31, 37, 38, 44, 45, 58, 64, 65, 70], [false, false, false, false, false, false, false, false, false, false, false, false, false, false, false, false, false, false, false, false, false, false, false, false, false, false, false, false, false, false, false, false, false, false, false, false, false, false, false, false, false, false, false, false, false, false, false, false, false, false, false, false, false, false, false, false, false, false, false, false, false, false, false, false, false, false, false, false, false, false, false, true, true], [])] 15 [] (by kernel_rfl) (by kernel_rfl) (by kernel_rfl) (below_drewN (Below.refl _ _) 1) ?_
 refine Tr.wpTree_one (A := ?AF1) rfl rfl ?hq1 ?_
 case hq1 =>
  rintro σ hσ of hof hcl
  have HOF := Lib.hid hof
  have HCL := Lib.hid hcl
  clear hof hcl
  have c0_ : ∀ z, (of z).cell? ⟨G6, 0, none⟩ = some (.int .i64 20) := fun z => ((HLay.out.below (HOF.out z)).blk 0 rfl).cell 0
  have c1_ : ∀ z, (of z).cell? ⟨G6, 1, none⟩ = some (.int .i64 140) := fun z => ((HLay.out.below (HOF.out z)).blk 0 rfl).cell 1
  have c2_ : ∀ z, (of z).cell? ⟨G14, 0, none⟩ = some (.int .i64 50) := fun z => ((HLay.out.below (HOF.out z)).blk 2 rfl).cell 0
  have c3_ : ∀ z, (of z).cell? ⟨G14, 1, none⟩ = some (.int .i64 50) := fun z => ((HLay.out.below (HOF.out z)).blk 2 rfl).cell 1
  have c4_ : ∀ z, (of z).cell? ⟨G22, 0, none⟩ = some (.int .i64 50) := fun z => ((HLay.out.below (HOF.out z)).blk 3 rfl).cell 0
  have c5_ : ∀ z, (of z).cell? ⟨G22, 1, none⟩ = some (.int .i64 70) := fun z => ((HLay.out.below (HOF.out z)).blk 3 rfl).cell 1
  have c6_ : ∀ z, (of z).cell? ⟨G28, 0, none⟩ = some (.int .i64 20) := fun z => ((HLay.out.below (HOF.out z)).blk 5 rfl).cell 0
  have c7_ : ∀ z, (of z).cell? ⟨G28, 1, none⟩ = some (.int .i64 150) := fun z => ((HLay.out.below (HOF.out z)).blk 5 rfl).cell 1
  have hfw : ∀ f, Fence.wide.fn f := fun _ => trivial
  simp only [pickB]
  repeat (gi_big_quiet_step (fail))
  refine wpQuietIn_nil ?_
  exact rfl
 intro W29 hW
 replace HLay := Lib.hid (HLay.out.below hW)
 replace HA := Lib.hid ((HA.out.below hW).more hW.size)
 replace HB := Lib.hid ((HB.out.below hW).more hW.size)
 replace HC := Lib.hid ((HC.out.below hW).more hW.size)
 replace HD := Lib.hid ((HD.out.below hW).more hW.size)
 replace HE := Lib.hid ((HE.out.below hW).more hW.size)
 clear hW
 gi_wp2
 have hup : Tr.Up W29 (W29.alloc (.cells #[.int .i64 2, .int .i64 3, .int .i64 4] 3)) := (Below.refl _ _).alloc (Nat.le_refl _) _
 first | refine ⟨trivial, hup, ?_⟩ | refine ⟨hup, ?_⟩
 clear hup
 obtain ⟨V30, hV⟩ : ∃ V, (W29.alloc (.cells #[.int .i64 2, .int .i64 3, .int .i64 4] 3)) = V := ⟨_, rfl⟩
 rw [hV]
 have hb := fbox_bel hV
 have hnew := fbox_blk hV
 have hge := HLay.out.bel.size
 replace HLay := Lib.hid (HLay.out.below hb)
 replace HA := Lib.hid ((HA.out.below hb).more hb.size)
 replace HB := Lib.hid ((HB.out.below hb).more hb.size)
 replace HC := Lib.hid ((HC.out.below hb).more hb.size)
 replace HD := Lib.hid ((HD.out.below hb).more hb.size)
 replace HE := Lib.hid ((HE.out.below hb).more hb.size)
 replace HLay := Lib.hid (HLay.out.add hge hnew)
 clear hnew hge hb hV
 obtain ⟨G31, hG⟩ : ∃ g, W29.heap.size = g := ⟨_, rfl⟩
 rw [hG] at HLay ⊢
 clear hG
 replace HLay := Lib.hid (show Lay w V30 [(G6, 34, #[.int .i64 20, .int .i64 140]), (G11, 3, #[.int .i64 1, .int .i64 3]), (G14, 34, #[.int .i64 50, .int .i64 50]), (G22, 34, #[.int .i64 50, .int .i64 70]), (G25, 3, #[.int .i64 2, .int .i64 3]), (G28, 34, #[.int .i64 20, .int .i64 150]), (G31, 3, #[.int .i64 2, .int .i64 3, .int .i64 4])] from HLay.out)
 refine Tr.wpTree_one (m := []) rfl rfl Gr.Quietly.none ?_
 intro W32 hW
 replace HLay := Lib.hid (HLay.out.below hW)
 replace HA := Lib.hid ((HA.out.below hW).more hW.size)
 replace HB := Lib.hid ((HB.out.below hW).more hW.size)
 replace HC := Lib.hid ((HC.out.below hW).more hW.size)
 replace HD := Lib.hid ((HD.out.below hW).more hW.size)
 replace HE := Lib.hid ((HE.out.below hW).more hW.size)
 clear hW
 gi_wp2
 refine ⟨trivial, (callsIn_wide.2 (is_any AA 3 cAA [2, 3, 4] 0 (some ⟨G31, 0, none⟩) 3 3 [2, 3, 4] W32 (by unfold maxLen; omega) (by unfold maxLen; omega) HA.out (ints_blk2 [2, 3, 4] (HLay.out.blk 6 rfl)))).mono ?_⟩
 rintro e W33 ⟨rfl, hb⟩
 replace HLay := Lib.hid (HLay.out.below hb)
 replace HA := Lib.hid ((HA.out.below hb).more hb.size)
 replace HB := Lib.hid ((HB.out.below hb).more hb.size)
 replace HC := Lib.hid ((HC.out.below hb).more hb.size)
 replace HD := Lib.hid ((HD.out.below hb).more hb.size)
 replace HE := Lib.hid ((HE.out.below hb).more hb.size)
 rw [show (decide ((0 : Int) = 0) && sameI [2, 3, 4] [2, 3, 4]) = true from by decide]
 gi_wp2
 first | refine ⟨trivial, hb, ?_⟩ | refine ⟨hb, ?_⟩
 clear hb
 refine Tr.wpTree_one (A := ?AF2) rfl rfl ?hq2 ?_
 case hq2 =>
  rintro σ hσ of hof hcl
  have HOF := Lib.hid hof
  have HCL := Lib.hid hcl
  clear hof hcl
  have c0_ : ∀ z, (of z).cell? ⟨G6, 0, none⟩ = some (.int .i64 20) := fun z => ((HLay.out.below (HOF.out z)).blk 0 rfl).cell 0
  have c1_ : ∀ z, (of z).cell? ⟨G6, 1, none⟩ = some (.int .i64 140) := fun z => ((HLay.out.below (HOF.out z)).blk 0 rfl).cell 1
  have c2_ : ∀ z, (of z).cell? ⟨G14, 0, none⟩ = some (.int .i64 50) := fun z => ((HLay.out.below (HOF.out z)).blk 2 rfl).cell 0
  have c3_ : ∀ z, (of z).cell? ⟨G14, 1, none⟩ = some (.int .i64 50) := fun z => ((HLay.out.below (HOF.out z)).blk 2 rfl).cell 1
  have c4_ : ∀ z, (of z).cell? ⟨G22, 0, none⟩ = some (.int .i64 50) := fun z => ((HLay.out.below (HOF.out z)).blk 3 rfl).cell 0
  have c5_ : ∀ z, (of z).cell? ⟨G22, 1, none⟩ = some (.int .i64 70) := fun z => ((HLay.out.below (HOF.out z)).blk 3 rfl).cell 1
  have c6_ : ∀ z, (of z).cell? ⟨G28, 0, none⟩ = some (.int .i64 20) := fun z => ((HLay.out.below (HOF.out z)).blk 5 rfl).cell 0
  have c7_ : ∀ z, (of z).cell? ⟨G28, 1, none⟩ = some (.int .i64 150) := fun z => ((HLay.out.below (HOF.out z)).blk 5 rfl).cell 1
  have hfw : ∀ f, Fence.wide.fn f := fun _ => trivial
  simp only [pickB]
  repeat (gi_big_quiet_step (fail))
  refine wpQuietIn_nil ?_
  exact rfl
 intro W34 hW
 replace HLay := Lib.hid (HLay.out.below hW)
 replace HA := Lib.hid ((HA.out.below hW).more hW.size)
 replace HB := Lib.hid ((HB.out.below hW).more hW.size)
 replace HC := Lib.hid ((HC.out.below hW).more hW.size)
 replace HD := Lib.hid ((HD.out.below hW).more hW.size)
 replace HE := Lib.hid ((HE.out.below hW).more hW.size)
 clear hW
 gi_wp2
 refine ⟨trivial, (callsIn_wide.2 (ltoil_any 20 140 W34)).mono ?_⟩
 rintro e W35 ⟨rfl, hb⟩
 replace HLay := Lib.hid (HLay.out.below hb)
 replace HA := Lib.hid ((HA.out.below hb).more hb.size)
 replace HB := Lib.hid ((HB.out.below hb).more hb.size)
 replace HC := Lib.hid ((HC.out.below hb).more hb.size)
 replace HD := Lib.hid ((HD.out.below hb).more hb.size)
 replace HE := Lib.hid ((HE.out.below hb).more hb.size)
 gi_wp2
 first | refine ⟨trivial, hb, ?_⟩ | refine ⟨hb, ?_⟩
 clear hb
 refine Tr.wpTree_one (A := ?AF3) rfl rfl ?hq3 ?_
 case hq3 =>
  rintro σ hσ of hof hcl
  have HOF := Lib.hid hof
  have HCL := Lib.hid hcl
  clear hof hcl
  have c0_ : ∀ z, (of z).cell? ⟨G6, 0, none⟩ = some (.int .i64 20) := fun z => ((HLay.out.below (HOF.out z)).blk 0 rfl).cell 0
  have c1_ : ∀ z, (of z).cell? ⟨G6, 1, none⟩ = some (.int .i64 140) := fun z => ((HLay.out.below (HOF.out z)).blk 0 rfl).cell 1
  have c2_ : ∀ z, (of z).cell? ⟨G14, 0, none⟩ = some (.int .i64 50) := fun z => ((HLay.out.below (HOF.out z)).blk 2 rfl).cell 0
  have c3_ : ∀ z, (of z).cell? ⟨G14, 1, none⟩ = some (.int .i64 50) := fun z => ((HLay.out.below (HOF.out z)).blk 2 rfl).cell 1
  have c4_ : ∀ z, (of z).cell? ⟨G22, 0, none⟩ = some (.int .i64 50) := fun z => ((HLay.out.below (HOF.out z)).blk 3 rfl).cell 0
  have c5_ : ∀ z, (of z).cell? ⟨G22, 1, none⟩ = some (.int .i64 70) := fun z => ((HLay.out.below (HOF.out z)).blk 3 rfl).cell 1
  have c6_ : ∀ z, (of z).cell? ⟨G28, 0, none⟩ = some (.int .i64 20) := fun z => ((HLay.out.below (HOF.out z)).blk 5 rfl).cell 0
  have c7_ : ∀ z, (of z).cell? ⟨G28, 1, none⟩ = some (.int .i64 150) := fun z => ((HLay.out.below (HOF.out z)).blk 5 rfl).cell 1
  have hfw : ∀ f, Fence.wide.fn f := fun _ => trivial
  simp only [pickB]
  repeat (gi_big_quiet_step (fail))
  refine wpQuietIn_nil ?_
  exact rfl
 intro W36 hW
 replace HLay := Lib.hid (HLay.out.below hW)
 replace HA := Lib.hid ((HA.out.below hW).more hW.size)
 replace HB := Lib.hid ((HB.out.below hW).more hW.size)
 replace HC := Lib.hid ((HC.out.below hW).more hW.size)
 replace HD := Lib.hid ((HD.out.below hW).more hW.size)
 replace HE := Lib.hid ((HE.out.below hW).more hW.size)
 clear hW
 gi_wp2
 have hup : Tr.Up W36 (W36.alloc (.cells #[.int .i64 1, .int .i64 3] 3)) := (Below.refl _ _).alloc (Nat.le_refl _) _
 first | refine ⟨trivial, hup, ?_⟩ | refine ⟨hup, ?_⟩
 clear hup
 obtain ⟨V37, hV⟩ : ∃ V, (W36.alloc (.cells #[.int .i64 1, .int .i64 3] 3)) = V := ⟨_, rfl⟩
 rw [hV]
 have hb := fbox_bel hV
 have hnew := fbox_blk hV
 have hge := HLay.out.bel.size
 replace HLay := Lib.hid (HLay.out.below hb)
 replace HA := Lib.hid ((HA.out.below hb).more hb.size)
 replace HB := Lib.hid ((HB.out.below hb).more hb.size)
 replace HC := Lib.hid ((HC.out.below hb).more hb.size)
 replace HD := Lib.hid ((HD.out.below hb).more hb.size)
 replace HE := Lib.hid ((HE.out.below hb).more hb.size)
 replace HLay := Lib.hid (HLay.out.add hge hnew)
 clear hnew hge hb hV
 obtain ⟨G38, hG⟩ : ∃ g, W36.heap.size = g := ⟨_, rfl⟩
 rw [hG] at HLay ⊢
 clear hG
 replace HLay := Lib.hid (show Lay w V37 [(G6, 34, #[.int .i64 20, .int .i64 140]), (G11, 3, #[.int .i64 1, .int .i64 3]), (G14, 34, #[.int .i64 50, .int .i64 50]), (G22, 34, #[.int .i64 50, .int .i64 70]), (G25, 3, #[.int .i64 2, .int .i64 3]), (G28, 34, #[.int .i64 20, .int .i64 150]), (G31, 3, #[.int .i64 2, .int .i64 3, .int .i64 4]), (G38, 3, #[.int .i64 1, .int .i64 3])] from HLay.out)
 refine Tr.wpTree_one (m := []) rfl rfl Gr.Quietly.none ?_
 intro W39 hW
 replace HLay := Lib.hid (HLay.out.below hW)
 replace HA := Lib.hid ((HA.out.below hW).more hW.size)
 replace HB := Lib.hid ((HB.out.below hW).more hW.size)
 replace HC := Lib.hid ((HC.out.below hW).more hW.size)
 replace HD := Lib.hid ((HD.out.below hW).more hW.size)
 replace HE := Lib.hid ((HE.out.below hW).more hW.size)
 clear hW
 gi_wp2
 refine ⟨trivial, (callsIn_wide.2 (is_any AB 2 cAB [1, 3] 0 (some ⟨G38, 0, none⟩) 2 2 [1, 3] W39 (by unfold maxLen; omega) (by unfold maxLen; omega) HB.out (ints_blk2 [1, 3] (HLay.out.blk 7 rfl)))).mono ?_⟩
 rintro e W40 ⟨rfl, hb⟩
 replace HLay := Lib.hid (HLay.out.below hb)
 replace HA := Lib.hid ((HA.out.below hb).more hb.size)
 replace HB := Lib.hid ((HB.out.below hb).more hb.size)
 replace HC := Lib.hid ((HC.out.below hb).more hb.size)
 replace HD := Lib.hid ((HD.out.below hb).more hb.size)
 replace HE := Lib.hid ((HE.out.below hb).more hb.size)
 rw [show (decide ((0 : Int) = 0) && sameI [1, 3] [1, 3]) = true from by decide]
 gi_wp2
 first | refine ⟨trivial, hb, ?_⟩ | refine ⟨hb, ?_⟩
 clear hb
 refine Tr.wpTree_one (A := ?AF4) rfl rfl ?hq4 ?_
 case hq4 =>
  rintro σ hσ of hof hcl
  have HOF := Lib.hid hof
  have HCL := Lib.hid hcl
  clear hof hcl
  have c0_ : ∀ z, (of z).cell? ⟨G6, 0, none⟩ = some (.int .i64 20) := fun z => ((HLay.out.below (HOF.out z)).blk 0 rfl).cell 0
  have c1_ : ∀ z, (of z).cell? ⟨G6, 1, none⟩ = some (.int .i64 140) := fun z => ((HLay.out.below (HOF.out z)).blk 0 rfl).cell 1
  have c2_ : ∀ z, (of z).cell? ⟨G14, 0, none⟩ = some (.int .i64 50) := fun z => ((HLay.out.below (HOF.out z)).blk 2 rfl).cell 0
  have c3_ : ∀ z, (of z).cell? ⟨G14, 1, none⟩ = some (.int .i64 50) := fun z => ((HLay.out.below (HOF.out z)).blk 2 rfl).cell 1
  have c4_ : ∀ z, (of z).cell? ⟨G22, 0, none⟩ = some (.int .i64 50) := fun z => ((HLay.out.below (HOF.out z)).blk 3 rfl).cell 0
  have c5_ : ∀ z, (of z).cell? ⟨G22, 1, none⟩ = some (.int .i64 70) := fun z => ((HLay.out.below (HOF.out z)).blk 3 rfl).cell 1
  have c6_ : ∀ z, (of z).cell? ⟨G28, 0, none⟩ = some (.int .i64 20) := fun z => ((HLay.out.below (HOF.out z)).blk 5 rfl).cell 0
  have c7_ : ∀ z, (of z).cell? ⟨G28, 1, none⟩ = some (.int .i64 150) := fun z => ((HLay.out.below (HOF.out z)).blk 5 rfl).cell 1
  have hfw : ∀ f, Fence.wide.fn f := fun _ => trivial
  simp only [pickB]
  repeat (gi_big_quiet_step (fail))
  refine wpQuietIn_nil ?_
  exact rfl
 intro W41 hW
 replace HLay := Lib.hid (HLay.out.below hW)
 replace HA := Lib.hid ((HA.out.below hW).more hW.size)
 replace HB := Lib.hid ((HB.out.below hW).more hW.size)
 replace HC := Lib.hid ((HC.out.below hW).more hW.size)
 replace HD := Lib.hid ((HD.out.below hW).more hW.size)
 replace HE := Lib.hid ((HE.out.below hW).more hW.size)
 clear hW
 gi_wp2
 refine ⟨trivial, (callsIn_wide.2 (ltoil_any 50 50 W41)).mono ?_⟩
 rintro e W42 ⟨rfl, hb⟩
 replace HLay := Lib.hid (HLay.out.below hb)
 replace HA := Lib.hid ((HA.out.below hb).more hb.size)
 replace HB := Lib.hid ((HB.out.below hb).more hb.size)
 replace HC := Lib.hid ((HC.out.below hb).more hb.size)
 replace HD := Lib.hid ((HD.out.below hb).more hb.size)
 replace HE := Lib.hid ((HE.out.below hb).more hb.size)
 gi_wp2
 first | refine ⟨trivial, hb, ?_⟩ | refine ⟨hb, ?_⟩
 clear hb
 refine Tr.wpTree_one (A := ?AF5) rfl rfl ?hq5 ?_
 case hq5 =>
  rintro σ hσ of hof hcl
  have HOF := Lib.hid hof
  have HCL := Lib.hid hcl
  clear hof hcl
  have c0_ : ∀ z, (of z).cell? ⟨G6, 0, none⟩ = some (.int .i64 20) := fun z => ((HLay.out.below (HOF.out z)).blk 0 rfl).cell 0
  have c1_ : ∀ z, (of z).cell? ⟨G6, 1, none⟩ = some (.int .i64 140) := fun z => ((HLay.out.below (HOF.out z)).blk 0 rfl).cell 1
  have c2_ : ∀ z, (of z).cell? ⟨G14, 0, none⟩ = some (.int .i64 50) := fun z => ((HLay.out.below (HOF.out z)).blk 2 rfl).cell 0
  have c3_ : ∀ z, (of z).cell? ⟨G14, 1, none⟩ = some (.int .i64 50) := fun z => ((HLay.out.below (HOF.out z)).blk 2 rfl).cell 1
  have c4_ : ∀ z, (of z).cell? ⟨G22, 0, none⟩ = some (.int .i64 50) := fun z => ((HLay.out.below (HOF.out z)).blk 3 rfl).cell 0
  have c5_ : ∀ z, (of z).cell? ⟨G22, 1, none⟩ = some (.int .i64 70) := fun z => ((HLay.out.below (HOF.out z)).blk 3 rfl).cell 1
  have c6_ : ∀ z, (of z).cell? ⟨G28, 0, none⟩ = some (.int .i64 20) := fun z => ((HLay.out.below (HOF.out z)).blk 5 rfl).cell 0
  have c7_ : ∀ z, (of z).cell? ⟨G28, 1, none⟩ = some (.int .i64 150) := fun z => ((HLay.out.below (HOF.out z)).blk 5 rfl).cell 1
  have hfw : ∀ f, Fence.wide.fn f := fun _ => trivial
  simp only [pickB]
  repeat (gi_big_quiet_step (fail))
  refine wpQuietIn_nil ?_
  exact rfl
 intro W43 hW
 replace HLay := Lib.hid (HLay.out.below hW)
 replace HA := Lib.hid ((HA.out.below hW).more hW.size)
 replace HB := Lib.hid ((HB.out.below hW).more hW.size)
 replace HC := Lib.hid ((HC.out.below hW).more hW.size)
 replace HD := Lib.hid ((HD.out.below hW).more hW.size)
 replace HE := Lib.hid ((HE.out.below hW).more hW.size)
 clear hW
 gi_wp2
 have hup : Tr.Up W43 (W43.alloc (.cells #[.int .i64 4] 3)) := (Below.refl _ _).alloc (Nat.le_refl _) _
 first | refine ⟨trivial, hup, ?_⟩ | refine ⟨hup, ?_⟩
 clear hup
 obtain ⟨V44, hV⟩ : ∃ V, (W43.alloc (.cells #[.int .i64 4] 3)) = V := ⟨_, rfl⟩
 rw [hV]
 have hb := fbox_bel hV
 have hnew := fbox_blk hV
 have hge := HLay.out.bel.size
 replace HLay := Lib.hid (HLay.out.below hb)
 replace HA := Lib.hid ((HA.out.below hb).more hb.size)
 replace HB := Lib.hid ((HB.out.below hb).more hb.size)
 replace HC := Lib.hid ((HC.out.below hb).more hb.size)
 replace HD := Lib.hid ((HD.out.below hb).more hb.size)
 replace HE := Lib.hid ((HE.out.below hb).more hb.size)
 replace HLay := Lib.hid (HLay.out.add hge hnew)
 clear hnew hge hb hV
 obtain ⟨G45, hG⟩ : ∃ g, W43.heap.size = g := ⟨_, rfl⟩
 rw [hG] at HLay ⊢
 clear hG
 replace HLay := Lib.hid (show Lay w V44 [(G6, 34, #[.int .i64 20, .int .i64 140]), (G11, 3, #[.int .i64 1, .int .i64 3]), (G14, 34, #[.int .i64 50, .int .i64 50]), (G22, 34, #[.int .i64 50, .int .i64 70]), (G25, 3, #[.int .i64 2, .int .i64 3]), (G28, 34, #[.int .i64 20, .int .i64 150]), (G31, 3, #[.int .i64 2, .int .i64 3, .int .i64 4]), (G38, 3, #[.int .i64 1, .int .i64 3]), (G45, 3, #[.int .i64 4])] from HLay.out)
 refine Tr.wpTree_one (m := []) rfl rfl Gr.Quietly.none ?_
 intro W46 hW
 replace HLay := Lib.hid (HLay.out.below hW)
 replace HA := Lib.hid ((HA.out.below hW).more hW.size)
 replace HB := Lib.hid ((HB.out.below hW).more hW.size)
 replace HC := Lib.hid ((HC.out.below hW).more hW.size)
 replace HD := Lib.hid ((HD.out.below hW).more hW.size)
 replace HE := Lib.hid ((HE.out.below hW).more hW.size)
 clear hW
 gi_wp2
 refine ⟨trivial, (callsIn_wide.2 (is_any AC 1 cAC [4] 0 (some ⟨G45, 0, none⟩) 1 1 [4] W46 (by unfold maxLen; omega) (by unfold maxLen; omega) HC.out (ints_blk2 [4] (HLay.out.blk 8 rfl)))).mono ?_⟩
 rintro e W47 ⟨rfl, hb⟩
 replace HLay := Lib.hid (HLay.out.below hb)
 replace HA := Lib.hid ((HA.out.below hb).more hb.size)
 replace HB := Lib.hid ((HB.out.below hb).more hb.size)
 replace HC := Lib.hid ((HC.out.below hb).more hb.size)
 replace HD := Lib.hid ((HD.out.below hb).more hb.size)
 replace HE := Lib.hid ((HE.out.below hb).more hb.size)
 rw [show (decide ((0 : Int) = 0) && sameI [4] [4]) = true from by decide]
 gi_wp2
 first | refine ⟨trivial, hb, ?_⟩ | refine ⟨hb, ?_⟩
 clear hb
 refine Tr.wpTree_one (A := ?AF6) rfl rfl ?hq6 ?_
 case hq6 =>
  rintro σ hσ of hof hcl
  have HOF := Lib.hid hof
  have HCL := Lib.hid hcl
  clear hof hcl
  have c0_ : ∀ z, (of z).cell? ⟨G6, 0, none⟩ = some (.int .i64 20) := fun z => ((HLay.out.below (HOF.out z)).blk 0 rfl).cell 0
  have c1_ : ∀ z, (of z).cell? ⟨G6, 1, none⟩ = some (.int .i64 140) := fun z => ((HLay.out.below (HOF.out z)).blk 0 rfl).cell 1
  have c2_ : ∀ z, (of z).cell? ⟨G14, 0, none⟩ = some (.int .i64 50) := fun z => ((HLay.out.below (HOF.out z)).blk 2 rfl).cell 0
  have c3_ : ∀ z, (of z).cell? ⟨G14, 1, none⟩ = some (.int .i64 50) := fun z => ((HLay.out.below (HOF.out z)).blk 2 rfl).cell 1
  have c4_ : ∀ z, (of z).cell? ⟨G22, 0, none⟩ = some (.int .i64 50) := fun z => ((HLay.out.below (HOF.out z)).blk 3 rfl).cell 0
  have c5_ : ∀ z, (of z).cell? ⟨G22, 1, none⟩ = some (.int .i64 70) := fun z => ((HLay.out.below (HOF.out z)).blk 3 rfl).cell 1
  have c6_ : ∀ z, (of z).cell? ⟨G28, 0, none⟩ = some (.int .i64 20) := fun z => ((HLay.out.below (HOF.out z)).blk 5 rfl).cell 0
  have c7_ : ∀ z, (of z).cell? ⟨G28, 1, none⟩ = some (.int .i64 150) := fun z => ((HLay.out.below (HOF.out z)).blk 5 rfl).cell 1
  have hfw : ∀ f, Fence.wide.fn f := fun _ => trivial
  simp only [pickB]
  repeat (gi_big_quiet_step (fail))
  refine wpQuietIn_nil ?_
  exact rfl
 intro W48 hW
 replace HLay := Lib.hid (HLay.out.below hW)
 replace HA := Lib.hid ((HA.out.below hW).more hW.size)
 replace HB := Lib.hid ((HB.out.below hW).more hW.size)
 replace HC := Lib.hid ((HC.out.below hW).more hW.size)
 replace HD := Lib.hid ((HD.out.below hW).more hW.size)
 replace HE := Lib.hid ((HE.out.below hW).more hW.size)
 clear hW
 gi_wp2
 have hup : Tr.Up W48 (W48.alloc (.cells #[.int .i64 2] 3)) := (Below.refl _ _).alloc (Nat.le_refl _) _
 first | refine ⟨trivial, hup, ?_⟩ | refine ⟨hup, ?_⟩
 clear hup
 obtain ⟨V49, hV⟩ : ∃ V, (W48.alloc (.cells #[.int .i64 2] 3)) = V := ⟨_, rfl⟩
 rw [hV]
 have hb := fbox_bel hV
 have hnew := fbox_blk hV
 have hge := HLay.out.bel.size
 replace HLay := Lib.hid (HLay.out.below hb)
 replace HA := Lib.hid ((HA.out.below hb).more hb.size)
 replace HB := Lib.hid ((HB.out.below hb).more hb.size)
 replace HC := Lib.hid ((HC.out.below hb).more hb.size)
 replace HD := Lib.hid ((HD.out.below hb).more hb.size)
 replace HE := Lib.hid ((HE.out.below hb).more hb.size)
 replace HLay := Lib.hid (HLay.out.add hge hnew)
 clear hnew hge hb hV
 obtain ⟨G50, hG⟩ : ∃ g, W48.heap.size = g := ⟨_, rfl⟩
 rw [hG] at HLay ⊢
 clear hG
 replace HLay := Lib.hid (show Lay w V49 [(G6, 34, #[.int .i64 20, .int .i64 140]), (G11, 3, #[.int .i64 1, .int .i64 3]), (G14, 34, #[.int .i64 50, .int .i64 50]), (G22, 34, #[.int .i64 50, .int .i64 70]), (G25, 3, #[.int .i64 2, .int .i64 3]), (G28, 34, #[.int .i64 20, .int .i64 150]), (G31, 3, #[.int .i64 2, .int .i64 3, .int .i64 4]), (G38, 3, #[.int .i64 1, .int .i64 3]), (G45, 3, #[.int .i64 4]), (G50, 3, #[.int .i64 2])] from HLay.out)
 refine Tr.wpTree_one (m := []) rfl rfl Gr.Quietly.none ?_
 intro W51 hW
 replace HLay := Lib.hid (HLay.out.below hW)
 replace HA := Lib.hid ((HA.out.below hW).more hW.size)
 replace HB := Lib.hid ((HB.out.below hW).more hW.size)
 replace HC := Lib.hid ((HC.out.below hW).more hW.size)
 replace HD := Lib.hid ((HD.out.below hW).more hW.size)
 replace HE := Lib.hid ((HE.out.below hW).more hW.size)
 clear hW
 gi_wp2
 refine ⟨trivial, (callsIn_wide.2 (is_any AD 1 cAD [2] 0 (some ⟨G50, 0, none⟩) 1 1 [2] W51 (by unfold maxLen; omega) (by unfold maxLen; omega) HD.out (ints_blk2 [2] (HLay.out.blk 9 rfl)))).mono ?_⟩
 rintro e W52 ⟨rfl, hb⟩
 replace HLay := Lib.hid (HLay.out.below hb)
 replace HA := Lib.hid ((HA.out.below hb).more hb.size)
 replace HB := Lib.hid ((HB.out.below hb).more hb.size)
 replace HC := Lib.hid ((HC.out.below hb).more hb.size)
 replace HD := Lib.hid ((HD.out.below hb).more hb.size)
 replace HE := Lib.hid ((HE.out.below hb).more hb.size)
 rw [show (decide ((0 : Int) = 0) && sameI [2] [2]) = true from by decide]
 gi_wp2
 first | refine ⟨trivial, hb, ?_⟩ | refine ⟨hb, ?_⟩
 clear hb
 refine Tr.wpTree_one (A := ?AF7) rfl rfl ?hq7 ?_
 case hq7 =>
  rintro σ hσ of hof hcl
  have HOF := Lib.hid hof
  have HCL := Lib.hid hcl
  clear hof hcl
  have c0_ : ∀ z, (of z).cell? ⟨G6, 0, none⟩ = some (.int .i64 20) := fun z => ((HLay.out.below (HOF.out z)).blk 0 rfl).cell 0
  have c1_ : ∀ z, (of z).cell? ⟨G6, 1, none⟩ = some (.int .i64 140) := fun z => ((HLay.out.below (HOF.out z)).blk 0 rfl).cell 1
  have c2_ : ∀ z, (of z).cell? ⟨G14, 0, none⟩ = some (.int .i64 50) := fun z => ((HLay.out.below (HOF.out z)).blk 2 rfl).cell 0
  have c3_ : ∀ z, (of z).cell? ⟨G14, 1, none⟩ = some (.int .i64 50) := fun z => ((HLay.out.below (HOF.out z)).blk 2 rfl).cell 1
  have c4_ : ∀ z, (of z).cell? ⟨G22, 0, none⟩ = some (.int .i64 50) := fun z => ((HLay.out.below (HOF.out z)).blk 3 rfl).cell 0
  have c5_ : ∀ z, (of z).cell? ⟨G22, 1, none⟩ = some (.int .i64 70) := fun z => ((HLay.out.below (HOF.out z)).blk 3 rfl).cell 1
  have c6_ : ∀ z, (of z).cell? ⟨G28, 0, none⟩ = some (.int .i64 20) := fun z => ((HLay.out.below (HOF.out z)).blk 5 rfl).cell 0
  have c7_ : ∀ z, (of z).cell? ⟨G28, 1, none⟩ = some (.int .i64 150) := fun z => ((HLay.out.below (HOF.out z)).blk 5 rfl).cell 1
  have hfw : ∀ f, Fence.wide.fn f := fun _ => trivial
  simp only [pickB]
  repeat (gi_big_quiet_step (fail))
  refine wpQuietIn_nil ?_
  exact rfl
 intro W53 hW
 replace HLay := Lib.hid (HLay.out.below hW)
 replace HA := Lib.hid ((HA.out.below hW).more hW.size)
 replace HB := Lib.hid ((HB.out.below hW).more hW.size)
 replace HC := Lib.hid ((HC.out.below hW).more hW.size)
 replace HD := Lib.hid ((HD.out.below hW).more hW.size)
 replace HE := Lib.hid ((HE.out.below hW).more hW.size)
 clear hW
 gi_wp2
 refine ⟨trivial, (callsIn_wide.2 (ltoil_any 50 70 W53)).mono ?_⟩
 rintro e W54 ⟨rfl, hb⟩
 replace HLay := Lib.hid (HLay.out.below hb)
 replace HA := Lib.hid ((HA.out.below hb).more hb.size)
 replace HB := Lib.hid ((HB.out.below hb).more hb.size)
 replace HC := Lib.hid ((HC.out.below hb).more hb.size)
 replace HD := Lib.hid ((HD.out.below hb).more hb.size)
 replace HE := Lib.hid ((HE.out.below hb).more hb.size)
 gi_wp2
 first | refine ⟨trivial, hb, ?_⟩ | refine ⟨hb, ?_⟩
 clear hb
 refine Tr.wpTree_one (A := ?AF8) rfl rfl ?hq8 ?_
 case hq8 =>
  rintro σ hσ of hof hcl
  have HOF := Lib.hid hof
  have HCL := Lib.hid hcl
  clear hof hcl
  have c0_ : ∀ z, (of z).cell? ⟨G6, 0, none⟩ = some (.int .i64 20) := fun z => ((HLay.out.below (HOF.out z)).blk 0 rfl).cell 0
  have c1_ : ∀ z, (of z).cell? ⟨G6, 1, none⟩ = some (.int .i64 140) := fun z => ((HLay.out.below (HOF.out z)).blk 0 rfl).cell 1
  have c2_ : ∀ z, (of z).cell? ⟨G14, 0, none⟩ = some (.int .i64 50) := fun z => ((HLay.out.below (HOF.out z)).blk 2 rfl).cell 0
  have c3_ : ∀ z, (of z).cell? ⟨G14, 1, none⟩ = some (.int .i64 50) := fun z => ((HLay.out.below (HOF.out z)).blk 2 rfl).cell 1
  have c4_ : ∀ z, (of z).cell? ⟨G22, 0, none⟩ = some (.int .i64 50) := fun z => ((HLay.out.below (HOF.out z)).blk 3 rfl).cell 0
  have c5_ : ∀ z, (of z).cell? ⟨G22, 1, none⟩ = some (.int .i64 70) := fun z => ((HLay.out.below (HOF.out z)).blk 3 rfl).cell 1
  have c6_ : ∀ z, (of z).cell? ⟨G28, 0, none⟩ = some (.int .i64 20) := fun z => ((HLay.out.below (HOF.out z)).blk 5 rfl).cell 0
  have c7_ : ∀ z, (of z).cell? ⟨G28, 1, none⟩ = some (.int .i64 150) := fun z => ((HLay.out.below (HOF.out z)).blk 5 rfl).cell 1
  have hfw : ∀ f, Fence.wide.fn f := fun _ => trivial
  simp only [pickB]
  repeat (gi_big_quiet_step (fail))
  refine wpQuietIn_nil ?_
  exact rfl
 intro W55 hW
 replace HLay := Lib.hid (HLay.out.below hW)
 replace HA := Lib.hid ((HA.out.below hW).more hW.size)
 replace HB := Lib.hid ((HB.out.below hW).more hW.size)
 replace HC := Lib.hid ((HC.out.below hW).more hW.size)
 replace HD := Lib.hid ((HD.out.below hW).more hW.size)
 replace HE := Lib.hid ((HE.out.below hW).more hW.size)
 clear hW
 gi_wp2
 have hup : Tr.Up W55 (W55.alloc (.cells #[.int .i64 3, .int .i64 2] 3)) := (Below.refl _ _).alloc (Nat.le_refl _) _
 first | refine ⟨trivial, hup, ?_⟩ | refine ⟨hup, ?_⟩
 clear hup
 obtain ⟨V56, hV⟩ : ∃ V, (W55.alloc (.cells #[.int .i64 3, .int .i64 2] 3)) = V := ⟨_, rfl⟩
 rw [hV]
 have hb := fbox_bel hV
 have hnew := fbox_blk hV
 have hge := HLay.out.bel.size
 replace HLay := Lib.hid (HLay.out.below hb)
 replace HA := Lib.hid ((HA.out.below hb).more hb.size)
 replace HB := Lib.hid ((HB.out.below hb).more hb.size)
 replace HC := Lib.hid ((HC.out.below hb).more hb.size)
 replace HD := Lib.hid ((HD.out.below hb).more hb.size)
 replace HE := Lib.hid ((HE.out.below hb).more hb.size)
 replace HLay := Lib.hid (HLay.out.add hge hnew)
 clear hnew hge hb hV
 obtain ⟨G57, hG⟩ : ∃ g, W55.heap.size = g := ⟨_, rfl⟩
 rw [hG] at HLay ⊢
 clear hG
 replace HLay := Lib.hid (show Lay w V56 [(G6, 34, #[.int .i64 20, .int .i64 140]), (G11, 3, #[.int .i64 1, .int .i64 3]), (G14, 34, #[.int .i64 50, .int .i64 50]), (G22, 34, #[.int .i64 50, .int .i64 70]), (G25, 3, #[.int .i64 2, .int .i64 3]), (G28, 34, #[.int .i64 20, .int .i64 150]), (G31, 3, #[.int .i64 2, .int .i64 3, .int .i64 4]), (G38, 3, #[.int .i64 1, .int .i64 3]), (G45, 3, #[.int .i64 4]), (G50, 3, #[.int .i64 2]), (G57, 3, #[.int .i64 3, .int .i64 2])] from HLay.out)
 refine Tr.wpTree_one (m := []) rfl rfl Gr.Quietly.none ?_
 intro W58 hW
 replace HLay := Lib.hid (HLay.out.below hW)
 replace HA := Lib.hid ((HA.out.below hW).more hW.size)
 replace HB := Lib.hid ((HB.out.below hW).more hW.size)
 replace HC := Lib.hid ((HC.out.below hW).more hW.size)
 replace HD := Lib.hid ((HD.out.below hW).more hW.size)
 replace HE := Lib.hid ((HE.out.below hW).more hW.size)
 clear hW
 gi_wp2
 refine ⟨trivial, (callsIn_wide.2 (is_any AE 2 cAE [3, 2] 0 (some ⟨G57, 0, none⟩) 2 2 [3, 2] W58 (by unfold maxLen; omega) (by unfold maxLen; omega) HE.out (ints_blk2 [3, 2] (HLay.out.blk 10 rfl)))).mono ?_⟩
 rintro e W59 ⟨rfl, hb⟩
 replace HLay := Lib.hid (HLay.out.below hb)
 replace HA := Lib.hid ((HA.out.below hb).more hb.size)
 replace HB := Lib.hid ((HB.out.below hb).more hb.size)
 replace HC := Lib.hid ((HC.out.below hb).more hb.size)
 replace HD := Lib.hid ((HD.out.below hb).more hb.size)
 replace HE := Lib.hid ((HE.out.below hb).more hb.size)
 rw [show (decide ((0 : Int) = 0) && sameI [3, 2] [3, 2]) = true from by decide]
 gi_wp2
 first | refine ⟨trivial, hb, ?_⟩ | refine ⟨hb, ?_⟩
 clear hb
 refine Tr.wpTree_one (A := ?AF9) rfl rfl ?hq9 ?_
 case hq9 =>
  rintro σ hσ of hof hcl
  have HOF := Lib.hid hof
  have HCL := Lib.hid hcl
  clear hof hcl
  have c0_ : ∀ z, (of z).cell? ⟨G6, 0, none⟩ = some (.int .i64 20) := fun z => ((HLay.out.below (HOF.out z)).blk 0 rfl).cell 0
  have c1_ : ∀ z, (of z).cell? ⟨G6, 1, none⟩ = some (.int .i64 140) := fun z => ((HLay.out.below (HOF.out z)).blk 0 rfl).cell 1
  have c2_ : ∀ z, (of z).cell? ⟨G14, 0, none⟩ = some (.int .i64 50) := fun z => ((HLay.out.below (HOF.out z)).blk 2 rfl).cell 0
  have c3_ : ∀ z, (of z).cell? ⟨G14, 1, none⟩ = some (.int .i64 50) := fun z => ((HLay.out.below (HOF.out z)).blk 2 rfl).cell 1
  have c4_ : ∀ z, (of z).cell? ⟨G22, 0, none⟩ = some (.int .i64 50) := fun z => ((HLay.out.below (HOF.out z)).blk 3 rfl).cell 0
  have c5_ : ∀ z, (of z).cell? ⟨G22, 1, none⟩ = some (.int .i64 70) := fun z => ((HLay.out.below (HOF.out z)).blk 3 rfl).cell 1
  have c6_ : ∀ z, (of z).cell? ⟨G28, 0, none⟩ = some (.int .i64 20) := fun z => ((HLay.out.below (HOF.out z)).blk 5 rfl).cell 0
  have c7_ : ∀ z, (of z).cell? ⟨G28, 1, none⟩ = some (.int .i64 150) := fun z => ((HLay.out.below (HOF.out z)).blk 5 rfl).cell 1
  have hfw : ∀ f, Fence.wide.fn f := fun _ => trivial
  simp only [pickB]
  repeat (gi_big_quiet_step (fail))
  refine wpQuietIn_nil ?_
  exact rfl
 intro W60 hW
 replace HLay := Lib.hid (HLay.out.below hW)
 replace HA := Lib.hid ((HA.out.below hW).more hW.size)
 replace HB := Lib.hid ((HB.out.below hW).more hW.size)
 replace HC := Lib.hid ((HC.out.below hW).more hW.size)
 replace HD := Lib.hid ((HD.out.below hW).more hW.size)
 replace HE := Lib.hid ((HE.out.below hW).more hW.size)
 clear hW
 gi_wp2
 refine ⟨trivial, (callsIn_wide.2 (ltoil_any 20 150 W60)).mono ?_⟩
 rintro e W61 ⟨rfl, hb⟩
 replace HLay := Lib.hid (HLay.out.below hb)
 replace HA := Lib.hid ((HA.out.below hb).more hb.size)
 replace HB := Lib.hid ((HB.out.below hb).more hb.size)
 replace HC := Lib.hid ((HC.out.below hb).more hb.size)
 replace HD := Lib.hid ((HD.out.below hb).more hb.size)
 replace HE := Lib.hid ((HE.out.below hb).more hb.size)
 gi_wp2
 first | refine ⟨trivial, hb, ?_⟩ | refine ⟨hb, ?_⟩
 clear hb
 refine Tr.wpTree_end (A := ?AF10) rfl ?hq10 ?_
 case hq10 =>
  rintro σ hσ of hof hcl
  have HOF := Lib.hid hof
  have HCL := Lib.hid hcl
  clear hof hcl
  have c0_ : ∀ z, (of z).cell? ⟨G6, 0, none⟩ = some (.int .i64 20) := fun z => ((HLay.out.below (HOF.out z)).blk 0 rfl).cell 0
  have c1_ : ∀ z, (of z).cell? ⟨G6, 1, none⟩ = some (.int .i64 140) := fun z => ((HLay.out.below (HOF.out z)).blk 0 rfl).cell 1
  have c2_ : ∀ z, (of z).cell? ⟨G14, 0, none⟩ = some (.int .i64 50) := fun z => ((HLay.out.below (HOF.out z)).blk 2 rfl).cell 0
  have c3_ : ∀ z, (of z).cell? ⟨G14, 1, none⟩ = some (.int .i64 50) := fun z => ((HLay.out.below (HOF.out z)).blk 2 rfl).cell 1
  have c4_ : ∀ z, (of z).cell? ⟨G22, 0, none⟩ = some (.int .i64 50) := fun z => ((HLay.out.below (HOF.out z)).blk 3 rfl).cell 0
  have c5_ : ∀ z, (of z).cell? ⟨G22, 1, none⟩ = some (.int .i64 70) := fun z => ((HLay.out.below (HOF.out z)).blk 3 rfl).cell 1
  have c6_ : ∀ z, (of z).cell? ⟨G28, 0, none⟩ = some (.int .i64 20) := fun z => ((HLay.out.below (HOF.out z)).blk 5 rfl).cell 0
  have c7_ : ∀ z, (of z).cell? ⟨G28, 1, none⟩ = some (.int .i64 150) := fun z => ((HLay.out.below (HOF.out z)).blk 5 rfl).cell 1
  have hfw : ∀ f, Fence.wide.fn f := fun _ => trivial
  simp only [pickB]
  repeat (gi_big_quiet_step (fail))
  refine wpQuietIn_nil ?_
  exact rfl
 intro W62 hW
 replace HLay := Lib.hid (HLay.out.below hW)
 replace HA := Lib.hid ((HA.out.below hW).more hW.size)
 replace HB := Lib.hid ((HB.out.below hW).more hW.size)
 replace HC := Lib.hid ((HC.out.below hW).more hW.size)
 replace HD := Lib.hid ((HD.out.below hW).more hW.size)
 replace HE := Lib.hid ((HE.out.below hW).more hW.size)
 clear hW
 simp only [pickB]
 refine wpT_nil ?_
 gi_wp2
 clear HA HB HC HD HE
 refine ⟨trivial, (callsIn_wide.2 (town_any W62)).mono ?_⟩
 rintro e W63 ⟨g, g2, rfl, ht, hb⟩
 replace HLay := Lib.hid (HLay.out.below hb)
 clear hb
 have HTn := Lib.hid ht
 clear ht
 gi_wp2
 obtain ⟨V64, hV⟩ : ∃ V, (W63.alloc (.cells #[.int .i64 2, .int .i64 3] 3)) = V := ⟨_, rfl⟩
 rw [hV]
 have hb := fbox_bel hV
 have hnew := fbox_blk hV
 have hge := HLay.out.bel.size
 replace HLay := Lib.hid (HLay.out.below hb)
 replace HTn := Lib.hid ((HTn.out.below hb).more hb.size)
 replace HLay := Lib.hid (HLay.out.add hge hnew)
 clear hnew hge hb hV
 obtain ⟨G65, hG⟩ : ∃ g, W63.heap.size = g := ⟨_, rfl⟩
 rw [hG] at HLay ⊢
 clear hG
 replace HLay := Lib.hid (show Lay w V64 [(G6, 34, #[.int .i64 20, .int .i64 140]), (G11, 3, #[.int .i64 1, .int .i64 3]), (G14, 34, #[.int .i64 50, .int .i64 50]), (G22, 34, #[.int .i64 50, .int .i64 70]), (G25, 3, #[.int .i64 2, .int .i64 3]), (G28, 34, #[.int .i64 20, .int .i64 150]), (G31, 3, #[.int .i64 2, .int .i64 3, .int .i64 4]), (G38, 3, #[.int .i64 1, .int .i64 3]), (G45, 3, #[.int .i64 4]), (G50, 3, #[.int .i64 2]), (G57, 3, #[.int .i64 3, .int .i64 2]), (G65, 3, #[.int .i64 2, .int .i64 3])] from HLay.out)
 gi_wp2
 refine ⟨trivial, (callsIn_wide.2 (order_any (some ⟨g, 0, none⟩) 4 4 (some ⟨g2, 0, none⟩) 4 4 exT 1 (some ⟨G65, 0, none⟩) 2 2 [2, 3] false V64 (by omega) (by omega) (by omega) HTn.out (ints_blk2 [2, 3] (HLay.out.blk 11 rfl)) (HL.out.below HLay.out.bel hl0))).mono ?_⟩
 rintro e W66 ⟨rfl, hb⟩
 replace HLay := Lib.hid (HLay.out.below hb)
 replace HTn := Lib.hid ((HTn.out.below hb).more hb.size)
 clear hb
 rw [ex_order.1, ex_order.2]
 clear HTn
 gi_wp2
 obtain ⟨V67, hV⟩ : ∃ V, (W66.alloc (.cells #[.int .i64 20, .int .i64 220] 34)) = V := ⟨_, rfl⟩
 rw [hV]
 have hb := fbox_bel hV
 have hnew := fbox_blk hV
 have hge := HLay.out.bel.size
 replace HLay := Lib.hid (HLay.out.below hb)
 replace HLay := Lib.hid (HLay.out.add hge hnew)
 clear hnew hge hb hV
 obtain ⟨G68, hG⟩ : ∃ g, W66.heap.size = g := ⟨_, rfl⟩
 rw [hG] at HLay ⊢
 clear hG
 replace HLay := Lib.hid (show Lay w V67 [(G6, 34, #[.int .i64 20, .int .i64 140]), (G11, 3, #[.int .i64 1, .int .i64 3]), (G14, 34, #[.int .i64 50, .int .i64 50]), (G22, 34, #[.int .i64 50, .int .i64 70]), (G25, 3, #[.int .i64 2, .int .i64 3]), (G28, 34, #[.int .i64 20, .int .i64 150]), (G31, 3, #[.int .i64 2, .int .i64 3, .int .i64 4]), (G38, 3, #[.int .i64 1, .int .i64 3]), (G45, 3, #[.int .i64 4]), (G50, 3, #[.int .i64 2]), (G57, 3, #[.int .i64 3, .int .i64 2]), (G65, 3, #[.int .i64 2, .int .i64 3]), (G68, 34, #[.int .i64 20, .int .i64 220])] from HLay.out)
 have x12_0 := (HLay.out.blk 12 rfl).cell 0
 have x12_1 := (HLay.out.blk 12 rfl).cell 1
 have l12_ := HLay.out.lt 12 rfl
 gi_wp2
 clear x12_0 x12_1 l12_
 refine ⟨trivial, (callsIn_wide.2 (town_any V67)).mono ?_⟩
 rintro e W69 ⟨g, g2, rfl, ht, hb⟩
 replace HLay := Lib.hid (HLay.out.below hb)
 clear hb
 have HTn := Lib.hid ht
 clear ht
 gi_wp2
 refine ⟨trivial, (callsIn_wide.2 (lskin_any W69)).mono ?_⟩
 rintro e W70 ⟨rfl, hb⟩
 replace HLay := Lib.hid (HLay.out.below hb)
 replace HTn := Lib.hid ((HTn.out.below hb).more hb.size)
 clear hb
 gi_wp2
 obtain ⟨V71, hV⟩ : ∃ V, (W70.alloc (.cells #[.int .i64 2, .int .i64 3, .int .i64 4] 3)) = V := ⟨_, rfl⟩
 rw [hV]
 have hb := fbox_bel hV
 have hnew := fbox_blk hV
 have hge := HLay.out.bel.size
 replace HLay := Lib.hid (HLay.out.below hb)
 replace HTn := Lib.hid ((HTn.out.below hb).more hb.size)
 replace HLay := Lib.hid (HLay.out.add hge hnew)
 clear hnew hge hb hV
 obtain ⟨G72, hG⟩ : ∃ g, W70.heap.size = g := ⟨_, rfl⟩
 rw [hG] at HLay ⊢
 clear hG
 replace HLay := Lib.hid (show Lay w V71 [(G6, 34, #[.int .i64 20, .int .i64 140]), (G11, 3, #[.int .i64 1, .int .i64 3]), (G14, 34, #[.int .i64 50, .int .i64 50]), (G22, 34, #[.int .i64 50, .int .i64 70]), (G25, 3, #[.int .i64 2, .int .i64 3]), (G28, 34, #[.int .i64 20, .int .i64 150]), (G31, 3, #[.int .i64 2, .int .i64 3, .int .i64 4]), (G38, 3, #[.int .i64 1, .int .i64 3]), (G45, 3, #[.int .i64 4]), (G50, 3, #[.int .i64 2]), (G57, 3, #[.int .i64 3, .int .i64 2]), (G65, 3, #[.int .i64 2, .int .i64 3]), (G68, 34, #[.int .i64 20, .int .i64 220]), (G72, 3, #[.int .i64 2, .int .i64 3, .int .i64 4])] from HLay.out)
 have x12_0 := (HLay.out.blk 12 rfl).cell 0
 have x12_1 := (HLay.out.blk 12 rfl).cell 1
 have l12_ := HLay.out.lt 12 rfl
 gi_wp2
 clear x12_0 x12_1 l12_
 refine ⟨trivial, (callsIn_wide.2 (end_any (some ⟨g, 0, none⟩) 4 4 (some ⟨g2, 0, none⟩) 4 4 exT exS 1 (some ⟨G72, 0, none⟩) 3 3 [2, 3, 4] V71 (by omega) (by omega) (by omega) HTn.out (ints_blk2 [2, 3, 4] (HLay.out.blk 13 rfl)) (HL.out.below HLay.out.bel hl0))).mono ?_⟩
 rintro e W73 ⟨rfl, hb⟩
 replace HLay := Lib.hid (HLay.out.below hb)
 replace HTn := Lib.hid ((HTn.out.below hb).more hb.size)
 clear hb
 rw [ex_end.1, ex_end.2]
 clear HTn
 have x12_0 := (HLay.out.blk 12 rfl).cell 0
 have x12_1 := (HLay.out.blk 12 rfl).cell 1
 have l12_ := HLay.out.lt 12 rfl
 gi_wp2
 clear x12_0 x12_1 l12_
 obtain ⟨V74, hV⟩ : ∃ V, (W73.alloc (.cells #[.int .i64 660, .int .i64 860] 63)) = V := ⟨_, rfl⟩
 rw [hV]
 have hb := fbox_bel hV
 have hnew := fbox_blk hV
 have hge := HLay.out.bel.size
 replace HLay := Lib.hid (HLay.out.below hb)
 replace HLay := Lib.hid (HLay.out.add hge hnew)
 clear hnew hge hb hV
 obtain ⟨G75, hG⟩ : ∃ g, W73.heap.size = g := ⟨_, rfl⟩
 rw [hG] at HLay ⊢
 clear hG
 replace HLay := Lib.hid (show Lay w V74 [(G6, 34, #[.int .i64 20, .int .i64 140]), (G11, 3, #[.int .i64 1, .int .i64 3]), (G14, 34, #[.int .i64 50, .int .i64 50]), (G22, 34, #[.int .i64 50, .int .i64 70]), (G25, 3, #[.int .i64 2, .int .i64 3]), (G28, 34, #[.int .i64 20, .int .i64 150]), (G31, 3, #[.int .i64 2, .int .i64 3, .int .i64 4]), (G38, 3, #[.int .i64 1, .int .i64 3]), (G45, 3, #[.int .i64 4]), (G50, 3, #[.int .i64 2]), (G57, 3, #[.int .i64 3, .int .i64 2]), (G65, 3, #[.int .i64 2, .int .i64 3]), (G68, 34, #[.int .i64 20, .int .i64 220]), (G72, 3, #[.int .i64 2, .int .i64 3, .int .i64 4]), (G75, 63, #[.int .i64 660, .int .i64 860])] from HLay.out)
 have x12_0 := (HLay.out.blk 12 rfl).cell 0
 have x12_1 := (HLay.out.blk 12 rfl).cell 1
 have l12_ := HLay.out.lt 12 rfl
 have x14_0 := (HLay.out.blk 14 rfl).cell 0
 have x14_1 := (HLay.out.blk 14 rfl).cell 1
 have l14_ := HLay.out.lt 14 rfl
 gi_wp2
 clear x12_0 x12_1 l12_ x14_0 x14_1 l14_
 refine ⟨trivial, (callsIn_wide.2 (town_any V74)).mono ?_⟩
 rintro e W76 ⟨g, g2, rfl, ht, hb⟩
 replace HLay := Lib.hid (HLay.out.below hb)
 clear hb
 have HTn := Lib.hid ht
 clear ht
 gi_wp2
 refine ⟨trivial, (callsIn_wide.2 (lskin_any W76)).mono ?_⟩
 rintro e W77 ⟨rfl, hb⟩
 replace HLay := Lib.hid (HLay.out.below hb)
 replace HTn := Lib.hid ((HTn.out.below hb).more hb.size)
 clear hb
 gi_wp2
 refine ⟨trivial, (callsIn_wide.2 (wet_any (some ⟨g, 0, none⟩) 4 4 (some ⟨g2, 0, none⟩) 4 4 exT exS 1 4 false W77 (by omega) (by omega) HTn.out (HL.out.below HLay.out.bel hl0))).mono ?_⟩
 rintro e W78 ⟨AF, nAF, cAF, rfl, hi, hb⟩
 replace HLay := Lib.hid (HLay.out.below hb)
 replace HTn := Lib.hid ((HTn.out.below hb).more hb.size)
 clear hb
 rw [ex_wet] at hi ⊢
 obtain rfl : nAF = 2 := by have := hi.len; simpa using this.symm
 have HF := Lib.hid hi
 clear hi
 clear HTn
 have x12_0 := (HLay.out.blk 12 rfl).cell 0
 have x12_1 := (HLay.out.blk 12 rfl).cell 1
 have l12_ := HLay.out.lt 12 rfl
 have x14_0 := (HLay.out.blk 14 rfl).cell 0
 have x14_1 := (HLay.out.blk 14 rfl).cell 1
 have l14_ := HLay.out.lt 14 rfl
 gi_wp2
 clear x12_0 x12_1 l12_ x14_0 x14_1 l14_
 refine ⟨trivial, (callsIn_wide.2 (town_any W78)).mono ?_⟩
 rintro e W79 ⟨g, g2, rfl, ht, hb⟩
 replace HLay := Lib.hid (HLay.out.below hb)
 replace HF := Lib.hid ((HF.out.below hb).more hb.size)
 clear hb
 have HTn := Lib.hid ht
 clear ht
 gi_wp2
 refine ⟨trivial, (callsIn_wide.2 (lgait_any W79)).mono ?_⟩
 rintro e W80 ⟨rfl, hb⟩
 replace HLay := Lib.hid (HLay.out.below hb)
 replace HF := Lib.hid ((HF.out.below hb).more hb.size)
 replace HTn := Lib.hid ((HTn.out.below hb).more hb.size)
 clear hb
 gi_wp2
 obtain ⟨V81, hV⟩ : ∃ V, (W80.alloc (.cells #[.int .i64 2, .int .i64 3, .int .i64 4] 3)) = V := ⟨_, rfl⟩
 rw [hV]
 have hb := fbox_bel hV
 have hnew := fbox_blk hV
 have hge := HLay.out.bel.size
 replace HLay := Lib.hid (HLay.out.below hb)
 replace HF := Lib.hid ((HF.out.below hb).more hb.size)
 replace HTn := Lib.hid ((HTn.out.below hb).more hb.size)
 replace HLay := Lib.hid (HLay.out.add hge hnew)
 clear hnew hge hb hV
 obtain ⟨G82, hG⟩ : ∃ g, W80.heap.size = g := ⟨_, rfl⟩
 rw [hG] at HLay ⊢
 clear hG
 replace HLay := Lib.hid (show Lay w V81 [(G6, 34, #[.int .i64 20, .int .i64 140]), (G11, 3, #[.int .i64 1, .int .i64 3]), (G14, 34, #[.int .i64 50, .int .i64 50]), (G22, 34, #[.int .i64 50, .int .i64 70]), (G25, 3, #[.int .i64 2, .int .i64 3]), (G28, 34, #[.int .i64 20, .int .i64 150]), (G31, 3, #[.int .i64 2, .int .i64 3, .int .i64 4]), (G38, 3, #[.int .i64 1, .int .i64 3]), (G45, 3, #[.int .i64 4]), (G50, 3, #[.int .i64 2]), (G57, 3, #[.int .i64 3, .int .i64 2]), (G65, 3, #[.int .i64 2, .int .i64 3]), (G68, 34, #[.int .i64 20, .int .i64 220]), (G72, 3, #[.int .i64 2, .int .i64 3, .int .i64 4]), (G75, 63, #[.int .i64 660, .int .i64 860]), (G82, 3, #[.int .i64 2, .int .i64 3, .int .i64 4])] from HLay.out)
 have x12_0 := (HLay.out.blk 12 rfl).cell 0
 have x12_1 := (HLay.out.blk 12 rfl).cell 1
 have l12_ := HLay.out.lt 12 rfl
 have x14_0 := (HLay.out.blk 14 rfl).cell 0
 have x14_1 := (HLay.out.blk 14 rfl).cell 1
 have l14_ := HLay.out.lt 14 rfl
 gi_wp2
 clear x12_0 x12_1 l12_ x14_0 x14_1 l14_
 refine ⟨trivial, (callsIn_wide.2 (seconds_any (some ⟨g, 0, none⟩) 4 4 (some ⟨g2, 0, none⟩) 4 4 exT exG 1 (some ⟨G82, 0, none⟩) 3 3 [2, 3, 4] V81 (by omega) (by omega) (by omega) HTn.out (ints_blk2 [2, 3, 4] (HLay.out.blk 15 rfl)) (HL.out.below HLay.out.bel hl0))).mono ?_⟩
 rintro e W83 ⟨rfl, hb⟩
 replace HLay := Lib.hid (HLay.out.below hb)
 replace HF := Lib.hid ((HF.out.below hb).more hb.size)
 replace HTn := Lib.hid ((HTn.out.below hb).more hb.size)
 clear hb
 rw [ex_sec.1, ex_sec.2]
 clear HTn
 have x12_0 := (HLay.out.blk 12 rfl).cell 0
 have x12_1 := (HLay.out.blk 12 rfl).cell 1
 have l12_ := HLay.out.lt 12 rfl
 have x14_0 := (HLay.out.blk 14 rfl).cell 0
 have x14_1 := (HLay.out.blk 14 rfl).cell 1
 have l14_ := HLay.out.lt 14 rfl
 gi_wp2
 clear x12_0 x12_1 l12_ x14_0 x14_1 l14_
 obtain ⟨V84, hV⟩ : ∃ V, (W83.alloc (.cells #[.int .i64 180, .int .i64 340] 63)) = V := ⟨_, rfl⟩
 rw [hV]
 have hb := fbox_bel hV
 have hnew := fbox_blk hV
 have hge := HLay.out.bel.size
 replace HLay := Lib.hid (HLay.out.below hb)
 replace HF := Lib.hid ((HF.out.below hb).more hb.size)
 replace HLay := Lib.hid (HLay.out.add hge hnew)
 clear hnew hge hb hV
 obtain ⟨G85, hG⟩ : ∃ g, W83.heap.size = g := ⟨_, rfl⟩
 rw [hG] at HLay ⊢
 clear hG
 replace HLay := Lib.hid (show Lay w V84 [(G6, 34, #[.int .i64 20, .int .i64 140]), (G11, 3, #[.int .i64 1, .int .i64 3]), (G14, 34, #[.int .i64 50, .int .i64 50]), (G22, 34, #[.int .i64 50, .int .i64 70]), (G25, 3, #[.int .i64 2, .int .i64 3]), (G28, 34, #[.int .i64 20, .int .i64 150]), (G31, 3, #[.int .i64 2, .int .i64 3, .int .i64 4]), (G38, 3, #[.int .i64 1, .int .i64 3]), (G45, 3, #[.int .i64 4]), (G50, 3, #[.int .i64 2]), (G57, 3, #[.int .i64 3, .int .i64 2]), (G65, 3, #[.int .i64 2, .int .i64 3]), (G68, 34, #[.int .i64 20, .int .i64 220]), (G72, 3, #[.int .i64 2, .int .i64 3, .int .i64 4]), (G75, 63, #[.int .i64 660, .int .i64 860]), (G82, 3, #[.int .i64 2, .int .i64 3, .int .i64 4]), (G85, 63, #[.int .i64 180, .int .i64 340])] from HLay.out)
 have x12_0 := (HLay.out.blk 12 rfl).cell 0
 have x12_1 := (HLay.out.blk 12 rfl).cell 1
 have l12_ := HLay.out.lt 12 rfl
 have x14_0 := (HLay.out.blk 14 rfl).cell 0
 have x14_1 := (HLay.out.blk 14 rfl).cell 1
 have l14_ := HLay.out.lt 14 rfl
 have x16_0 := (HLay.out.blk 16 rfl).cell 0
 have x16_1 := (HLay.out.blk 16 rfl).cell 1
 have l16_ := HLay.out.lt 16 rfl
 gi_wp2
 clear x12_0 x12_1 l12_ x14_0 x14_1 l14_ x16_0 x16_1 l16_
 refine ⟨trivial, (callsIn_wide.2 (town_any V84)).mono ?_⟩
 rintro e W86 ⟨g, g2, rfl, ht, hb⟩
 replace HLay := Lib.hid (HLay.out.below hb)
 replace HF := Lib.hid ((HF.out.below hb).more hb.size)
 clear hb
 have HTn := Lib.hid ht
 clear ht
 gi_wp2
 refine ⟨trivial, (callsIn_wide.2 (lgait_any W86)).mono ?_⟩
 rintro e W87 ⟨rfl, hb⟩
 replace HLay := Lib.hid (HLay.out.below hb)
 replace HF := Lib.hid ((HF.out.below hb).more hb.size)
 replace HTn := Lib.hid ((HTn.out.below hb).more hb.size)
 clear hb
 gi_wp2
 refine ⟨trivial, (callsIn_wide.2 (minutes_any (some ⟨g, 0, none⟩) 4 4 (some ⟨g2, 0, none⟩) 4 4 exT exG 1 4 false W87 (by omega) (by omega) HTn.out (HL.out.below HLay.out.bel hl0))).mono ?_⟩
 rintro e W88 ⟨rfl, hb⟩
 replace HLay := Lib.hid (HLay.out.below hb)
 replace HF := Lib.hid ((HF.out.below hb).more hb.size)
 replace HTn := Lib.hid ((HTn.out.below hb).more hb.size)
 clear hb
 rw [ex_min.1, ex_min.2]
 clear HTn
 have x12_0 := (HLay.out.blk 12 rfl).cell 0
 have x12_1 := (HLay.out.blk 12 rfl).cell 1
 have l12_ := HLay.out.lt 12 rfl
 have x14_0 := (HLay.out.blk 14 rfl).cell 0
 have x14_1 := (HLay.out.blk 14 rfl).cell 1
 have l14_ := HLay.out.lt 14 rfl
 have x16_0 := (HLay.out.blk 16 rfl).cell 0
 have x16_1 := (HLay.out.blk 16 rfl).cell 1
 have l16_ := HLay.out.lt 16 rfl
 gi_wp2
 clear x12_0 x12_1 l12_ x14_0 x14_1 l14_ x16_0 x16_1 l16_
 obtain ⟨V89, hV⟩ : ∃ V, (W88.alloc (.cells #[.int .i64 3, .int .i64 6] 63)) = V := ⟨_, rfl⟩
 rw [hV]
 have hb := fbox_bel hV
 have hnew := fbox_blk hV
 have hge := HLay.out.bel.size
 replace HLay := Lib.hid (HLay.out.below hb)
 replace HF := Lib.hid ((HF.out.below hb).more hb.size)
 replace HLay := Lib.hid (HLay.out.add hge hnew)
 clear hnew hge hb hV
 obtain ⟨G90, hG⟩ : ∃ g, W88.heap.size = g := ⟨_, rfl⟩
 rw [hG] at HLay ⊢
 clear hG
 replace HLay := Lib.hid (show Lay w V89 [(G6, 34, #[.int .i64 20, .int .i64 140]), (G11, 3, #[.int .i64 1, .int .i64 3]), (G14, 34, #[.int .i64 50, .int .i64 50]), (G22, 34, #[.int .i64 50, .int .i64 70]), (G25, 3, #[.int .i64 2, .int .i64 3]), (G28, 34, #[.int .i64 20, .int .i64 150]), (G31, 3, #[.int .i64 2, .int .i64 3, .int .i64 4]), (G38, 3, #[.int .i64 1, .int .i64 3]), (G45, 3, #[.int .i64 4]), (G50, 3, #[.int .i64 2]), (G57, 3, #[.int .i64 3, .int .i64 2]), (G65, 3, #[.int .i64 2, .int .i64 3]), (G68, 34, #[.int .i64 20, .int .i64 220]), (G72, 3, #[.int .i64 2, .int .i64 3, .int .i64 4]), (G75, 63, #[.int .i64 660, .int .i64 860]), (G82, 3, #[.int .i64 2, .int .i64 3, .int .i64 4]), (G85, 63, #[.int .i64 180, .int .i64 340]), (G90, 63, #[.int .i64 3, .int .i64 6])] from HLay.out)
 have x12_0 := (HLay.out.blk 12 rfl).cell 0
 have x12_1 := (HLay.out.blk 12 rfl).cell 1
 have l12_ := HLay.out.lt 12 rfl
 have x14_0 := (HLay.out.blk 14 rfl).cell 0
 have x14_1 := (HLay.out.blk 14 rfl).cell 1
 have l14_ := HLay.out.lt 14 rfl
 have x16_0 := (HLay.out.blk 16 rfl).cell 0
 have x16_1 := (HLay.out.blk 16 rfl).cell 1
 have l16_ := HLay.out.lt 16 rfl
 have x17_0 := (HLay.out.blk 17 rfl).cell 0
 have x17_1 := (HLay.out.blk 17 rfl).cell 1
 have l17_ := HLay.out.lt 17 rfl
 gi_wp2
 clear x12_0 x12_1 l12_ x14_0 x14_1 l14_ x16_0 x16_1 l16_ x17_0 x17_1 l17_
 refine ⟨trivial, (callsIn_wide.2 (town_any V89)).mono ?_⟩
 rintro e W91 ⟨g, g2, rfl, ht, hb⟩
 replace HLay := Lib.hid (HLay.out.below hb)
 replace HF := Lib.hid ((HF.out.below hb).more hb.size)
 clear hb
 have HTn := Lib.hid ht
 clear ht
 gi_wp2
 refine ⟨trivial, (callsIn_wide.2 (lgait_any W91)).mono ?_⟩
 rintro e W92 ⟨rfl, hb⟩
 replace HLay := Lib.hid (HLay.out.below hb)
 replace HF := Lib.hid ((HF.out.below hb).more hb.size)
 replace HTn := Lib.hid ((HTn.out.below hb).more hb.size)
 clear hb
 gi_wp2
 refine ⟨trivial, (callsIn_wide.2 (quick_any (some ⟨g, 0, none⟩) 4 4 (some ⟨g2, 0, none⟩) 4 4 exT exG 1 4 false W92 (by omega) (by omega) HTn.out (HL.out.below HLay.out.bel hl0))).mono ?_⟩
 rintro e W93 ⟨AG, nAG, cAG, rfl, hi, hb⟩
 replace HLay := Lib.hid (HLay.out.below hb)
 replace HF := Lib.hid ((HF.out.below hb).more hb.size)
 replace HTn := Lib.hid ((HTn.out.below hb).more hb.size)
 clear hb
 rw [ex_quick] at hi ⊢
 obtain rfl : nAG = 2 := by have := hi.len; simpa using this.symm
 have HG := Lib.hid hi
 clear hi
 clear HTn
 have x12_0 := (HLay.out.blk 12 rfl).cell 0
 have x12_1 := (HLay.out.blk 12 rfl).cell 1
 have l12_ := HLay.out.lt 12 rfl
 have x14_0 := (HLay.out.blk 14 rfl).cell 0
 have x14_1 := (HLay.out.blk 14 rfl).cell 1
 have l14_ := HLay.out.lt 14 rfl
 have x16_0 := (HLay.out.blk 16 rfl).cell 0
 have x16_1 := (HLay.out.blk 16 rfl).cell 1
 have l16_ := HLay.out.lt 16 rfl
 have x17_0 := (HLay.out.blk 17 rfl).cell 0
 have x17_1 := (HLay.out.blk 17 rfl).cell 1
 have l17_ := HLay.out.lt 17 rfl
 gi_wp2
 clear x12_0 x12_1 l12_ x14_0 x14_1 l14_ x16_0 x16_1 l16_ x17_0 x17_1 l17_
 obtain ⟨V94, hV⟩ : ∃ V, (W93.alloc (.cells #[.int .i64 170, .int .i64 290] 63)) = V := ⟨_, rfl⟩
 rw [hV]
 have hb := fbox_bel hV
 have hnew := fbox_blk hV
 have hge := HLay.out.bel.size
 replace HLay := Lib.hid (HLay.out.below hb)
 replace HF := Lib.hid ((HF.out.below hb).more hb.size)
 replace HG := Lib.hid ((HG.out.below hb).more hb.size)
 replace HLay := Lib.hid (HLay.out.add hge hnew)
 clear hnew hge hb hV
 obtain ⟨G95, hG⟩ : ∃ g, W93.heap.size = g := ⟨_, rfl⟩
 rw [hG] at HLay ⊢
 clear hG
 replace HLay := Lib.hid (show Lay w V94 [(G6, 34, #[.int .i64 20, .int .i64 140]), (G11, 3, #[.int .i64 1, .int .i64 3]), (G14, 34, #[.int .i64 50, .int .i64 50]), (G22, 34, #[.int .i64 50, .int .i64 70]), (G25, 3, #[.int .i64 2, .int .i64 3]), (G28, 34, #[.int .i64 20, .int .i64 150]), (G31, 3, #[.int .i64 2, .int .i64 3, .int .i64 4]), (G38, 3, #[.int .i64 1, .int .i64 3]), (G45, 3, #[.int .i64 4]), (G50, 3, #[.int .i64 2]), (G57, 3, #[.int .i64 3, .int .i64 2]), (G65, 3, #[.int .i64 2, .int .i64 3]), (G68, 34, #[.int .i64 20, .int .i64 220]), (G72, 3, #[.int .i64 2, .int .i64 3, .int .i64 4]), (G75, 63, #[.int .i64 660, .int .i64 860]), (G82, 3, #[.int .i64 2, .int .i64 3, .int .i64 4]), (G85, 63, #[.int .i64 180, .int .i64 340]), (G90, 63, #[.int .i64 3, .int .i64 6]), (G95, 63, #[.int .i64 170, .int .i64 290])] from HLay.out)
 have x12_0 := (HLay.out.blk 12 rfl).cell 0
 have x12_1 := (HLay.out.blk 12 rfl).cell 1
 have l12_ := HLay.out.lt 12 rfl
 have x14_0 := (HLay.out.blk 14 rfl).cell 0
 have x14_1 := (HLay.out.blk 14 rfl).cell 1
 have l14_ := HLay.out.lt 14 rfl
 have x16_0 := (HLay.out.blk 16 rfl).cell 0
 have x16_1 := (HLay.out.blk 16 rfl).cell 1
 have l16_ := HLay.out.lt 16 rfl
 have x17_0 := (HLay.out.blk 17 rfl).cell 0
 have x17_1 := (HLay.out.blk 17 rfl).cell 1
 have l17_ := HLay.out.lt 17 rfl
 have x18_0 := (HLay.out.blk 18 rfl).cell 0
 have x18_1 := (HLay.out.blk 18 rfl).cell 1
 have l18_ := HLay.out.lt 18 rfl
 gi_wp2
 clear x12_0 x12_1 l12_ x14_0 x14_1 l14_ x16_0 x16_1 l16_ x17_0 x17_1 l17_ x18_0 x18_1 l18_
 refine ⟨trivial, (callsIn_wide.2 (town_any V94)).mono ?_⟩
 rintro e W96 ⟨g, g2, rfl, ht, hb⟩
 replace HLay := Lib.hid (HLay.out.below hb)
 replace HF := Lib.hid ((HF.out.below hb).more hb.size)
 replace HG := Lib.hid ((HG.out.below hb).more hb.size)
 clear hb
 have HTn := Lib.hid ht
 clear ht
 gi_wp2
 obtain ⟨V97, hV⟩ : ∃ V, (W96.alloc (.cells #[.int .i64 2, .int .i64 3] 3)) = V := ⟨_, rfl⟩
 rw [hV]
 have hb := fbox_bel hV
 have hnew := fbox_blk hV
 have hge := HLay.out.bel.size
 replace HLay := Lib.hid (HLay.out.below hb)
 replace HF := Lib.hid ((HF.out.below hb).more hb.size)
 replace HG := Lib.hid ((HG.out.below hb).more hb.size)
 replace HTn := Lib.hid ((HTn.out.below hb).more hb.size)
 replace HLay := Lib.hid (HLay.out.add hge hnew)
 clear hnew hge hb hV
 obtain ⟨G98, hG⟩ : ∃ g, W96.heap.size = g := ⟨_, rfl⟩
 rw [hG] at HLay ⊢
 clear hG
 replace HLay := Lib.hid (show Lay w V97 [(G6, 34, #[.int .i64 20, .int .i64 140]), (G11, 3, #[.int .i64 1, .int .i64 3]), (G14, 34, #[.int .i64 50, .int .i64 50]), (G22, 34, #[.int .i64 50, .int .i64 70]), (G25, 3, #[.int .i64 2, .int .i64 3]), (G28, 34, #[.int .i64 20, .int .i64 150]), (G31, 3, #[.int .i64 2, .int .i64 3, .int .i64 4]), (G38, 3, #[.int .i64 1, .int .i64 3]), (G45, 3, #[.int .i64 4]), (G50, 3, #[.int .i64 2]), (G57, 3, #[.int .i64 3, .int .i64 2]), (G65, 3, #[.int .i64 2, .int .i64 3]), (G68, 34, #[.int .i64 20, .int .i64 220]), (G72, 3, #[.int .i64 2, .int .i64 3, .int .i64 4]), (G75, 63, #[.int .i64 660, .int .i64 860]), (G82, 3, #[.int .i64 2, .int .i64 3, .int .i64 4]), (G85, 63, #[.int .i64 180, .int .i64 340]), (G90, 63, #[.int .i64 3, .int .i64 6]), (G95, 63, #[.int .i64 170, .int .i64 290]), (G98, 3, #[.int .i64 2, .int .i64 3])] from HLay.out)
 have x12_0 := (HLay.out.blk 12 rfl).cell 0
 have x12_1 := (HLay.out.blk 12 rfl).cell 1
 have l12_ := HLay.out.lt 12 rfl
 have x14_0 := (HLay.out.blk 14 rfl).cell 0
 have x14_1 := (HLay.out.blk 14 rfl).cell 1
 have l14_ := HLay.out.lt 14 rfl
 have x16_0 := (HLay.out.blk 16 rfl).cell 0
 have x16_1 := (HLay.out.blk 16 rfl).cell 1
 have l16_ := HLay.out.lt 16 rfl
 have x17_0 := (HLay.out.blk 17 rfl).cell 0
 have x17_1 := (HLay.out.blk 17 rfl).cell 1
 have l17_ := HLay.out.lt 17 rfl
 have x18_0 := (HLay.out.blk 18 rfl).cell 0
 have x18_1 := (HLay.out.blk 18 rfl).cell 1
 have l18_ := HLay.out.lt 18 rfl
 gi_wp2
 clear x12_0 x12_1 l12_ x14_0 x14_1 l14_ x16_0 x16_1 l16_ x17_0 x17_1 l17_ x18_0 x18_1 l18_
 refine ⟨trivial, (callsIn_wide.2 (close_any (some ⟨g, 0, none⟩) 4 4 (some ⟨g2, 0, none⟩) 4 4 exT (some ⟨G98, 0, none⟩) 2 2 [2, 3] V97 (by omega) (by omega) (by omega) HTn.out (ints_blk2 [2, 3] (HLay.out.blk 19 rfl)) (HL.out.below HLay.out.bel hl0))).mono ?_⟩
 rintro e W99 ⟨AZ, cZ, AY, cY, rfl, _, _, _, hb⟩
 replace HLay := Lib.hid (HLay.out.below hb)
 replace HF := Lib.hid ((HF.out.below hb).more hb.size)
 replace HG := Lib.hid ((HG.out.below hb).more hb.size)
 replace HTn := Lib.hid ((HTn.out.below hb).more hb.size)
 clear hb
 rw [ex_close.1, ex_close.2]
 obtain ⟨zp, hzp⟩ : ∃ zp, (closeT exT [2, 3]).places.length = zp := ⟨_, rfl⟩
 rw [hzp]
 clear hzp
 clear HTn
 have x12_0 := (HLay.out.blk 12 rfl).cell 0
 have x12_1 := (HLay.out.blk 12 rfl).cell 1
 have l12_ := HLay.out.lt 12 rfl
 have x14_0 := (HLay.out.blk 14 rfl).cell 0
 have x14_1 := (HLay.out.blk 14 rfl).cell 1
 have l14_ := HLay.out.lt 14 rfl
 have x16_0 := (HLay.out.blk 16 rfl).cell 0
 have x16_1 := (HLay.out.blk 16 rfl).cell 1
 have l16_ := HLay.out.lt 16 rfl
 have x17_0 := (HLay.out.blk 17 rfl).cell 0
 have x17_1 := (HLay.out.blk 17 rfl).cell 1
 have l17_ := HLay.out.lt 17 rfl
 have x18_0 := (HLay.out.blk 18 rfl).cell 0
 have x18_1 := (HLay.out.blk 18 rfl).cell 1
 have l18_ := HLay.out.lt 18 rfl
 gi_wp2
 clear x12_0 x12_1 l12_ x14_0 x14_1 l14_ x16_0 x16_1 l16_ x17_0 x17_1 l17_ x18_0 x18_1 l18_
 obtain ⟨V100, hV⟩ : ∃ V, (W99.alloc (.cells #[.slice AZ zp cZ, .slice AY 2 cY] 25)) = V := ⟨_, rfl⟩
 rw [hV]
 have hb := fbox_bel hV
 have hnew := fbox_blk hV
 have hge := HLay.out.bel.size
 replace HLay := Lib.hid (HLay.out.below hb)
 replace HF := Lib.hid ((HF.out.below hb).more hb.size)
 replace HG := Lib.hid ((HG.out.below hb).more hb.size)
 replace HLay := Lib.hid (HLay.out.add hge hnew)
 clear hnew hge hb hV
 obtain ⟨G101, hG⟩ : ∃ g, W99.heap.size = g := ⟨_, rfl⟩
 rw [hG] at HLay ⊢
 clear hG
 replace HLay := Lib.hid (show Lay w V100 [(G6, 34, #[.int .i64 20, .int .i64 140]), (G11, 3, #[.int .i64 1, .int .i64 3]), (G14, 34, #[.int .i64 50, .int .i64 50]), (G22, 34, #[.int .i64 50, .int .i64 70]), (G25, 3, #[.int .i64 2, .int .i64 3]), (G28, 34, #[.int .i64 20, .int .i64 150]), (G31, 3, #[.int .i64 2, .int .i64 3, .int .i64 4]), (G38, 3, #[.int .i64 1, .int .i64 3]), (G45, 3, #[.int .i64 4]), (G50, 3, #[.int .i64 2]), (G57, 3, #[.int .i64 3, .int .i64 2]), (G65, 3, #[.int .i64 2, .int .i64 3]), (G68, 34, #[.int .i64 20, .int .i64 220]), (G72, 3, #[.int .i64 2, .int .i64 3, .int .i64 4]), (G75, 63, #[.int .i64 660, .int .i64 860]), (G82, 3, #[.int .i64 2, .int .i64 3, .int .i64 4]), (G85, 63, #[.int .i64 180, .int .i64 340]), (G90, 63, #[.int .i64 3, .int .i64 6]), (G95, 63, #[.int .i64 170, .int .i64 290]), (G98, 3, #[.int .i64 2, .int .i64 3]), (G101, 25, #[.slice AZ zp cZ, .slice AY 2 cY])] from HLay.out)
 have ht20 := eqToil_same 20 220
 have hq660 := eqSpan_same 660 860
 have hq180 := eqSpan_same 180 340
 have hq3 := eqSpan_same 3 6
 have hq170 := eqSpan_same 170 290
 try simp only [List.append_eq, List.cons_append, List.nil_append]
 refine Tr.wpIn_region_tree (G := Tr.Up) (V0 := V100) [([], [true, true, true, true], [4]), ([4], [false, false, false, false, false, true, true, true, true, true, true, true, true], [13]), ([4, 13], [false, false, false, false, false, false, false, false, false, false, false, false, false, false, true, true, true, true, true], [19]), ([4, 13, 19], [], [20]), ([4, 13, 19, 20], [false, false, false, false, false, false, false, false, false, false, false, false, false, false, false, false, false, false, false, false, false, true, true, true, true, true, true, true, true, true, true, true], [32]), ([4, 13, 19, 20, 32], [false, false, false, false, false, false, false, false, false, false, false, false, false, false, false, false, false, false, false, false, false, false, false, false, false, false, false, false, false, false, false, false, false, true, true, true, true, true, true, true, true], [41]), ([4, 13, 19, 20, 32, 41], [false, false, false, false, false, false, false, false, false, false, false, false, false, false, false, false, false, false, false, false, false, false, false, false, false, false, false, false, false, false, false, false, false, false, false, false, false, false, false, false, false, false, true, true, true, true, true], [47]), ([4, 13, 19, 20, 32, 41, 47], [], [48]), ([4, 13, 19, 20, 32, 41, 47, 48], [false, false, false, false, false, false, false, false, false, false, false, false, false, false, false, false, false, false, false, false, false, false, false, false, false, false, false, false, false, false, false, false, false, false, false, false, false, false, false, false, false, false, false, false, false, false, false, false, false, true, true, true], [52]), ([4, 13, 19, 20, 32, 41, 47, 48, 52], [false, false, false, false, false, false, false, false, false, false, false, false, false, false, false, false, false, false, false, false, false, false, false, false, false, false, false, false, false, false, false, false, false, false, false, false, false, false, false, false, false, false, false, false, false, false, false, false, false, false, false, false, false, true, true, true, true, true, true, true, true, true, true, true, true, true], [])] 10 [] (by kernel_rfl) (by kernel_rfl) (by kernel_rfl) (below_drewN (Below.refl _ _) 1) ?_
 refine Tr.wpTree_one (A := ?AF11) rfl rfl ?hq11 ?_
 case hq11 =>
  rintro σ hσ of hof hcl
  have HOF := Lib.hid hof
  have HCL := Lib.hid hcl
  clear hof hcl
  have c0_ : ∀ z, (of z).cell? ⟨G68, 0, none⟩ = some (.int .i64 20) := fun z => ((HLay.out.below (HOF.out z)).blk 12 rfl).cell 0
  have c1_ : ∀ z, (of z).cell? ⟨G68, 1, none⟩ = some (.int .i64 220) := fun z => ((HLay.out.below (HOF.out z)).blk 12 rfl).cell 1
  have c2_ : ∀ z, (of z).cell? ⟨G75, 0, none⟩ = some (.int .i64 660) := fun z => ((HLay.out.below (HOF.out z)).blk 14 rfl).cell 0
  have c3_ : ∀ z, (of z).cell? ⟨G75, 1, none⟩ = some (.int .i64 860) := fun z => ((HLay.out.below (HOF.out z)).blk 14 rfl).cell 1
  have c4_ : ∀ z, (of z).cell? ⟨G85, 0, none⟩ = some (.int .i64 180) := fun z => ((HLay.out.below (HOF.out z)).blk 16 rfl).cell 0
  have c5_ : ∀ z, (of z).cell? ⟨G85, 1, none⟩ = some (.int .i64 340) := fun z => ((HLay.out.below (HOF.out z)).blk 16 rfl).cell 1
  have c6_ : ∀ z, (of z).cell? ⟨G90, 0, none⟩ = some (.int .i64 3) := fun z => ((HLay.out.below (HOF.out z)).blk 17 rfl).cell 0
  have c7_ : ∀ z, (of z).cell? ⟨G90, 1, none⟩ = some (.int .i64 6) := fun z => ((HLay.out.below (HOF.out z)).blk 17 rfl).cell 1
  have c8_ : ∀ z, (of z).cell? ⟨G95, 0, none⟩ = some (.int .i64 170) := fun z => ((HLay.out.below (HOF.out z)).blk 18 rfl).cell 0
  have c9_ : ∀ z, (of z).cell? ⟨G95, 1, none⟩ = some (.int .i64 290) := fun z => ((HLay.out.below (HOF.out z)).blk 18 rfl).cell 1
  have c10_ : ∀ z, (of z).cell? ⟨G101, 0, none⟩ = some (.slice AZ zp cZ) := fun z => ((HLay.out.below (HOF.out z)).blk 20 rfl).cell 0
  have c11_ : ∀ z, (of z).cell? ⟨G101, 1, none⟩ = some (.slice AY 2 cY) := fun z => ((HLay.out.below (HOF.out z)).blk 20 rfl).cell 1
  have hfw : ∀ f, Fence.wide.fn f := fun _ => trivial
  simp only [pickB]
  repeat (gi_big_quiet_step (fail))
  refine wpQuietIn_nil ?_
  exact rfl
 intro W102 hW
 replace HLay := Lib.hid (HLay.out.below hW)
 replace HF := Lib.hid ((HF.out.below hW).more hW.size)
 replace HG := Lib.hid ((HG.out.below hW).more hW.size)
 clear hW
 gi_wp2
 refine ⟨trivial, (callsIn_wide.2 (ltoil_any 20 220 W102)).mono ?_⟩
 rintro e W103 ⟨rfl, hb⟩
 replace HLay := Lib.hid (HLay.out.below hb)
 replace HF := Lib.hid ((HF.out.below hb).more hb.size)
 replace HG := Lib.hid ((HG.out.below hb).more hb.size)
 gi_wp2
 first | refine ⟨trivial, hb, ?_⟩ | refine ⟨hb, ?_⟩
 clear hb
 refine Tr.wpTree_one (A := ?AF12) rfl rfl ?hq12 ?_
 case hq12 =>
  rintro σ hσ of hof hcl
  have HOF := Lib.hid hof
  have HCL := Lib.hid hcl
  clear hof hcl
  have c0_ : ∀ z, (of z).cell? ⟨G68, 0, none⟩ = some (.int .i64 20) := fun z => ((HLay.out.below (HOF.out z)).blk 12 rfl).cell 0
  have c1_ : ∀ z, (of z).cell? ⟨G68, 1, none⟩ = some (.int .i64 220) := fun z => ((HLay.out.below (HOF.out z)).blk 12 rfl).cell 1
  have c2_ : ∀ z, (of z).cell? ⟨G75, 0, none⟩ = some (.int .i64 660) := fun z => ((HLay.out.below (HOF.out z)).blk 14 rfl).cell 0
  have c3_ : ∀ z, (of z).cell? ⟨G75, 1, none⟩ = some (.int .i64 860) := fun z => ((HLay.out.below (HOF.out z)).blk 14 rfl).cell 1
  have c4_ : ∀ z, (of z).cell? ⟨G85, 0, none⟩ = some (.int .i64 180) := fun z => ((HLay.out.below (HOF.out z)).blk 16 rfl).cell 0
  have c5_ : ∀ z, (of z).cell? ⟨G85, 1, none⟩ = some (.int .i64 340) := fun z => ((HLay.out.below (HOF.out z)).blk 16 rfl).cell 1
  have c6_ : ∀ z, (of z).cell? ⟨G90, 0, none⟩ = some (.int .i64 3) := fun z => ((HLay.out.below (HOF.out z)).blk 17 rfl).cell 0
  have c7_ : ∀ z, (of z).cell? ⟨G90, 1, none⟩ = some (.int .i64 6) := fun z => ((HLay.out.below (HOF.out z)).blk 17 rfl).cell 1
  have c8_ : ∀ z, (of z).cell? ⟨G95, 0, none⟩ = some (.int .i64 170) := fun z => ((HLay.out.below (HOF.out z)).blk 18 rfl).cell 0
  have c9_ : ∀ z, (of z).cell? ⟨G95, 1, none⟩ = some (.int .i64 290) := fun z => ((HLay.out.below (HOF.out z)).blk 18 rfl).cell 1
  have c10_ : ∀ z, (of z).cell? ⟨G101, 0, none⟩ = some (.slice AZ zp cZ) := fun z => ((HLay.out.below (HOF.out z)).blk 20 rfl).cell 0
  have c11_ : ∀ z, (of z).cell? ⟨G101, 1, none⟩ = some (.slice AY 2 cY) := fun z => ((HLay.out.below (HOF.out z)).blk 20 rfl).cell 1
  have hfw : ∀ f, Fence.wide.fn f := fun _ => trivial
  simp only [pickB]
  repeat (gi_big_quiet_step (fail))
  refine wpQuietIn_nil ?_
  exact rfl
 intro W104 hW
 replace HLay := Lib.hid (HLay.out.below hW)
 replace HF := Lib.hid ((HF.out.below hW).more hW.size)
 replace HG := Lib.hid ((HG.out.below hW).more hW.size)
 clear hW
 gi_wp2
 refine ⟨trivial, (callsIn_wide.2 (lspan_any 660 860 W104)).mono ?_⟩
 rintro e W105 ⟨rfl, hb⟩
 replace HLay := Lib.hid (HLay.out.below hb)
 replace HF := Lib.hid ((HF.out.below hb).more hb.size)
 replace HG := Lib.hid ((HG.out.below hb).more hb.size)
 gi_wp2
 first | refine ⟨trivial, hb, ?_⟩ | refine ⟨hb, ?_⟩
 clear hb
 refine Tr.wpTree_one (A := ?AF13) rfl rfl ?hq13 ?_
 case hq13 =>
  rintro σ hσ of hof hcl
  have HOF := Lib.hid hof
  have HCL := Lib.hid hcl
  clear hof hcl
  have c0_ : ∀ z, (of z).cell? ⟨G68, 0, none⟩ = some (.int .i64 20) := fun z => ((HLay.out.below (HOF.out z)).blk 12 rfl).cell 0
  have c1_ : ∀ z, (of z).cell? ⟨G68, 1, none⟩ = some (.int .i64 220) := fun z => ((HLay.out.below (HOF.out z)).blk 12 rfl).cell 1
  have c2_ : ∀ z, (of z).cell? ⟨G75, 0, none⟩ = some (.int .i64 660) := fun z => ((HLay.out.below (HOF.out z)).blk 14 rfl).cell 0
  have c3_ : ∀ z, (of z).cell? ⟨G75, 1, none⟩ = some (.int .i64 860) := fun z => ((HLay.out.below (HOF.out z)).blk 14 rfl).cell 1
  have c4_ : ∀ z, (of z).cell? ⟨G85, 0, none⟩ = some (.int .i64 180) := fun z => ((HLay.out.below (HOF.out z)).blk 16 rfl).cell 0
  have c5_ : ∀ z, (of z).cell? ⟨G85, 1, none⟩ = some (.int .i64 340) := fun z => ((HLay.out.below (HOF.out z)).blk 16 rfl).cell 1
  have c6_ : ∀ z, (of z).cell? ⟨G90, 0, none⟩ = some (.int .i64 3) := fun z => ((HLay.out.below (HOF.out z)).blk 17 rfl).cell 0
  have c7_ : ∀ z, (of z).cell? ⟨G90, 1, none⟩ = some (.int .i64 6) := fun z => ((HLay.out.below (HOF.out z)).blk 17 rfl).cell 1
  have c8_ : ∀ z, (of z).cell? ⟨G95, 0, none⟩ = some (.int .i64 170) := fun z => ((HLay.out.below (HOF.out z)).blk 18 rfl).cell 0
  have c9_ : ∀ z, (of z).cell? ⟨G95, 1, none⟩ = some (.int .i64 290) := fun z => ((HLay.out.below (HOF.out z)).blk 18 rfl).cell 1
  have c10_ : ∀ z, (of z).cell? ⟨G101, 0, none⟩ = some (.slice AZ zp cZ) := fun z => ((HLay.out.below (HOF.out z)).blk 20 rfl).cell 0
  have c11_ : ∀ z, (of z).cell? ⟨G101, 1, none⟩ = some (.slice AY 2 cY) := fun z => ((HLay.out.below (HOF.out z)).blk 20 rfl).cell 1
  have hfw : ∀ f, Fence.wide.fn f := fun _ => trivial
  simp only [pickB]
  repeat (gi_big_quiet_step (fail))
  refine wpQuietIn_nil ?_
  exact rfl
 intro W106 hW
 replace HLay := Lib.hid (HLay.out.below hW)
 replace HF := Lib.hid ((HF.out.below hW).more hW.size)
 replace HG := Lib.hid ((HG.out.below hW).more hW.size)
 clear hW
 gi_wp2
 have hup : Tr.Up W106 (W106.alloc (.cells #[.int .i64 1, .int .i64 4] 3)) := (Below.refl _ _).alloc (Nat.le_refl _) _
 first | refine ⟨trivial, hup, ?_⟩ | refine ⟨hup, ?_⟩
 clear hup
 obtain ⟨V107, hV⟩ : ∃ V, (W106.alloc (.cells #[.int .i64 1, .int .i64 4] 3)) = V := ⟨_, rfl⟩
 rw [hV]
 have hb := fbox_bel hV
 have hnew := fbox_blk hV
 have hge := HLay.out.bel.size
 replace HLay := Lib.hid (HLay.out.below hb)
 replace HF := Lib.hid ((HF.out.below hb).more hb.size)
 replace HG := Lib.hid ((HG.out.below hb).more hb.size)
 replace HLay := Lib.hid (HLay.out.add hge hnew)
 clear hnew hge hb hV
 obtain ⟨G108, hG⟩ : ∃ g, W106.heap.size = g := ⟨_, rfl⟩
 rw [hG] at HLay ⊢
 clear hG
 replace HLay := Lib.hid (show Lay w V107 [(G6, 34, #[.int .i64 20, .int .i64 140]), (G11, 3, #[.int .i64 1, .int .i64 3]), (G14, 34, #[.int .i64 50, .int .i64 50]), (G22, 34, #[.int .i64 50, .int .i64 70]), (G25, 3, #[.int .i64 2, .int .i64 3]), (G28, 34, #[.int .i64 20, .int .i64 150]), (G31, 3, #[.int .i64 2, .int .i64 3, .int .i64 4]), (G38, 3, #[.int .i64 1, .int .i64 3]), (G45, 3, #[.int .i64 4]), (G50, 3, #[.int .i64 2]), (G57, 3, #[.int .i64 3, .int .i64 2]), (G65, 3, #[.int .i64 2, .int .i64 3]), (G68, 34, #[.int .i64 20, .int .i64 220]), (G72, 3, #[.int .i64 2, .int .i64 3, .int .i64 4]), (G75, 63, #[.int .i64 660, .int .i64 860]), (G82, 3, #[.int .i64 2, .int .i64 3, .int .i64 4]), (G85, 63, #[.int .i64 180, .int .i64 340]), (G90, 63, #[.int .i64 3, .int .i64 6]), (G95, 63, #[.int .i64 170, .int .i64 290]), (G98, 3, #[.int .i64 2, .int .i64 3]), (G101, 25, #[.slice AZ zp cZ, .slice AY 2 cY]), (G108, 3, #[.int .i64 1, .int .i64 4])] from HLay.out)
 refine Tr.wpTree_one (m := []) rfl rfl Gr.Quietly.none ?_
 intro W109 hW
 replace HLay := Lib.hid (HLay.out.below hW)
 replace HF := Lib.hid ((HF.out.below hW).more hW.size)
 replace HG := Lib.hid ((HG.out.below hW).more hW.size)
 clear hW
 gi_wp2
 refine ⟨trivial, (callsIn_wide.2 (is_any AF 2 cAF [1, 4] 0 (some ⟨G108, 0, none⟩) 2 2 [1, 4] W109 (by unfold maxLen; omega) (by unfold maxLen; omega) HF.out (ints_blk2 [1, 4] (HLay.out.blk 21 rfl)))).mono ?_⟩
 rintro e W110 ⟨rfl, hb⟩
 replace HLay := Lib.hid (HLay.out.below hb)
 replace HF := Lib.hid ((HF.out.below hb).more hb.size)
 replace HG := Lib.hid ((HG.out.below hb).more hb.size)
 rw [show (decide ((0 : Int) = 0) && sameI [1, 4] [1, 4]) = true from by decide]
 gi_wp2
 first | refine ⟨trivial, hb, ?_⟩ | refine ⟨hb, ?_⟩
 clear hb
 refine Tr.wpTree_one (A := ?AF14) rfl rfl ?hq14 ?_
 case hq14 =>
  rintro σ hσ of hof hcl
  have HOF := Lib.hid hof
  have HCL := Lib.hid hcl
  clear hof hcl
  have c0_ : ∀ z, (of z).cell? ⟨G68, 0, none⟩ = some (.int .i64 20) := fun z => ((HLay.out.below (HOF.out z)).blk 12 rfl).cell 0
  have c1_ : ∀ z, (of z).cell? ⟨G68, 1, none⟩ = some (.int .i64 220) := fun z => ((HLay.out.below (HOF.out z)).blk 12 rfl).cell 1
  have c2_ : ∀ z, (of z).cell? ⟨G75, 0, none⟩ = some (.int .i64 660) := fun z => ((HLay.out.below (HOF.out z)).blk 14 rfl).cell 0
  have c3_ : ∀ z, (of z).cell? ⟨G75, 1, none⟩ = some (.int .i64 860) := fun z => ((HLay.out.below (HOF.out z)).blk 14 rfl).cell 1
  have c4_ : ∀ z, (of z).cell? ⟨G85, 0, none⟩ = some (.int .i64 180) := fun z => ((HLay.out.below (HOF.out z)).blk 16 rfl).cell 0
  have c5_ : ∀ z, (of z).cell? ⟨G85, 1, none⟩ = some (.int .i64 340) := fun z => ((HLay.out.below (HOF.out z)).blk 16 rfl).cell 1
  have c6_ : ∀ z, (of z).cell? ⟨G90, 0, none⟩ = some (.int .i64 3) := fun z => ((HLay.out.below (HOF.out z)).blk 17 rfl).cell 0
  have c7_ : ∀ z, (of z).cell? ⟨G90, 1, none⟩ = some (.int .i64 6) := fun z => ((HLay.out.below (HOF.out z)).blk 17 rfl).cell 1
  have c8_ : ∀ z, (of z).cell? ⟨G95, 0, none⟩ = some (.int .i64 170) := fun z => ((HLay.out.below (HOF.out z)).blk 18 rfl).cell 0
  have c9_ : ∀ z, (of z).cell? ⟨G95, 1, none⟩ = some (.int .i64 290) := fun z => ((HLay.out.below (HOF.out z)).blk 18 rfl).cell 1
  have c10_ : ∀ z, (of z).cell? ⟨G101, 0, none⟩ = some (.slice AZ zp cZ) := fun z => ((HLay.out.below (HOF.out z)).blk 20 rfl).cell 0
  have c11_ : ∀ z, (of z).cell? ⟨G101, 1, none⟩ = some (.slice AY 2 cY) := fun z => ((HLay.out.below (HOF.out z)).blk 20 rfl).cell 1
  have hfw : ∀ f, Fence.wide.fn f := fun _ => trivial
  simp only [pickB]
  repeat (gi_big_quiet_step (fail))
  refine wpQuietIn_nil ?_
  exact rfl
 intro W111 hW
 replace HLay := Lib.hid (HLay.out.below hW)
 replace HF := Lib.hid ((HF.out.below hW).more hW.size)
 replace HG := Lib.hid ((HG.out.below hW).more hW.size)
 clear hW
 gi_wp2
 refine ⟨trivial, (callsIn_wide.2 (lspan_any 180 340 W111)).mono ?_⟩
 rintro e W112 ⟨rfl, hb⟩
 replace HLay := Lib.hid (HLay.out.below hb)
 replace HF := Lib.hid ((HF.out.below hb).more hb.size)
 replace HG := Lib.hid ((HG.out.below hb).more hb.size)
 gi_wp2
 first | refine ⟨trivial, hb, ?_⟩ | refine ⟨hb, ?_⟩
 clear hb
 refine Tr.wpTree_one (A := ?AF15) rfl rfl ?hq15 ?_
 case hq15 =>
  rintro σ hσ of hof hcl
  have HOF := Lib.hid hof
  have HCL := Lib.hid hcl
  clear hof hcl
  have c0_ : ∀ z, (of z).cell? ⟨G68, 0, none⟩ = some (.int .i64 20) := fun z => ((HLay.out.below (HOF.out z)).blk 12 rfl).cell 0
  have c1_ : ∀ z, (of z).cell? ⟨G68, 1, none⟩ = some (.int .i64 220) := fun z => ((HLay.out.below (HOF.out z)).blk 12 rfl).cell 1
  have c2_ : ∀ z, (of z).cell? ⟨G75, 0, none⟩ = some (.int .i64 660) := fun z => ((HLay.out.below (HOF.out z)).blk 14 rfl).cell 0
  have c3_ : ∀ z, (of z).cell? ⟨G75, 1, none⟩ = some (.int .i64 860) := fun z => ((HLay.out.below (HOF.out z)).blk 14 rfl).cell 1
  have c4_ : ∀ z, (of z).cell? ⟨G85, 0, none⟩ = some (.int .i64 180) := fun z => ((HLay.out.below (HOF.out z)).blk 16 rfl).cell 0
  have c5_ : ∀ z, (of z).cell? ⟨G85, 1, none⟩ = some (.int .i64 340) := fun z => ((HLay.out.below (HOF.out z)).blk 16 rfl).cell 1
  have c6_ : ∀ z, (of z).cell? ⟨G90, 0, none⟩ = some (.int .i64 3) := fun z => ((HLay.out.below (HOF.out z)).blk 17 rfl).cell 0
  have c7_ : ∀ z, (of z).cell? ⟨G90, 1, none⟩ = some (.int .i64 6) := fun z => ((HLay.out.below (HOF.out z)).blk 17 rfl).cell 1
  have c8_ : ∀ z, (of z).cell? ⟨G95, 0, none⟩ = some (.int .i64 170) := fun z => ((HLay.out.below (HOF.out z)).blk 18 rfl).cell 0
  have c9_ : ∀ z, (of z).cell? ⟨G95, 1, none⟩ = some (.int .i64 290) := fun z => ((HLay.out.below (HOF.out z)).blk 18 rfl).cell 1
  have c10_ : ∀ z, (of z).cell? ⟨G101, 0, none⟩ = some (.slice AZ zp cZ) := fun z => ((HLay.out.below (HOF.out z)).blk 20 rfl).cell 0
  have c11_ : ∀ z, (of z).cell? ⟨G101, 1, none⟩ = some (.slice AY 2 cY) := fun z => ((HLay.out.below (HOF.out z)).blk 20 rfl).cell 1
  have hfw : ∀ f, Fence.wide.fn f := fun _ => trivial
  simp only [pickB]
  repeat (gi_big_quiet_step (fail))
  refine wpQuietIn_nil ?_
  exact rfl
 intro W113 hW
 replace HLay := Lib.hid (HLay.out.below hW)
 replace HF := Lib.hid ((HF.out.below hW).more hW.size)
 replace HG := Lib.hid ((HG.out.below hW).more hW.size)
 clear hW
 gi_wp2
 refine ⟨trivial, (callsIn_wide.2 (lspan_any 3 6 W113)).mono ?_⟩
 rintro e W114 ⟨rfl, hb⟩
 replace HLay := Lib.hid (HLay.out.below hb)
 replace HF := Lib.hid ((HF.out.below hb).more hb.size)
 replace HG := Lib.hid ((HG.out.below hb).more hb.size)
 gi_wp2
 first | refine ⟨trivial, hb, ?_⟩ | refine ⟨hb, ?_⟩
 clear hb
 refine Tr.wpTree_one (A := ?AF16) rfl rfl ?hq16 ?_
 case hq16 =>
  rintro σ hσ of hof hcl
  have HOF := Lib.hid hof
  have HCL := Lib.hid hcl
  clear hof hcl
  have c0_ : ∀ z, (of z).cell? ⟨G68, 0, none⟩ = some (.int .i64 20) := fun z => ((HLay.out.below (HOF.out z)).blk 12 rfl).cell 0
  have c1_ : ∀ z, (of z).cell? ⟨G68, 1, none⟩ = some (.int .i64 220) := fun z => ((HLay.out.below (HOF.out z)).blk 12 rfl).cell 1
  have c2_ : ∀ z, (of z).cell? ⟨G75, 0, none⟩ = some (.int .i64 660) := fun z => ((HLay.out.below (HOF.out z)).blk 14 rfl).cell 0
  have c3_ : ∀ z, (of z).cell? ⟨G75, 1, none⟩ = some (.int .i64 860) := fun z => ((HLay.out.below (HOF.out z)).blk 14 rfl).cell 1
  have c4_ : ∀ z, (of z).cell? ⟨G85, 0, none⟩ = some (.int .i64 180) := fun z => ((HLay.out.below (HOF.out z)).blk 16 rfl).cell 0
  have c5_ : ∀ z, (of z).cell? ⟨G85, 1, none⟩ = some (.int .i64 340) := fun z => ((HLay.out.below (HOF.out z)).blk 16 rfl).cell 1
  have c6_ : ∀ z, (of z).cell? ⟨G90, 0, none⟩ = some (.int .i64 3) := fun z => ((HLay.out.below (HOF.out z)).blk 17 rfl).cell 0
  have c7_ : ∀ z, (of z).cell? ⟨G90, 1, none⟩ = some (.int .i64 6) := fun z => ((HLay.out.below (HOF.out z)).blk 17 rfl).cell 1
  have c8_ : ∀ z, (of z).cell? ⟨G95, 0, none⟩ = some (.int .i64 170) := fun z => ((HLay.out.below (HOF.out z)).blk 18 rfl).cell 0
  have c9_ : ∀ z, (of z).cell? ⟨G95, 1, none⟩ = some (.int .i64 290) := fun z => ((HLay.out.below (HOF.out z)).blk 18 rfl).cell 1
  have c10_ : ∀ z, (of z).cell? ⟨G101, 0, none⟩ = some (.slice AZ zp cZ) := fun z => ((HLay.out.below (HOF.out z)).blk 20 rfl).cell 0
  have c11_ : ∀ z, (of z).cell? ⟨G101, 1, none⟩ = some (.slice AY 2 cY) := fun z => ((HLay.out.below (HOF.out z)).blk 20 rfl).cell 1
  have hfw : ∀ f, Fence.wide.fn f := fun _ => trivial
  simp only [pickB]
  repeat (gi_big_quiet_step (fail))
  refine wpQuietIn_nil ?_
  exact rfl
 intro W115 hW
 replace HLay := Lib.hid (HLay.out.below hW)
 replace HF := Lib.hid ((HF.out.below hW).more hW.size)
 replace HG := Lib.hid ((HG.out.below hW).more hW.size)
 clear hW
 gi_wp2
 have hup : Tr.Up W115 (W115.alloc (.cells #[.int .i64 1, .int .i64 4] 3)) := (Below.refl _ _).alloc (Nat.le_refl _) _
 first | refine ⟨trivial, hup, ?_⟩ | refine ⟨hup, ?_⟩
 clear hup
 obtain ⟨V116, hV⟩ : ∃ V, (W115.alloc (.cells #[.int .i64 1, .int .i64 4] 3)) = V := ⟨_, rfl⟩
 rw [hV]
 have hb := fbox_bel hV
 have hnew := fbox_blk hV
 have hge := HLay.out.bel.size
 replace HLay := Lib.hid (HLay.out.below hb)
 replace HF := Lib.hid ((HF.out.below hb).more hb.size)
 replace HG := Lib.hid ((HG.out.below hb).more hb.size)
 replace HLay := Lib.hid (HLay.out.add hge hnew)
 clear hnew hge hb hV
 obtain ⟨G117, hG⟩ : ∃ g, W115.heap.size = g := ⟨_, rfl⟩
 rw [hG] at HLay ⊢
 clear hG
 replace HLay := Lib.hid (show Lay w V116 [(G6, 34, #[.int .i64 20, .int .i64 140]), (G11, 3, #[.int .i64 1, .int .i64 3]), (G14, 34, #[.int .i64 50, .int .i64 50]), (G22, 34, #[.int .i64 50, .int .i64 70]), (G25, 3, #[.int .i64 2, .int .i64 3]), (G28, 34, #[.int .i64 20, .int .i64 150]), (G31, 3, #[.int .i64 2, .int .i64 3, .int .i64 4]), (G38, 3, #[.int .i64 1, .int .i64 3]), (G45, 3, #[.int .i64 4]), (G50, 3, #[.int .i64 2]), (G57, 3, #[.int .i64 3, .int .i64 2]), (G65, 3, #[.int .i64 2, .int .i64 3]), (G68, 34, #[.int .i64 20, .int .i64 220]), (G72, 3, #[.int .i64 2, .int .i64 3, .int .i64 4]), (G75, 63, #[.int .i64 660, .int .i64 860]), (G82, 3, #[.int .i64 2, .int .i64 3, .int .i64 4]), (G85, 63, #[.int .i64 180, .int .i64 340]), (G90, 63, #[.int .i64 3, .int .i64 6]), (G95, 63, #[.int .i64 170, .int .i64 290]), (G98, 3, #[.int .i64 2, .int .i64 3]), (G101, 25, #[.slice AZ zp cZ, .slice AY 2 cY]), (G108, 3, #[.int .i64 1, .int .i64 4]), (G117, 3, #[.int .i64 1, .int .i64 4])] from HLay.out)
 refine Tr.wpTree_one (m := []) rfl rfl Gr.Quietly.none ?_
 intro W118 hW
 replace HLay := Lib.hid (HLay.out.below hW)
 replace HF := Lib.hid ((HF.out.below hW).more hW.size)
 replace HG := Lib.hid ((HG.out.below hW).more hW.size)
 clear hW
 gi_wp2
 refine ⟨trivial, (callsIn_wide.2 (is_any AG 2 cAG [1, 4] 0 (some ⟨G117, 0, none⟩) 2 2 [1, 4] W118 (by unfold maxLen; omega) (by unfold maxLen; omega) HG.out (ints_blk2 [1, 4] (HLay.out.blk 22 rfl)))).mono ?_⟩
 rintro e W119 ⟨rfl, hb⟩
 replace HLay := Lib.hid (HLay.out.below hb)
 replace HF := Lib.hid ((HF.out.below hb).more hb.size)
 replace HG := Lib.hid ((HG.out.below hb).more hb.size)
 rw [show (decide ((0 : Int) = 0) && sameI [1, 4] [1, 4]) = true from by decide]
 gi_wp2
 first | refine ⟨trivial, hb, ?_⟩ | refine ⟨hb, ?_⟩
 clear hb
 refine Tr.wpTree_one (A := ?AF17) rfl rfl ?hq17 ?_
 case hq17 =>
  rintro σ hσ of hof hcl
  have HOF := Lib.hid hof
  have HCL := Lib.hid hcl
  clear hof hcl
  have c0_ : ∀ z, (of z).cell? ⟨G68, 0, none⟩ = some (.int .i64 20) := fun z => ((HLay.out.below (HOF.out z)).blk 12 rfl).cell 0
  have c1_ : ∀ z, (of z).cell? ⟨G68, 1, none⟩ = some (.int .i64 220) := fun z => ((HLay.out.below (HOF.out z)).blk 12 rfl).cell 1
  have c2_ : ∀ z, (of z).cell? ⟨G75, 0, none⟩ = some (.int .i64 660) := fun z => ((HLay.out.below (HOF.out z)).blk 14 rfl).cell 0
  have c3_ : ∀ z, (of z).cell? ⟨G75, 1, none⟩ = some (.int .i64 860) := fun z => ((HLay.out.below (HOF.out z)).blk 14 rfl).cell 1
  have c4_ : ∀ z, (of z).cell? ⟨G85, 0, none⟩ = some (.int .i64 180) := fun z => ((HLay.out.below (HOF.out z)).blk 16 rfl).cell 0
  have c5_ : ∀ z, (of z).cell? ⟨G85, 1, none⟩ = some (.int .i64 340) := fun z => ((HLay.out.below (HOF.out z)).blk 16 rfl).cell 1
  have c6_ : ∀ z, (of z).cell? ⟨G90, 0, none⟩ = some (.int .i64 3) := fun z => ((HLay.out.below (HOF.out z)).blk 17 rfl).cell 0
  have c7_ : ∀ z, (of z).cell? ⟨G90, 1, none⟩ = some (.int .i64 6) := fun z => ((HLay.out.below (HOF.out z)).blk 17 rfl).cell 1
  have c8_ : ∀ z, (of z).cell? ⟨G95, 0, none⟩ = some (.int .i64 170) := fun z => ((HLay.out.below (HOF.out z)).blk 18 rfl).cell 0
  have c9_ : ∀ z, (of z).cell? ⟨G95, 1, none⟩ = some (.int .i64 290) := fun z => ((HLay.out.below (HOF.out z)).blk 18 rfl).cell 1
  have c10_ : ∀ z, (of z).cell? ⟨G101, 0, none⟩ = some (.slice AZ zp cZ) := fun z => ((HLay.out.below (HOF.out z)).blk 20 rfl).cell 0
  have c11_ : ∀ z, (of z).cell? ⟨G101, 1, none⟩ = some (.slice AY 2 cY) := fun z => ((HLay.out.below (HOF.out z)).blk 20 rfl).cell 1
  have hfw : ∀ f, Fence.wide.fn f := fun _ => trivial
  simp only [pickB]
  repeat (gi_big_quiet_step (fail))
  refine wpQuietIn_nil ?_
  exact rfl
 intro W120 hW
 replace HLay := Lib.hid (HLay.out.below hW)
 replace HF := Lib.hid ((HF.out.below hW).more hW.size)
 replace HG := Lib.hid ((HG.out.below hW).more hW.size)
 clear hW
 gi_wp2
 refine ⟨trivial, (callsIn_wide.2 (lspan_any 170 290 W120)).mono ?_⟩
 rintro e W121 ⟨rfl, hb⟩
 replace HLay := Lib.hid (HLay.out.below hb)
 replace HF := Lib.hid ((HF.out.below hb).more hb.size)
 replace HG := Lib.hid ((HG.out.below hb).more hb.size)
 gi_wp2
 first | refine ⟨trivial, hb, ?_⟩ | refine ⟨hb, ?_⟩
 clear hb
 refine Tr.wpTree_end (A := ?AF18) rfl ?hq18 ?_
 case hq18 =>
  rintro σ hσ of hof hcl
  have HOF := Lib.hid hof
  have HCL := Lib.hid hcl
  clear hof hcl
  have c0_ : ∀ z, (of z).cell? ⟨G68, 0, none⟩ = some (.int .i64 20) := fun z => ((HLay.out.below (HOF.out z)).blk 12 rfl).cell 0
  have c1_ : ∀ z, (of z).cell? ⟨G68, 1, none⟩ = some (.int .i64 220) := fun z => ((HLay.out.below (HOF.out z)).blk 12 rfl).cell 1
  have c2_ : ∀ z, (of z).cell? ⟨G75, 0, none⟩ = some (.int .i64 660) := fun z => ((HLay.out.below (HOF.out z)).blk 14 rfl).cell 0
  have c3_ : ∀ z, (of z).cell? ⟨G75, 1, none⟩ = some (.int .i64 860) := fun z => ((HLay.out.below (HOF.out z)).blk 14 rfl).cell 1
  have c4_ : ∀ z, (of z).cell? ⟨G85, 0, none⟩ = some (.int .i64 180) := fun z => ((HLay.out.below (HOF.out z)).blk 16 rfl).cell 0
  have c5_ : ∀ z, (of z).cell? ⟨G85, 1, none⟩ = some (.int .i64 340) := fun z => ((HLay.out.below (HOF.out z)).blk 16 rfl).cell 1
  have c6_ : ∀ z, (of z).cell? ⟨G90, 0, none⟩ = some (.int .i64 3) := fun z => ((HLay.out.below (HOF.out z)).blk 17 rfl).cell 0
  have c7_ : ∀ z, (of z).cell? ⟨G90, 1, none⟩ = some (.int .i64 6) := fun z => ((HLay.out.below (HOF.out z)).blk 17 rfl).cell 1
  have c8_ : ∀ z, (of z).cell? ⟨G95, 0, none⟩ = some (.int .i64 170) := fun z => ((HLay.out.below (HOF.out z)).blk 18 rfl).cell 0
  have c9_ : ∀ z, (of z).cell? ⟨G95, 1, none⟩ = some (.int .i64 290) := fun z => ((HLay.out.below (HOF.out z)).blk 18 rfl).cell 1
  have c10_ : ∀ z, (of z).cell? ⟨G101, 0, none⟩ = some (.slice AZ zp cZ) := fun z => ((HLay.out.below (HOF.out z)).blk 20 rfl).cell 0
  have c11_ : ∀ z, (of z).cell? ⟨G101, 1, none⟩ = some (.slice AY 2 cY) := fun z => ((HLay.out.below (HOF.out z)).blk 20 rfl).cell 1
  have hfw : ∀ f, Fence.wide.fn f := fun _ => trivial
  simp only [pickB]
  repeat (gi_big_quiet_step (fail))
  refine wpQuietIn_nil ?_
  exact rfl
 intro W122 hW
 replace HLay := Lib.hid (HLay.out.below hW)
 replace HF := Lib.hid ((HF.out.below hW).more hW.size)
 replace HG := Lib.hid ((HG.out.below hW).more hW.size)
 clear hW
 simp only [pickB]
 refine wpT_nil ?_
 gi_wp2
 exact bodyPost_ret (v := .bool true) (by simp [results, Tryz.results13, go_sem]) rfl ⟨rfl, HLay.out.bel⟩
theorem alive_any (w : World) (hL : Laid w) : Calls Tryz.prog 13 #[] w fun e w' => e = .returned (.bool true) ∧ Below w.heap.size w w' := callsIn_wide.1 (alive_in w hL)
end Go.Proofs.YtahkjagjcogeiaaGreatDoor
/- What links come to, one behind the other; lists followed; which list is ahead: plain Lean. -/
namespace Go.Proofs.YtahkjagjcogeiaaGreatDoor

structure Gone where
 at_ : Int
 paces : Int
 up : Int
 steps : Int
 longer : Int

def Gone.cost (g : Gone) (p : Price) : Cost := ⟨g.paces * p.pace + g.up * p.up + g.steps * p.step, g.up, g.paces, g.longer⟩
def startG (u : Int) : Gone := ⟨u, 0, 0, 0, 0⟩
theorem startG_cost (u : Int) (p : Price) : (startG u).cost p = zeroC := by simp [startG, Gone.cost, zeroC]
/-- A link gone. -/
def goesF (dk : Bool) (x : Link) (g : Gone) : Option Gone :=
 if dk = true ∧ 0 < x.steps then none
 else if x.fr = g.at_ then some ⟨x.to, g.paces + x.paces, g.up + x.steps, g.steps + x.steps, g.longer + 1⟩
 else if x.to = g.at_ then some ⟨x.fr, g.paces + x.paces, g.up, g.steps + x.steps, g.longer + 1⟩
 else none
theorem cost_eq {a b c d a' b' c' d' : Int} (h1 : a = a') (h2 : b = b') (h3 : c = c') (h4 : d = d') : (⟨a, b, c, d⟩ : Cost) = ⟨a', b', c', d'⟩ := by rw [h1, h2, h3, h4]
theorem goes_some {dk : Bool} {x : Link} {g g' : Gone} (p : Price) (h : goesF dk x g = some g') : ∃ c, leads dk p x g.at_ = some (g'.at_, c) ∧ g'.cost p = addC (g.cost p) c := by
 unfold goesF at h
 unfold leads
 split at h
 ·cases h
 ·rename_i h1
  rw [if_neg h1]
  split at h
  ·rename_i h2
   rw [if_pos h2]
   cases h
   refine ⟨_, rfl, ?_⟩
   refine cost_eq ?_ rfl rfl rfl
   simp only [Gone.cost, Int.add_mul, Int.mul_add]
   omega
  ·rename_i h2
   rw [if_neg h2]
   split at h
   ·rename_i h3
    rw [if_pos h3]
    cases h
    refine ⟨_, rfl, ?_⟩
    refine cost_eq ?_ (Int.add_zero _).symm rfl rfl
    simp only [Gone.cost, Int.add_mul]
    omega
   ·cases h
theorem goes_none {dk : Bool} {x : Link} {g : Gone} (p : Price) (h : goesF dk x g = none) : leads dk p x g.at_ = none := by
 unfold goesF at h
 unfold leads
 split at h
 ·rename_i h1; rw [if_pos h1]
 ·rename_i h1
  rw [if_neg h1]
  split at h
  ·cases h
  ·rename_i h2
   rw [if_neg h2]
   split at h
   ·cases h
   ·rename_i h3; rw [if_neg h3]

/-- Links gone, one behind the other. -/
inductive GW (t : Town) (dk : Bool) : Gone → List Int → Gone → Prop
 | nil (g : Gone) : GW t dk g [] g
 | cons {g m g' : Gone} {x : Link} {l : List Int} (hx : x ∈ t.links) (hg : goesF dk x g = some m) (h : GW t dk m l g') : GW t dk g (x.id :: l) g'

section
variable {t : Town} {dk : Bool} {p : Price} {g m g' : Gone} {l k : List Int} {u v : Int} {c d : Cost} {x : Link}
theorem GW.walk (h : GW t dk g l g') (p : Price) : ∃ c, Walk t dk p g.at_ g'.at_ c l ∧ g'.cost p = addC (g.cost p) c := by
 induction h with
 | nil g => exact ⟨zeroC, .nil _, (addC_zero _).symm⟩
 | cons hx hg _ ih =>
  obtain ⟨c, h1, h2⟩ := goes_some p hg
  obtain ⟨d, h3, h4⟩ := ih
  exact ⟨addC c d, .cons hx h1 h3, by rw [h4, h2, addC_assoc]⟩
theorem Walk.gw (h : Walk t dk p u v c l) : ∀ g : Gone, g.at_ = u → ∃ g', GW t dk g l g' ∧ g'.at_ = v ∧ g'.cost p = addC (g.cost p) c := by
 induction h with
 | nil v => intro g e; exact ⟨g, .nil g, e, (addC_zero _).symm⟩
 | @cons u m v x c d l hx hl _ ih =>
  intro g e
  subst e
  cases hg : goesF dk x g with
  | none => rw [goes_none p hg] at hl; cases hl
  | some g1 =>
   obtain ⟨c1, h1, h2⟩ := goes_some p hg
   rw [h1] at hl
   cases hl
   obtain ⟨g2, h3, h4, h5⟩ := ih g1 rfl
   exact ⟨g2, .cons hx hg h3, h4, by rw [h5, h2, addC_assoc]⟩
theorem GW.append (h : GW t dk g l m) (h' : GW t dk m k g') : GW t dk g (l ++ k) g' := by
 induction h with
 | nil g => exact h'
 | cons hx hg _ ih => exact .cons hx hg (ih h')
theorem GW.snoc (h : GW t dk g l m) (hx : x ∈ t.links) (hg : goesF dk x m = some g') : GW t dk g (l ++ [x.id]) g' := h.append (.cons hx hg (.nil _))
theorem GW.split : ∀ (l : List Int) {g g' : Gone}, GW t dk g (l ++ k) g' → ∃ m, GW t dk g l m ∧ GW t dk m k g'
 | [], g, g', h => ⟨g, .nil g, h⟩
 | i :: l, g, g', h => by
  cases h with
  | @cons _ m _ x _ hx hg h =>
   obtain ⟨m', h1, h2⟩ := GW.split l h
   exact ⟨m', .cons hx hg h1, h2⟩
theorem GW.longer (h : GW t dk g l g') : g'.longer = g.longer + l.length := by
 induction h with
 | nil g => simp
 | @cons g m g' x l hx hg _ ih =>
  obtain ⟨c, h1, h2⟩ := goes_some freeP hg
  have h3 : m.longer = g.longer + 1 := by
   unfold goesF at hg
   split at hg
   ·cases hg
   ·split at hg
    ·cases hg; rfl
    ·split at hg
     ·cases hg; rfl
     ·cases hg
  rw [ih, h3]
  simp; omega
/-- The numbers stay small. -/
structure Gone.In (g : Gone) (k : Nat) : Prop where
 paces : 0 ≤ g.paces ∧ g.paces ≤ 2000 * k
 up : 0 ≤ g.up ∧ g.up ≤ g.steps
 steps : 0 ≤ g.steps ∧ g.steps ≤ 500 * k
 longer : g.longer = k
theorem goes_in {k : Nat} (h : g.In k) (ht : Fine t) (hx : x ∈ t.links) (hg : goesF dk x g = some g') : g'.In (k + 1) := by
 have h1 := ht.steps x hx
 have h2 := ht.paces x hx
 obtain ⟨a1, a2, a3, a4⟩ := h
 unfold goesF at hg
 split at hg
 ·cases hg
 ·split at hg
  ·cases hg; exact ⟨by simp; omega, by simp; omega, by simp; omega, by simp; omega⟩
  ·split at hg
   ·cases hg; exact ⟨by simp; omega, by simp; omega, by simp; omega, by simp; omega⟩
   ·cases hg
theorem GW.in_ (h : GW t dk g l g') (ht : Fine t) : ∀ {k : Nat}, g.In k → g'.In (k + l.length) := by
 induction h with
 | nil g => intro k h; exact h
 | cons hx hg _ ih =>
  intro k h
  have := ih (goes_in h ht hx hg)
  rw [List.length_cons]
  rwa [Nat.add_assoc, Nat.add_comm 1] at this
theorem GW.same {g1 g2 : Gone} (hi : t.links.Pairwise fun x y => x.id < y.id) (h : GW t dk g l g1) : GW t dk g l g2 → g1 = g2 := by
 induction h with
 | nil g => intro h; cases h; rfl
 | @cons g m g1 x l hx hg _ ih =>
  intro h
  generalize hk : x.id :: l = k at h
  cases h with
  | nil => cases hk
  | @cons _ m2 _ y l2 hy hg2 h2 =>
   injection hk with h3 h4
   subst h4
   have : x = y := by
    obtain ⟨i, hi1⟩ := List.getElem?_of_mem hx
    obtain ⟨j, hj1⟩ := List.getElem?_of_mem hy
    obtain ⟨hi2, hi3⟩ := List.getElem?_eq_some_iff.1 hi1
    obtain ⟨hj2, hj3⟩ := List.getElem?_eq_some_iff.1 hj1
    rcases Nat.lt_trichotomy i j with h4 | h4 | h4
    ·have := List.pairwise_iff_getElem.1 hi i j hi2 hj2 h4
     rw [hi3, hj3] at this
     omega
    ·subst h4
     rw [← hi3, ← hj3]
    ·have := List.pairwise_iff_getElem.1 hi j i hj2 hi2 h4
     rw [hi3, hj3] at this
     omega
   subst this
   rw [hg] at hg2
   cases hg2
   exact ih h2
end

/-- One Id looked for among all links, as the law does it. -/
def stepFo (dk : Bool) (id : Int) (s : Gone × Bool) (x : Link) : Gone × Bool :=
 if x.id = id then (match goesF dk x s.1 with | some g => (g, true) | none => (s.1, false)) else s
def followF (t : Town) (dk : Bool) : Gone → List Int → Gone × Bool
 | g, [] => (g, true)
 | g, id :: l => match t.links.foldl (stepFo dk id) (g, false) with
  | (g', true) => followF t dk g' l
  | (g', false) => (g', false)

section
variable {t : Town} {dk : Bool} {g g' : Gone} {l : List Int} {id : Int}
theorem fold_off : ∀ (ls : List Link) (s : Gone × Bool), (∀ x ∈ ls, x.id ≠ id) → ls.foldl (stepFo dk id) s = s
 | [], _, _ => rfl
 | x :: ls, s, h => by
  rw [List.foldl_cons]
  unfold stepFo
  rw [if_neg (h x (by simp))]
  exact fold_off ls s fun y hy => h y (by simp [hy])
theorem fold_on : ∀ (ls : List Link) (g : Gone) {x : Link}, ls.Pairwise (fun x y => x.id < y.id) → x ∈ ls → ls.foldl (stepFo dk x.id) (g, false) = (match goesF dk x g with | some g => (g, true) | none => (g, false))
 | [], _, _, _, h => by cases h
 | y :: ls, g, x, hp, h => by
  rw [List.pairwise_cons] at hp
  rw [List.foldl_cons]
  rcases List.mem_cons.1 h with rfl | h
  ·rw [fold_off ls _ fun z hz => by have := hp.1 z hz; omega]
   unfold stepFo
   rw [if_pos rfl]
  ·have : y.id < x.id := hp.1 x h
   rw [show stepFo dk x.id (g, false) y = (g, false) from by unfold stepFo; rw [if_neg (by omega)]]
   exact fold_on ls g hp.2 h
theorem follow_gw (hi : t.links.Pairwise fun x y => x.id < y.id) (h : GW t dk g l g') : followF t dk g l = (g', true) := by
 induction h with
 | nil g => rfl
 | @cons g m g' x l hx hg _ ih =>
  unfold followF
  rw [fold_on _ g hi hx, hg]
  exact ih
end

/-- A list is before another one, at the first place where they part. -/
def aheadF : List Int → List Int → Bool
 | [], _ => false
 | _ :: _, [] => false
 | x :: a, y :: b => if x = y then aheadF a b else decide (x < y)
theorem ahead_cmp : ∀ {a b : List Int}, a.length = b.length → aheadF a b = decide (cmpL a b < 0)
 | [], [], _ => rfl
 | [], _ :: _, h => by simp at h
 | _ :: _, [], h => by simp at h
 | x :: a, y :: b, h => by
  unfold aheadF
  rw [cmpL_cons]
  by_cases e : x = y
  ·subst e
   rw [if_pos rfl, if_neg (by omega), if_neg (by omega)]
   exact ahead_cmp (by simpa using h)
  ·rw [if_neg e]
   by_cases h1 : x < y
   ·rw [if_pos h1]; simp [h1]
   ·rw [if_neg h1, if_pos (by omega)]; simp [h1]
end Go.Proofs.YtahkjagjcogeiaaGreatDoor
/- The law's ready, and place. -/
namespace Go.Proofs.YtahkjagjcogeiaaGreatDoor
open Go.RowKit

def readyB (n m : Nat) (t : Town) : Bool := !greatB n m && townB t
theorem great_small {n m : Nat} (h : greatB n m = false) : n ≤ 20 ∧ m ≤ 40 := by unfold greatB at h; simp at h; omega

set_option maxRecDepth 100000 in
set_option maxHeartbeats 4000000 in
theorem ready_any (A : Option Addr) (n c : Nat) (A' : Option Addr) (m d : Nat) (t : Town) (w : World) (ht : TownAt w w.heap.size A n A' m t) :
  Calls Tryz.prog 14 #[.agg #[.slice A n c, .slice A' m d]] w fun e w' => e = .returned (.bool (readyB n m t)) ∧ Below w.heap.size w w' := by
 have HT := Lib.hid ht
 clear ht
 have HLay := Lib.hid (Lay.one w 25 #[.slice A n c, .slice A' m d])
 go_enter Tryz.func14, Tryz.ntmps14
 go_upto_region 1 with fail
 generalize (w.alloc (.cells #[.slice A n c, .slice A' m d] 25)) = w0 at *
 have y0 := (HLay.out.blk 0 rfl).cell 0
 have y1 := (HLay.out.blk 0 rfl).cell 1
 have ly := HLay.out.lt 0 rfl
 go_wp2_with fail
 refine (great_any A n c A' m d w0).mono ?_
 rintro e W1 ⟨rfl, hb1⟩
 have HL1 := Lib.hid (HLay.out.below hb1)
 clear hb1 y0 y1 ly
 cases hg : greatB n m with
 | true =>
  have HG := Lib.hid hg
  clear hg
  go_wp2_with fail
  go_ret
  exact ⟨ret_bool (by unfold readyB; rw [HG.out]; rfl), HL1.out.1⟩
 | false =>
  have HG := Lib.hid hg
  have hsz := great_small hg
  clear hg
  have y0 := (HL1.out.blk 0 rfl).cell 0
  have y1 := (HL1.out.blk 0 rfl).cell 1
  have ly := HL1.out.lt 0 rfl
  go_wp2_with fail
  refine (rtown_any A n c A' m d t W1 (by omega) (by omega) ((HT.out.below HL1.out.1).more HL1.out.1.size)).mono ?_
  rintro e W2 ⟨rfl, hb2⟩
  have HB2 := Lib.hid (HL1.out.1.trans (hb2.mono HL1.out.1.size))
  clear hb2
  go_wp2_with fail
  go_ret
  exact ⟨ret_bool (by unfold readyB; rw [HG.out]; rfl), HB2.out⟩

/-- A place, by a number. -/
def plN (t : Town) (b : Nat) : Int := (t.places[b % t.places.length]?).getD 0
theorem plN_mem {t : Town} (h : 1 ≤ t.places.length) (b : Nat) : plN t b ∈ t.places := by
 unfold plN
 have hlt : b % t.places.length < t.places.length := Nat.mod_lt _ (by omega)
 rw [List.getElem?_eq_getElem hlt]
 exact List.getElem_mem hlt

set_option maxRecDepth 100000 in
set_option maxHeartbeats 4000000 in
theorem lplace_any (A : Option Addr) (n c : Nat) (A' : Option Addr) (m d : Nat) (t : Town) (b : Nat) (w : World) (hn : 1 ≤ n) (hn2 : n ≤ 1000) (hb : b ≤ 255) (ht : IntsAt w w.heap.size A n t.places) :
  Calls Tryz.prog 15 #[.agg #[.slice A n c, .slice A' m d], .int .u8 b] w fun e w' => e = .returned (.int .i64 (plN t b)) ∧ Below w.heap.size w w' := by
 have HT := Lib.hid ht
 have hln := ht.len
 have hlt : b % n < n := Nat.mod_lt _ (by omega)
 obtain ⟨q, hq⟩ : ∃ q, b % n = q := ⟨_, rfl⟩
 rw [hq] at hlt
 obtain ⟨bb, off, x, hA, hbl, hx, hc⟩ := ht.cell hlt
 subst hA
 have HX : Hid (plN t b = x) := Lib.hid (by unfold plN; rw [hln, hq, hx]; rfl)
 have HLay := Lib.hid (Lay.one w 25 #[.slice (some ⟨bb, off, none⟩) n c, .slice A' m d])
 have HC := Lib.hid hc
 have hm : (b : Int).tmod (n : Int) = (q : Int) := by
  rw [Int.tmod_eq_emod_of_nonneg (by omega)]
  omega
 clear ht hx hc hq hln
 go_enter Tryz.func15, Tryz.ntmps15
 go_upto_region 1 with fail
 generalize (w.alloc (.cells #[.slice (some ⟨bb, off, none⟩) n c, .slice A' m d] 25)) = w0 at *
 have hc := ((HLay.out.1.cell (p := ⟨bb, off + q, none⟩) hbl).trans HC.out)
 have y0 := (HLay.out.blk 0 rfl).cell 0
 have y1 := (HLay.out.blk 0 rfl).cell 1
 have ly := HLay.out.lt 0 rfl
 go_region
 all_goals
  go_wp2_with fail
  go_ret
  exact ⟨by rw [HX.out]; rfl, below_drewN HLay.out.1 1⟩
end Go.Proofs.YtahkjagjcogeiaaGreatDoor
/- The law's ahead, and stops. -/
namespace Go.Proofs.YtahkjagjcogeiaaGreatDoor
open Go.RowKit

theorem drop_atF {l : List Int} {k : Nat} {x : Int} (hx : l[k]? = some x) : l.drop k = x :: l.drop (k + 1) := by
 obtain ⟨hk, rfl⟩ := List.getElem?_eq_some_iff.1 hx
 exact List.drop_eq_getElem_cons hk

/-- Which list is ahead, as the law looks for it. -/
theorem ahead_here {a b : List Int} {k : Nat} {x y : Int} (hx : a[k]? = some x) (hy : b[k]? = some y) : aheadF (a.drop k) (b.drop k) = if x = y then aheadF (a.drop (k + 1)) (b.drop (k + 1)) else decide (x < y) := by
 rw [drop_atF hx, drop_atF hy]
 rfl
theorem ahead_out {a b : List Int} {k : Nat} (h : b.length ≤ k) : aheadF (a.drop k) (b.drop k) = false := by
 rw [List.drop_of_length_le h]
 cases a.drop k <;> rfl

/-- A slice of bytes. -/
def BytesAt (w : World) (B : Nat) (A : Option Addr) (n : Nat) (l : List Nat) : Prop := Reads w B 1 A n (l.map fun b => Value.int .u8 (b : Nat)) ∧ ∀ b ∈ l, b ≤ 255
theorem BytesAt.len {w : World} {B n : Nat} {A : Option Addr} {l : List Nat} (h : BytesAt w B A n l) : l.length = n := by have := h.1.1; simpa using this
theorem BytesAt.below {w w' : World} {B n : Nat} {A : Option Addr} {l : List Nat} (h : BytesAt w B A n l) (hb : Below B w w') : BytesAt w' B A n l := ⟨h.1.below hb, h.2⟩
theorem BytesAt.more {w : World} {B B' n : Nat} {A : Option Addr} {l : List Nat} (h : BytesAt w B A n l) (hB : B ≤ B') : BytesAt w B' A n l := ⟨h.1.more hB, h.2⟩
theorem BytesAt.cell {w : World} {B n : Nat} {A : Option Addr} {l : List Nat} (h : BytesAt w B A n l) {k : Nat} (hk : k < n) : ∃ b off x, A = some ⟨b, off, none⟩ ∧ b < B ∧ l[k]? = some x ∧ w.cell? ⟨b, off + k, none⟩ = some (.int .u8 (x : Nat)) ∧ x ≤ 255 := by
 have hl := h.len
 obtain ⟨b, off, e, hb, hc⟩ := Reads.plain h.1 (by simp; omega)
 have hx : l[k]? = some l[k] := List.getElem?_eq_getElem (by omega)
 exact ⟨b, off, _, e, hb, hx, hc k _ (by rw [List.getElem?_map, hx]; rfl), h.2 _ (List.getElem_mem _)⟩

set_option maxRecDepth 100000 in
set_option maxHeartbeats 4000000 in
theorem ahead_any (A : Option Addr) (n c : Nat) (a : List Int) (A2 : Option Addr) (n2 c2 : Nat) (b : List Int) (w : World) (hn : n ≤ maxLen) (hn2 : n2 ≤ maxLen) (ha : IntsAt w w.heap.size A n a) (hb : IntsAt w w.heap.size A2 n2 b) :
  Calls Tryz.prog 22 #[.slice A n c, .slice A2 n2 c2] w fun e w' => e = .returned (.bool (aheadF a b)) ∧ Below w.heap.size w w' := by
 unfold maxLen at hn hn2
 have HA := Lib.hid ha.len
 have HB := Lib.hid hb.len
 go_enter Tryz.func22, Tryz.ntmps22
 go_wp2_with fail
 go_loopw [8] (fun i wr => ∃ k : Nat, k ≤ n ∧ i = .int .i64 k ∧ Hid (aheadF a b = aheadF (a.drop k) (b.drop k)) ∧ Below w.heap.size w wr)
  (fun i _ => n - (intOf i).toNat)
 case atStart => exact ⟨0, by omega, rfl, Lib.hid rfl, Below.refl _ _⟩
 case round =>
  obtain ⟨k, hk, rfl, HE, hbel⟩ := hrel
  by_cases hlt : k < n
  ·obtain ⟨b1, o1, x, rfl, hb1, hx, cx⟩ := (ha.below hbel).cell hlt
   have HX := Lib.hid hx
   have k0 : (0 : Int) ≤ (k : Int) := by omega
   have kI : (k : Int) < (n : Int) := by omega
   clear hx
   by_cases hk2 : k < n2
   ·obtain ⟨b2, o2, y, rfl, hb2, hy, cy⟩ := (hb.below hbel).cell hk2
    have HY := Lib.hid hy
    have kI2 : (k : Int) < (n2 : Int) := by omega
    clear hy
    by_cases hxy : x = y
    ·have hxy' : (x != y) = false := by simpa using hxy
     have HXY := Lib.hid hxy
     clear hxy
     go_wp2_with fail
     go_quiet (fail)
     go_wp2_with fail
     go_roundw
     case rel => exact ⟨k + 1, by omega, by go_num, Lib.hid (by rw [HE.out, ahead_here HX.out HY.out, if_pos HXY.out]), below_drewN hbel _⟩
     case measure => simp [intOf]; omega
    ·have hxy' : (x != y) = true := by simpa using hxy
     have HXY := Lib.hid hxy
     clear hxy
     go_wp2_with fail
     go_quiet (fail)
     go_wp2_with fail
     go_quiet (fail)
     go_wp2_with fail
     go_ret
     exact ⟨ret_bool (by rw [HE.out, ahead_here HX.out HY.out, if_neg HXY.out]), below_drewN (below_drewN hbel _) _⟩
   ·have hk2' : decide ((k : Int) < (n2 : Int)) = false := by simp; omega
    go_wp2_with fail
    go_quiet (fail)
    go_wp2_with fail
    go_roundw
    case rel => exact ⟨k + 1, by omega, by go_num, Lib.hid (by rw [HE.out, ahead_out (by have := HB.out; omega), ahead_out (by have := HB.out; omega)]), below_drewN hbel _⟩
    case measure => simp [intOf]; omega
  ·have hkn : k = n := by omega
   go_wp2_with fail
   go_ret
   exact ⟨ret_bool (by
    rw [HE.out, List.drop_of_length_le (by have := HA.out; omega)]
    rfl), hbel⟩

/-- Places of a town but one, by numbers: up to six. -/
def stopsS (t : Town) (base : Int) (l : List Int) (b : Nat) : List Int := if plN t b ∈ l ∨ plN t b = base ∨ 6 ≤ l.length then l else l ++ [plN t b]
def stopsF (t : Town) (base : Int) (by_ : List Nat) : List Int := by_.foldl (stopsS t base) []
theorem stops_succ {t : Town} {base : Int} {l : List Nat} {k b : Nat} (hx : l[k]? = some b) : stopsF t base (l.take (k + 1)) = stopsS t base (stopsF t base (l.take k)) b := by
 obtain ⟨hk, rfl⟩ := List.getElem?_eq_some_iff.1 hx
 unfold stopsF
 rw [List.take_succ_eq_append_getElem hk, List.foldl_append]
 rfl
/-- They are right. -/
structure StopsOk (t : Town) (base : Int) (l : List Int) : Prop where
 nodup : l.Nodup
 mem : ∀ x ∈ l, x ∈ t.places ∧ x ≠ base
 size : l.length ≤ 6
theorem stopsS_ok {t : Town} {base : Int} {l : List Int} {b : Nat} (ht : 1 ≤ t.places.length) (h : StopsOk t base l) : StopsOk t base (stopsS t base l b) := by
 unfold stopsS
 split
 ·exact h
 ·rename_i hn
  simp only [not_or] at hn
  refine ⟨?_, fun x hx => ?_, ?_⟩
  ·rw [List.nodup_append]
   exact ⟨h.nodup, by simp, fun x hx y hy e => by rw [List.mem_singleton.1 hy] at e; subst e; exact hn.1 hx⟩
  ·rcases List.mem_append.1 hx with hx | hx
   ·exact h.mem x hx
   ·rw [List.mem_singleton.1 hx]; exact ⟨plN_mem ht b, hn.2.1⟩
  ·have := hn.2.2; simp; omega
theorem stopsF_ok {t : Town} {base : Int} (ht : 1 ≤ t.places.length) (by_ : List Nat) : StopsOk t base (stopsF t base by_) := by
 unfold stopsF
 have : ∀ (l : List Nat) (s : List Int), StopsOk t base s → StopsOk t base (l.foldl (stopsS t base) s) := by
  intro l
  induction l with
  | nil => intro s h; exact h
  | cons b l ih => intro s h; exact ih _ (stopsS_ok ht h)
 exact this by_ [] ⟨List.nodup_nil, by simp, by simp⟩

def SliceOut (w : World) (l : List Int) (e : Ending) (w' : World) : Prop := ∃ (A : Option Addr) (n c : Nat), e = .returned (.slice A n c) ∧ IntsAt w' w'.heap.size A n l ∧ Below w.heap.size w w' ∧ n ≤ c

set_option maxRecDepth 100000 in
set_option maxHeartbeats 4000000 in
theorem lstops_any (A : Option Addr) (n c : Nat) (A' : Option Addr) (m d : Nat) (t : Town) (base : Int) (A2 : Option Addr) (n2 c2 : Nat) (l : List Nat) (w : World) (hn : 1 ≤ n) (hn1 : n ≤ 1000) (hk : n2 ≤ maxLen) (ht : IntsAt w w.heap.size A n t.places) (hr : BytesAt w w.heap.size A2 n2 l) :
  Calls Tryz.prog 30 #[.agg #[.slice A n c, .slice A' m d], .int .i64 base, .slice A2 n2 c2] w (SliceOut w (stopsF t base l)) := by
 unfold maxLen at hk
 have HT := Lib.hid ht
 have HR := Lib.hid hr
 have HLl := Lib.hid hr.len
 have htl : 1 ≤ t.places.length := by have := ht.len; omega
 clear ht hr
 have HLay := Lib.hid (Lay.one w 25 #[.slice A n c, .slice A' m d])
 go_enter Tryz.func30, Tryz.ntmps30
 go_upto_region 2 with fail
 generalize (w.alloc (.cells #[.slice A n c, .slice A' m d] 25)) = w0 at *
 go_wp2_with fail
 go_loopw [7, 16] (fun v7 v16 wr => ∃ (k q : Nat) (B : Option Addr), k ≤ n2 ∧ v16 = .int .i64 k ∧ v7 = .slice B (stopsF t base (l.take k)).length q ∧ Hid (Lay w wr [(w.heap.size, 25, #[.slice A n c, .slice A' m d])] ∧ Own wr w0.heap.size 3 1 B (stopsF t base (l.take k)).length q ((stopsF t base (l.take k)).map (Value.int .i64)) ∧ w0.heap.size ≤ wr.heap.size))
  (fun _ vi _ => n2 - (intOf vi).toNat)
 case atStart => exact ⟨0, 0, none, by omega, rfl, rfl, Lib.hid ⟨HLay.out, Own.none_ _ _ _ _, Nat.le_refl _⟩⟩
 case round =>
  obtain ⟨k, q, B, hkk, rfl, rfl, HS⟩ := hrel
  by_cases hlt : k < n2
  ·obtain ⟨b1, o1, x, rfl, hb1, hx, cx, hx255⟩ := (HR.out.below HS.out.1.1).cell hlt
   have HX := Lib.hid hx
   have HSL := Lib.hid (stopsF_ok (base := base) htl (l.take k)).size
   have HSU := Lib.hid (stops_succ (t := t) (base := base) hx)
   obtain ⟨st, hst⟩ : ∃ st, stopsF t base (l.take k) = st := ⟨_, rfl⟩
   rw [hst] at HS HSL HSU ⊢
   have y0 := (HS.out.1.blk 0 rfl).cell 0
   have y1 := (HS.out.1.blk 0 rfl).cell 1
   have ly := HS.out.1.lt 0 rfl
   clear hx hst
   go_wp2_with fail
   refine (lplace_any A n c A' m d t x wr hn hn1 hx255 ((HT.out.below HS.out.1.1).more HS.out.1.1.size)).mono ?_
   rintro e w2 ⟨rfl, hb2⟩
   obtain ⟨pl, hpl⟩ : ∃ pl, plN t x = pl := ⟨_, rfl⟩
   rw [hpl]
   have HPL := Lib.hid hpl
   have HL2 := Lib.hid (HS.out.1.below hb2)
   have HO2 := Lib.hid (HS.out.2.1.below hb2 (Nat.le_refl _))
   have HZ2 := Lib.hid (Nat.le_trans HS.out.2.2 hb2.size)
   have hsl : st.length ≤ 6 := HSL.out
   clear hb2 y0 y1 ly hpl cx hb1
   go_wp2_with fail
   go_loopw [11, 25] (fun v11 v25 wr2 => ∃ (j : Nat), j ≤ st.length ∧ v25 = .int .i64 j ∧ v11 = .bool ((st.take j).any fun y => y == pl) ∧ wr2 = w2)
    (fun _ vi _ => st.length - (intOf vi).toNat)
   case atStart => exact ⟨0, by omega, rfl, rfl, rfl⟩
   case round =>
    obtain ⟨j, hj, rfl, rfl, hww⟩ := hrel
    have hww' := hww.symm
    clear hww
    subst hww'
    by_cases hjl : j < st.length
    ·obtain ⟨b2, o2, y, rfl, hb2, hy, cy⟩ := (ints_of_own HO2.out (Nat.le_refl _)).cell hjl
     have HTK : Hid (((st.take (j + 1)).any fun y => y == pl) = (((st.take j).any fun y => y == pl) || (y == pl))) := Lib.hid (by
      obtain ⟨hj', rfl⟩ := List.getElem?_eq_some_iff.1 hy
      rw [List.take_succ_eq_append_getElem hj', List.any_append]
      simp)
     clear hy
     cases hv : ((st.take j).any fun y => y == pl) with
     | true =>
      have HV := Lib.hid hv
      clear hv
      go_wp2_with fail
      go_roundw
      case rel => exact ⟨j + 1, by omega, by go_num, by rw [HTK.out, HV.out]; rfl, trivial⟩
      case measure => simp [intOf]; omega
     | false =>
      have HV := Lib.hid hv
      clear hv
      go_wp2_with fail
      go_roundw
      case rel => exact ⟨j + 1, by omega, by go_num, by rw [HTK.out, HV.out]; rfl, trivial⟩
      case measure => simp [intOf]; omega
    ·obtain rfl : j = st.length := by omega
     rw [List.take_length] at *
     have hanyv : (st.any fun y => y == pl) = decide (pl ∈ st) := by
      rw [Bool.eq_iff_iff]; simp
     rw [hanyv]
     clear hanyv
     by_cases hin : pl ∈ st
     ·have HE : Hid (stopsF t base (l.take (k + 1)) = st) := Lib.hid (by rw [HSU.out]; unfold stopsS; rw [HPL.out, if_pos (.inl hin)])
      have hind : decide (pl ∈ st) = true := by simpa using hin
      clear hin
      go_wp2_with fail
      go_roundw
      case rel => exact ⟨k + 1, q, B, by omega, by go_num, by rw [HE.out], Lib.hid ⟨HL2.out, by rw [HE.out]; exact HO2.out, HZ2.out⟩⟩
      case measure => simp [intOf]; omega
     ·have HIN := Lib.hid hin
      have hind : decide (pl ∈ st) = false := by simpa using hin
      clear hin
      by_cases hbase : pl = base
      ·have HE : Hid (stopsF t base (l.take (k + 1)) = st) := Lib.hid (by rw [HSU.out]; unfold stopsS; rw [HPL.out, if_pos (.inr (.inl hbase))])
       have hbd : (pl != base) = false := by simpa using hbase
       clear hbase
       go_wp2_with fail
       go_roundw
       case rel => exact ⟨k + 1, q, B, by omega, by go_num, by rw [HE.out], Lib.hid ⟨HL2.out, by rw [HE.out]; exact HO2.out, HZ2.out⟩⟩
       case measure => simp [intOf]; omega
      ·have hbd : (pl != base) = true := by simpa using hbase
       have HBA := Lib.hid hbase
       clear hbase
       by_cases h6 : 6 ≤ st.length
       ·have HE : Hid (stopsF t base (l.take (k + 1)) = st) := Lib.hid (by rw [HSU.out]; unfold stopsS; rw [HPL.out, if_pos (.inr (.inr h6))])
        have h6d : decide (((st.length : Nat) : Int) < 6) = false := by simp; omega
        go_wp2_with fail
        go_roundw
        case rel => exact ⟨k + 1, q, B, by omega, by go_num, by rw [HE.out], Lib.hid ⟨HL2.out, by rw [HE.out]; exact HO2.out, HZ2.out⟩⟩
        case measure => simp [intOf]; omega
       ·have HE : Hid (stopsF t base (l.take (k + 1)) = st ++ [pl]) := Lib.hid (by rw [HSU.out]; unfold stopsS; rw [HPL.out, if_neg (by
         rintro (h | h | h)
         ·exact HIN.out h
         ·exact HBA.out h
         ·exact h6 h)])
        have h6d : decide (((st.length : Nat) : Int) < 6) = true := by simp; omega
        have HOB : Hid (Blk (w2.alloc (.cells #[.int .i64 pl] 3)) w2.heap.size 3 #[.int .i64 pl]) := Lib.hid (Blk.new _ _ _)
        have HOW := Lib.hid (HO2.out.alloc (.cells #[.int .i64 pl] 3))
        have HLW := Lib.hid (HL2.out.below ((Below.refl w2.heap.size w2).alloc (Nat.le_refl _) (.cells #[.int .i64 pl] 3)))
        have HZW : Hid (w0.heap.size ≤ (w2.alloc (.cells #[.int .i64 pl] 3)).heap.size) := Lib.hid (by have := HZ2.out; simp; omega)
        go_wp2_with (first | (at_builtin; refine wpList_append_any _ rfl _ _ (by rfl) elem_int (by rfl) HOW.out (by rfl) (one_int (x := pl) HOB.out.lt (HOB.out.cell 0)) (ints_one _) (by unfold maxLen; omega) (by omega) HZW.out ?_) | fail)
        rintro A8 c8 w8 hown hgr hA8
        have HO8 : Hid (Own w8 w0.heap.size 3 1 A8 (st.length + 1) c8 ((st ++ [pl]).map (Value.int .i64))) := Lib.hid (by rw [List.map_append]; exact hown)
        have HL8 := Lib.hid (show Lay w w8 [(w.heap.size, 25, #[.slice A n c, .slice A' m d])] from by
         refine ⟨HLW.out.1.grown hgr HLW.out.1.size (fun j hj => Nat.le_trans HLay.out.1.size (own_row HOW.out hj)), fun b hb => ?_⟩
         obtain rfl := List.mem_singleton.1 hb
         exact ⟨Nat.le_refl _, (HLW.out.blk 0 rfl).grown hgr (fun e => by have := own_row HOW.out e.symm; have := HLay.out.lt 0 rfl; omega)⟩)
        have HZ8 := Lib.hid (Nat.le_trans HZW.out hgr.size)
        clear hown hgr hA8
        go_wp2_with fail
        go_roundw
        case rel => exact ⟨k + 1, c8, A8, by omega, by go_num, by rw [HE.out]; simp, Lib.hid ⟨HL8.out, by rw [HE.out]; simpa using HO8.out, HZ8.out⟩⟩
        case measure => simp [intOf]; omega
  ·obtain rfl : k = n2 := by omega
   have HE : Hid (l.take k = l) := Lib.hid (List.take_of_length_le (by have := HLl.out; omega))
   have HS2 := HS.out
   rw [HE.out] at HS2 ⊢
   have HS3 := Lib.hid HS2
   clear HS2 HS
   go_wp2_with fail
   go_ret
   exact ⟨_, _, _, rfl, ints_of_own HS3.out.2.1 (Nat.le_refl _), HS3.out.1.1, HS3.out.2.1.cap_le.1⟩
end Go.Proofs.YtahkjagjcogeiaaGreatDoor
/- What the first walk is good for: no walk is before it; pieces; walks whatever the price: plain Lean. -/
namespace Go.Proofs.YtahkjagjcogeiaaGreatDoor

section
variable {t : Town} {dk : Bool} {p q : Price} {u v m : Int} {c d c1 c2 : Cost} {l k l1 l2 : List Int} {g g' : Gone}
theorem key_split (h : cmpL (key c l) (key d k) ≤ 0) : c.a < d.a ∨ (c.a = d.a ∧ (c.b < d.b ∨ (c.b = d.b ∧ (c.c < d.c ∨ (c.c = d.c ∧ (c.d < d.d ∨ (c.d = d.d ∧ cmpL l k ≤ 0))))))) := by
 rw [cmp_key] at h
 by_cases h0 : cmpL c.list d.list = 0
 ·rw [if_pos h0] at h
  have := list_eq h0
  subst this
  omega
 ·rw [if_neg h0] at h
  rw [cmpC_unf] at h h0
  by_cases e1 : c.a < d.a
  ·omega
  ·rw [if_neg e1] at h h0
   by_cases e2 : d.a < c.a
   ·rw [if_pos e2] at h; omega
   ·rw [if_neg e2] at h h0
    by_cases e3 : c.b < d.b
    ·omega
    ·rw [if_neg e3] at h h0
     by_cases e4 : d.b < c.b
     ·rw [if_pos e4] at h; omega
     ·rw [if_neg e4] at h h0
      by_cases e5 : c.c < d.c
      ·omega
      ·rw [if_neg e5] at h h0
       by_cases e6 : d.c < c.c
       ·rw [if_pos e6] at h; omega
       ·rw [if_neg e6] at h h0
        by_cases e7 : c.d < d.d
        ·omega
        ·rw [if_neg e7] at h h0
         by_cases e8 : d.d < c.d
         ·rw [if_pos e8] at h; omega
         ·rw [if_neg e8] at h0; exact absurd rfl h0
theorem walk_some (ht : Fine t) (hp : Fair p) (h : Walk t dk p u v c l) : ∃ d k, best t dk p u v = some (d, k) ∧ cmpL (key d k) (key c l) ≤ 0 := by
 have hf := best_first ht hp dk u v
 cases hb : best t dk p u v with
 | none => rw [hb] at hf; exact absurd h (hf c l)
 | some r =>
  obtain ⟨d, k⟩ := r
  rw [hb] at hf
  exact ⟨d, k, rfl, hf.2 _ _ h⟩
theorem best_walk (ht : Fine t) (hp : Fair p) (h : best t dk p u v = some (c, l)) : First t dk p u v (some (c, l)) := by rw [← h]; exact best_first ht hp dk u v
/-- The first walk followed. -/
theorem best_gone (ht : Fine t) (hp : Fair p) (h : best t dk p u v = some (c, l)) : ∃ g, followF t dk (startG u) l = (g, true) ∧ GW t dk (startG u) l g ∧ g.at_ = v ∧ g.cost p = c := by
 obtain ⟨g, h1, h2, h3⟩ := (best_walk ht hp h).1.gw (startG u) rfl
 rw [startG_cost, zero_addC] at h3
 exact ⟨g, follow_gw ht.ids h1, h1, h2, h3⟩
end

section
variable {t : Town} {dk : Bool} {p : Price} {u v : Int} {c : Cost} {l k : List Int} {g g' : Gone}
theorem askE_two {t : Town} {u v : Int} (hb : townB t = true) (hu : u ∈ t.places) (hv : v ∈ t.places) : askE t [u, v] = 0 := by
 unfold askE hasB
 rw [if_pos hb, if_pos (by simp [memI_iff.2 hu, memI_iff.2 hv])]
theorem askE_one {t : Town} {u : Int} (hb : townB t = true) (hu : u ∈ t.places) : askE t [u] = 0 := by
 unfold askE hasB
 rw [if_pos hb, if_pos (by simp [memI_iff.2 hu])]
end
end Go.Proofs.YtahkjagjcogeiaaGreatDoor
/- The answer's Less. -/
namespace Go.Proofs.YtahkjagjcogeiaaGreatDoor
open Go.RowKit

set_option maxRecDepth 100000 in
set_option maxHeartbeats 4000000 in
theorem lessToil_any (a1 a2 b1 b2 : Int) (w : World) :
  Calls Tryz.prog 21 #[.agg #[.int .i64 a1, .int .i64 a2], .agg #[.int .i64 b1, .int .i64 b2]] w fun e w' => e = .returned (.bool (lessP a1 a2 b1 b2)) ∧ Below w.heap.size w w' := by
 have hb : Below w.heap.size w ((w.alloc (.cells #[.int .i64 a1, .int .i64 a2] 34)).alloc (.cells #[.int .i64 b1, .int .i64 b2] 34)) := ((Below.refl _ _).alloc (Nat.le_refl _) _).alloc (by simp) _
 by_cases h1 : a1 < b1
 ·have e : lessP a1 a2 b1 b2 = true := by unfold lessP; simp [h1]
  have HE := Lib.hid e
  have HB := Lib.hid hb
  clear e hb
  go_enter Tryz.func21, Tryz.ntmps21
  go_wp2_with fail
  go_ret
  exact ⟨ret_bool HE.out.symm, HB.out⟩
 ·by_cases h2 : a1 = b1
  ·subst h2
   have e : lessP a1 a2 a1 b2 = decide (a2 < b2) := by unfold lessP; simp
   have HE := Lib.hid e
   have HB := Lib.hid hb
   clear e hb h1
   go_enter Tryz.func21, Tryz.ntmps21
   go_wp2_with fail
   go_ret
   exact ⟨ret_bool HE.out.symm, HB.out⟩
  ·have e : lessP a1 a2 b1 b2 = false := by unfold lessP; simp [h1, h2]
   have h2' : (a1 == b1) = false := by simpa using h2
   have HE := Lib.hid e
   have HB := Lib.hid hb
   clear e hb h2
   go_enter Tryz.func21, Tryz.ntmps21
   go_wp2_with fail
   go_ret
   exact ⟨ret_bool HE.out.symm, HB.out⟩
end Go.Proofs.YtahkjagjcogeiaaGreatDoor
/- Words for the ten laws. -/
namespace Go.Proofs.YtahkjagjcogeiaaGreatDoor
open Go.RowKit Go.Shelf

theorem townB_one {t : Town} (h : townB t = true) : 1 ≤ t.places.length := by
 unfold townB sizeB at h
 simp only [Bool.and_eq_true, decide_eq_true_eq] at h
 have := inB1_spec h.1.1.1
 omega
theorem eqToil_yes {a1 a2 b1 b2 : Int} (h : a1 = b1 ∧ a2 = b2) (w : World) : (Op.equalIn 10000 34 (.agg #[.int .i64 a1, .int .i64 a2]) (.agg #[.int .i64 b1, .int .i64 b2])).run Tryz.prog w = .ok true w := by
 rw [eqToil_run, h.1, h.2]; simp
theorem eqToil_no {a1 a2 b1 b2 : Int} (h : ¬ (a1 = b1 ∧ a2 = b2)) (w : World) : (Op.equalIn 10000 34 (.agg #[.int .i64 a1, .int .i64 a2]) (.agg #[.int .i64 b1, .int .i64 b2])).run Tryz.prog w = .ok false w := by
 rw [eqToil_run]
 have : (a1 == b1 && a2 == b2) = false := by
  rw [Bool.eq_false_iff]
  intro e
  simp at e
  exact h e
 rw [this]
theorem any_take_mem {l : List Int} {v : Int} {j : Nat} (h : l.length ≤ j) : ((l.take j).any fun y => y == v) = decide (v ∈ l) := by
 rw [List.take_of_length_le h, Bool.eq_iff_iff]
 simp
theorem undef_ne {b : Bool} {C : Prop} (h : some undef = some (Value.bool b)) : C := by cases h
theorem own_off {w w' : World} {base size n cap g : Nat} {e t : TypeId} {A : Option Addr} {xs : List Value} {cs : Array Value} (h : Own w base e size A n cap xs) (hg : w.grownBy w' (some g)) (hb : Blk w g t cs) (ht : e ≠ t) : Own w' base e size A n cap xs :=
 h.grown hg (fun a ha e' => by
  rcases h.form with ⟨h1, _⟩ | ⟨g', cur, h1, _, h2, _⟩
  ·rw [h1] at ha; cases ha
  ·rw [h1] at ha
   cases ha
   exact blk_ne h2 hb ht (Option.some.inj e'))
theorem ints_zero {w : World} {B : Nat} {A : Option Addr} : IntsAt w B A 0 [] := ⟨rfl, fun h => absurd h (Nat.lt_irrefl 0)⟩
theorem ints_take {w : World} {B n r : Nat} {A : Option Addr} {l : List Int} (h : IntsAt w B A n l) (hr : r ≤ n) : IntsAt w B A r (l.take r) := by
 have hl := h.len
 refine ⟨by simp; omega, fun h0 => ?_⟩
 obtain ⟨ad, e, hb, hc⟩ := h.2 (by omega)
 refine ⟨ad, e, hb, fun j u hu => hc j u ?_⟩
 rw [List.getElem?_map, List.getElem?_take] at hu
 split at hu
 ·rw [List.getElem?_map]; exact hu
 ·cases hu
theorem ints_drop {w : World} {B n r b off : Nat} {l : List Int} (h : IntsAt w B (some ⟨b, off, none⟩) n l) (hr : r ≤ n) : IntsAt w B (some ⟨b, off + r, none⟩) (n - r) (l.drop r) := by
 have hl := h.len
 refine ⟨by simp; omega, fun h0 => ?_⟩
 obtain ⟨ad, e, hb, hc⟩ := h.2 (by omega)
 cases e
 refine ⟨_, rfl, hb, fun j u hu => ?_⟩
 rw [List.getElem?_map, List.getElem?_drop] at hu
 have h1 := hc (r + j) u (by rw [List.getElem?_map]; exact hu)
 rw [← h1]
 congr 1
 unfold Addr.add
 by_cases h2 : j = 0
 ·subst h2
  by_cases h3 : r = 0
  ·subst h3; simp
  ·simp [h3]
 ·have h3 : ¬ r + j = 0 := by omega
  simp only [h2, h3, if_false]
  simp
end Go.Proofs.YtahkjagjcogeiaaGreatDoor
/- Towns with more links, and with less; donkeys: plain Lean. -/
namespace Go.Proofs.YtahkjagjcogeiaaGreatDoor

section
variable {t t' : Town} {u v : Int} {dk dk' : Bool} {l k : List Int} {g g' : Gone} {p : Price} {c d : Cost}
theorem best_a (ht : Fine t) (h : best t dk freeP u v = some (c, l)) : c.a = 0 := by
 obtain ⟨g, _, _, _, h4⟩ := best_gone ht freeP_fair h
 rw [← h4]
 simp [Gone.cost, freeP]
end
end Go.Proofs.YtahkjagjcogeiaaGreatDoor
/- By a place between; pieces of the way: plain Lean. -/
namespace Go.Proofs.YtahkjagjcogeiaaGreatDoor

section
variable {t : Town} {u v m : Int} {dk : Bool} {l k : List Int} {g g' : Gone} {c d : Cost}
theorem wayT_small (ht : Fine t) (h : askE t [u, v] = 0) : (0 ≤ (wayT t u v dk).1 ∧ (wayT t u v dk).1 ≤ 4500) ∧ 0 ≤ (wayT t u v dk).2 ∧ (wayT t u v dk).2 ≤ 18000 := by
 cases hb : best t dk freeP u v with
 | none => rw [(way_none h hb).2.2]; simp
 | some r =>
  obtain ⟨c, l⟩ := r
  rw [(way_some h hb).2.2]
  have := best_cost ht freeP_fair hb
  exact this.2
end
end Go.Proofs.YtahkjagjcogeiaaGreatDoor
