/- Part 12 of the texts of this claim, joined. -/
import Derived.Test.YtahkjagjcogeiaaGreatDoorZxExamples11
set_option linter.unusedVariables false
/- The law ClimbExamples, walked. -/
namespace Go.Proofs.YtahkjagjcogeiaaGreatDoor
section
open Go.RowKit Go.Shelf
theorem lay_ge {w W : World} {bs : List (Nat × TypeId × Array Value)} {g : Nat} {t : TypeId} {cs : Array Value} (h : Lay w W bs) (i : Nat) (hi : bs[i]? = some (g, t, cs)) : w.heap.size ≤ g := (h.2 _ (List.mem_of_getElem? hi)).1
theorem lay_take {w W : World} {bs : List (Nat × TypeId × Array Value)} (n : Nat) (h : Lay w W bs) : Lay w W (bs.take n) := ⟨h.1, fun b hb => h.2 b (List.mem_of_mem_take hb)⟩
theorem lay_none {w W : World} (h : Below w.heap.size w W) : Lay w W [] := ⟨h, fun b hb => by cases hb⟩
theorem blk_neT {W : World} {g g' : Nat} {t t' : TypeId} {cs cs' : Array Value} (h : Blk W g t cs) (h' : Blk W g' t' cs') (ht : t ≠ t') : g ≠ g' := fun e => by
 subst e
 unfold Blk at h h'
 rw [h] at h'
 cases h'
 exact ht rfl
def ExTownOwn (w : World) (e : Ending) (w' : World) : Prop := ∃ g g', e = .returned (.agg #[.slice (some ⟨g, 0, none⟩) 4 4, .slice (some ⟨g', 0, none⟩) 4 4]) ∧ w.heap.size ≤ g ∧ w.heap.size ≤ g' ∧
 Blk w' g 3 #[.int .i64 1, .int .i64 2, .int .i64 3, .int .i64 4] ∧ Blk w' g' 52 #[.int .i64 1, .int .i64 1, .int .i64 2, .int .i64 50, .int .i64 40, .int .i64 2, .int .i64 1, .int .i64 3, .int .i64 0, .int .i64 100, .int .i64 3, .int .i64 3, .int .i64 2, .int .i64 20, .int .i64 10, .int .i64 4, .int .i64 2, .int .i64 4, .int .i64 0, .int .i64 30] ∧ Below w.heap.size w w'
set_option maxRecDepth 100000 in
set_option maxHeartbeats 8000000 in
theorem town_own (w : World) : Calls Tryz.prog 43 #[] w (ExTownOwn w) := by
 go_enter Tryz.func43, Tryz.ntmps43
 have Ly := lh (Lay.three w 25 #[.slice (some ⟨w.heap.size + 1, 0, none⟩) 4 4, .slice (some ⟨w.heap.size + 1 + 1, 0, none⟩) 4 4] 3 #[.int .i64 1, .int .i64 2, .int .i64 3, .int .i64 4] 52 #[.int .i64 1, .int .i64 1, .int .i64 2, .int .i64 50, .int .i64 40, .int .i64 2, .int .i64 1, .int .i64 3, .int .i64 0, .int .i64 100, .int .i64 3, .int .i64 3, .int .i64 2, .int .i64 20, .int .i64 10, .int .i64 4, .int .i64 2, .int .i64 4, .int .i64 0, .int .i64 30])
 go_wp2_with fail
 have c0 := lyc Ly 0 rfl 0
 have c1 := lyc Ly 0 rfl 1
 exact bodyPost_ret (v := .agg #[.slice (some ⟨w.heap.size + 1, 0, none⟩) 4 4, .slice (some ⟨w.heap.size + 1 + 1, 0, none⟩) 4 4]) (by simp [results, Tryz.results43, go_sem, c0, c1]) rfl ⟨_, _, rfl, lay_ge Ly.out 1 rfl, lay_ge Ly.out 2 rfl, Ly.out.blk 1 rfl, Ly.out.blk 2 rfl, Ly.out.1⟩
theorem Ts.wpTree_three {G : World → World → Prop} [Gr.Grows G] {F : Fence} {n : Nat} {P : Program} {l : List Oper} {tail : World → Act → Prop} {tab : Ts.Plan} {k x y z : Nat} {p : List Nat} {V : World} {a A : Act} {m : List Bool} {o o' o2 : Oper} (hr : Ts.rowAt tab p = some (m, [x, y, z])) (ho : l[x]? = some o) (ho' : l[y]? = some o') (ho2 : l[z]? = some o2) (hq : Gr.Quietly G F n P l V (pickB l m) a A)
  (h : ∀ W, Below V.heap.size V W → wpListIn F n P l.toArray (Exit.then (fun a' W' => a'.defers = A.defers ∧ G W W' ∧ Ts.wpTree G F n P l tail tab k (Ts.ins x p) W' a') (fun _ _ _ => False)) [o] A W)
  (h' : ∀ W, Below V.heap.size V W → wpListIn F n P l.toArray (Exit.then (fun a' W' => a'.defers = A.defers ∧ G W W' ∧ Ts.wpTree G F n P l tail tab k (Ts.ins y p) W' a') (fun _ _ _ => False)) [o'] A W)
  (h2 : ∀ W, Below V.heap.size V W → wpListIn F n P l.toArray (Exit.then (fun a' W' => a'.defers = A.defers ∧ G W W' ∧ Ts.wpTree G F n P l tail tab k (Ts.ins z p) W' a') (fun _ _ _ => False)) [o2] A W) : Ts.wpTree G F n P l tail tab (k + 1) p V a := ⟨m, [x, y, z], hr, A, hq, (fun e => by cases e), fun v hv => by
  rcases List.mem_cons.1 hv with rfl | hv
  ·exact ⟨o, ho, h⟩
  ·rcases List.mem_cons.1 hv with rfl | hv
   ·exact ⟨o', ho', h'⟩
   ·obtain rfl := List.mem_singleton.1 hv; exact ⟨o2, ho2, h2⟩⟩
set_option maxRecDepth 100000 in
set_option maxHeartbeats 16000000 in
theorem zexamples_walk_in (w : World) (hL : Laid w) : CallsIn Fence.wide 9 Tryz.prog 10 #[] w fun e w' => e = .returned (.bool true) ∧ Below w.heap.size w w' := by
 have HL := lh hL
 have hl0 := hL.2.2.2
 clear hL
 have Ly := lh (Lay.nil w)
 refine callsIn_of_wp Tryz.func10 rfl trivial ?_ rfl
 simp only [Tryz.ntmps10, List.size_toArray, List.length_nil, Nat.reduceSub, Array.replicate_succ, Array.replicate_zero, List.push_toArray, List.append_toArray, List.nil_append, List.cons_append]
 gi_wp2
 gi_wp2
 refine ⟨trivial, (callsIn_wide.2 (alive_any w (HL.out.below Ly.out.bel hl0))).mono ?_⟩
 rintro e W1 ⟨rfl, hb⟩
 replace Ly := lyb Ly hb
 clear hb
 gi_wp2
 refine ⟨trivial, (callsIn_wide.2 (town_any W1)).mono ?_⟩
 rintro e W2 ⟨g, g2, rfl, ht, hb⟩
 replace Ly := lyb Ly hb
 clear hb
 have HTn := lh ht
 clear ht
 gi_wp2
 refine ⟨trivial, (callsIn_wide.2 (wayl_any (some ⟨g, 0, none⟩) 4 4 (some ⟨g2, 0, none⟩) 4 4 exT 4 1 false W2 (by omega) (by omega) HTn.out (HL.out.below Ly.out.bel hl0))).mono ?_⟩
 rintro e W3 ⟨AA, nAA, cAA, rfl, hi, hb⟩
 replace Ly := lyb Ly hb
 replace HTn := lh ((HTn.out.below hb).more hb.size)
 clear hb
 rw [ey_way.1] at hi
 rw [ey_way.2.1]
 obtain rfl : nAA = 2 := by have := hi.len; simpa using this.symm
 have HA := lh hi
 clear hi
 clear HTn
 gi_wp2
 refine ⟨trivial, (callsIn_wide.2 (town_any W3)).mono ?_⟩
 rintro e W4 ⟨g, g2, rfl, ht, hb⟩
 replace Ly := lyb Ly hb
 replace HA := iu HA hb
 clear hb
 have HTn := lh ht
 clear ht
 gi_wp2
 refine ⟨trivial, (callsIn_wide.2 (toilw_any (some ⟨g, 0, none⟩) 4 4 (some ⟨g2, 0, none⟩) 4 4 exT 4 1 false W4 (by omega) (by omega) HTn.out (HL.out.below Ly.out.bel hl0))).mono ?_⟩
 rintro e W5 ⟨rfl, hb⟩
 replace Ly := lyb Ly hb
 replace HA := iu HA hb
 replace HTn := lh ((HTn.out.below hb).more hb.size)
 clear hb
 rw [ey_way.2.2, ey_way.2.1]
 clear HTn
 gi_wp2
 obtain ⟨V6, hV⟩ : ∃ V, (W5.alloc (.cells #[.int .i64 0, .int .i64 70] 34)) = V := ⟨_, rfl⟩
 rw [hV]
 have hb := fbox_bel hV
 have hnew := fbox_blk hV
 have hge := Ly.out.bel.size
 replace Ly := lyb Ly hb
 replace HA := iu HA hb
 replace Ly := lh (Ly.out.add hge hnew)
 clear hnew hge hb hV
 obtain ⟨G7, hG⟩ : ∃ g, W5.heap.size = g := ⟨_, rfl⟩
 rw [hG] at Ly ⊢
 clear hG
 replace Ly := lh (show Lay w V6 [(G7, 34, #[.int .i64 0, .int .i64 70])] from Ly.out)
 obtain ⟨x0_0, x0_1⟩ := lyc2 Ly 0 rfl
 have l0_ := Ly.out.lt 0 rfl
 gi_wp2
 clear x0_0 x0_1 l0_
 refine ⟨trivial, (callsIn_wide.2 (town_any V6)).mono ?_⟩
 rintro e W8 ⟨g, g2, rfl, ht, hb⟩
 replace Ly := lyb Ly hb
 replace HA := iu HA hb
 clear hb
 have HTn := lh ht
 clear ht
 gi_wp2
 refine ⟨trivial, (callsIn_wide.2 (lskin_any W8)).mono ?_⟩
 rintro e W9 ⟨rfl, hb⟩
 replace Ly := lyb Ly hb
 replace HA := iu HA hb
 replace HTn := lh ((HTn.out.below hb).more hb.size)
 clear hb
 gi_wp2
 obtain ⟨V10, hV⟩ : ∃ V, (W9.alloc (.cells #[.int .i64 1, .int .i64 4] 3)) = V := ⟨_, rfl⟩
 rw [hV]
 have hb := fbox_bel hV
 have hnew := fbox_blk hV
 have hge := Ly.out.bel.size
 replace Ly := lyb Ly hb
 replace HA := iu HA hb
 replace HTn := lh ((HTn.out.below hb).more hb.size)
 replace Ly := lh (Ly.out.add hge hnew)
 clear hnew hge hb hV
 obtain ⟨G11, hG⟩ : ∃ g, W9.heap.size = g := ⟨_, rfl⟩
 rw [hG] at Ly ⊢
 clear hG
 replace Ly := lh (show Lay w V10 [(G7, 34, #[.int .i64 0, .int .i64 70]), (G11, 3, #[.int .i64 1, .int .i64 4])] from Ly.out)
 obtain ⟨x0_0, x0_1⟩ := lyc2 Ly 0 rfl
 have l0_ := Ly.out.lt 0 rfl
 gi_wp2
 clear x0_0 x0_1 l0_
 refine ⟨trivial, (callsIn_wide.2 (end_any (some ⟨g, 0, none⟩) 4 4 (some ⟨g2, 0, none⟩) 4 4 exT exS 1 (some ⟨G11, 0, none⟩) 2 2 [1, 4] V10 (by omega) (by omega) (by omega) HTn.out (ints_blk2 [1, 4] (Ly.out.blk 1 rfl)) (HL.out.below Ly.out.bel hl0))).mono ?_⟩
 rintro e W12 ⟨rfl, hb⟩
 replace Ly := lyb Ly hb
 replace HA := iu HA hb
 replace HTn := lh ((HTn.out.below hb).more hb.size)
 clear hb
 rw [ey_end.1, ey_end.2]
 clear HTn
 obtain ⟨x0_0, x0_1⟩ := lyc2 Ly 0 rfl
 have l0_ := Ly.out.lt 0 rfl
 gi_wp2
 clear x0_0 x0_1 l0_
 obtain ⟨V13, hV⟩ : ∃ V, (W12.alloc (.cells #[.int .i64 710, .int .i64 930] 63)) = V := ⟨_, rfl⟩
 rw [hV]
 have hb := fbox_bel hV
 have hnew := fbox_blk hV
 have hge := Ly.out.bel.size
 replace Ly := lyb Ly hb
 replace HA := iu HA hb
 replace Ly := lh (Ly.out.add hge hnew)
 clear hnew hge hb hV
 obtain ⟨G14, hG⟩ : ∃ g, W12.heap.size = g := ⟨_, rfl⟩
 rw [hG] at Ly ⊢
 clear hG
 replace Ly := lh (show Lay w V13 [(G7, 34, #[.int .i64 0, .int .i64 70]), (G11, 3, #[.int .i64 1, .int .i64 4]), (G14, 63, #[.int .i64 710, .int .i64 930])] from Ly.out)
 obtain ⟨x0_0, x0_1⟩ := lyc2 Ly 0 rfl
 have l0_ := Ly.out.lt 0 rfl
 obtain ⟨x2_0, x2_1⟩ := lyc2 Ly 2 rfl
 have l2_ := Ly.out.lt 2 rfl
 gi_wp2
 clear x0_0 x0_1 l0_ x2_0 x2_1 l2_
 refine ⟨trivial, (callsIn_wide.2 (town_any V13)).mono ?_⟩
 rintro e W15 ⟨g, g2, rfl, ht, hb⟩
 replace Ly := lyb Ly hb
 replace HA := iu HA hb
 clear hb
 have HTn := lh ht
 clear ht
 gi_wp2
 refine ⟨trivial, (callsIn_wide.2 (wayl_any (some ⟨g, 0, none⟩) 4 4 (some ⟨g2, 0, none⟩) 4 4 exT 3 3 true W15 (by omega) (by omega) HTn.out (HL.out.below Ly.out.bel hl0))).mono ?_⟩
 rintro e W16 ⟨AB, nAB, cAB, rfl, hi, hb⟩
 replace Ly := lyb Ly hb
 replace HA := iu HA hb
 replace HTn := lh ((HTn.out.below hb).more hb.size)
 clear hb
 rw [ey_none.1] at hi
 rw [ey_none.2]
 obtain rfl : nAB = 0 := by have := hi.len; simpa using this.symm
 have HB := lh hi
 clear hi
 clear HTn
 obtain ⟨x0_0, x0_1⟩ := lyc2 Ly 0 rfl
 have l0_ := Ly.out.lt 0 rfl
 obtain ⟨x2_0, x2_1⟩ := lyc2 Ly 2 rfl
 have l2_ := Ly.out.lt 2 rfl
 gi_wp2
 clear x0_0 x0_1 l0_ x2_0 x2_1 l2_
 refine ⟨trivial, (callsIn_wide.2 (town_any W16)).mono ?_⟩
 rintro e W17 ⟨g, g2, rfl, ht, hb⟩
 replace Ly := lyb Ly hb
 replace HA := iu HA hb
 replace HB := iu HB hb
 clear hb
 have HTn := lh ht
 clear ht
 gi_wp2
 refine ⟨trivial, (callsIn_wide.2 (round_any (some ⟨g, 0, none⟩) 4 4 (some ⟨g2, 0, none⟩) 4 4 exT 1 none 0 0 [] true W17 (by omega) (by omega) (by omega) HTn.out ints_zero (HL.out.below Ly.out.bel hl0))).mono ?_⟩
 rintro e W18 ⟨AE, nAE, cAE, rfl, hi, hb⟩
 replace Ly := lyb Ly hb
 replace HA := iu HA hb
 replace HB := iu HB hb
 replace HTn := lh ((HTn.out.below hb).more hb.size)
 clear hb
 rw [ey_round0.1] at hi ⊢
 rw [ey_round0.2]
 obtain rfl : nAE = 0 := by have := hi.len; simpa using this.symm
 have HE := lh hi
 clear hi
 clear HTn
 obtain ⟨x0_0, x0_1⟩ := lyc2 Ly 0 rfl
 have l0_ := Ly.out.lt 0 rfl
 obtain ⟨x2_0, x2_1⟩ := lyc2 Ly 2 rfl
 have l2_ := Ly.out.lt 2 rfl
 gi_wp2
 clear x0_0 x0_1 l0_ x2_0 x2_1 l2_
 obtain ⟨V19, hV⟩ : ∃ V, (W18.alloc (.cells #[.int .i64 0, .int .i64 0] 34)) = V := ⟨_, rfl⟩
 rw [hV]
 have hb := fbox_bel hV
 have hnew := fbox_blk hV
 have hge := Ly.out.bel.size
 replace Ly := lyb Ly hb
 replace HA := iu HA hb
 replace HB := iu HB hb
 replace HE := iu HE hb
 replace Ly := lh (Ly.out.add hge hnew)
 clear hnew hge hb hV
 obtain ⟨G20, hG⟩ : ∃ g, W18.heap.size = g := ⟨_, rfl⟩
 rw [hG] at Ly ⊢
 clear hG
 replace Ly := lh (show Lay w V19 [(G7, 34, #[.int .i64 0, .int .i64 70]), (G11, 3, #[.int .i64 1, .int .i64 4]), (G14, 63, #[.int .i64 710, .int .i64 930]), (G20, 34, #[.int .i64 0, .int .i64 0])] from Ly.out)
 obtain ⟨x0_0, x0_1⟩ := lyc2 Ly 0 rfl
 have l0_ := Ly.out.lt 0 rfl
 obtain ⟨x2_0, x2_1⟩ := lyc2 Ly 2 rfl
 have l2_ := Ly.out.lt 2 rfl
 obtain ⟨x3_0, x3_1⟩ := lyc2 Ly 3 rfl
 have l3_ := Ly.out.lt 3 rfl
 gi_wp2
 clear x0_0 x0_1 l0_ x2_0 x2_1 l2_ x3_0 x3_1 l3_
 refine ⟨trivial, (callsIn_wide.2 (town_any V19)).mono ?_⟩
 rintro e W21 ⟨g, g2, rfl, ht, hb⟩
 replace Ly := lyb Ly hb
 replace HA := iu HA hb
 replace HB := iu HB hb
 replace HE := iu HE hb
 clear hb
 have HTn := lh ht
 clear ht
 gi_wp2
 refine ⟨trivial, (callsIn_wide.2 (open_any (some ⟨g, 0, none⟩) 4 4 (some ⟨g2, 0, none⟩) 4 4 exT exX W21 (by omega) (by omega) HTn.out (HL.out.below Ly.out.bel hl0))).mono ?_⟩
 rintro e W22 ⟨AZ, cZ, AY, cY, rfl, _, _, _, hb⟩
 replace Ly := lyb Ly hb
 replace HA := iu HA hb
 replace HB := iu HB hb
 replace HE := iu HE hb
 replace HTn := lh ((HTn.out.below hb).more hb.size)
 clear hb
 rw [ey_open.1, ey_open.2]
 obtain ⟨zp, hzp⟩ : ∃ zp, (openR exT exX).places.length = zp := ⟨_, rfl⟩
 rw [hzp]
 clear hzp
 clear HTn
 obtain ⟨x0_0, x0_1⟩ := lyc2 Ly 0 rfl
 have l0_ := Ly.out.lt 0 rfl
 obtain ⟨x2_0, x2_1⟩ := lyc2 Ly 2 rfl
 have l2_ := Ly.out.lt 2 rfl
 obtain ⟨x3_0, x3_1⟩ := lyc2 Ly 3 rfl
 have l3_ := Ly.out.lt 3 rfl
 gi_wp2
 clear x0_0 x0_1 l0_ x2_0 x2_1 l2_ x3_0 x3_1 l3_
 obtain ⟨V23, hV⟩ : ∃ V, (W22.alloc (.cells #[.slice AZ zp cZ, .slice AY 5 cY] 25)) = V := ⟨_, rfl⟩
 rw [hV]
 have hb := fbox_bel hV
 have hnew := fbox_blk hV
 have hge := Ly.out.bel.size
 replace Ly := lyb Ly hb
 replace HA := iu HA hb
 replace HB := iu HB hb
 replace HE := iu HE hb
 replace Ly := lh (Ly.out.add hge hnew)
 clear hnew hge hb hV
 obtain ⟨G24, hG⟩ : ∃ g, W22.heap.size = g := ⟨_, rfl⟩
 rw [hG] at Ly ⊢
 clear hG
 replace Ly := lh (show Lay w V23 [(G7, 34, #[.int .i64 0, .int .i64 70]), (G11, 3, #[.int .i64 1, .int .i64 4]), (G14, 63, #[.int .i64 710, .int .i64 930]), (G20, 34, #[.int .i64 0, .int .i64 0]), (G24, 25, #[.slice AZ zp cZ, .slice AY 5 cY])] from Ly.out)
 have hs1 := eqToil_same 0 70
 have hs2 := eqToil_same 0 0
 have hs3 := eqSpan_same 710 930
 try simp only [List.append_eq, List.cons_append, List.nil_append]
 refine Tr.wpIn_region_tree (G := Tr.Up) (V0 := V23) [([], [true, true], [2]), ([2], [], [3]), ([2, 3], [false, false, false, false, true, true, true, true, true, true, true], [11]), ([2, 3, 11], [false, false, false, false, false, false, false, false, false, false, false, false, true, true, true, true, true, true, true, true], [20]), ([2, 3, 11, 20], [false, false, false, false, false, false, false, false, false, false, false, false, false, false, false, false, false, false, false, false, false, true, true, true, true, true], [26]), ([2, 3, 11, 20, 26], [false, false, false, false, false, false, false, false, false, false, false, false, false, false, false, false, false, false, false, false, false, false, false, false, false, false, false, true, true, true, true, true], [32]), ([2, 3, 11, 20, 26, 32], [false, false, false, false, false, false, false, false, false, false, false, false, false, false, false, false, false, false, false, false, false, false, false, false, false, false, false, false, false, false, false, false, false, true, true, true, true], [37]), ([2, 3, 11, 20, 26, 32, 37], [false, false, false, false, false, false, false, false, false, false, false, false, false, false, false, false, false, false, false, false, false, false, false, false, false, false, false, false, false, false, false, false, false, false, false, false, false, false, true, true, true, true, true, true, true, true, true, true, true, true], [])] 8 [] (by kernel_rfl) (by kernel_rfl) (by kernel_rfl) (below_drewN (Below.refl _ _) 1) ?_
 refine Tr.wpTree_one (A := ?AF1) rfl rfl ?hq1 ?_
 case hq1 =>
  rintro σ hσ of hof hcl
  have HOF := lh hof
  have HCL := lh hcl
  clear hof hcl
  obtain ⟨c0_, c1_⟩ := lyz2 Ly HOF 0 rfl
  obtain ⟨c2_, c3_⟩ := lyz2 Ly HOF 2 rfl
  obtain ⟨c4_, c5_⟩ := lyz2 Ly HOF 3 rfl
  obtain ⟨c6_, c7_⟩ := lyz2 Ly HOF 4 rfl
  have hfw := hfT
  simp only [pickB]
  repeat (gi_big_quiet_step (fail))
  refine wpQuietIn_nil ?_
  exact rfl
 intro W25 hW
 replace Ly := lyb Ly hW
 replace HA := iu HA hW
 replace HB := iu HB hW
 replace HE := iu HE hW
 clear hW
 gi_wp2
 have hup : Tr.Up W25 (W25.alloc (.cells #[.int .i64 4, .int .i64 1] 3)) := (Below.refl _ _).alloc (Nat.le_refl _) _
 first | refine ⟨trivial, hup, ?_⟩ | refine ⟨hup, ?_⟩
 clear hup
 obtain ⟨V26, hV⟩ : ∃ V, (W25.alloc (.cells #[.int .i64 4, .int .i64 1] 3)) = V := ⟨_, rfl⟩
 rw [hV]
 have hb := fbox_bel hV
 have hnew := fbox_blk hV
 have hge := Ly.out.bel.size
 replace Ly := lyb Ly hb
 replace HA := iu HA hb
 replace HB := iu HB hb
 replace HE := iu HE hb
 replace Ly := lh (Ly.out.add hge hnew)
 clear hnew hge hb hV
 obtain ⟨G27, hG⟩ : ∃ g, W25.heap.size = g := ⟨_, rfl⟩
 rw [hG] at Ly ⊢
 clear hG
 replace Ly := lh (show Lay w V26 [(G7, 34, #[.int .i64 0, .int .i64 70]), (G11, 3, #[.int .i64 1, .int .i64 4]), (G14, 63, #[.int .i64 710, .int .i64 930]), (G20, 34, #[.int .i64 0, .int .i64 0]), (G24, 25, #[.slice AZ zp cZ, .slice AY 5 cY]), (G27, 3, #[.int .i64 4, .int .i64 1])] from Ly.out)
 refine Tr.wpTree_one (m := []) rfl rfl Gr.Quietly.none ?_
 intro W28 hW
 replace Ly := lyb Ly hW
 replace HA := iu HA hW
 replace HB := iu HB hW
 replace HE := iu HE hW
 clear hW
 gi_wp2
 refine ⟨trivial, (callsIn_wide.2 (is_any AA 2 cAA [4, 1] 0 (some ⟨G27, 0, none⟩) 2 2 [4, 1] W28 (by unfold maxLen; omega) (by unfold maxLen; omega) HA.out (ints_blk2 [4, 1] (Ly.out.blk 5 rfl)))).mono ?_⟩
 rintro e W29 ⟨rfl, hb⟩
 replace Ly := lyb Ly hb
 replace HA := iu HA hb
 replace HB := iu HB hb
 replace HE := iu HE hb
 rw [show (decide ((0 : Int) = 0) && sameI [4, 1] [4, 1]) = true from by decide]
 gi_wp2
 first | refine ⟨trivial, hb, ?_⟩ | refine ⟨hb, ?_⟩
 clear hb
 refine Tr.wpTree_one (A := ?AF2) rfl rfl ?hq2 ?_
 case hq2 =>
  rintro σ hσ of hof hcl
  have HOF := lh hof
  have HCL := lh hcl
  clear hof hcl
  obtain ⟨c0_, c1_⟩ := lyz2 Ly HOF 0 rfl
  obtain ⟨c2_, c3_⟩ := lyz2 Ly HOF 2 rfl
  obtain ⟨c4_, c5_⟩ := lyz2 Ly HOF 3 rfl
  obtain ⟨c6_, c7_⟩ := lyz2 Ly HOF 4 rfl
  have hfw := hfT
  simp only [pickB]
  repeat (gi_big_quiet_step (fail))
  refine wpQuietIn_nil ?_
  exact rfl
 intro W30 hW
 replace Ly := lyb Ly hW
 replace HA := iu HA hW
 replace HB := iu HB hW
 replace HE := iu HE hW
 clear hW
 gi_wp2
 refine ⟨trivial, (callsIn_wide.2 (ltoil_any 0 70 W30)).mono ?_⟩
 rintro e W31 ⟨rfl, hb⟩
 replace Ly := lyb Ly hb
 replace HA := iu HA hb
 replace HB := iu HB hb
 replace HE := iu HE hb
 gi_wp2
 first | refine ⟨trivial, hb, ?_⟩ | refine ⟨hb, ?_⟩
 clear hb
 refine Tr.wpTree_one (A := ?AF3) rfl rfl ?hq3 ?_
 case hq3 =>
  rintro σ hσ of hof hcl
  have HOF := lh hof
  have HCL := lh hcl
  clear hof hcl
  obtain ⟨c0_, c1_⟩ := lyz2 Ly HOF 0 rfl
  obtain ⟨c2_, c3_⟩ := lyz2 Ly HOF 2 rfl
  obtain ⟨c4_, c5_⟩ := lyz2 Ly HOF 3 rfl
  obtain ⟨c6_, c7_⟩ := lyz2 Ly HOF 4 rfl
  have hfw := hfT
  simp only [pickB]
  repeat (gi_big_quiet_step (fail))
  refine wpQuietIn_nil ?_
  exact rfl
 intro W32 hW
 replace Ly := lyb Ly hW
 replace HA := iu HA hW
 replace HB := iu HB hW
 replace HE := iu HE hW
 clear hW
 gi_wp2
 refine ⟨trivial, (callsIn_wide.2 (lspan_any 710 930 W32)).mono ?_⟩
 rintro e W33 ⟨rfl, hb⟩
 replace Ly := lyb Ly hb
 replace HA := iu HA hb
 replace HB := iu HB hb
 replace HE := iu HE hb
 gi_wp2
 first | refine ⟨trivial, hb, ?_⟩ | refine ⟨hb, ?_⟩
 clear hb
 refine Tr.wpTree_one (A := ?AF4) rfl rfl ?hq4 ?_
 case hq4 =>
  rintro σ hσ of hof hcl
  have HOF := lh hof
  have HCL := lh hcl
  clear hof hcl
  obtain ⟨c0_, c1_⟩ := lyz2 Ly HOF 0 rfl
  obtain ⟨c2_, c3_⟩ := lyz2 Ly HOF 2 rfl
  obtain ⟨c4_, c5_⟩ := lyz2 Ly HOF 3 rfl
  obtain ⟨c6_, c7_⟩ := lyz2 Ly HOF 4 rfl
  have hfw := hfT
  simp only [pickB]
  repeat (gi_big_quiet_step (fail))
  refine wpQuietIn_nil ?_
  exact rfl
 intro W34 hW
 replace Ly := lyb Ly hW
 replace HA := iu HA hW
 replace HB := iu HB hW
 replace HE := iu HE hW
 clear hW
 gi_wp2
 refine ⟨trivial, (callsIn_wide.2 (is_any AB 0 cAB [] 0 none 0 0 [] W34 (by unfold maxLen; omega) (by unfold maxLen; omega) HB.out ints_zero)).mono ?_⟩
 rintro e W35 ⟨rfl, hb⟩
 replace Ly := lyb Ly hb
 replace HA := iu HA hb
 replace HB := iu HB hb
 replace HE := iu HE hb
 rw [show (decide ((0 : Int) = 0) && sameI [] []) = true from by decide]
 gi_wp2
 first | refine ⟨trivial, hb, ?_⟩ | refine ⟨hb, ?_⟩
 clear hb
 refine Tr.wpTree_one (A := ?AF5) rfl rfl ?hq5 ?_
 case hq5 =>
  rintro σ hσ of hof hcl
  have HOF := lh hof
  have HCL := lh hcl
  clear hof hcl
  obtain ⟨c0_, c1_⟩ := lyz2 Ly HOF 0 rfl
  obtain ⟨c2_, c3_⟩ := lyz2 Ly HOF 2 rfl
  obtain ⟨c4_, c5_⟩ := lyz2 Ly HOF 3 rfl
  obtain ⟨c6_, c7_⟩ := lyz2 Ly HOF 4 rfl
  have hfw := hfT
  simp only [pickB]
  repeat (gi_big_quiet_step (fail))
  refine wpQuietIn_nil ?_
  exact rfl
 intro W36 hW
 replace Ly := lyb Ly hW
 replace HA := iu HA hW
 replace HB := iu HB hW
 replace HE := iu HE hW
 clear hW
 gi_wp2
 refine ⟨trivial, (callsIn_wide.2 (is_any AE 0 cAE [] 0 none 0 0 [] W36 (by unfold maxLen; omega) (by unfold maxLen; omega) HE.out ints_zero)).mono ?_⟩
 rintro e W37 ⟨rfl, hb⟩
 replace Ly := lyb Ly hb
 replace HA := iu HA hb
 replace HB := iu HB hb
 replace HE := iu HE hb
 rw [show (decide ((0 : Int) = 0) && sameI [] []) = true from by decide]
 gi_wp2
 first | refine ⟨trivial, hb, ?_⟩ | refine ⟨hb, ?_⟩
 clear hb
 refine Tr.wpTree_one (A := ?AF6) rfl rfl ?hq6 ?_
 case hq6 =>
  rintro σ hσ of hof hcl
  have HOF := lh hof
  have HCL := lh hcl
  clear hof hcl
  obtain ⟨c0_, c1_⟩ := lyz2 Ly HOF 0 rfl
  obtain ⟨c2_, c3_⟩ := lyz2 Ly HOF 2 rfl
  obtain ⟨c4_, c5_⟩ := lyz2 Ly HOF 3 rfl
  obtain ⟨c6_, c7_⟩ := lyz2 Ly HOF 4 rfl
  have hfw := hfT
  simp only [pickB]
  repeat (gi_big_quiet_step (fail))
  refine wpQuietIn_nil ?_
  exact rfl
 intro W38 hW
 replace Ly := lyb Ly hW
 replace HA := iu HA hW
 replace HB := iu HB hW
 replace HE := iu HE hW
 clear hW
 gi_wp2
 refine ⟨trivial, (callsIn_wide.2 (ltoil_any 0 0 W38)).mono ?_⟩
 rintro e W39 ⟨rfl, hb⟩
 replace Ly := lyb Ly hb
 replace HA := iu HA hb
 replace HB := iu HB hb
 replace HE := iu HE hb
 gi_wp2
 first | refine ⟨trivial, hb, ?_⟩ | refine ⟨hb, ?_⟩
 clear hb
 refine Tr.wpTree_end (A := ?AF7) rfl ?hq7 ?_
 case hq7 =>
  rintro σ hσ of hof hcl
  have HOF := lh hof
  have HCL := lh hcl
  clear hof hcl
  obtain ⟨c0_, c1_⟩ := lyz2 Ly HOF 0 rfl
  obtain ⟨c2_, c3_⟩ := lyz2 Ly HOF 2 rfl
  obtain ⟨c4_, c5_⟩ := lyz2 Ly HOF 3 rfl
  obtain ⟨c6_, c7_⟩ := lyz2 Ly HOF 4 rfl
  have hfw := hfT
  simp only [pickB]
  repeat (gi_big_quiet_step (fail))
  refine wpQuietIn_nil ?_
  exact rfl
 intro W40 hW
 replace Ly := lyb Ly hW
 replace HA := iu HA hW
 replace HB := iu HB hW
 replace HE := iu HE hW
 clear hW
 simp only [pickB]
 refine wpT_nil ?_
 clear hs1 hs2 hs3
 gi_wp2
 clear HA HB HE
 replace Ly := lh (lay_none Ly.out.bel)
 have HLs := lh Ly.out.bel.size
 refine ⟨trivial, (callsIn_wide.2 (town_own W40)).mono ?_⟩
 rintro e W41 ⟨od, ol, rfl, hgd, hgl, hbd, hbl, hb⟩
 replace Ly := lyb Ly hb
 clear hb
 have Qd := lh (Nat.le_trans HLs.out hgd)
 have Ql := lh (Nat.le_trans HLs.out hgl)
 have Bd := lh hbd
 have Bl := lh hbl
 clear hbd hbl hgd hgl HLs
 gi_wp2
 refine ⟨trivial, (callsIn_wide.2 (lskin_any W41)).mono ?_⟩
 rintro e W42 ⟨rfl, hb⟩
 replace Ly := lyb Ly hb
 replace Bd := lh (Bd.out.below hb Bd.out.lt)
 replace Bl := lh (Bl.out.below hb Bl.out.lt)
 clear hb
 gi_wp2
 refine ⟨trivial, (callsIn_wide.2 (lgait_any W42)).mono ?_⟩
 rintro e W43 ⟨rfl, hb⟩
 replace Ly := lyb Ly hb
 replace Bd := lh (Bd.out.below hb Bd.out.lt)
 replace Bl := lh (Bl.out.below hb Bl.out.lt)
 clear hb
 gi_upto_region 12 with fail
 have h3 := ((Ly.out.alloc 25 #[.slice (some ⟨od, 0, none⟩) 4 4, .slice (some ⟨ol, 0, none⟩) 4 4]).alloc 65 #[.int .i64 1000, .int .i64 1, .int .i64 2, .int .i64 0, .int .i64 3]).alloc 73 #[.int .i64 1, .int .i64 2, .int .i64 2, .int .i64 3]
 have hb := (((Below.refl W43.heap.size W43).alloc (Nat.le_refl _) (.cells #[.slice (some ⟨od, 0, none⟩) 4 4, .slice (some ⟨ol, 0, none⟩) 4 4] 25)).alloc (by rw [World.size_alloc]; omega) (.cells #[.int .i64 1000, .int .i64 1, .int .i64 2, .int .i64 0, .int .i64 3] 65)).alloc (by rw [World.size_alloc, World.size_alloc]; omega) (.cells #[.int .i64 1, .int .i64 2, .int .i64 2, .int .i64 3] 73)
 simp only [World.size_alloc, List.nil_append, List.cons_append] at h3
 obtain ⟨V44, hV⟩ : ∃ V, (((W43.alloc (.cells #[.slice (some ⟨od, 0, none⟩) 4 4, .slice (some ⟨ol, 0, none⟩) 4 4] 25)).alloc (.cells #[.int .i64 1000, .int .i64 1, .int .i64 2, .int .i64 0, .int .i64 3] 65)).alloc (.cells #[.int .i64 1, .int .i64 2, .int .i64 2, .int .i64 3] 73)) = V := ⟨_, rfl⟩
 rw [hV] at h3 hb ⊢
 obtain ⟨Gt, hG⟩ : ∃ x, W43.heap.size = x := ⟨_, rfl⟩
 have hb' := hb
 rw [hG] at h3 ⊢
 obtain ⟨Gg, hGg⟩ : ∃ x, Gt + 1 + 1 = x := ⟨_, rfl⟩
 rw [hGg] at h3 ⊢
 obtain ⟨Gs, hGs⟩ : ∃ x, Gt + 1 = x := ⟨_, rfl⟩
 rw [hGs] at h3 ⊢
 replace Ly := lyb Ly hb
 replace Bd := lh (Bd.out.below hb Bd.out.lt)
 replace Bl := lh (Bl.out.below hb Bl.out.lt)
 replace Ly := lh h3
 clear h3 hb hb' hV hG hGg hGs
 have Qt := lh (lay_ge Ly.out 0 rfl)
 have Bt := lh (Ly.out.blk 0 rfl)
 have Qs := lh (lay_ge Ly.out 1 rfl)
 have Bs := lh (Ly.out.blk 1 rfl)
 have Qg := lh (lay_ge Ly.out 2 rfl)
 have Bg := lh (Ly.out.blk 2 rfl)
 have hbel := lh Ly.out.bel
 clear Ly
 have x0 := Bt.out.cell 0
 have x1 := Bt.out.cell 1
 have xl := Bt.out.lt
 have c0 := Bl.out.cell 17
 have z0 := Bl.out.frozen 17
 have l0 := Bl.out.lt
 gi_upto_region 13 with fail
 clear c0 z0 l0 x0 x1 xl
 obtain ⟨X45, hX⟩ : ∃ X, V44.setCell ⟨ol, 17, none⟩ (.int .i64 2) = X := ⟨_, rfl⟩
 rw [hX]
 replace hbel := lh (show Below w.heap.size w X45 from hX ▸ hbel.out.setCell (p := ⟨ol, 17, none⟩) Ql.out _)
 have Bt2 := lh (show Blk X45 Gt 25 #[.slice (some ⟨od, 0, none⟩) 4 4, .slice (some ⟨ol, 0, none⟩) 4 4] from hX ▸ Bt.out.far (p := ⟨ol, 17, none⟩) (blk_neT Bt.out Bl.out (by decide)) _)
 have Bs2 := lh (show Blk X45 Gs 65 #[.int .i64 1000, .int .i64 1, .int .i64 2, .int .i64 0, .int .i64 3] from hX ▸ Bs.out.far (p := ⟨ol, 17, none⟩) (blk_neT Bs.out Bl.out (by decide)) _)
 have Bg2 := lh (show Blk X45 Gg 73 #[.int .i64 1, .int .i64 2, .int .i64 2, .int .i64 3] from hX ▸ Bg.out.far (p := ⟨ol, 17, none⟩) (blk_neT Bg.out Bl.out (by decide)) _)
 have Bd2 := lh (show Blk X45 od 3 #[.int .i64 1, .int .i64 2, .int .i64 3, .int .i64 4] from hX ▸ Bd.out.far (p := ⟨ol, 17, none⟩) (blk_neT Bd.out Bl.out (by decide)) _)
 have Bl2 := lh (show Blk X45 ol 52 #[.int .i64 1, .int .i64 1, .int .i64 2, .int .i64 50, .int .i64 40, .int .i64 2, .int .i64 1, .int .i64 3, .int .i64 0, .int .i64 100, .int .i64 3, .int .i64 3, .int .i64 2, .int .i64 20, .int .i64 10, .int .i64 4, .int .i64 2, .int .i64 2, .int .i64 0, .int .i64 30] from hX ▸ Bl.out.set_ 17 _)
 clear hX Bt Bs Bg Bd Bl
 have Bt := Bt2
 clear Bt2
 have Bs := Bs2
 clear Bs2
 have Bg := Bg2
 clear Bg2
 have Bd := Bd2
 clear Bd2
 have Bl := Bl2
 clear Bl2
 have c0 := Bs.out.cell 3
 have z0 := Bs.out.frozen 3
 have l0 := Bs.out.lt
 gi_upto_region 14 with fail
 clear c0 z0 l0
 obtain ⟨X46, hX⟩ : ∃ X, X45.setCell ⟨Gs, 3, none⟩ (.int .i64 4) = X := ⟨_, rfl⟩
 rw [hX]
 replace hbel := lh (show Below w.heap.size w X46 from hX ▸ hbel.out.setCell (p := ⟨Gs, 3, none⟩) Qs.out _)
 have Bt2 := lh (show Blk X46 Gt 25 #[.slice (some ⟨od, 0, none⟩) 4 4, .slice (some ⟨ol, 0, none⟩) 4 4] from hX ▸ Bt.out.far (p := ⟨Gs, 3, none⟩) (blk_neT Bt.out Bs.out (by decide)) _)
 have Bg2 := lh (show Blk X46 Gg 73 #[.int .i64 1, .int .i64 2, .int .i64 2, .int .i64 3] from hX ▸ Bg.out.far (p := ⟨Gs, 3, none⟩) (blk_neT Bg.out Bs.out (by decide)) _)
 have Bd2 := lh (show Blk X46 od 3 #[.int .i64 1, .int .i64 2, .int .i64 3, .int .i64 4] from hX ▸ Bd.out.far (p := ⟨Gs, 3, none⟩) (blk_neT Bd.out Bs.out (by decide)) _)
 have Bl2 := lh (show Blk X46 ol 52 #[.int .i64 1, .int .i64 1, .int .i64 2, .int .i64 50, .int .i64 40, .int .i64 2, .int .i64 1, .int .i64 3, .int .i64 0, .int .i64 100, .int .i64 3, .int .i64 3, .int .i64 2, .int .i64 20, .int .i64 10, .int .i64 4, .int .i64 2, .int .i64 2, .int .i64 0, .int .i64 30] from hX ▸ Bl.out.far (p := ⟨Gs, 3, none⟩) (blk_neT Bl.out Bs.out (by decide)) _)
 have Bs2 := lh (show Blk X46 Gs 65 #[.int .i64 1000, .int .i64 1, .int .i64 2, .int .i64 4, .int .i64 3] from hX ▸ Bs.out.set_ 3 _)
 clear hX Bt Bs Bg Bd Bl
 have Bt := Bt2
 clear Bt2
 have Bs := Bs2
 clear Bs2
 have Bg := Bg2
 clear Bg2
 have Bd := Bd2
 clear Bd2
 have Bl := Bl2
 clear Bl2
 have c0 := Bg.out.cell 1
 have z0 := Bg.out.frozen 1
 have l0 := Bg.out.lt
 gi_upto_region 15 with fail
 clear c0 z0 l0
 obtain ⟨X47, hX⟩ : ∃ X, X46.setCell ⟨Gg, 1, none⟩ (.int .i64 21) = X := ⟨_, rfl⟩
 rw [hX]
 replace hbel := lh (show Below w.heap.size w X47 from hX ▸ hbel.out.setCell (p := ⟨Gg, 1, none⟩) Qg.out _)
 have Bt2 := lh (show Blk X47 Gt 25 #[.slice (some ⟨od, 0, none⟩) 4 4, .slice (some ⟨ol, 0, none⟩) 4 4] from hX ▸ Bt.out.far (p := ⟨Gg, 1, none⟩) (blk_neT Bt.out Bg.out (by decide)) _)
 have Bs2 := lh (show Blk X47 Gs 65 #[.int .i64 1000, .int .i64 1, .int .i64 2, .int .i64 4, .int .i64 3] from hX ▸ Bs.out.far (p := ⟨Gg, 1, none⟩) (blk_neT Bs.out Bg.out (by decide)) _)
 have Bd2 := lh (show Blk X47 od 3 #[.int .i64 1, .int .i64 2, .int .i64 3, .int .i64 4] from hX ▸ Bd.out.far (p := ⟨Gg, 1, none⟩) (blk_neT Bd.out Bg.out (by decide)) _)
 have Bl2 := lh (show Blk X47 ol 52 #[.int .i64 1, .int .i64 1, .int .i64 2, .int .i64 50, .int .i64 40, .int .i64 2, .int .i64 1, .int .i64 3, .int .i64 0, .int .i64 100, .int .i64 3, .int .i64 3, .int .i64 2, .int .i64 20, .int .i64 10, .int .i64 4, .int .i64 2, .int .i64 2, .int .i64 0, .int .i64 30] from hX ▸ Bl.out.far (p := ⟨Gg, 1, none⟩) (blk_neT Bl.out Bg.out (by decide)) _)
 have Bg2 := lh (show Blk X47 Gg 73 #[.int .i64 1, .int .i64 21, .int .i64 2, .int .i64 3] from hX ▸ Bg.out.set_ 1 _)
 clear hX Bt Bs Bg Bd Bl
 have Bt := Bt2
 clear Bt2
 have Bs := Bs2
 clear Bs2
 have Bg := Bg2
 clear Bg2
 have Bd := Bd2
 clear Bd2
 have Bl := Bl2
 clear Bl2
 have Ly := lh (show Lay w X47 [(Gt, 25, #[.slice (some ⟨od, 0, none⟩) 4 4, .slice (some ⟨ol, 0, none⟩) 4 4]), (Gs, 65, #[.int .i64 1000, .int .i64 1, .int .i64 2, .int .i64 4, .int .i64 3]), (Gg, 73, #[.int .i64 1, .int .i64 21, .int .i64 2, .int .i64 3]), (od, 3, #[.int .i64 1, .int .i64 2, .int .i64 3, .int .i64 4]), (ol, 52, #[.int .i64 1, .int .i64 1, .int .i64 2, .int .i64 50, .int .i64 40, .int .i64 2, .int .i64 1, .int .i64 3, .int .i64 0, .int .i64 100, .int .i64 3, .int .i64 3, .int .i64 2, .int .i64 20, .int .i64 10, .int .i64 4, .int .i64 2, .int .i64 2, .int .i64 0, .int .i64 30])] from (((((lay_none hbel.out).add Qt.out Bt.out).add Qs.out Bs.out).add Qg.out Bg.out).add Qd.out Bd.out).add Ql.out Bl.out)
 clear hbel Qt Bt Qs Bs Qg Bg Qd Bd Ql Bl
 obtain ⟨x0_0, x0_1⟩ := lyc2 Ly 0 rfl
 have l0_ := Ly.out.lt 0 rfl
 gi_wp2
 clear x0_0 x0_1 l0_
 refine ⟨trivial, (callsIn_wide.2 (wayl_any (some ⟨od, 0, none⟩) 4 4 (some ⟨ol, 0, none⟩) 4 4 exO 9 9 false X47 (by omega) (by omega) ⟨reads_blk (xs := [1, 2, 3, 4].map (Value.int .i64)) (Ly.out.blk 3 rfl) rfl, reads_blk (xs := exO.links.flatMap Link.vals) (Ly.out.blk 4 rfl) rfl⟩ (HL.out.below Ly.out.bel hl0))).mono ?_⟩
 rintro e W48 ⟨AW, nW, cW, rfl, hi, hb⟩
 replace Ly := lyb Ly hb
 clear hb
 clear hi
 rw [ey_odd.1]
 gi_wp2
 refine ⟨trivial, (callsIn_wide.2 (town_any W48)).mono ?_⟩
 rintro e W49 ⟨g, g2, rfl, ht, hb⟩
 replace Ly := lyb Ly hb
 clear hb
 have HTn := lh ht
 clear ht
 gi_wp2
 refine ⟨trivial, (callsIn_wide.2 (wayl_any (some ⟨g, 0, none⟩) 4 4 (some ⟨g2, 0, none⟩) 4 4 exT 1 5 false W49 (by omega) (by omega) HTn.out (HL.out.below Ly.out.bel hl0))).mono ?_⟩
 rintro e W50 ⟨AW, nW, cW, rfl, hi, hb⟩
 replace Ly := lyb Ly hb
 replace HTn := lh ((HTn.out.below hb).more hb.size)
 clear hb
 clear hi
 rw [ey_place.1]
 clear HTn
 gi_wp2
 refine ⟨trivial, (callsIn_wide.2 (town_any W50)).mono ?_⟩
 rintro e W51 ⟨g, g2, rfl, ht, hb⟩
 replace Ly := lyb Ly hb
 clear hb
 have HTn := lh ht
 clear ht
 gi_wp2
 refine ⟨trivial, (callsIn_wide.2 (wayl_any (some ⟨g, 0, none⟩) 4 4 (some ⟨g2, 0, none⟩) 4 4 exT 1 4 true W51 (by omega) (by omega) HTn.out (HL.out.below Ly.out.bel hl0))).mono ?_⟩
 rintro e W52 ⟨AW, nW, cW, rfl, hi, hb⟩
 replace Ly := lyb Ly hb
 replace HTn := lh ((HTn.out.below hb).more hb.size)
 clear hb
 clear hi
 rw [ey_no.1]
 clear HTn
 gi_wp2
 refine ⟨trivial, (callsIn_wide.2 (town_any W52)).mono ?_⟩
 rintro e W53 ⟨g, g2, rfl, ht, hb⟩
 replace Ly := lyb Ly hb
 clear hb
 have HTn := lh ht
 clear ht
 gi_wp2
 refine ⟨trivial, (callsIn_wide.2 (reach_any (some ⟨g, 0, none⟩) 4 4 (some ⟨g2, 0, none⟩) 4 4 exT 0 false W53 (by omega) (by omega) HTn.out (HL.out.below Ly.out.bel hl0))).mono ?_⟩
 rintro e W54 ⟨AW, nW, cW, rfl, hi, hb⟩
 replace Ly := lyb Ly hb
 replace HTn := lh ((HTn.out.below hb).more hb.size)
 clear hb
 clear hi
 rw [ey_reach.1]
 clear HTn
 gi_wp2
 refine ⟨trivial, (callsIn_wide.2 (town_any W54)).mono ?_⟩
 rintro e W55 ⟨g, g2, rfl, ht, hb⟩
 replace Ly := lyb Ly hb
 clear hb
 have HTn := lh ht
 clear ht
 gi_wp2
 obtain ⟨V56, hV⟩ : ∃ V, (W55.alloc (.cells #[.int .i64 3] 3)) = V := ⟨_, rfl⟩
 rw [hV]
 have hb := fbox_bel hV
 have hnew := fbox_blk hV
 have hge := Ly.out.bel.size
 replace Ly := lyb Ly hb
 replace HTn := lh ((HTn.out.below hb).more hb.size)
 replace Ly := lh (Ly.out.add hge hnew)
 clear hnew hge hb hV
 obtain ⟨G57, hG⟩ : ∃ g, W55.heap.size = g := ⟨_, rfl⟩
 rw [hG] at Ly ⊢
 clear hG
 replace Ly := lh (show Lay w V56 [(Gt, 25, #[.slice (some ⟨od, 0, none⟩) 4 4, .slice (some ⟨ol, 0, none⟩) 4 4]), (Gs, 65, #[.int .i64 1000, .int .i64 1, .int .i64 2, .int .i64 4, .int .i64 3]), (Gg, 73, #[.int .i64 1, .int .i64 21, .int .i64 2, .int .i64 3]), (od, 3, #[.int .i64 1, .int .i64 2, .int .i64 3, .int .i64 4]), (ol, 52, #[.int .i64 1, .int .i64 1, .int .i64 2, .int .i64 50, .int .i64 40, .int .i64 2, .int .i64 1, .int .i64 3, .int .i64 0, .int .i64 100, .int .i64 3, .int .i64 3, .int .i64 2, .int .i64 20, .int .i64 10, .int .i64 4, .int .i64 2, .int .i64 2, .int .i64 0, .int .i64 30]), (G57, 3, #[.int .i64 3])] from Ly.out)
 refine ⟨trivial, (callsIn_wide.2 (walk_any (some ⟨g, 0, none⟩) 4 4 (some ⟨g2, 0, none⟩) 4 4 exT 1 (some ⟨G57, 0, none⟩) 1 1 [3] V56 (by omega) (by omega) (by omega) HTn.out (ints_blk2 [3] (Ly.out.blk 5 rfl)) (HL.out.below Ly.out.bel hl0))).mono ?_⟩
 rintro e W58 ⟨rfl, hb⟩
 replace Ly := lyb Ly hb
 replace HTn := lh ((HTn.out.below hb).more hb.size)
 clear hb
 rw [ey_walk]
 clear HTn
 replace Ly := lh (show Lay w W58 [(Gt, 25, #[.slice (some ⟨od, 0, none⟩) 4 4, .slice (some ⟨ol, 0, none⟩) 4 4]), (Gs, 65, #[.int .i64 1000, .int .i64 1, .int .i64 2, .int .i64 4, .int .i64 3]), (Gg, 73, #[.int .i64 1, .int .i64 21, .int .i64 2, .int .i64 3]), (od, 3, #[.int .i64 1, .int .i64 2, .int .i64 3, .int .i64 4]), (ol, 52, #[.int .i64 1, .int .i64 1, .int .i64 2, .int .i64 50, .int .i64 40, .int .i64 2, .int .i64 1, .int .i64 3, .int .i64 0, .int .i64 100, .int .i64 3, .int .i64 3, .int .i64 2, .int .i64 20, .int .i64 10, .int .i64 4, .int .i64 2, .int .i64 2, .int .i64 0, .int .i64 30])] from lay_take 5 Ly.out)
 gi_wp2
 refine ⟨trivial, (callsIn_wide.2 (town_any W58)).mono ?_⟩
 rintro e W59 ⟨g, g2, rfl, ht, hb⟩
 replace Ly := lyb Ly hb
 clear hb
 have HTn := lh ht
 clear ht
 gi_wp2
 refine ⟨trivial, (callsIn_wide.2 (need_any (some ⟨g, 0, none⟩) 4 4 (some ⟨g2, 0, none⟩) 4 4 exT 1 4 true W59 (by omega) (by omega) HTn.out (HL.out.below Ly.out.bel hl0))).mono ?_⟩
 rintro e W60 ⟨AW, nW, cW, rfl, hi, hb⟩
 replace Ly := lyb Ly hb
 replace HTn := lh ((HTn.out.below hb).more hb.size)
 clear hb
 clear hi
 rw [ey_no.1]
 clear HTn
 gi_wp2
 refine ⟨trivial, (callsIn_wide.2 (town_any W60)).mono ?_⟩
 rintro e W61 ⟨g, g2, rfl, ht, hb⟩
 replace Ly := lyb Ly hb
 clear hb
 have HTn := lh ht
 clear ht
 gi_wp2
 refine ⟨trivial, (callsIn_wide.2 (gate_any (some ⟨g, 0, none⟩) 4 4 (some ⟨g2, 0, none⟩) 4 4 exT 4 1 true W61 (by omega) (by omega) HTn.out (HL.out.below Ly.out.bel hl0))).mono ?_⟩
 rintro e W62 ⟨AW, nW, cW, rfl, hi, hb⟩
 replace Ly := lyb Ly hb
 replace HTn := lh ((HTn.out.below hb).more hb.size)
 clear hb
 clear hi
 rw [ey_no4]
 clear HTn
 gi_wp2
 refine ⟨trivial, (callsIn_wide.2 (town_any W62)).mono ?_⟩
 rintro e W63 ⟨g, g2, rfl, ht, hb⟩
 replace Ly := lyb Ly hb
 clear hb
 have HTn := lh ht
 clear ht
 gi_wp2
 refine ⟨trivial, (callsIn_wide.2 (worst_any (some ⟨g, 0, none⟩) 4 4 (some ⟨g2, 0, none⟩) 4 4 exT 1 4 true W63 (by omega) (by omega) HTn.out (HL.out.below Ly.out.bel hl0))).mono ?_⟩
 rintro e W64 ⟨rfl, hb⟩
 replace Ly := lyb Ly hb
 replace HTn := lh ((HTn.out.below hb).more hb.size)
 clear hb
 rw [ey_worst]
 clear HTn
 gi_wp2
 obtain ⟨V65, hV⟩ : ∃ V, (W64.alloc (.cells #[.int .i64 0, .int .i64 0] 34)) = V := ⟨_, rfl⟩
 rw [hV]
 have hb := fbox_bel hV
 replace Ly := lyb Ly hb
 clear hb hV
 obtain ⟨G66, hG⟩ : ∃ g, W64.heap.size = g := ⟨_, rfl⟩
 rw [hG]
 clear hG
 refine ⟨trivial, (callsIn_wide.2 (town_any V65)).mono ?_⟩
 rintro e W67 ⟨g, g2, rfl, ht, hb⟩
 replace Ly := lyb Ly hb
 clear hb
 have HTn := lh ht
 clear ht
 gi_wp2
 obtain ⟨V68, hV⟩ : ∃ V, (W67.alloc (.cells #[.int .i64 2, .int .i64 1] 3)) = V := ⟨_, rfl⟩
 rw [hV]
 have hb := fbox_bel hV
 have hnew := fbox_blk hV
 have hge := Ly.out.bel.size
 replace Ly := lyb Ly hb
 replace HTn := lh ((HTn.out.below hb).more hb.size)
 replace Ly := lh (Ly.out.add hge hnew)
 clear hnew hge hb hV
 obtain ⟨G69, hG⟩ : ∃ g, W67.heap.size = g := ⟨_, rfl⟩
 rw [hG] at Ly ⊢
 clear hG
 replace Ly := lh (show Lay w V68 [(Gt, 25, #[.slice (some ⟨od, 0, none⟩) 4 4, .slice (some ⟨ol, 0, none⟩) 4 4]), (Gs, 65, #[.int .i64 1000, .int .i64 1, .int .i64 2, .int .i64 4, .int .i64 3]), (Gg, 73, #[.int .i64 1, .int .i64 21, .int .i64 2, .int .i64 3]), (od, 3, #[.int .i64 1, .int .i64 2, .int .i64 3, .int .i64 4]), (ol, 52, #[.int .i64 1, .int .i64 1, .int .i64 2, .int .i64 50, .int .i64 40, .int .i64 2, .int .i64 1, .int .i64 3, .int .i64 0, .int .i64 100, .int .i64 3, .int .i64 3, .int .i64 2, .int .i64 20, .int .i64 10, .int .i64 4, .int .i64 2, .int .i64 2, .int .i64 0, .int .i64 30]), (G69, 3, #[.int .i64 2, .int .i64 1])] from Ly.out)
 refine ⟨trivial, (callsIn_wide.2 (round_any (some ⟨g, 0, none⟩) 4 4 (some ⟨g2, 0, none⟩) 4 4 exT 1 (some ⟨G69, 0, none⟩) 2 2 [2, 1] false V68 (by omega) (by omega) (by omega) HTn.out (ints_blk2 [2, 1] (Ly.out.blk 5 rfl)) (HL.out.below Ly.out.bel hl0))).mono ?_⟩
 rintro e W70 ⟨AE, nAE, cAE, rfl, hi, hb⟩
 replace Ly := lyb Ly hb
 replace HTn := lh ((HTn.out.below hb).more hb.size)
 clear hb
 clear hi
 rw [ey_round2.1, ey_round2.2]
 clear HTn
 replace Ly := lh (show Lay w W70 [(Gt, 25, #[.slice (some ⟨od, 0, none⟩) 4 4, .slice (some ⟨ol, 0, none⟩) 4 4]), (Gs, 65, #[.int .i64 1000, .int .i64 1, .int .i64 2, .int .i64 4, .int .i64 3]), (Gg, 73, #[.int .i64 1, .int .i64 21, .int .i64 2, .int .i64 3]), (od, 3, #[.int .i64 1, .int .i64 2, .int .i64 3, .int .i64 4]), (ol, 52, #[.int .i64 1, .int .i64 1, .int .i64 2, .int .i64 50, .int .i64 40, .int .i64 2, .int .i64 1, .int .i64 3, .int .i64 0, .int .i64 100, .int .i64 3, .int .i64 3, .int .i64 2, .int .i64 20, .int .i64 10, .int .i64 4, .int .i64 2, .int .i64 2, .int .i64 0, .int .i64 30])] from lay_take 5 Ly.out)
 gi_wp2
 obtain ⟨V71, hV⟩ : ∃ V, (W70.alloc (.cells #[.int .i64 0, .int .i64 0] 34)) = V := ⟨_, rfl⟩
 rw [hV]
 have hb := fbox_bel hV
 replace Ly := lyb Ly hb
 clear hb hV
 obtain ⟨G72, hG⟩ : ∃ g, W70.heap.size = g := ⟨_, rfl⟩
 rw [hG]
 clear hG
 refine ⟨trivial, (callsIn_wide.2 (town_any V71)).mono ?_⟩
 rintro e W73 ⟨g, g2, rfl, ht, hb⟩
 replace Ly := lyb Ly hb
 clear hb
 have HTn := lh ht
 clear ht
 gi_wp2
 obtain ⟨V74, hV⟩ : ∃ V, (W73.alloc (.cells #[.int .i64 2, .int .i64 2] 3)) = V := ⟨_, rfl⟩
 rw [hV]
 have hb := fbox_bel hV
 have hnew := fbox_blk hV
 have hge := Ly.out.bel.size
 replace Ly := lyb Ly hb
 replace HTn := lh ((HTn.out.below hb).more hb.size)
 replace Ly := lh (Ly.out.add hge hnew)
 clear hnew hge hb hV
 obtain ⟨G75, hG⟩ : ∃ g, W73.heap.size = g := ⟨_, rfl⟩
 rw [hG] at Ly ⊢
 clear hG
 replace Ly := lh (show Lay w V74 [(Gt, 25, #[.slice (some ⟨od, 0, none⟩) 4 4, .slice (some ⟨ol, 0, none⟩) 4 4]), (Gs, 65, #[.int .i64 1000, .int .i64 1, .int .i64 2, .int .i64 4, .int .i64 3]), (Gg, 73, #[.int .i64 1, .int .i64 21, .int .i64 2, .int .i64 3]), (od, 3, #[.int .i64 1, .int .i64 2, .int .i64 3, .int .i64 4]), (ol, 52, #[.int .i64 1, .int .i64 1, .int .i64 2, .int .i64 50, .int .i64 40, .int .i64 2, .int .i64 1, .int .i64 3, .int .i64 0, .int .i64 100, .int .i64 3, .int .i64 3, .int .i64 2, .int .i64 20, .int .i64 10, .int .i64 4, .int .i64 2, .int .i64 2, .int .i64 0, .int .i64 30]), (G75, 3, #[.int .i64 2, .int .i64 2])] from Ly.out)
 refine ⟨trivial, (callsIn_wide.2 (order_any (some ⟨g, 0, none⟩) 4 4 (some ⟨g2, 0, none⟩) 4 4 exT 1 (some ⟨G75, 0, none⟩) 2 2 [2, 2] false V74 (by omega) (by omega) (by omega) HTn.out (ints_blk2 [2, 2] (Ly.out.blk 5 rfl)) (HL.out.below Ly.out.bel hl0))).mono ?_⟩
 rintro e W76 ⟨rfl, hb⟩
 replace Ly := lyb Ly hb
 replace HTn := lh ((HTn.out.below hb).more hb.size)
 clear hb
 rw [ey_order.1, ey_order.2]
 clear HTn
 replace Ly := lh (show Lay w W76 [(Gt, 25, #[.slice (some ⟨od, 0, none⟩) 4 4, .slice (some ⟨ol, 0, none⟩) 4 4]), (Gs, 65, #[.int .i64 1000, .int .i64 1, .int .i64 2, .int .i64 4, .int .i64 3]), (Gg, 73, #[.int .i64 1, .int .i64 21, .int .i64 2, .int .i64 3]), (od, 3, #[.int .i64 1, .int .i64 2, .int .i64 3, .int .i64 4]), (ol, 52, #[.int .i64 1, .int .i64 1, .int .i64 2, .int .i64 50, .int .i64 40, .int .i64 2, .int .i64 1, .int .i64 3, .int .i64 0, .int .i64 100, .int .i64 3, .int .i64 3, .int .i64 2, .int .i64 20, .int .i64 10, .int .i64 4, .int .i64 2, .int .i64 2, .int .i64 0, .int .i64 30])] from lay_take 5 Ly.out)
 gi_wp2
 obtain ⟨V77, hV⟩ : ∃ V, (W76.alloc (.cells #[.int .i64 0, .int .i64 0] 34)) = V := ⟨_, rfl⟩
 rw [hV]
 have hb := fbox_bel hV
 replace Ly := lyb Ly hb
 clear hb hV
 obtain ⟨G78, hG⟩ : ∃ g, W76.heap.size = g := ⟨_, rfl⟩
 rw [hG]
 clear hG
 refine ⟨trivial, (callsIn_wide.2 (town_any V77)).mono ?_⟩
 rintro e W79 ⟨g, g2, rfl, ht, hb⟩
 replace Ly := lyb Ly hb
 clear hb
 have HTn := lh ht
 clear ht
 gi_wp2
 obtain ⟨V80, hV⟩ : ∃ V, (W79.alloc (.cells #[.int .i64 2] 3)) = V := ⟨_, rfl⟩
 rw [hV]
 have hb := fbox_bel hV
 have hnew := fbox_blk hV
 have hge := Ly.out.bel.size
 replace Ly := lyb Ly hb
 replace HTn := lh ((HTn.out.below hb).more hb.size)
 replace Ly := lh (Ly.out.add hge hnew)
 clear hnew hge hb hV
 obtain ⟨G81, hG⟩ : ∃ g, W79.heap.size = g := ⟨_, rfl⟩
 rw [hG] at Ly ⊢
 clear hG
 replace Ly := lh (show Lay w V80 [(Gt, 25, #[.slice (some ⟨od, 0, none⟩) 4 4, .slice (some ⟨ol, 0, none⟩) 4 4]), (Gs, 65, #[.int .i64 1000, .int .i64 1, .int .i64 2, .int .i64 4, .int .i64 3]), (Gg, 73, #[.int .i64 1, .int .i64 21, .int .i64 2, .int .i64 3]), (od, 3, #[.int .i64 1, .int .i64 2, .int .i64 3, .int .i64 4]), (ol, 52, #[.int .i64 1, .int .i64 1, .int .i64 2, .int .i64 50, .int .i64 40, .int .i64 2, .int .i64 1, .int .i64 3, .int .i64 0, .int .i64 100, .int .i64 3, .int .i64 3, .int .i64 2, .int .i64 20, .int .i64 10, .int .i64 4, .int .i64 2, .int .i64 2, .int .i64 0, .int .i64 30]), (G81, 3, #[.int .i64 2])] from Ly.out)
 refine ⟨trivial, (callsIn_wide.2 (round_any (some ⟨g, 0, none⟩) 4 4 (some ⟨g2, 0, none⟩) 4 4 exT 1 (some ⟨G81, 0, none⟩) 1 1 [2] true V80 (by omega) (by omega) (by omega) HTn.out (ints_blk2 [2] (Ly.out.blk 5 rfl)) (HL.out.below Ly.out.bel hl0))).mono ?_⟩
 rintro e W82 ⟨AE, nAE, cAE, rfl, hi, hb⟩
 replace Ly := lyb Ly hb
 replace HTn := lh ((HTn.out.below hb).more hb.size)
 clear hb
 clear hi
 rw [ey_round1.1, ey_round1.2]
 clear HTn
 replace Ly := lh (show Lay w W82 [(Gt, 25, #[.slice (some ⟨od, 0, none⟩) 4 4, .slice (some ⟨ol, 0, none⟩) 4 4]), (Gs, 65, #[.int .i64 1000, .int .i64 1, .int .i64 2, .int .i64 4, .int .i64 3]), (Gg, 73, #[.int .i64 1, .int .i64 21, .int .i64 2, .int .i64 3]), (od, 3, #[.int .i64 1, .int .i64 2, .int .i64 3, .int .i64 4]), (ol, 52, #[.int .i64 1, .int .i64 1, .int .i64 2, .int .i64 50, .int .i64 40, .int .i64 2, .int .i64 1, .int .i64 3, .int .i64 0, .int .i64 100, .int .i64 3, .int .i64 3, .int .i64 2, .int .i64 20, .int .i64 10, .int .i64 4, .int .i64 2, .int .i64 2, .int .i64 0, .int .i64 30])] from lay_take 5 Ly.out)
 gi_wp2
 obtain ⟨V83, hV⟩ : ∃ V, (W82.alloc (.cells #[.int .i64 0, .int .i64 0] 34)) = V := ⟨_, rfl⟩
 rw [hV]
 have hb := fbox_bel hV
 replace Ly := lyb Ly hb
 clear hb hV
 obtain ⟨G84, hG⟩ : ∃ g, W82.heap.size = g := ⟨_, rfl⟩
 rw [hG]
 clear hG
 gi_upto_region 26 with fail
 gi_cut [30, 31] from 210 (fun v30 v31 wx => v31 = .int .i64 36 ∧ Hid (Below V83.heap.size V83 wx))
 case first =>
  as_aux_lemma =>
   have HB0 := lh (Below.refl V83.heap.size V83)
   refine Ts.wpIn_region_tree (G := Ts.Up) (V0 := V83) [([], [false, true], [0, 2, 7]), ([0], [], [2, 7]), ([0, 2], [], [3, 7]), ([0, 2, 3], [false, false, false, false, true, true, true], [7]), ([0, 2, 3, 7], [false, false, false, false, false, false, false, false, false, true], []), ([0, 2, 7], [], [3]), ([0, 2, 7, 3], [false, false, false, false, true, true, true, false, false, true], []), ([0, 7], [], [2]), ([0, 7, 2], [], [3]), ([0, 7, 2, 3], [false, false, false, false, true, true, true, false, false, true], []), ([2], [], [0, 7]), ([2, 0], [], [3, 7]), ([2, 0, 3], [false, false, false, false, true, true, true], [7]), ([2, 0, 3, 7], [false, false, false, false, false, false, false, false, false, true], []), ([2, 0, 7], [], [3]), ([2, 0, 7, 3], [false, false, false, false, true, true, true, false, false, true], []), ([2, 7], [], [0]), ([2, 7, 0], [], [3]), ([2, 7, 0, 3], [false, false, false, false, true, true, true, false, false, true], []), ([7], [], [0, 2]), ([7, 0], [], [2]), ([7, 0, 2], [], [3]), ([7, 0, 2, 3], [false, false, false, false, true, true, true, false, false, true], []), ([7, 2], [], [0]), ([7, 2, 0], [], [3]), ([7, 2, 0, 3], [false, false, false, false, true, true, true, false, false, true], [])] 5 [false, false, false, false, false, false, false, false, true] (by kernel_rfl) (by kernel_rfl) (by kernel_rfl) (below_drewN (Below.refl _ _) 1) ?_
   refine Ts.wpTree_three (A := ?AF8) rfl rfl rfl rfl ?hq8 ?_ ?_ ?_
   case hq8 =>
    rintro σ hσ of hof hcl
    have HOF := lh hof
    have HCL := lh hcl
    clear hof hcl
    obtain ⟨c0_, c1_, c2_, c3_, c4_⟩ := lyz5 Ly HOF 1 rfl
    have hfw := hfT
    simp only [pickB]
    repeat (gi_big_quiet_step (fail))
    refine wpQuietIn_nil ?_
    exact rfl
   ·intro W85 hW
    replace Ly := lyb Ly hW
    replace HB0 := lh (HB0.out.trans (hW.mono HB0.out.size))
    clear hW
    gi_wp2
    refine ⟨trivial, (callsIn_wide.2 (town_any W85)).mono ?_⟩
    rintro e W86 ⟨g, g2, rfl, ht, hb⟩
    replace Ly := lyb Ly hb
    replace HB0 := lh (HB0.out.trans (hb.mono HB0.out.size))
    have HTn := lh ht
    clear ht
    gi_wp2
    first | refine ⟨trivial, hb, ?_⟩ | refine ⟨hb, ?_⟩
    clear hb
    refine Ts.wpTree_two (m := []) rfl rfl rfl Gr.Quietly.none ?_ ?_
    ·intro W87 hW
     replace Ly := lyb Ly hW
     replace HB0 := lh (HB0.out.trans (hW.mono HB0.out.size))
     replace HTn := lh ((HTn.out.below hW).more hW.size)
     clear hW
     gi_wp2
     have hup : Ts.Up W87 (W87.alloc (.cells #[.int .i64 9] 3)) := (Below.refl _ _).alloc (Nat.le_refl _) _
     first | refine ⟨trivial, hup, ?_⟩ | refine ⟨hup, ?_⟩
     clear hup
     obtain ⟨V88, hV⟩ : ∃ V, (W87.alloc (.cells #[.int .i64 9] 3)) = V := ⟨_, rfl⟩
     rw [hV]
     have hb := fbox_bel hV
     have hnew := fbox_blk hV
     have hge := Ly.out.bel.size
     replace Ly := lyb Ly hb
     replace HB0 := lh (HB0.out.trans (hb.mono HB0.out.size))
     replace HTn := lh ((HTn.out.below hb).more hb.size)
     replace Ly := lh (Ly.out.add hge hnew)
     clear hnew hge hb hV
     obtain ⟨G89, hG⟩ : ∃ g, W87.heap.size = g := ⟨_, rfl⟩
     rw [hG] at Ly ⊢
     clear hG
     replace Ly := lh (show Lay w V88 [(Gt, 25, #[.slice (some ⟨od, 0, none⟩) 4 4, .slice (some ⟨ol, 0, none⟩) 4 4]), (Gs, 65, #[.int .i64 1000, .int .i64 1, .int .i64 2, .int .i64 4, .int .i64 3]), (Gg, 73, #[.int .i64 1, .int .i64 21, .int .i64 2, .int .i64 3]), (od, 3, #[.int .i64 1, .int .i64 2, .int .i64 3, .int .i64 4]), (ol, 52, #[.int .i64 1, .int .i64 1, .int .i64 2, .int .i64 50, .int .i64 40, .int .i64 2, .int .i64 1, .int .i64 3, .int .i64 0, .int .i64 100, .int .i64 3, .int .i64 3, .int .i64 2, .int .i64 20, .int .i64 10, .int .i64 4, .int .i64 2, .int .i64 2, .int .i64 0, .int .i64 30]), (G89, 3, #[.int .i64 9])] from Ly.out)
     refine Ts.wpTree_two (m := []) rfl rfl rfl Gr.Quietly.none ?_ ?_
     ·intro W90 hW
      replace Ly := lyb Ly hW
      replace HB0 := lh (HB0.out.trans (hW.mono HB0.out.size))
      replace HTn := lh ((HTn.out.below hW).more hW.size)
      clear hW
      gi_wp2
      refine ⟨trivial, (callsIn_wide.2 (end_any (some ⟨g, 0, none⟩) 4 4 (some ⟨g2, 0, none⟩) 4 4 exT exL 1 (some ⟨G89, 0, none⟩) 1 1 [9] W90 (by omega) (by omega) (by omega) HTn.out (ints_blk2 [9] (Ly.out.blk 5 rfl)) (HL.out.below Ly.out.bel hl0))).mono ?_⟩
      rintro e W91 ⟨rfl, hb⟩
      replace Ly := lyb Ly hb
      replace HB0 := lh (HB0.out.trans (hb.mono HB0.out.size))
      replace HTn := lh ((HTn.out.below hb).more hb.size)
      rw [ey_end1]
      obtain ⟨⟨z1, z2⟩, hz⟩ : ∃ z, endV exT exL 1 [9] = z := ⟨_, rfl⟩
      rw [hz]
      clear hz
      gi_wp2
      first | refine ⟨trivial, hb, ?_⟩ | refine ⟨hb, ?_⟩
      clear hb
      refine Ts.wpTree_one (A := ?AF9) rfl rfl ?hq9 ?_
      case hq9 =>
       rintro σ hσ of hof hcl
       have HOF := lh hof
       have HCL := lh hcl
       clear hof hcl
       obtain ⟨c0_, c1_, c2_, c3_, c4_⟩ := lyz5 Ly HOF 1 rfl
       have hfw := hfT
       simp only [pickB]
       repeat (gi_big_quiet_step (fail))
       refine wpQuietIn_nil ?_
       exact rfl
      intro W92 hW
      replace Ly := lyb Ly hW
      replace HB0 := lh (HB0.out.trans (hW.mono HB0.out.size))
      replace HTn := lh ((HTn.out.below hW).more hW.size)
      clear hW
      gi_wp2
      have hup : Ts.Up W92 (W92.alloc (.cells #[.int .i64 0, .int .i64 0] 63)) := (Below.refl _ _).alloc (Nat.le_refl _) _
      first | refine ⟨trivial, hup, ?_⟩ | refine ⟨hup, ?_⟩
      clear hup
      have hgC := HB0.out.size
      obtain ⟨V93, hV⟩ : ∃ V, (W92.alloc (.cells #[.int .i64 0, .int .i64 0] 63)) = V := ⟨_, rfl⟩
      rw [hV]
      have hb := fbox_bel hV
      have hnew := fbox_blk hV
      have hge := Ly.out.bel.size
      replace Ly := lyb Ly hb
      replace HB0 := lh (HB0.out.trans (hb.mono HB0.out.size))
      replace HTn := lh ((HTn.out.below hb).more hb.size)
      replace Ly := lh (Ly.out.add hge hnew)
      clear hnew hge hb hV
      obtain ⟨G94, hG⟩ : ∃ g, W92.heap.size = g := ⟨_, rfl⟩
      rw [hG] at Ly hgC ⊢
      clear hG
      replace Ly := lh (show Lay w V93 [(Gt, 25, #[.slice (some ⟨od, 0, none⟩) 4 4, .slice (some ⟨ol, 0, none⟩) 4 4]), (Gs, 65, #[.int .i64 1000, .int .i64 1, .int .i64 2, .int .i64 4, .int .i64 3]), (Gg, 73, #[.int .i64 1, .int .i64 21, .int .i64 2, .int .i64 3]), (od, 3, #[.int .i64 1, .int .i64 2, .int .i64 3, .int .i64 4]), (ol, 52, #[.int .i64 1, .int .i64 1, .int .i64 2, .int .i64 50, .int .i64 40, .int .i64 2, .int .i64 1, .int .i64 3, .int .i64 0, .int .i64 100, .int .i64 3, .int .i64 3, .int .i64 2, .int .i64 20, .int .i64 10, .int .i64 4, .int .i64 2, .int .i64 2, .int .i64 0, .int .i64 30]), (G89, 3, #[.int .i64 9]), (G94, 63, #[.int .i64 0, .int .i64 0])] from Ly.out)
      refine Ts.wpTree_end (A := ?AF10) rfl ?hq10 ?_
      case hq10 =>
       rintro σ hσ of hof hcl
       have HOF := lh hof
       have HCL := lh hcl
       clear hof hcl
       obtain ⟨c0_, c1_, c2_, c3_, c4_⟩ := lyz5 Ly HOF 1 rfl
       have hfw := hfT
       simp only [pickB]
       repeat (gi_big_quiet_step (fail))
       refine wpQuietIn_nil ?_
       exact rfl
      intro W95 hW
      replace Ly := lyb Ly hW
      replace HB0 := lh (HB0.out.trans (hW.mono HB0.out.size))
      replace HTn := lh ((HTn.out.below hW).more hW.size)
      clear hW
      have x6_0 := lyc Ly 6 rfl 0
      have z6_0 := lyf Ly 6 rfl 0
      have x6_1 := lyc Ly 6 rfl 1
      have z6_1 := lyf Ly 6 rfl 1
      have l6_ := Ly.out.lt 6 rfl
      simp only [pickB]
      refine wpT_cons ?_
      gi_wp2
      refine wpT_nil ?_
      gi_wp2
      gi_meet
      exact ⟨rfl, lh ((HB0.out.setCell (p := ⟨G94, 0, none⟩) hgC _).setCell (p := ⟨G94, 1, none⟩) hgC _)⟩
     ·intro W96 hW
      replace Ly := lyb Ly hW
      replace HB0 := lh (HB0.out.trans (hW.mono HB0.out.size))
      replace HTn := lh ((HTn.out.below hW).more hW.size)
      clear hW
      gi_wp2
      have hup : Ts.Up W96 (W96.alloc (.cells #[.int .i64 0, .int .i64 0] 63)) := (Below.refl _ _).alloc (Nat.le_refl _) _
      first | refine ⟨trivial, hup, ?_⟩ | refine ⟨hup, ?_⟩
      clear hup
      have hgC := HB0.out.size
      obtain ⟨V97, hV⟩ : ∃ V, (W96.alloc (.cells #[.int .i64 0, .int .i64 0] 63)) = V := ⟨_, rfl⟩
      rw [hV]
      have hb := fbox_bel hV
      have hnew := fbox_blk hV
      have hge := Ly.out.bel.size
      replace Ly := lyb Ly hb
      replace HB0 := lh (HB0.out.trans (hb.mono HB0.out.size))
      replace HTn := lh ((HTn.out.below hb).more hb.size)
      replace Ly := lh (Ly.out.add hge hnew)
      clear hnew hge hb hV
      obtain ⟨G98, hG⟩ : ∃ g, W96.heap.size = g := ⟨_, rfl⟩
      rw [hG] at Ly hgC ⊢
      clear hG
      replace Ly := lh (show Lay w V97 [(Gt, 25, #[.slice (some ⟨od, 0, none⟩) 4 4, .slice (some ⟨ol, 0, none⟩) 4 4]), (Gs, 65, #[.int .i64 1000, .int .i64 1, .int .i64 2, .int .i64 4, .int .i64 3]), (Gg, 73, #[.int .i64 1, .int .i64 21, .int .i64 2, .int .i64 3]), (od, 3, #[.int .i64 1, .int .i64 2, .int .i64 3, .int .i64 4]), (ol, 52, #[.int .i64 1, .int .i64 1, .int .i64 2, .int .i64 50, .int .i64 40, .int .i64 2, .int .i64 1, .int .i64 3, .int .i64 0, .int .i64 100, .int .i64 3, .int .i64 3, .int .i64 2, .int .i64 20, .int .i64 10, .int .i64 4, .int .i64 2, .int .i64 2, .int .i64 0, .int .i64 30]), (G89, 3, #[.int .i64 9]), (G98, 63, #[.int .i64 0, .int .i64 0])] from Ly.out)
      refine Ts.wpTree_one (m := []) rfl rfl Gr.Quietly.none ?_
      intro W99 hW
      replace Ly := lyb Ly hW
      replace HB0 := lh (HB0.out.trans (hW.mono HB0.out.size))
      replace HTn := lh ((HTn.out.below hW).more hW.size)
      clear hW
      gi_wp2
      refine ⟨trivial, (callsIn_wide.2 (end_any (some ⟨g, 0, none⟩) 4 4 (some ⟨g2, 0, none⟩) 4 4 exT exL 1 (some ⟨G89, 0, none⟩) 1 1 [9] W99 (by omega) (by omega) (by omega) HTn.out (ints_blk2 [9] (Ly.out.blk 5 rfl)) (HL.out.below Ly.out.bel hl0))).mono ?_⟩
      rintro e W100 ⟨rfl, hb⟩
      replace Ly := lyb Ly hb
      replace HB0 := lh (HB0.out.trans (hb.mono HB0.out.size))
      replace HTn := lh ((HTn.out.below hb).more hb.size)
      rw [ey_end1]
      obtain ⟨⟨z1, z2⟩, hz⟩ : ∃ z, endV exT exL 1 [9] = z := ⟨_, rfl⟩
      rw [hz]
      clear hz
      gi_wp2
      first | refine ⟨trivial, hb, ?_⟩ | refine ⟨hb, ?_⟩
      clear hb
      refine Ts.wpTree_end (A := ?AF11) rfl ?hq11 ?_
      case hq11 =>
       rintro σ hσ of hof hcl
       have HOF := lh hof
       have HCL := lh hcl
       clear hof hcl
       obtain ⟨c0_, c1_, c2_, c3_, c4_⟩ := lyz5 Ly HOF 1 rfl
       have hfw := hfT
       simp only [pickB]
       repeat (gi_big_quiet_step (fail))
       refine wpQuietIn_nil ?_
       exact rfl
      intro W101 hW
      replace Ly := lyb Ly hW
      replace HB0 := lh (HB0.out.trans (hW.mono HB0.out.size))
      replace HTn := lh ((HTn.out.below hW).more hW.size)
      clear hW
      have x6_0 := lyc Ly 6 rfl 0
      have z6_0 := lyf Ly 6 rfl 0
      have x6_1 := lyc Ly 6 rfl 1
      have z6_1 := lyf Ly 6 rfl 1
      have l6_ := Ly.out.lt 6 rfl
      simp only [pickB]
      refine wpT_cons ?_
      gi_wp2
      refine wpT_nil ?_
      gi_wp2
      gi_meet
      exact ⟨rfl, lh ((HB0.out.setCell (p := ⟨G98, 0, none⟩) hgC _).setCell (p := ⟨G98, 1, none⟩) hgC _)⟩
    ·intro W102 hW
     replace Ly := lyb Ly hW
     replace HB0 := lh (HB0.out.trans (hW.mono HB0.out.size))
     replace HTn := lh ((HTn.out.below hW).more hW.size)
     clear hW
     gi_wp2
     have hup : Ts.Up W102 (W102.alloc (.cells #[.int .i64 0, .int .i64 0] 63)) := (Below.refl _ _).alloc (Nat.le_refl _) _
     first | refine ⟨trivial, hup, ?_⟩ | refine ⟨hup, ?_⟩
     clear hup
     have hgC := HB0.out.size
     obtain ⟨V103, hV⟩ : ∃ V, (W102.alloc (.cells #[.int .i64 0, .int .i64 0] 63)) = V := ⟨_, rfl⟩
     rw [hV]
     have hb := fbox_bel hV
     have hnew := fbox_blk hV
     have hge := Ly.out.bel.size
     replace Ly := lyb Ly hb
     replace HB0 := lh (HB0.out.trans (hb.mono HB0.out.size))
     replace HTn := lh ((HTn.out.below hb).more hb.size)
     replace Ly := lh (Ly.out.add hge hnew)
     clear hnew hge hb hV
     obtain ⟨G104, hG⟩ : ∃ g, W102.heap.size = g := ⟨_, rfl⟩
     rw [hG] at Ly hgC ⊢
     clear hG
     replace Ly := lh (show Lay w V103 [(Gt, 25, #[.slice (some ⟨od, 0, none⟩) 4 4, .slice (some ⟨ol, 0, none⟩) 4 4]), (Gs, 65, #[.int .i64 1000, .int .i64 1, .int .i64 2, .int .i64 4, .int .i64 3]), (Gg, 73, #[.int .i64 1, .int .i64 21, .int .i64 2, .int .i64 3]), (od, 3, #[.int .i64 1, .int .i64 2, .int .i64 3, .int .i64 4]), (ol, 52, #[.int .i64 1, .int .i64 1, .int .i64 2, .int .i64 50, .int .i64 40, .int .i64 2, .int .i64 1, .int .i64 3, .int .i64 0, .int .i64 100, .int .i64 3, .int .i64 3, .int .i64 2, .int .i64 20, .int .i64 10, .int .i64 4, .int .i64 2, .int .i64 2, .int .i64 0, .int .i64 30]), (G104, 63, #[.int .i64 0, .int .i64 0])] from Ly.out)
     refine Ts.wpTree_one (m := []) rfl rfl Gr.Quietly.none ?_
     intro W105 hW
     replace Ly := lyb Ly hW
     replace HB0 := lh (HB0.out.trans (hW.mono HB0.out.size))
     replace HTn := lh ((HTn.out.below hW).more hW.size)
     clear hW
     gi_wp2
     have hup : Ts.Up W105 (W105.alloc (.cells #[.int .i64 9] 3)) := (Below.refl _ _).alloc (Nat.le_refl _) _
     first | refine ⟨trivial, hup, ?_⟩ | refine ⟨hup, ?_⟩
     clear hup
     obtain ⟨V106, hV⟩ : ∃ V, (W105.alloc (.cells #[.int .i64 9] 3)) = V := ⟨_, rfl⟩
     rw [hV]
     have hb := fbox_bel hV
     have hnew := fbox_blk hV
     have hge := Ly.out.bel.size
     replace Ly := lyb Ly hb
     replace HB0 := lh (HB0.out.trans (hb.mono HB0.out.size))
     replace HTn := lh ((HTn.out.below hb).more hb.size)
     replace Ly := lh (Ly.out.add hge hnew)
     clear hnew hge hb hV
     obtain ⟨G107, hG⟩ : ∃ g, W105.heap.size = g := ⟨_, rfl⟩
     rw [hG] at Ly ⊢
     clear hG
     replace Ly := lh (show Lay w V106 [(Gt, 25, #[.slice (some ⟨od, 0, none⟩) 4 4, .slice (some ⟨ol, 0, none⟩) 4 4]), (Gs, 65, #[.int .i64 1000, .int .i64 1, .int .i64 2, .int .i64 4, .int .i64 3]), (Gg, 73, #[.int .i64 1, .int .i64 21, .int .i64 2, .int .i64 3]), (od, 3, #[.int .i64 1, .int .i64 2, .int .i64 3, .int .i64 4]), (ol, 52, #[.int .i64 1, .int .i64 1, .int .i64 2, .int .i64 50, .int .i64 40, .int .i64 2, .int .i64 1, .int .i64 3, .int .i64 0, .int .i64 100, .int .i64 3, .int .i64 3, .int .i64 2, .int .i64 20, .int .i64 10, .int .i64 4, .int .i64 2, .int .i64 2, .int .i64 0, .int .i64 30]), (G104, 63, #[.int .i64 0, .int .i64 0]), (G107, 3, #[.int .i64 9])] from Ly.out)
     refine Ts.wpTree_one (m := []) rfl rfl Gr.Quietly.none ?_
     intro W108 hW
     replace Ly := lyb Ly hW
     replace HB0 := lh (HB0.out.trans (hW.mono HB0.out.size))
     replace HTn := lh ((HTn.out.below hW).more hW.size)
     clear hW
     gi_wp2
     refine ⟨trivial, (callsIn_wide.2 (end_any (some ⟨g, 0, none⟩) 4 4 (some ⟨g2, 0, none⟩) 4 4 exT exL 1 (some ⟨G107, 0, none⟩) 1 1 [9] W108 (by omega) (by omega) (by omega) HTn.out (ints_blk2 [9] (Ly.out.blk 6 rfl)) (HL.out.below Ly.out.bel hl0))).mono ?_⟩
     rintro e W109 ⟨rfl, hb⟩
     replace Ly := lyb Ly hb
     replace HB0 := lh (HB0.out.trans (hb.mono HB0.out.size))
     replace HTn := lh ((HTn.out.below hb).more hb.size)
     rw [ey_end1]
     obtain ⟨⟨z1, z2⟩, hz⟩ : ∃ z, endV exT exL 1 [9] = z := ⟨_, rfl⟩
     rw [hz]
     clear hz
     gi_wp2
     first | refine ⟨trivial, hb, ?_⟩ | refine ⟨hb, ?_⟩
     clear hb
     refine Ts.wpTree_end (A := ?AF12) rfl ?hq12 ?_
     case hq12 =>
      rintro σ hσ of hof hcl
      have HOF := lh hof
      have HCL := lh hcl
      clear hof hcl
      obtain ⟨c0_, c1_, c2_, c3_, c4_⟩ := lyz5 Ly HOF 1 rfl
      have hfw := hfT
      simp only [pickB]
      repeat (gi_big_quiet_step (fail))
      refine wpQuietIn_nil ?_
      exact rfl
     intro W110 hW
     replace Ly := lyb Ly hW
     replace HB0 := lh (HB0.out.trans (hW.mono HB0.out.size))
     replace HTn := lh ((HTn.out.below hW).more hW.size)
     clear hW
     have x5_0 := lyc Ly 5 rfl 0
     have z5_0 := lyf Ly 5 rfl 0
     have x5_1 := lyc Ly 5 rfl 1
     have z5_1 := lyf Ly 5 rfl 1
     have l5_ := Ly.out.lt 5 rfl
     simp only [pickB]
     refine wpT_cons ?_
     gi_wp2
     refine wpT_nil ?_
     gi_wp2
     gi_meet
     exact ⟨rfl, lh ((HB0.out.setCell (p := ⟨G104, 0, none⟩) hgC _).setCell (p := ⟨G104, 1, none⟩) hgC _)⟩
   ·intro W111 hW
    replace Ly := lyb Ly hW
    replace HB0 := lh (HB0.out.trans (hW.mono HB0.out.size))
    clear hW
    gi_wp2
    have hup : Ts.Up W111 (W111.alloc (.cells #[.int .i64 9] 3)) := (Below.refl _ _).alloc (Nat.le_refl _) _
    first | refine ⟨trivial, hup, ?_⟩ | refine ⟨hup, ?_⟩
    clear hup
    obtain ⟨V112, hV⟩ : ∃ V, (W111.alloc (.cells #[.int .i64 9] 3)) = V := ⟨_, rfl⟩
    rw [hV]
    have hb := fbox_bel hV
    have hnew := fbox_blk hV
    have hge := Ly.out.bel.size
    replace Ly := lyb Ly hb
    replace HB0 := lh (HB0.out.trans (hb.mono HB0.out.size))
    replace Ly := lh (Ly.out.add hge hnew)
    clear hnew hge hb hV
    obtain ⟨G113, hG⟩ : ∃ g, W111.heap.size = g := ⟨_, rfl⟩
    rw [hG] at Ly ⊢
    clear hG
    replace Ly := lh (show Lay w V112 [(Gt, 25, #[.slice (some ⟨od, 0, none⟩) 4 4, .slice (some ⟨ol, 0, none⟩) 4 4]), (Gs, 65, #[.int .i64 1000, .int .i64 1, .int .i64 2, .int .i64 4, .int .i64 3]), (Gg, 73, #[.int .i64 1, .int .i64 21, .int .i64 2, .int .i64 3]), (od, 3, #[.int .i64 1, .int .i64 2, .int .i64 3, .int .i64 4]), (ol, 52, #[.int .i64 1, .int .i64 1, .int .i64 2, .int .i64 50, .int .i64 40, .int .i64 2, .int .i64 1, .int .i64 3, .int .i64 0, .int .i64 100, .int .i64 3, .int .i64 3, .int .i64 2, .int .i64 20, .int .i64 10, .int .i64 4, .int .i64 2, .int .i64 2, .int .i64 0, .int .i64 30]), (G113, 3, #[.int .i64 9])] from Ly.out)
    refine Ts.wpTree_two (m := []) rfl rfl rfl Gr.Quietly.none ?_ ?_
    ·intro W114 hW
     replace Ly := lyb Ly hW
     replace HB0 := lh (HB0.out.trans (hW.mono HB0.out.size))
     clear hW
     gi_wp2
     refine ⟨trivial, (callsIn_wide.2 (town_any W114)).mono ?_⟩
     rintro e W115 ⟨g, g2, rfl, ht, hb⟩
     replace Ly := lyb Ly hb
     replace HB0 := lh (HB0.out.trans (hb.mono HB0.out.size))
     have HTn := lh ht
     clear ht
     gi_wp2
     first | refine ⟨trivial, hb, ?_⟩ | refine ⟨hb, ?_⟩
     clear hb
     refine Ts.wpTree_two (m := []) rfl rfl rfl Gr.Quietly.none ?_ ?_
     ·intro W116 hW
      replace Ly := lyb Ly hW
      replace HB0 := lh (HB0.out.trans (hW.mono HB0.out.size))
      replace HTn := lh ((HTn.out.below hW).more hW.size)
      clear hW
      gi_wp2
      refine ⟨trivial, (callsIn_wide.2 (end_any (some ⟨g, 0, none⟩) 4 4 (some ⟨g2, 0, none⟩) 4 4 exT exL 1 (some ⟨G113, 0, none⟩) 1 1 [9] W116 (by omega) (by omega) (by omega) HTn.out (ints_blk2 [9] (Ly.out.blk 5 rfl)) (HL.out.below Ly.out.bel hl0))).mono ?_⟩
      rintro e W117 ⟨rfl, hb⟩
      replace Ly := lyb Ly hb
      replace HB0 := lh (HB0.out.trans (hb.mono HB0.out.size))
      replace HTn := lh ((HTn.out.below hb).more hb.size)
      rw [ey_end1]
      obtain ⟨⟨z1, z2⟩, hz⟩ : ∃ z, endV exT exL 1 [9] = z := ⟨_, rfl⟩
      rw [hz]
      clear hz
      gi_wp2
      first | refine ⟨trivial, hb, ?_⟩ | refine ⟨hb, ?_⟩
      clear hb
      refine Ts.wpTree_one (A := ?AF13) rfl rfl ?hq13 ?_
      case hq13 =>
       rintro σ hσ of hof hcl
       have HOF := lh hof
       have HCL := lh hcl
       clear hof hcl
       obtain ⟨c0_, c1_, c2_, c3_, c4_⟩ := lyz5 Ly HOF 1 rfl
       have hfw := hfT
       simp only [pickB]
       repeat (gi_big_quiet_step (fail))
       refine wpQuietIn_nil ?_
       exact rfl
      intro W118 hW
      replace Ly := lyb Ly hW
      replace HB0 := lh (HB0.out.trans (hW.mono HB0.out.size))
      replace HTn := lh ((HTn.out.below hW).more hW.size)
      clear hW
      gi_wp2
      have hup : Ts.Up W118 (W118.alloc (.cells #[.int .i64 0, .int .i64 0] 63)) := (Below.refl _ _).alloc (Nat.le_refl _) _
      first | refine ⟨trivial, hup, ?_⟩ | refine ⟨hup, ?_⟩
      clear hup
      have hgC := HB0.out.size
      obtain ⟨V119, hV⟩ : ∃ V, (W118.alloc (.cells #[.int .i64 0, .int .i64 0] 63)) = V := ⟨_, rfl⟩
      rw [hV]
      have hb := fbox_bel hV
      have hnew := fbox_blk hV
      have hge := Ly.out.bel.size
      replace Ly := lyb Ly hb
      replace HB0 := lh (HB0.out.trans (hb.mono HB0.out.size))
      replace HTn := lh ((HTn.out.below hb).more hb.size)
      replace Ly := lh (Ly.out.add hge hnew)
      clear hnew hge hb hV
      obtain ⟨G120, hG⟩ : ∃ g, W118.heap.size = g := ⟨_, rfl⟩
      rw [hG] at Ly hgC ⊢
      clear hG
      replace Ly := lh (show Lay w V119 [(Gt, 25, #[.slice (some ⟨od, 0, none⟩) 4 4, .slice (some ⟨ol, 0, none⟩) 4 4]), (Gs, 65, #[.int .i64 1000, .int .i64 1, .int .i64 2, .int .i64 4, .int .i64 3]), (Gg, 73, #[.int .i64 1, .int .i64 21, .int .i64 2, .int .i64 3]), (od, 3, #[.int .i64 1, .int .i64 2, .int .i64 3, .int .i64 4]), (ol, 52, #[.int .i64 1, .int .i64 1, .int .i64 2, .int .i64 50, .int .i64 40, .int .i64 2, .int .i64 1, .int .i64 3, .int .i64 0, .int .i64 100, .int .i64 3, .int .i64 3, .int .i64 2, .int .i64 20, .int .i64 10, .int .i64 4, .int .i64 2, .int .i64 2, .int .i64 0, .int .i64 30]), (G113, 3, #[.int .i64 9]), (G120, 63, #[.int .i64 0, .int .i64 0])] from Ly.out)
      refine Ts.wpTree_end (A := ?AF14) rfl ?hq14 ?_
      case hq14 =>
       rintro σ hσ of hof hcl
       have HOF := lh hof
       have HCL := lh hcl
       clear hof hcl
       obtain ⟨c0_, c1_, c2_, c3_, c4_⟩ := lyz5 Ly HOF 1 rfl
       have hfw := hfT
       simp only [pickB]
       repeat (gi_big_quiet_step (fail))
       refine wpQuietIn_nil ?_
       exact rfl
      intro W121 hW
      replace Ly := lyb Ly hW
      replace HB0 := lh (HB0.out.trans (hW.mono HB0.out.size))
      replace HTn := lh ((HTn.out.below hW).more hW.size)
      clear hW
      have x6_0 := lyc Ly 6 rfl 0
      have z6_0 := lyf Ly 6 rfl 0
      have x6_1 := lyc Ly 6 rfl 1
      have z6_1 := lyf Ly 6 rfl 1
      have l6_ := Ly.out.lt 6 rfl
      simp only [pickB]
      refine wpT_cons ?_
      gi_wp2
      refine wpT_nil ?_
      gi_wp2
      gi_meet
      exact ⟨rfl, lh ((HB0.out.setCell (p := ⟨G120, 0, none⟩) hgC _).setCell (p := ⟨G120, 1, none⟩) hgC _)⟩
     ·intro W122 hW
      replace Ly := lyb Ly hW
      replace HB0 := lh (HB0.out.trans (hW.mono HB0.out.size))
      replace HTn := lh ((HTn.out.below hW).more hW.size)
      clear hW
      gi_wp2
      have hup : Ts.Up W122 (W122.alloc (.cells #[.int .i64 0, .int .i64 0] 63)) := (Below.refl _ _).alloc (Nat.le_refl _) _
      first | refine ⟨trivial, hup, ?_⟩ | refine ⟨hup, ?_⟩
      clear hup
      have hgC := HB0.out.size
      obtain ⟨V123, hV⟩ : ∃ V, (W122.alloc (.cells #[.int .i64 0, .int .i64 0] 63)) = V := ⟨_, rfl⟩
      rw [hV]
      have hb := fbox_bel hV
      have hnew := fbox_blk hV
      have hge := Ly.out.bel.size
      replace Ly := lyb Ly hb
      replace HB0 := lh (HB0.out.trans (hb.mono HB0.out.size))
      replace HTn := lh ((HTn.out.below hb).more hb.size)
      replace Ly := lh (Ly.out.add hge hnew)
      clear hnew hge hb hV
      obtain ⟨G124, hG⟩ : ∃ g, W122.heap.size = g := ⟨_, rfl⟩
      rw [hG] at Ly hgC ⊢
      clear hG
      replace Ly := lh (show Lay w V123 [(Gt, 25, #[.slice (some ⟨od, 0, none⟩) 4 4, .slice (some ⟨ol, 0, none⟩) 4 4]), (Gs, 65, #[.int .i64 1000, .int .i64 1, .int .i64 2, .int .i64 4, .int .i64 3]), (Gg, 73, #[.int .i64 1, .int .i64 21, .int .i64 2, .int .i64 3]), (od, 3, #[.int .i64 1, .int .i64 2, .int .i64 3, .int .i64 4]), (ol, 52, #[.int .i64 1, .int .i64 1, .int .i64 2, .int .i64 50, .int .i64 40, .int .i64 2, .int .i64 1, .int .i64 3, .int .i64 0, .int .i64 100, .int .i64 3, .int .i64 3, .int .i64 2, .int .i64 20, .int .i64 10, .int .i64 4, .int .i64 2, .int .i64 2, .int .i64 0, .int .i64 30]), (G113, 3, #[.int .i64 9]), (G124, 63, #[.int .i64 0, .int .i64 0])] from Ly.out)
      refine Ts.wpTree_one (m := []) rfl rfl Gr.Quietly.none ?_
      intro W125 hW
      replace Ly := lyb Ly hW
      replace HB0 := lh (HB0.out.trans (hW.mono HB0.out.size))
      replace HTn := lh ((HTn.out.below hW).more hW.size)
      clear hW
      gi_wp2
      refine ⟨trivial, (callsIn_wide.2 (end_any (some ⟨g, 0, none⟩) 4 4 (some ⟨g2, 0, none⟩) 4 4 exT exL 1 (some ⟨G113, 0, none⟩) 1 1 [9] W125 (by omega) (by omega) (by omega) HTn.out (ints_blk2 [9] (Ly.out.blk 5 rfl)) (HL.out.below Ly.out.bel hl0))).mono ?_⟩
      rintro e W126 ⟨rfl, hb⟩
      replace Ly := lyb Ly hb
      replace HB0 := lh (HB0.out.trans (hb.mono HB0.out.size))
      replace HTn := lh ((HTn.out.below hb).more hb.size)
      rw [ey_end1]
      obtain ⟨⟨z1, z2⟩, hz⟩ : ∃ z, endV exT exL 1 [9] = z := ⟨_, rfl⟩
      rw [hz]
      clear hz
      gi_wp2
      first | refine ⟨trivial, hb, ?_⟩ | refine ⟨hb, ?_⟩
      clear hb
      refine Ts.wpTree_end (A := ?AF15) rfl ?hq15 ?_
      case hq15 =>
       rintro σ hσ of hof hcl
       have HOF := lh hof
       have HCL := lh hcl
       clear hof hcl
       obtain ⟨c0_, c1_, c2_, c3_, c4_⟩ := lyz5 Ly HOF 1 rfl
       have hfw := hfT
       simp only [pickB]
       repeat (gi_big_quiet_step (fail))
       refine wpQuietIn_nil ?_
       exact rfl
      intro W127 hW
      replace Ly := lyb Ly hW
      replace HB0 := lh (HB0.out.trans (hW.mono HB0.out.size))
      replace HTn := lh ((HTn.out.below hW).more hW.size)
      clear hW
      have x6_0 := lyc Ly 6 rfl 0
      have z6_0 := lyf Ly 6 rfl 0
      have x6_1 := lyc Ly 6 rfl 1
      have z6_1 := lyf Ly 6 rfl 1
      have l6_ := Ly.out.lt 6 rfl
      simp only [pickB]
      refine wpT_cons ?_
      gi_wp2
      refine wpT_nil ?_
      gi_wp2
      gi_meet
      exact ⟨rfl, lh ((HB0.out.setCell (p := ⟨G124, 0, none⟩) hgC _).setCell (p := ⟨G124, 1, none⟩) hgC _)⟩
    ·intro W128 hW
     replace Ly := lyb Ly hW
     replace HB0 := lh (HB0.out.trans (hW.mono HB0.out.size))
     clear hW
     gi_wp2
     have hup : Ts.Up W128 (W128.alloc (.cells #[.int .i64 0, .int .i64 0] 63)) := (Below.refl _ _).alloc (Nat.le_refl _) _
     first | refine ⟨trivial, hup, ?_⟩ | refine ⟨hup, ?_⟩
     clear hup
     have hgC := HB0.out.size
     obtain ⟨V129, hV⟩ : ∃ V, (W128.alloc (.cells #[.int .i64 0, .int .i64 0] 63)) = V := ⟨_, rfl⟩
     rw [hV]
     have hb := fbox_bel hV
     have hnew := fbox_blk hV
     have hge := Ly.out.bel.size
     replace Ly := lyb Ly hb
     replace HB0 := lh (HB0.out.trans (hb.mono HB0.out.size))
     replace Ly := lh (Ly.out.add hge hnew)
     clear hnew hge hb hV
     obtain ⟨G130, hG⟩ : ∃ g, W128.heap.size = g := ⟨_, rfl⟩
     rw [hG] at Ly hgC ⊢
     clear hG
     replace Ly := lh (show Lay w V129 [(Gt, 25, #[.slice (some ⟨od, 0, none⟩) 4 4, .slice (some ⟨ol, 0, none⟩) 4 4]), (Gs, 65, #[.int .i64 1000, .int .i64 1, .int .i64 2, .int .i64 4, .int .i64 3]), (Gg, 73, #[.int .i64 1, .int .i64 21, .int .i64 2, .int .i64 3]), (od, 3, #[.int .i64 1, .int .i64 2, .int .i64 3, .int .i64 4]), (ol, 52, #[.int .i64 1, .int .i64 1, .int .i64 2, .int .i64 50, .int .i64 40, .int .i64 2, .int .i64 1, .int .i64 3, .int .i64 0, .int .i64 100, .int .i64 3, .int .i64 3, .int .i64 2, .int .i64 20, .int .i64 10, .int .i64 4, .int .i64 2, .int .i64 2, .int .i64 0, .int .i64 30]), (G113, 3, #[.int .i64 9]), (G130, 63, #[.int .i64 0, .int .i64 0])] from Ly.out)
     refine Ts.wpTree_one (m := []) rfl rfl Gr.Quietly.none ?_
     intro W131 hW
     replace Ly := lyb Ly hW
     replace HB0 := lh (HB0.out.trans (hW.mono HB0.out.size))
     clear hW
     gi_wp2
     refine ⟨trivial, (callsIn_wide.2 (town_any W131)).mono ?_⟩
     rintro e W132 ⟨g, g2, rfl, ht, hb⟩
     replace Ly := lyb Ly hb
     replace HB0 := lh (HB0.out.trans (hb.mono HB0.out.size))
     have HTn := lh ht
     clear ht
     gi_wp2
     first | refine ⟨trivial, hb, ?_⟩ | refine ⟨hb, ?_⟩
     clear hb
     refine Ts.wpTree_one (m := []) rfl rfl Gr.Quietly.none ?_
     intro W133 hW
     replace Ly := lyb Ly hW
     replace HB0 := lh (HB0.out.trans (hW.mono HB0.out.size))
     replace HTn := lh ((HTn.out.below hW).more hW.size)
     clear hW
     gi_wp2
     refine ⟨trivial, (callsIn_wide.2 (end_any (some ⟨g, 0, none⟩) 4 4 (some ⟨g2, 0, none⟩) 4 4 exT exL 1 (some ⟨G113, 0, none⟩) 1 1 [9] W133 (by omega) (by omega) (by omega) HTn.out (ints_blk2 [9] (Ly.out.blk 5 rfl)) (HL.out.below Ly.out.bel hl0))).mono ?_⟩
     rintro e W134 ⟨rfl, hb⟩
     replace Ly := lyb Ly hb
     replace HB0 := lh (HB0.out.trans (hb.mono HB0.out.size))
     replace HTn := lh ((HTn.out.below hb).more hb.size)
     rw [ey_end1]
     obtain ⟨⟨z1, z2⟩, hz⟩ : ∃ z, endV exT exL 1 [9] = z := ⟨_, rfl⟩
     rw [hz]
     clear hz
     gi_wp2
     first | refine ⟨trivial, hb, ?_⟩ | refine ⟨hb, ?_⟩
     clear hb
     refine Ts.wpTree_end (A := ?AF16) rfl ?hq16 ?_
     case hq16 =>
      rintro σ hσ of hof hcl
      have HOF := lh hof
      have HCL := lh hcl
      clear hof hcl
      obtain ⟨c0_, c1_, c2_, c3_, c4_⟩ := lyz5 Ly HOF 1 rfl
      have hfw := hfT
      simp only [pickB]
      repeat (gi_big_quiet_step (fail))
      refine wpQuietIn_nil ?_
      exact rfl
     intro W135 hW
     replace Ly := lyb Ly hW
     replace HB0 := lh (HB0.out.trans (hW.mono HB0.out.size))
     replace HTn := lh ((HTn.out.below hW).more hW.size)
     clear hW
     have x6_0 := lyc Ly 6 rfl 0
     have z6_0 := lyf Ly 6 rfl 0
     have x6_1 := lyc Ly 6 rfl 1
     have z6_1 := lyf Ly 6 rfl 1
     have l6_ := Ly.out.lt 6 rfl
     simp only [pickB]
     refine wpT_cons ?_
     gi_wp2
     refine wpT_nil ?_
     gi_wp2
     gi_meet
     exact ⟨rfl, lh ((HB0.out.setCell (p := ⟨G130, 0, none⟩) hgC _).setCell (p := ⟨G130, 1, none⟩) hgC _)⟩
   ·intro W136 hW
    replace Ly := lyb Ly hW
    replace HB0 := lh (HB0.out.trans (hW.mono HB0.out.size))
    clear hW
    gi_wp2
    have hup : Ts.Up W136 (W136.alloc (.cells #[.int .i64 0, .int .i64 0] 63)) := (Below.refl _ _).alloc (Nat.le_refl _) _
    first | refine ⟨trivial, hup, ?_⟩ | refine ⟨hup, ?_⟩
    clear hup
    have hgC := HB0.out.size
    obtain ⟨V137, hV⟩ : ∃ V, (W136.alloc (.cells #[.int .i64 0, .int .i64 0] 63)) = V := ⟨_, rfl⟩
    rw [hV]
    have hb := fbox_bel hV
    have hnew := fbox_blk hV
    have hge := Ly.out.bel.size
    replace Ly := lyb Ly hb
    replace HB0 := lh (HB0.out.trans (hb.mono HB0.out.size))
    replace Ly := lh (Ly.out.add hge hnew)
    clear hnew hge hb hV
    obtain ⟨G138, hG⟩ : ∃ g, W136.heap.size = g := ⟨_, rfl⟩
    rw [hG] at Ly hgC ⊢
    clear hG
    replace Ly := lh (show Lay w V137 [(Gt, 25, #[.slice (some ⟨od, 0, none⟩) 4 4, .slice (some ⟨ol, 0, none⟩) 4 4]), (Gs, 65, #[.int .i64 1000, .int .i64 1, .int .i64 2, .int .i64 4, .int .i64 3]), (Gg, 73, #[.int .i64 1, .int .i64 21, .int .i64 2, .int .i64 3]), (od, 3, #[.int .i64 1, .int .i64 2, .int .i64 3, .int .i64 4]), (ol, 52, #[.int .i64 1, .int .i64 1, .int .i64 2, .int .i64 50, .int .i64 40, .int .i64 2, .int .i64 1, .int .i64 3, .int .i64 0, .int .i64 100, .int .i64 3, .int .i64 3, .int .i64 2, .int .i64 20, .int .i64 10, .int .i64 4, .int .i64 2, .int .i64 2, .int .i64 0, .int .i64 30]), (G138, 63, #[.int .i64 0, .int .i64 0])] from Ly.out)
    refine Ts.wpTree_two (m := []) rfl rfl rfl Gr.Quietly.none ?_ ?_
    ·intro W139 hW
     replace Ly := lyb Ly hW
     replace HB0 := lh (HB0.out.trans (hW.mono HB0.out.size))
     clear hW
     gi_wp2
     refine ⟨trivial, (callsIn_wide.2 (town_any W139)).mono ?_⟩
     rintro e W140 ⟨g, g2, rfl, ht, hb⟩
     replace Ly := lyb Ly hb
     replace HB0 := lh (HB0.out.trans (hb.mono HB0.out.size))
     have HTn := lh ht
     clear ht
     gi_wp2
     first | refine ⟨trivial, hb, ?_⟩ | refine ⟨hb, ?_⟩
     clear hb
     refine Ts.wpTree_one (m := []) rfl rfl Gr.Quietly.none ?_
     intro W141 hW
     replace Ly := lyb Ly hW
     replace HB0 := lh (HB0.out.trans (hW.mono HB0.out.size))
     replace HTn := lh ((HTn.out.below hW).more hW.size)
     clear hW
     gi_wp2
     have hup : Ts.Up W141 (W141.alloc (.cells #[.int .i64 9] 3)) := (Below.refl _ _).alloc (Nat.le_refl _) _
     first | refine ⟨trivial, hup, ?_⟩ | refine ⟨hup, ?_⟩
     clear hup
     obtain ⟨V142, hV⟩ : ∃ V, (W141.alloc (.cells #[.int .i64 9] 3)) = V := ⟨_, rfl⟩
     rw [hV]
     have hb := fbox_bel hV
     have hnew := fbox_blk hV
     have hge := Ly.out.bel.size
     replace Ly := lyb Ly hb
     replace HB0 := lh (HB0.out.trans (hb.mono HB0.out.size))
     replace HTn := lh ((HTn.out.below hb).more hb.size)
     replace Ly := lh (Ly.out.add hge hnew)
     clear hnew hge hb hV
     obtain ⟨G143, hG⟩ : ∃ g, W141.heap.size = g := ⟨_, rfl⟩
     rw [hG] at Ly ⊢
     clear hG
     replace Ly := lh (show Lay w V142 [(Gt, 25, #[.slice (some ⟨od, 0, none⟩) 4 4, .slice (some ⟨ol, 0, none⟩) 4 4]), (Gs, 65, #[.int .i64 1000, .int .i64 1, .int .i64 2, .int .i64 4, .int .i64 3]), (Gg, 73, #[.int .i64 1, .int .i64 21, .int .i64 2, .int .i64 3]), (od, 3, #[.int .i64 1, .int .i64 2, .int .i64 3, .int .i64 4]), (ol, 52, #[.int .i64 1, .int .i64 1, .int .i64 2, .int .i64 50, .int .i64 40, .int .i64 2, .int .i64 1, .int .i64 3, .int .i64 0, .int .i64 100, .int .i64 3, .int .i64 3, .int .i64 2, .int .i64 20, .int .i64 10, .int .i64 4, .int .i64 2, .int .i64 2, .int .i64 0, .int .i64 30]), (G138, 63, #[.int .i64 0, .int .i64 0]), (G143, 3, #[.int .i64 9])] from Ly.out)
     refine Ts.wpTree_one (m := []) rfl rfl Gr.Quietly.none ?_
     intro W144 hW
     replace Ly := lyb Ly hW
     replace HB0 := lh (HB0.out.trans (hW.mono HB0.out.size))
     replace HTn := lh ((HTn.out.below hW).more hW.size)
     clear hW
     gi_wp2
     refine ⟨trivial, (callsIn_wide.2 (end_any (some ⟨g, 0, none⟩) 4 4 (some ⟨g2, 0, none⟩) 4 4 exT exL 1 (some ⟨G143, 0, none⟩) 1 1 [9] W144 (by omega) (by omega) (by omega) HTn.out (ints_blk2 [9] (Ly.out.blk 6 rfl)) (HL.out.below Ly.out.bel hl0))).mono ?_⟩
     rintro e W145 ⟨rfl, hb⟩
     replace Ly := lyb Ly hb
     replace HB0 := lh (HB0.out.trans (hb.mono HB0.out.size))
     replace HTn := lh ((HTn.out.below hb).more hb.size)
     rw [ey_end1]
     obtain ⟨⟨z1, z2⟩, hz⟩ : ∃ z, endV exT exL 1 [9] = z := ⟨_, rfl⟩
     rw [hz]
     clear hz
     gi_wp2
     first | refine ⟨trivial, hb, ?_⟩ | refine ⟨hb, ?_⟩
     clear hb
     refine Ts.wpTree_end (A := ?AF17) rfl ?hq17 ?_
     case hq17 =>
      rintro σ hσ of hof hcl
      have HOF := lh hof
      have HCL := lh hcl
      clear hof hcl
      obtain ⟨c0_, c1_, c2_, c3_, c4_⟩ := lyz5 Ly HOF 1 rfl
      have hfw := hfT
      simp only [pickB]
      repeat (gi_big_quiet_step (fail))
      refine wpQuietIn_nil ?_
      exact rfl
     intro W146 hW
     replace Ly := lyb Ly hW
     replace HB0 := lh (HB0.out.trans (hW.mono HB0.out.size))
     replace HTn := lh ((HTn.out.below hW).more hW.size)
     clear hW
     have x5_0 := lyc Ly 5 rfl 0
     have z5_0 := lyf Ly 5 rfl 0
     have x5_1 := lyc Ly 5 rfl 1
     have z5_1 := lyf Ly 5 rfl 1
     have l5_ := Ly.out.lt 5 rfl
     simp only [pickB]
     refine wpT_cons ?_
     gi_wp2
     refine wpT_nil ?_
     gi_wp2
     gi_meet
     exact ⟨rfl, lh ((HB0.out.setCell (p := ⟨G138, 0, none⟩) hgC _).setCell (p := ⟨G138, 1, none⟩) hgC _)⟩
    ·intro W147 hW
     replace Ly := lyb Ly hW
     replace HB0 := lh (HB0.out.trans (hW.mono HB0.out.size))
     clear hW
     gi_wp2
     have hup : Ts.Up W147 (W147.alloc (.cells #[.int .i64 9] 3)) := (Below.refl _ _).alloc (Nat.le_refl _) _
     first | refine ⟨trivial, hup, ?_⟩ | refine ⟨hup, ?_⟩
     clear hup
     obtain ⟨V148, hV⟩ : ∃ V, (W147.alloc (.cells #[.int .i64 9] 3)) = V := ⟨_, rfl⟩
     rw [hV]
     have hb := fbox_bel hV
     have hnew := fbox_blk hV
     have hge := Ly.out.bel.size
     replace Ly := lyb Ly hb
     replace HB0 := lh (HB0.out.trans (hb.mono HB0.out.size))
     replace Ly := lh (Ly.out.add hge hnew)
     clear hnew hge hb hV
     obtain ⟨G149, hG⟩ : ∃ g, W147.heap.size = g := ⟨_, rfl⟩
     rw [hG] at Ly ⊢
     clear hG
     replace Ly := lh (show Lay w V148 [(Gt, 25, #[.slice (some ⟨od, 0, none⟩) 4 4, .slice (some ⟨ol, 0, none⟩) 4 4]), (Gs, 65, #[.int .i64 1000, .int .i64 1, .int .i64 2, .int .i64 4, .int .i64 3]), (Gg, 73, #[.int .i64 1, .int .i64 21, .int .i64 2, .int .i64 3]), (od, 3, #[.int .i64 1, .int .i64 2, .int .i64 3, .int .i64 4]), (ol, 52, #[.int .i64 1, .int .i64 1, .int .i64 2, .int .i64 50, .int .i64 40, .int .i64 2, .int .i64 1, .int .i64 3, .int .i64 0, .int .i64 100, .int .i64 3, .int .i64 3, .int .i64 2, .int .i64 20, .int .i64 10, .int .i64 4, .int .i64 2, .int .i64 2, .int .i64 0, .int .i64 30]), (G138, 63, #[.int .i64 0, .int .i64 0]), (G149, 3, #[.int .i64 9])] from Ly.out)
     refine Ts.wpTree_one (m := []) rfl rfl Gr.Quietly.none ?_
     intro W150 hW
     replace Ly := lyb Ly hW
     replace HB0 := lh (HB0.out.trans (hW.mono HB0.out.size))
     clear hW
     gi_wp2
     refine ⟨trivial, (callsIn_wide.2 (town_any W150)).mono ?_⟩
     rintro e W151 ⟨g, g2, rfl, ht, hb⟩
     replace Ly := lyb Ly hb
     replace HB0 := lh (HB0.out.trans (hb.mono HB0.out.size))
     have HTn := lh ht
     clear ht
     gi_wp2
     first | refine ⟨trivial, hb, ?_⟩ | refine ⟨hb, ?_⟩
     clear hb
     refine Ts.wpTree_one (m := []) rfl rfl Gr.Quietly.none ?_
     intro W152 hW
     replace Ly := lyb Ly hW
     replace HB0 := lh (HB0.out.trans (hW.mono HB0.out.size))
     replace HTn := lh ((HTn.out.below hW).more hW.size)
     clear hW
     gi_wp2
     refine ⟨trivial, (callsIn_wide.2 (end_any (some ⟨g, 0, none⟩) 4 4 (some ⟨g2, 0, none⟩) 4 4 exT exL 1 (some ⟨G149, 0, none⟩) 1 1 [9] W152 (by omega) (by omega) (by omega) HTn.out (ints_blk2 [9] (Ly.out.blk 6 rfl)) (HL.out.below Ly.out.bel hl0))).mono ?_⟩
     rintro e W153 ⟨rfl, hb⟩
     replace Ly := lyb Ly hb
     replace HB0 := lh (HB0.out.trans (hb.mono HB0.out.size))
     replace HTn := lh ((HTn.out.below hb).more hb.size)
     rw [ey_end1]
     obtain ⟨⟨z1, z2⟩, hz⟩ : ∃ z, endV exT exL 1 [9] = z := ⟨_, rfl⟩
     rw [hz]
     clear hz
     gi_wp2
     first | refine ⟨trivial, hb, ?_⟩ | refine ⟨hb, ?_⟩
     clear hb
     refine Ts.wpTree_end (A := ?AF18) rfl ?hq18 ?_
     case hq18 =>
      rintro σ hσ of hof hcl
      have HOF := lh hof
      have HCL := lh hcl
      clear hof hcl
      obtain ⟨c0_, c1_, c2_, c3_, c4_⟩ := lyz5 Ly HOF 1 rfl
      have hfw := hfT
      simp only [pickB]
      repeat (gi_big_quiet_step (fail))
      refine wpQuietIn_nil ?_
      exact rfl
     intro W154 hW
     replace Ly := lyb Ly hW
     replace HB0 := lh (HB0.out.trans (hW.mono HB0.out.size))
     replace HTn := lh ((HTn.out.below hW).more hW.size)
     clear hW
     have x5_0 := lyc Ly 5 rfl 0
     have z5_0 := lyf Ly 5 rfl 0
     have x5_1 := lyc Ly 5 rfl 1
     have z5_1 := lyf Ly 5 rfl 1
     have l5_ := Ly.out.lt 5 rfl
     simp only [pickB]
     refine wpT_cons ?_
     gi_wp2
     refine wpT_nil ?_
     gi_wp2
     gi_meet
     exact ⟨rfl, lh ((HB0.out.setCell (p := ⟨G138, 0, none⟩) hgC _).setCell (p := ⟨G138, 1, none⟩) hgC _)⟩
 case rest =>
  as_aux_lemma =>
   obtain ⟨rfl, hcb⟩ := hcut
   rename World => C155
   have hb := hcb.out
   clear hcb
   replace Ly := lyb Ly hb
   clear hb
   gi_wp2
   refine ⟨trivial, (callsIn_wide.2 (town_any C155)).mono ?_⟩
   rintro e W156 ⟨g, g2, rfl, ht, hb⟩
   replace Ly := lyb Ly hb
   clear hb
   have HTn := lh ht
   clear ht
   gi_wp2
   refine ⟨trivial, (callsIn_wide.2 (lskin_any W156)).mono ?_⟩
   rintro e W157 ⟨rfl, hb⟩
   replace Ly := lyb Ly hb
   replace HTn := lh ((HTn.out.below hb).more hb.size)
   clear hb
   gi_wp2
   obtain ⟨V158, hV⟩ : ∃ V, (W157.alloc (.cells #[.int .i64 9] 3)) = V := ⟨_, rfl⟩
   rw [hV]
   have hb := fbox_bel hV
   have hnew := fbox_blk hV
   have hge := Ly.out.bel.size
   replace Ly := lyb Ly hb
   replace HTn := lh ((HTn.out.below hb).more hb.size)
   replace Ly := lh (Ly.out.add hge hnew)
   clear hnew hge hb hV
   obtain ⟨G159, hG⟩ : ∃ g, W157.heap.size = g := ⟨_, rfl⟩
   rw [hG] at Ly ⊢
   clear hG
   replace Ly := lh (show Lay w V158 [(Gt, 25, #[.slice (some ⟨od, 0, none⟩) 4 4, .slice (some ⟨ol, 0, none⟩) 4 4]), (Gs, 65, #[.int .i64 1000, .int .i64 1, .int .i64 2, .int .i64 4, .int .i64 3]), (Gg, 73, #[.int .i64 1, .int .i64 21, .int .i64 2, .int .i64 3]), (od, 3, #[.int .i64 1, .int .i64 2, .int .i64 3, .int .i64 4]), (ol, 52, #[.int .i64 1, .int .i64 1, .int .i64 2, .int .i64 50, .int .i64 40, .int .i64 2, .int .i64 1, .int .i64 3, .int .i64 0, .int .i64 100, .int .i64 3, .int .i64 3, .int .i64 2, .int .i64 20, .int .i64 10, .int .i64 4, .int .i64 2, .int .i64 2, .int .i64 0, .int .i64 30]), (G159, 3, #[.int .i64 9])] from Ly.out)
   refine ⟨trivial, (callsIn_wide.2 (end_any (some ⟨g, 0, none⟩) 4 4 (some ⟨g2, 0, none⟩) 4 4 exT exS 1 (some ⟨G159, 0, none⟩) 1 1 [9] V158 (by omega) (by omega) (by omega) HTn.out (ints_blk2 [9] (Ly.out.blk 5 rfl)) (HL.out.below Ly.out.bel hl0))).mono ?_⟩
   rintro e W160 ⟨rfl, hb⟩
   replace Ly := lyb Ly hb
   replace HTn := lh ((HTn.out.below hb).more hb.size)
   clear hb
   rw [ey_end2]
   obtain ⟨⟨z1, z2⟩, hz⟩ : ∃ z, endV exT exS 1 [9] = z := ⟨_, rfl⟩
   rw [hz]
   clear hz
   clear HTn
   replace Ly := lh (show Lay w W160 [(Gt, 25, #[.slice (some ⟨od, 0, none⟩) 4 4, .slice (some ⟨ol, 0, none⟩) 4 4]), (Gs, 65, #[.int .i64 1000, .int .i64 1, .int .i64 2, .int .i64 4, .int .i64 3]), (Gg, 73, #[.int .i64 1, .int .i64 21, .int .i64 2, .int .i64 3]), (od, 3, #[.int .i64 1, .int .i64 2, .int .i64 3, .int .i64 4]), (ol, 52, #[.int .i64 1, .int .i64 1, .int .i64 2, .int .i64 50, .int .i64 40, .int .i64 2, .int .i64 1, .int .i64 3, .int .i64 0, .int .i64 100, .int .i64 3, .int .i64 3, .int .i64 2, .int .i64 20, .int .i64 10, .int .i64 4, .int .i64 2, .int .i64 2, .int .i64 0, .int .i64 30])] from lay_take 5 Ly.out)
   gi_wp2
   obtain ⟨V161, hV⟩ : ∃ V, (W160.alloc (.cells #[.int .i64 z1, .int .i64 z2] 63)) = V := ⟨_, rfl⟩
   rw [hV]
   have hb := fbox_bel hV
   replace Ly := lyb Ly hb
   clear hb hV
   obtain ⟨G162, hG⟩ : ∃ g, W160.heap.size = g := ⟨_, rfl⟩
   rw [hG]
   clear hG
   refine ⟨trivial, (callsIn_wide.2 (town_any V161)).mono ?_⟩
   rintro e W163 ⟨g, g2, rfl, ht, hb⟩
   replace Ly := lyb Ly hb
   clear hb
   have HTn := lh ht
   clear ht
   gi_wp2
   refine ⟨trivial, (callsIn_wide.2 (lskin_any W163)).mono ?_⟩
   rintro e W164 ⟨rfl, hb⟩
   replace Ly := lyb Ly hb
   replace HTn := lh ((HTn.out.below hb).more hb.size)
   clear hb
   gi_wp2
   refine ⟨trivial, (callsIn_wide.2 (wet_any (some ⟨g, 0, none⟩) 4 4 (some ⟨g2, 0, none⟩) 4 4 exT exS 1 4 true W164 (by omega) (by omega) HTn.out (HL.out.below Ly.out.bel hl0))).mono ?_⟩
   rintro e W165 ⟨AF, nAF, cAF, rfl, hi, hb⟩
   replace Ly := lyb Ly hb
   replace HTn := lh ((HTn.out.below hb).more hb.size)
   clear hb
   clear hi
   rw [ey_wet]
   obtain ⟨z3, hz⟩ : ∃ z, (wetF exT exS 1 4 true).2.1 = z := ⟨_, rfl⟩
   rw [hz]
   clear hz
   clear HTn
   gi_upto_region 29 with fail
   gi_cut [37, 38] from 231 (fun v37 v38 wx => v38 = .int .i64 35 ∧ Hid (Below W165.heap.size W165 wx))
   case first =>
    as_aux_lemma =>
     have HB0 := lh (Below.refl W165.heap.size W165)
     refine Ts.wpIn_region_tree (G := Ts.Up) (V0 := W165) [([], [false, true], [0, 2, 7]), ([0], [], [2, 7]), ([0, 2], [], [3, 7]), ([0, 2, 3], [false, false, false, false, true, true, true], [7]), ([0, 2, 3, 7], [false, false, false, false, false, false, false, false, false, true], []), ([0, 2, 7], [], [3]), ([0, 2, 7, 3], [false, false, false, false, true, true, true, false, false, true], []), ([0, 7], [], [2]), ([0, 7, 2], [], [3]), ([0, 7, 2, 3], [false, false, false, false, true, true, true, false, false, true], []), ([2], [], [0, 7]), ([2, 0], [], [3, 7]), ([2, 0, 3], [false, false, false, false, true, true, true], [7]), ([2, 0, 3, 7], [false, false, false, false, false, false, false, false, false, true], []), ([2, 0, 7], [], [3]), ([2, 0, 7, 3], [false, false, false, false, true, true, true, false, false, true], []), ([2, 7], [], [0]), ([2, 7, 0], [], [3]), ([2, 7, 0, 3], [false, false, false, false, true, true, true, false, false, true], []), ([7], [], [0, 2]), ([7, 0], [], [2]), ([7, 0, 2], [], [3]), ([7, 0, 2, 3], [false, false, false, false, true, true, true, false, false, true], []), ([7, 2], [], [0]), ([7, 2, 0], [], [3]), ([7, 2, 0, 3], [false, false, false, false, true, true, true, false, false, true], [])] 5 [false, false, false, false, false, false, false, false, true] (by kernel_rfl) (by kernel_rfl) (by kernel_rfl) (below_drewN (Below.refl _ _) 1) ?_
     refine Ts.wpTree_three (A := ?AF19) rfl rfl rfl rfl ?hq19 ?_ ?_ ?_
     case hq19 =>
      rintro σ hσ of hof hcl
      have HOF := lh hof
      have HCL := lh hcl
      clear hof hcl
      obtain ⟨c0_, c1_, c2_, c3_⟩ := lyz4 Ly HOF 2 rfl
      have hfw := hfT
      simp only [pickB]
      repeat (gi_big_quiet_step (fail))
      refine wpQuietIn_nil ?_
      exact rfl
     ·intro W166 hW
      replace Ly := lyb Ly hW
      replace HB0 := lh (HB0.out.trans (hW.mono HB0.out.size))
      clear hW
      gi_wp2
      refine ⟨trivial, (callsIn_wide.2 (town_any W166)).mono ?_⟩
      rintro e W167 ⟨g, g2, rfl, ht, hb⟩
      replace Ly := lyb Ly hb
      replace HB0 := lh (HB0.out.trans (hb.mono HB0.out.size))
      have HTn := lh ht
      clear ht
      gi_wp2
      first | refine ⟨trivial, hb, ?_⟩ | refine ⟨hb, ?_⟩
      clear hb
      refine Ts.wpTree_two (m := []) rfl rfl rfl Gr.Quietly.none ?_ ?_
      ·intro W168 hW
       replace Ly := lyb Ly hW
       replace HB0 := lh (HB0.out.trans (hW.mono HB0.out.size))
       replace HTn := lh ((HTn.out.below hW).more hW.size)
       clear hW
       gi_wp2
       have hup : Ts.Up W168 (W168.alloc (.cells #[.int .i64 9] 3)) := (Below.refl _ _).alloc (Nat.le_refl _) _
       first | refine ⟨trivial, hup, ?_⟩ | refine ⟨hup, ?_⟩
       clear hup
       obtain ⟨V169, hV⟩ : ∃ V, (W168.alloc (.cells #[.int .i64 9] 3)) = V := ⟨_, rfl⟩
       rw [hV]
       have hb := fbox_bel hV
       have hnew := fbox_blk hV
       have hge := Ly.out.bel.size
       replace Ly := lyb Ly hb
       replace HB0 := lh (HB0.out.trans (hb.mono HB0.out.size))
       replace HTn := lh ((HTn.out.below hb).more hb.size)
       replace Ly := lh (Ly.out.add hge hnew)
       clear hnew hge hb hV
       obtain ⟨G170, hG⟩ : ∃ g, W168.heap.size = g := ⟨_, rfl⟩
       rw [hG] at Ly ⊢
       clear hG
       replace Ly := lh (show Lay w V169 [(Gt, 25, #[.slice (some ⟨od, 0, none⟩) 4 4, .slice (some ⟨ol, 0, none⟩) 4 4]), (Gs, 65, #[.int .i64 1000, .int .i64 1, .int .i64 2, .int .i64 4, .int .i64 3]), (Gg, 73, #[.int .i64 1, .int .i64 21, .int .i64 2, .int .i64 3]), (od, 3, #[.int .i64 1, .int .i64 2, .int .i64 3, .int .i64 4]), (ol, 52, #[.int .i64 1, .int .i64 1, .int .i64 2, .int .i64 50, .int .i64 40, .int .i64 2, .int .i64 1, .int .i64 3, .int .i64 0, .int .i64 100, .int .i64 3, .int .i64 3, .int .i64 2, .int .i64 20, .int .i64 10, .int .i64 4, .int .i64 2, .int .i64 2, .int .i64 0, .int .i64 30]), (G170, 3, #[.int .i64 9])] from Ly.out)
       refine Ts.wpTree_two (m := []) rfl rfl rfl Gr.Quietly.none ?_ ?_
       ·intro W171 hW
        replace Ly := lyb Ly hW
        replace HB0 := lh (HB0.out.trans (hW.mono HB0.out.size))
        replace HTn := lh ((HTn.out.below hW).more hW.size)
        clear hW
        gi_wp2
        refine ⟨trivial, (callsIn_wide.2 (seconds_any (some ⟨g, 0, none⟩) 4 4 (some ⟨g2, 0, none⟩) 4 4 exT exW 1 (some ⟨G170, 0, none⟩) 1 1 [9] W171 (by omega) (by omega) (by omega) HTn.out (ints_blk2 [9] (Ly.out.blk 5 rfl)) (HL.out.below Ly.out.bel hl0))).mono ?_⟩
        rintro e W172 ⟨rfl, hb⟩
        replace Ly := lyb Ly hb
        replace HB0 := lh (HB0.out.trans (hb.mono HB0.out.size))
        replace HTn := lh ((HTn.out.below hb).more hb.size)
        rw [ey_sec]
        obtain ⟨⟨z1, z2⟩, hz⟩ : ∃ z, secV exT exW 1 [9] = z := ⟨_, rfl⟩
        rw [hz]
        clear hz
        gi_wp2
        first | refine ⟨trivial, hb, ?_⟩ | refine ⟨hb, ?_⟩
        clear hb
        refine Ts.wpTree_one (A := ?AF20) rfl rfl ?hq20 ?_
        case hq20 =>
         rintro σ hσ of hof hcl
         have HOF := lh hof
         have HCL := lh hcl
         clear hof hcl
         obtain ⟨c0_, c1_, c2_, c3_⟩ := lyz4 Ly HOF 2 rfl
         have hfw := hfT
         simp only [pickB]
         repeat (gi_big_quiet_step (fail))
         refine wpQuietIn_nil ?_
         exact rfl
        intro W173 hW
        replace Ly := lyb Ly hW
        replace HB0 := lh (HB0.out.trans (hW.mono HB0.out.size))
        replace HTn := lh ((HTn.out.below hW).more hW.size)
        clear hW
        gi_wp2
        have hup : Ts.Up W173 (W173.alloc (.cells #[.int .i64 0, .int .i64 0] 63)) := (Below.refl _ _).alloc (Nat.le_refl _) _
        first | refine ⟨trivial, hup, ?_⟩ | refine ⟨hup, ?_⟩
        clear hup
        have hgC := HB0.out.size
        obtain ⟨V174, hV⟩ : ∃ V, (W173.alloc (.cells #[.int .i64 0, .int .i64 0] 63)) = V := ⟨_, rfl⟩
        rw [hV]
        have hb := fbox_bel hV
        have hnew := fbox_blk hV
        have hge := Ly.out.bel.size
        replace Ly := lyb Ly hb
        replace HB0 := lh (HB0.out.trans (hb.mono HB0.out.size))
        replace HTn := lh ((HTn.out.below hb).more hb.size)
        replace Ly := lh (Ly.out.add hge hnew)
        clear hnew hge hb hV
        obtain ⟨G175, hG⟩ : ∃ g, W173.heap.size = g := ⟨_, rfl⟩
        rw [hG] at Ly hgC ⊢
        clear hG
        replace Ly := lh (show Lay w V174 [(Gt, 25, #[.slice (some ⟨od, 0, none⟩) 4 4, .slice (some ⟨ol, 0, none⟩) 4 4]), (Gs, 65, #[.int .i64 1000, .int .i64 1, .int .i64 2, .int .i64 4, .int .i64 3]), (Gg, 73, #[.int .i64 1, .int .i64 21, .int .i64 2, .int .i64 3]), (od, 3, #[.int .i64 1, .int .i64 2, .int .i64 3, .int .i64 4]), (ol, 52, #[.int .i64 1, .int .i64 1, .int .i64 2, .int .i64 50, .int .i64 40, .int .i64 2, .int .i64 1, .int .i64 3, .int .i64 0, .int .i64 100, .int .i64 3, .int .i64 3, .int .i64 2, .int .i64 20, .int .i64 10, .int .i64 4, .int .i64 2, .int .i64 2, .int .i64 0, .int .i64 30]), (G170, 3, #[.int .i64 9]), (G175, 63, #[.int .i64 0, .int .i64 0])] from Ly.out)
        refine Ts.wpTree_end (A := ?AF21) rfl ?hq21 ?_
        case hq21 =>
         rintro σ hσ of hof hcl
         have HOF := lh hof
         have HCL := lh hcl
         clear hof hcl
         obtain ⟨c0_, c1_, c2_, c3_⟩ := lyz4 Ly HOF 2 rfl
         have hfw := hfT
         simp only [pickB]
         repeat (gi_big_quiet_step (fail))
         refine wpQuietIn_nil ?_
         exact rfl
        intro W176 hW
        replace Ly := lyb Ly hW
        replace HB0 := lh (HB0.out.trans (hW.mono HB0.out.size))
        replace HTn := lh ((HTn.out.below hW).more hW.size)
        clear hW
        have x6_0 := lyc Ly 6 rfl 0
        have z6_0 := lyf Ly 6 rfl 0
        have x6_1 := lyc Ly 6 rfl 1
        have z6_1 := lyf Ly 6 rfl 1
        have l6_ := Ly.out.lt 6 rfl
        simp only [pickB]
        refine wpT_cons ?_
        gi_wp2
        refine wpT_nil ?_
        gi_wp2
        gi_meet
        exact ⟨rfl, lh ((HB0.out.setCell (p := ⟨G175, 0, none⟩) hgC _).setCell (p := ⟨G175, 1, none⟩) hgC _)⟩
       ·intro W177 hW
        replace Ly := lyb Ly hW
        replace HB0 := lh (HB0.out.trans (hW.mono HB0.out.size))
        replace HTn := lh ((HTn.out.below hW).more hW.size)
        clear hW
        gi_wp2
        have hup : Ts.Up W177 (W177.alloc (.cells #[.int .i64 0, .int .i64 0] 63)) := (Below.refl _ _).alloc (Nat.le_refl _) _
        first | refine ⟨trivial, hup, ?_⟩ | refine ⟨hup, ?_⟩
        clear hup
        have hgC := HB0.out.size
        obtain ⟨V178, hV⟩ : ∃ V, (W177.alloc (.cells #[.int .i64 0, .int .i64 0] 63)) = V := ⟨_, rfl⟩
        rw [hV]
        have hb := fbox_bel hV
        have hnew := fbox_blk hV
        have hge := Ly.out.bel.size
        replace Ly := lyb Ly hb
        replace HB0 := lh (HB0.out.trans (hb.mono HB0.out.size))
        replace HTn := lh ((HTn.out.below hb).more hb.size)
        replace Ly := lh (Ly.out.add hge hnew)
        clear hnew hge hb hV
        obtain ⟨G179, hG⟩ : ∃ g, W177.heap.size = g := ⟨_, rfl⟩
        rw [hG] at Ly hgC ⊢
        clear hG
        replace Ly := lh (show Lay w V178 [(Gt, 25, #[.slice (some ⟨od, 0, none⟩) 4 4, .slice (some ⟨ol, 0, none⟩) 4 4]), (Gs, 65, #[.int .i64 1000, .int .i64 1, .int .i64 2, .int .i64 4, .int .i64 3]), (Gg, 73, #[.int .i64 1, .int .i64 21, .int .i64 2, .int .i64 3]), (od, 3, #[.int .i64 1, .int .i64 2, .int .i64 3, .int .i64 4]), (ol, 52, #[.int .i64 1, .int .i64 1, .int .i64 2, .int .i64 50, .int .i64 40, .int .i64 2, .int .i64 1, .int .i64 3, .int .i64 0, .int .i64 100, .int .i64 3, .int .i64 3, .int .i64 2, .int .i64 20, .int .i64 10, .int .i64 4, .int .i64 2, .int .i64 2, .int .i64 0, .int .i64 30]), (G170, 3, #[.int .i64 9]), (G179, 63, #[.int .i64 0, .int .i64 0])] from Ly.out)
        refine Ts.wpTree_one (m := []) rfl rfl Gr.Quietly.none ?_
        intro W180 hW
        replace Ly := lyb Ly hW
        replace HB0 := lh (HB0.out.trans (hW.mono HB0.out.size))
        replace HTn := lh ((HTn.out.below hW).more hW.size)
        clear hW
        gi_wp2
        refine ⟨trivial, (callsIn_wide.2 (seconds_any (some ⟨g, 0, none⟩) 4 4 (some ⟨g2, 0, none⟩) 4 4 exT exW 1 (some ⟨G170, 0, none⟩) 1 1 [9] W180 (by omega) (by omega) (by omega) HTn.out (ints_blk2 [9] (Ly.out.blk 5 rfl)) (HL.out.below Ly.out.bel hl0))).mono ?_⟩
        rintro e W181 ⟨rfl, hb⟩
        replace Ly := lyb Ly hb
        replace HB0 := lh (HB0.out.trans (hb.mono HB0.out.size))
        replace HTn := lh ((HTn.out.below hb).more hb.size)
        rw [ey_sec]
        obtain ⟨⟨z1, z2⟩, hz⟩ : ∃ z, secV exT exW 1 [9] = z := ⟨_, rfl⟩
        rw [hz]
        clear hz
        gi_wp2
        first | refine ⟨trivial, hb, ?_⟩ | refine ⟨hb, ?_⟩
        clear hb
        refine Ts.wpTree_end (A := ?AF22) rfl ?hq22 ?_
        case hq22 =>
         rintro σ hσ of hof hcl
         have HOF := lh hof
         have HCL := lh hcl
         clear hof hcl
         obtain ⟨c0_, c1_, c2_, c3_⟩ := lyz4 Ly HOF 2 rfl
         have hfw := hfT
         simp only [pickB]
         repeat (gi_big_quiet_step (fail))
         refine wpQuietIn_nil ?_
         exact rfl
        intro W182 hW
        replace Ly := lyb Ly hW
        replace HB0 := lh (HB0.out.trans (hW.mono HB0.out.size))
        replace HTn := lh ((HTn.out.below hW).more hW.size)
        clear hW
        have x6_0 := lyc Ly 6 rfl 0
        have z6_0 := lyf Ly 6 rfl 0
        have x6_1 := lyc Ly 6 rfl 1
        have z6_1 := lyf Ly 6 rfl 1
        have l6_ := Ly.out.lt 6 rfl
        simp only [pickB]
        refine wpT_cons ?_
        gi_wp2
        refine wpT_nil ?_
        gi_wp2
        gi_meet
        exact ⟨rfl, lh ((HB0.out.setCell (p := ⟨G179, 0, none⟩) hgC _).setCell (p := ⟨G179, 1, none⟩) hgC _)⟩
      ·intro W183 hW
       replace Ly := lyb Ly hW
       replace HB0 := lh (HB0.out.trans (hW.mono HB0.out.size))
       replace HTn := lh ((HTn.out.below hW).more hW.size)
       clear hW
       gi_wp2
       have hup : Ts.Up W183 (W183.alloc (.cells #[.int .i64 0, .int .i64 0] 63)) := (Below.refl _ _).alloc (Nat.le_refl _) _
       first | refine ⟨trivial, hup, ?_⟩ | refine ⟨hup, ?_⟩
       clear hup
       have hgC := HB0.out.size
       obtain ⟨V184, hV⟩ : ∃ V, (W183.alloc (.cells #[.int .i64 0, .int .i64 0] 63)) = V := ⟨_, rfl⟩
       rw [hV]
       have hb := fbox_bel hV
       have hnew := fbox_blk hV
       have hge := Ly.out.bel.size
       replace Ly := lyb Ly hb
       replace HB0 := lh (HB0.out.trans (hb.mono HB0.out.size))
       replace HTn := lh ((HTn.out.below hb).more hb.size)
       replace Ly := lh (Ly.out.add hge hnew)
       clear hnew hge hb hV
       obtain ⟨G185, hG⟩ : ∃ g, W183.heap.size = g := ⟨_, rfl⟩
       rw [hG] at Ly hgC ⊢
       clear hG
       replace Ly := lh (show Lay w V184 [(Gt, 25, #[.slice (some ⟨od, 0, none⟩) 4 4, .slice (some ⟨ol, 0, none⟩) 4 4]), (Gs, 65, #[.int .i64 1000, .int .i64 1, .int .i64 2, .int .i64 4, .int .i64 3]), (Gg, 73, #[.int .i64 1, .int .i64 21, .int .i64 2, .int .i64 3]), (od, 3, #[.int .i64 1, .int .i64 2, .int .i64 3, .int .i64 4]), (ol, 52, #[.int .i64 1, .int .i64 1, .int .i64 2, .int .i64 50, .int .i64 40, .int .i64 2, .int .i64 1, .int .i64 3, .int .i64 0, .int .i64 100, .int .i64 3, .int .i64 3, .int .i64 2, .int .i64 20, .int .i64 10, .int .i64 4, .int .i64 2, .int .i64 2, .int .i64 0, .int .i64 30]), (G185, 63, #[.int .i64 0, .int .i64 0])] from Ly.out)
       refine Ts.wpTree_one (m := []) rfl rfl Gr.Quietly.none ?_
       intro W186 hW
       replace Ly := lyb Ly hW
       replace HB0 := lh (HB0.out.trans (hW.mono HB0.out.size))
       replace HTn := lh ((HTn.out.below hW).more hW.size)
       clear hW
       gi_wp2
       have hup : Ts.Up W186 (W186.alloc (.cells #[.int .i64 9] 3)) := (Below.refl _ _).alloc (Nat.le_refl _) _
       first | refine ⟨trivial, hup, ?_⟩ | refine ⟨hup, ?_⟩
       clear hup
       obtain ⟨V187, hV⟩ : ∃ V, (W186.alloc (.cells #[.int .i64 9] 3)) = V := ⟨_, rfl⟩
       rw [hV]
       have hb := fbox_bel hV
       have hnew := fbox_blk hV
       have hge := Ly.out.bel.size
       replace Ly := lyb Ly hb
       replace HB0 := lh (HB0.out.trans (hb.mono HB0.out.size))
       replace HTn := lh ((HTn.out.below hb).more hb.size)
       replace Ly := lh (Ly.out.add hge hnew)
       clear hnew hge hb hV
       obtain ⟨G188, hG⟩ : ∃ g, W186.heap.size = g := ⟨_, rfl⟩
       rw [hG] at Ly ⊢
       clear hG
       replace Ly := lh (show Lay w V187 [(Gt, 25, #[.slice (some ⟨od, 0, none⟩) 4 4, .slice (some ⟨ol, 0, none⟩) 4 4]), (Gs, 65, #[.int .i64 1000, .int .i64 1, .int .i64 2, .int .i64 4, .int .i64 3]), (Gg, 73, #[.int .i64 1, .int .i64 21, .int .i64 2, .int .i64 3]), (od, 3, #[.int .i64 1, .int .i64 2, .int .i64 3, .int .i64 4]), (ol, 52, #[.int .i64 1, .int .i64 1, .int .i64 2, .int .i64 50, .int .i64 40, .int .i64 2, .int .i64 1, .int .i64 3, .int .i64 0, .int .i64 100, .int .i64 3, .int .i64 3, .int .i64 2, .int .i64 20, .int .i64 10, .int .i64 4, .int .i64 2, .int .i64 2, .int .i64 0, .int .i64 30]), (G185, 63, #[.int .i64 0, .int .i64 0]), (G188, 3, #[.int .i64 9])] from Ly.out)
       refine Ts.wpTree_one (m := []) rfl rfl Gr.Quietly.none ?_
       intro W189 hW
       replace Ly := lyb Ly hW
       replace HB0 := lh (HB0.out.trans (hW.mono HB0.out.size))
       replace HTn := lh ((HTn.out.below hW).more hW.size)
       clear hW
       gi_wp2
       refine ⟨trivial, (callsIn_wide.2 (seconds_any (some ⟨g, 0, none⟩) 4 4 (some ⟨g2, 0, none⟩) 4 4 exT exW 1 (some ⟨G188, 0, none⟩) 1 1 [9] W189 (by omega) (by omega) (by omega) HTn.out (ints_blk2 [9] (Ly.out.blk 6 rfl)) (HL.out.below Ly.out.bel hl0))).mono ?_⟩
       rintro e W190 ⟨rfl, hb⟩
       replace Ly := lyb Ly hb
       replace HB0 := lh (HB0.out.trans (hb.mono HB0.out.size))
       replace HTn := lh ((HTn.out.below hb).more hb.size)
       rw [ey_sec]
       obtain ⟨⟨z1, z2⟩, hz⟩ : ∃ z, secV exT exW 1 [9] = z := ⟨_, rfl⟩
       rw [hz]
       clear hz
       gi_wp2
       first | refine ⟨trivial, hb, ?_⟩ | refine ⟨hb, ?_⟩
       clear hb
       refine Ts.wpTree_end (A := ?AF23) rfl ?hq23 ?_
       case hq23 =>
        rintro σ hσ of hof hcl
        have HOF := lh hof
        have HCL := lh hcl
        clear hof hcl
        obtain ⟨c0_, c1_, c2_, c3_⟩ := lyz4 Ly HOF 2 rfl
        have hfw := hfT
        simp only [pickB]
        repeat (gi_big_quiet_step (fail))
        refine wpQuietIn_nil ?_
        exact rfl
       intro W191 hW
       replace Ly := lyb Ly hW
       replace HB0 := lh (HB0.out.trans (hW.mono HB0.out.size))
       replace HTn := lh ((HTn.out.below hW).more hW.size)
       clear hW
       have x5_0 := lyc Ly 5 rfl 0
       have z5_0 := lyf Ly 5 rfl 0
       have x5_1 := lyc Ly 5 rfl 1
       have z5_1 := lyf Ly 5 rfl 1
       have l5_ := Ly.out.lt 5 rfl
       simp only [pickB]
       refine wpT_cons ?_
       gi_wp2
       refine wpT_nil ?_
       gi_wp2
       gi_meet
       exact ⟨rfl, lh ((HB0.out.setCell (p := ⟨G185, 0, none⟩) hgC _).setCell (p := ⟨G185, 1, none⟩) hgC _)⟩
     ·intro W192 hW
      replace Ly := lyb Ly hW
      replace HB0 := lh (HB0.out.trans (hW.mono HB0.out.size))
      clear hW
      gi_wp2
      have hup : Ts.Up W192 (W192.alloc (.cells #[.int .i64 9] 3)) := (Below.refl _ _).alloc (Nat.le_refl _) _
      first | refine ⟨trivial, hup, ?_⟩ | refine ⟨hup, ?_⟩
      clear hup
      obtain ⟨V193, hV⟩ : ∃ V, (W192.alloc (.cells #[.int .i64 9] 3)) = V := ⟨_, rfl⟩
      rw [hV]
      have hb := fbox_bel hV
      have hnew := fbox_blk hV
      have hge := Ly.out.bel.size
      replace Ly := lyb Ly hb
      replace HB0 := lh (HB0.out.trans (hb.mono HB0.out.size))
      replace Ly := lh (Ly.out.add hge hnew)
      clear hnew hge hb hV
      obtain ⟨G194, hG⟩ : ∃ g, W192.heap.size = g := ⟨_, rfl⟩
      rw [hG] at Ly ⊢
      clear hG
      replace Ly := lh (show Lay w V193 [(Gt, 25, #[.slice (some ⟨od, 0, none⟩) 4 4, .slice (some ⟨ol, 0, none⟩) 4 4]), (Gs, 65, #[.int .i64 1000, .int .i64 1, .int .i64 2, .int .i64 4, .int .i64 3]), (Gg, 73, #[.int .i64 1, .int .i64 21, .int .i64 2, .int .i64 3]), (od, 3, #[.int .i64 1, .int .i64 2, .int .i64 3, .int .i64 4]), (ol, 52, #[.int .i64 1, .int .i64 1, .int .i64 2, .int .i64 50, .int .i64 40, .int .i64 2, .int .i64 1, .int .i64 3, .int .i64 0, .int .i64 100, .int .i64 3, .int .i64 3, .int .i64 2, .int .i64 20, .int .i64 10, .int .i64 4, .int .i64 2, .int .i64 2, .int .i64 0, .int .i64 30]), (G194, 3, #[.int .i64 9])] from Ly.out)
      refine Ts.wpTree_two (m := []) rfl rfl rfl Gr.Quietly.none ?_ ?_
      ·intro W195 hW
       replace Ly := lyb Ly hW
       replace HB0 := lh (HB0.out.trans (hW.mono HB0.out.size))
       clear hW
       gi_wp2
       refine ⟨trivial, (callsIn_wide.2 (town_any W195)).mono ?_⟩
       rintro e W196 ⟨g, g2, rfl, ht, hb⟩
       replace Ly := lyb Ly hb
       replace HB0 := lh (HB0.out.trans (hb.mono HB0.out.size))
       have HTn := lh ht
       clear ht
       gi_wp2
       first | refine ⟨trivial, hb, ?_⟩ | refine ⟨hb, ?_⟩
       clear hb
       refine Ts.wpTree_two (m := []) rfl rfl rfl Gr.Quietly.none ?_ ?_
       ·intro W197 hW
        replace Ly := lyb Ly hW
        replace HB0 := lh (HB0.out.trans (hW.mono HB0.out.size))
        replace HTn := lh ((HTn.out.below hW).more hW.size)
        clear hW
        gi_wp2
        refine ⟨trivial, (callsIn_wide.2 (seconds_any (some ⟨g, 0, none⟩) 4 4 (some ⟨g2, 0, none⟩) 4 4 exT exW 1 (some ⟨G194, 0, none⟩) 1 1 [9] W197 (by omega) (by omega) (by omega) HTn.out (ints_blk2 [9] (Ly.out.blk 5 rfl)) (HL.out.below Ly.out.bel hl0))).mono ?_⟩
        rintro e W198 ⟨rfl, hb⟩
        replace Ly := lyb Ly hb
        replace HB0 := lh (HB0.out.trans (hb.mono HB0.out.size))
        replace HTn := lh ((HTn.out.below hb).more hb.size)
        rw [ey_sec]
        obtain ⟨⟨z1, z2⟩, hz⟩ : ∃ z, secV exT exW 1 [9] = z := ⟨_, rfl⟩
        rw [hz]
        clear hz
        gi_wp2
        first | refine ⟨trivial, hb, ?_⟩ | refine ⟨hb, ?_⟩
        clear hb
        refine Ts.wpTree_one (A := ?AF24) rfl rfl ?hq24 ?_
        case hq24 =>
         rintro σ hσ of hof hcl
         have HOF := lh hof
         have HCL := lh hcl
         clear hof hcl
         obtain ⟨c0_, c1_, c2_, c3_⟩ := lyz4 Ly HOF 2 rfl
         have hfw := hfT
         simp only [pickB]
         repeat (gi_big_quiet_step (fail))
         refine wpQuietIn_nil ?_
         exact rfl
        intro W199 hW
        replace Ly := lyb Ly hW
        replace HB0 := lh (HB0.out.trans (hW.mono HB0.out.size))
        replace HTn := lh ((HTn.out.below hW).more hW.size)
        clear hW
        gi_wp2
        have hup : Ts.Up W199 (W199.alloc (.cells #[.int .i64 0, .int .i64 0] 63)) := (Below.refl _ _).alloc (Nat.le_refl _) _
        first | refine ⟨trivial, hup, ?_⟩ | refine ⟨hup, ?_⟩
        clear hup
        have hgC := HB0.out.size
        obtain ⟨V200, hV⟩ : ∃ V, (W199.alloc (.cells #[.int .i64 0, .int .i64 0] 63)) = V := ⟨_, rfl⟩
        rw [hV]
        have hb := fbox_bel hV
        have hnew := fbox_blk hV
        have hge := Ly.out.bel.size
        replace Ly := lyb Ly hb
        replace HB0 := lh (HB0.out.trans (hb.mono HB0.out.size))
        replace HTn := lh ((HTn.out.below hb).more hb.size)
        replace Ly := lh (Ly.out.add hge hnew)
        clear hnew hge hb hV
        obtain ⟨G201, hG⟩ : ∃ g, W199.heap.size = g := ⟨_, rfl⟩
        rw [hG] at Ly hgC ⊢
        clear hG
        replace Ly := lh (show Lay w V200 [(Gt, 25, #[.slice (some ⟨od, 0, none⟩) 4 4, .slice (some ⟨ol, 0, none⟩) 4 4]), (Gs, 65, #[.int .i64 1000, .int .i64 1, .int .i64 2, .int .i64 4, .int .i64 3]), (Gg, 73, #[.int .i64 1, .int .i64 21, .int .i64 2, .int .i64 3]), (od, 3, #[.int .i64 1, .int .i64 2, .int .i64 3, .int .i64 4]), (ol, 52, #[.int .i64 1, .int .i64 1, .int .i64 2, .int .i64 50, .int .i64 40, .int .i64 2, .int .i64 1, .int .i64 3, .int .i64 0, .int .i64 100, .int .i64 3, .int .i64 3, .int .i64 2, .int .i64 20, .int .i64 10, .int .i64 4, .int .i64 2, .int .i64 2, .int .i64 0, .int .i64 30]), (G194, 3, #[.int .i64 9]), (G201, 63, #[.int .i64 0, .int .i64 0])] from Ly.out)
        refine Ts.wpTree_end (A := ?AF25) rfl ?hq25 ?_
        case hq25 =>
         rintro σ hσ of hof hcl
         have HOF := lh hof
         have HCL := lh hcl
         clear hof hcl
         obtain ⟨c0_, c1_, c2_, c3_⟩ := lyz4 Ly HOF 2 rfl
         have hfw := hfT
         simp only [pickB]
         repeat (gi_big_quiet_step (fail))
         refine wpQuietIn_nil ?_
         exact rfl
        intro W202 hW
        replace Ly := lyb Ly hW
        replace HB0 := lh (HB0.out.trans (hW.mono HB0.out.size))
        replace HTn := lh ((HTn.out.below hW).more hW.size)
        clear hW
        have x6_0 := lyc Ly 6 rfl 0
        have z6_0 := lyf Ly 6 rfl 0
        have x6_1 := lyc Ly 6 rfl 1
        have z6_1 := lyf Ly 6 rfl 1
        have l6_ := Ly.out.lt 6 rfl
        simp only [pickB]
        refine wpT_cons ?_
        gi_wp2
        refine wpT_nil ?_
        gi_wp2
        gi_meet
        exact ⟨rfl, lh ((HB0.out.setCell (p := ⟨G201, 0, none⟩) hgC _).setCell (p := ⟨G201, 1, none⟩) hgC _)⟩
       ·intro W203 hW
        replace Ly := lyb Ly hW
        replace HB0 := lh (HB0.out.trans (hW.mono HB0.out.size))
        replace HTn := lh ((HTn.out.below hW).more hW.size)
        clear hW
        gi_wp2
        have hup : Ts.Up W203 (W203.alloc (.cells #[.int .i64 0, .int .i64 0] 63)) := (Below.refl _ _).alloc (Nat.le_refl _) _
        first | refine ⟨trivial, hup, ?_⟩ | refine ⟨hup, ?_⟩
        clear hup
        have hgC := HB0.out.size
        obtain ⟨V204, hV⟩ : ∃ V, (W203.alloc (.cells #[.int .i64 0, .int .i64 0] 63)) = V := ⟨_, rfl⟩
        rw [hV]
        have hb := fbox_bel hV
        have hnew := fbox_blk hV
        have hge := Ly.out.bel.size
        replace Ly := lyb Ly hb
        replace HB0 := lh (HB0.out.trans (hb.mono HB0.out.size))
        replace HTn := lh ((HTn.out.below hb).more hb.size)
        replace Ly := lh (Ly.out.add hge hnew)
        clear hnew hge hb hV
        obtain ⟨G205, hG⟩ : ∃ g, W203.heap.size = g := ⟨_, rfl⟩
        rw [hG] at Ly hgC ⊢
        clear hG
        replace Ly := lh (show Lay w V204 [(Gt, 25, #[.slice (some ⟨od, 0, none⟩) 4 4, .slice (some ⟨ol, 0, none⟩) 4 4]), (Gs, 65, #[.int .i64 1000, .int .i64 1, .int .i64 2, .int .i64 4, .int .i64 3]), (Gg, 73, #[.int .i64 1, .int .i64 21, .int .i64 2, .int .i64 3]), (od, 3, #[.int .i64 1, .int .i64 2, .int .i64 3, .int .i64 4]), (ol, 52, #[.int .i64 1, .int .i64 1, .int .i64 2, .int .i64 50, .int .i64 40, .int .i64 2, .int .i64 1, .int .i64 3, .int .i64 0, .int .i64 100, .int .i64 3, .int .i64 3, .int .i64 2, .int .i64 20, .int .i64 10, .int .i64 4, .int .i64 2, .int .i64 2, .int .i64 0, .int .i64 30]), (G194, 3, #[.int .i64 9]), (G205, 63, #[.int .i64 0, .int .i64 0])] from Ly.out)
        refine Ts.wpTree_one (m := []) rfl rfl Gr.Quietly.none ?_
        intro W206 hW
        replace Ly := lyb Ly hW
        replace HB0 := lh (HB0.out.trans (hW.mono HB0.out.size))
        replace HTn := lh ((HTn.out.below hW).more hW.size)
        clear hW
        gi_wp2
        refine ⟨trivial, (callsIn_wide.2 (seconds_any (some ⟨g, 0, none⟩) 4 4 (some ⟨g2, 0, none⟩) 4 4 exT exW 1 (some ⟨G194, 0, none⟩) 1 1 [9] W206 (by omega) (by omega) (by omega) HTn.out (ints_blk2 [9] (Ly.out.blk 5 rfl)) (HL.out.below Ly.out.bel hl0))).mono ?_⟩
        rintro e W207 ⟨rfl, hb⟩
        replace Ly := lyb Ly hb
        replace HB0 := lh (HB0.out.trans (hb.mono HB0.out.size))
        replace HTn := lh ((HTn.out.below hb).more hb.size)
        rw [ey_sec]
        obtain ⟨⟨z1, z2⟩, hz⟩ : ∃ z, secV exT exW 1 [9] = z := ⟨_, rfl⟩
        rw [hz]
        clear hz
        gi_wp2
        first | refine ⟨trivial, hb, ?_⟩ | refine ⟨hb, ?_⟩
        clear hb
        refine Ts.wpTree_end (A := ?AF26) rfl ?hq26 ?_
        case hq26 =>
         rintro σ hσ of hof hcl
         have HOF := lh hof
         have HCL := lh hcl
         clear hof hcl
         obtain ⟨c0_, c1_, c2_, c3_⟩ := lyz4 Ly HOF 2 rfl
         have hfw := hfT
         simp only [pickB]
         repeat (gi_big_quiet_step (fail))
         refine wpQuietIn_nil ?_
         exact rfl
        intro W208 hW
        replace Ly := lyb Ly hW
        replace HB0 := lh (HB0.out.trans (hW.mono HB0.out.size))
        replace HTn := lh ((HTn.out.below hW).more hW.size)
        clear hW
        have x6_0 := lyc Ly 6 rfl 0
        have z6_0 := lyf Ly 6 rfl 0
        have x6_1 := lyc Ly 6 rfl 1
        have z6_1 := lyf Ly 6 rfl 1
        have l6_ := Ly.out.lt 6 rfl
        simp only [pickB]
        refine wpT_cons ?_
        gi_wp2
        refine wpT_nil ?_
        gi_wp2
        gi_meet
        exact ⟨rfl, lh ((HB0.out.setCell (p := ⟨G205, 0, none⟩) hgC _).setCell (p := ⟨G205, 1, none⟩) hgC _)⟩
      ·intro W209 hW
       replace Ly := lyb Ly hW
       replace HB0 := lh (HB0.out.trans (hW.mono HB0.out.size))
       clear hW
       gi_wp2
       have hup : Ts.Up W209 (W209.alloc (.cells #[.int .i64 0, .int .i64 0] 63)) := (Below.refl _ _).alloc (Nat.le_refl _) _
       first | refine ⟨trivial, hup, ?_⟩ | refine ⟨hup, ?_⟩
       clear hup
       have hgC := HB0.out.size
       obtain ⟨V210, hV⟩ : ∃ V, (W209.alloc (.cells #[.int .i64 0, .int .i64 0] 63)) = V := ⟨_, rfl⟩
       rw [hV]
       have hb := fbox_bel hV
       have hnew := fbox_blk hV
       have hge := Ly.out.bel.size
       replace Ly := lyb Ly hb
       replace HB0 := lh (HB0.out.trans (hb.mono HB0.out.size))
       replace Ly := lh (Ly.out.add hge hnew)
       clear hnew hge hb hV
       obtain ⟨G211, hG⟩ : ∃ g, W209.heap.size = g := ⟨_, rfl⟩
       rw [hG] at Ly hgC ⊢
       clear hG
       replace Ly := lh (show Lay w V210 [(Gt, 25, #[.slice (some ⟨od, 0, none⟩) 4 4, .slice (some ⟨ol, 0, none⟩) 4 4]), (Gs, 65, #[.int .i64 1000, .int .i64 1, .int .i64 2, .int .i64 4, .int .i64 3]), (Gg, 73, #[.int .i64 1, .int .i64 21, .int .i64 2, .int .i64 3]), (od, 3, #[.int .i64 1, .int .i64 2, .int .i64 3, .int .i64 4]), (ol, 52, #[.int .i64 1, .int .i64 1, .int .i64 2, .int .i64 50, .int .i64 40, .int .i64 2, .int .i64 1, .int .i64 3, .int .i64 0, .int .i64 100, .int .i64 3, .int .i64 3, .int .i64 2, .int .i64 20, .int .i64 10, .int .i64 4, .int .i64 2, .int .i64 2, .int .i64 0, .int .i64 30]), (G194, 3, #[.int .i64 9]), (G211, 63, #[.int .i64 0, .int .i64 0])] from Ly.out)
       refine Ts.wpTree_one (m := []) rfl rfl Gr.Quietly.none ?_
       intro W212 hW
       replace Ly := lyb Ly hW
       replace HB0 := lh (HB0.out.trans (hW.mono HB0.out.size))
       clear hW
       gi_wp2
       refine ⟨trivial, (callsIn_wide.2 (town_any W212)).mono ?_⟩
       rintro e W213 ⟨g, g2, rfl, ht, hb⟩
       replace Ly := lyb Ly hb
       replace HB0 := lh (HB0.out.trans (hb.mono HB0.out.size))
       have HTn := lh ht
       clear ht
       gi_wp2
       first | refine ⟨trivial, hb, ?_⟩ | refine ⟨hb, ?_⟩
       clear hb
       refine Ts.wpTree_one (m := []) rfl rfl Gr.Quietly.none ?_
       intro W214 hW
       replace Ly := lyb Ly hW
       replace HB0 := lh (HB0.out.trans (hW.mono HB0.out.size))
       replace HTn := lh ((HTn.out.below hW).more hW.size)
       clear hW
       gi_wp2
       refine ⟨trivial, (callsIn_wide.2 (seconds_any (some ⟨g, 0, none⟩) 4 4 (some ⟨g2, 0, none⟩) 4 4 exT exW 1 (some ⟨G194, 0, none⟩) 1 1 [9] W214 (by omega) (by omega) (by omega) HTn.out (ints_blk2 [9] (Ly.out.blk 5 rfl)) (HL.out.below Ly.out.bel hl0))).mono ?_⟩
       rintro e W215 ⟨rfl, hb⟩
       replace Ly := lyb Ly hb
       replace HB0 := lh (HB0.out.trans (hb.mono HB0.out.size))
       replace HTn := lh ((HTn.out.below hb).more hb.size)
       rw [ey_sec]
       obtain ⟨⟨z1, z2⟩, hz⟩ : ∃ z, secV exT exW 1 [9] = z := ⟨_, rfl⟩
       rw [hz]
       clear hz
       gi_wp2
       first | refine ⟨trivial, hb, ?_⟩ | refine ⟨hb, ?_⟩
       clear hb
       refine Ts.wpTree_end (A := ?AF27) rfl ?hq27 ?_
       case hq27 =>
        rintro σ hσ of hof hcl
        have HOF := lh hof
        have HCL := lh hcl
        clear hof hcl
        obtain ⟨c0_, c1_, c2_, c3_⟩ := lyz4 Ly HOF 2 rfl
        have hfw := hfT
        simp only [pickB]
        repeat (gi_big_quiet_step (fail))
        refine wpQuietIn_nil ?_
        exact rfl
       intro W216 hW
       replace Ly := lyb Ly hW
       replace HB0 := lh (HB0.out.trans (hW.mono HB0.out.size))
       replace HTn := lh ((HTn.out.below hW).more hW.size)
       clear hW
       have x6_0 := lyc Ly 6 rfl 0
       have z6_0 := lyf Ly 6 rfl 0
       have x6_1 := lyc Ly 6 rfl 1
       have z6_1 := lyf Ly 6 rfl 1
       have l6_ := Ly.out.lt 6 rfl
       simp only [pickB]
       refine wpT_cons ?_
       gi_wp2
       refine wpT_nil ?_
       gi_wp2
       gi_meet
       exact ⟨rfl, lh ((HB0.out.setCell (p := ⟨G211, 0, none⟩) hgC _).setCell (p := ⟨G211, 1, none⟩) hgC _)⟩
     ·intro W217 hW
      replace Ly := lyb Ly hW
      replace HB0 := lh (HB0.out.trans (hW.mono HB0.out.size))
      clear hW
      gi_wp2
      have hup : Ts.Up W217 (W217.alloc (.cells #[.int .i64 0, .int .i64 0] 63)) := (Below.refl _ _).alloc (Nat.le_refl _) _
      first | refine ⟨trivial, hup, ?_⟩ | refine ⟨hup, ?_⟩
      clear hup
      have hgC := HB0.out.size
      obtain ⟨V218, hV⟩ : ∃ V, (W217.alloc (.cells #[.int .i64 0, .int .i64 0] 63)) = V := ⟨_, rfl⟩
      rw [hV]
      have hb := fbox_bel hV
      have hnew := fbox_blk hV
      have hge := Ly.out.bel.size
      replace Ly := lyb Ly hb
      replace HB0 := lh (HB0.out.trans (hb.mono HB0.out.size))
      replace Ly := lh (Ly.out.add hge hnew)
      clear hnew hge hb hV
      obtain ⟨G219, hG⟩ : ∃ g, W217.heap.size = g := ⟨_, rfl⟩
      rw [hG] at Ly hgC ⊢
      clear hG
      replace Ly := lh (show Lay w V218 [(Gt, 25, #[.slice (some ⟨od, 0, none⟩) 4 4, .slice (some ⟨ol, 0, none⟩) 4 4]), (Gs, 65, #[.int .i64 1000, .int .i64 1, .int .i64 2, .int .i64 4, .int .i64 3]), (Gg, 73, #[.int .i64 1, .int .i64 21, .int .i64 2, .int .i64 3]), (od, 3, #[.int .i64 1, .int .i64 2, .int .i64 3, .int .i64 4]), (ol, 52, #[.int .i64 1, .int .i64 1, .int .i64 2, .int .i64 50, .int .i64 40, .int .i64 2, .int .i64 1, .int .i64 3, .int .i64 0, .int .i64 100, .int .i64 3, .int .i64 3, .int .i64 2, .int .i64 20, .int .i64 10, .int .i64 4, .int .i64 2, .int .i64 2, .int .i64 0, .int .i64 30]), (G219, 63, #[.int .i64 0, .int .i64 0])] from Ly.out)
      refine Ts.wpTree_two (m := []) rfl rfl rfl Gr.Quietly.none ?_ ?_
      ·intro W220 hW
       replace Ly := lyb Ly hW
       replace HB0 := lh (HB0.out.trans (hW.mono HB0.out.size))
       clear hW
       gi_wp2
       refine ⟨trivial, (callsIn_wide.2 (town_any W220)).mono ?_⟩
       rintro e W221 ⟨g, g2, rfl, ht, hb⟩
       replace Ly := lyb Ly hb
       replace HB0 := lh (HB0.out.trans (hb.mono HB0.out.size))
       have HTn := lh ht
       clear ht
       gi_wp2
       first | refine ⟨trivial, hb, ?_⟩ | refine ⟨hb, ?_⟩
       clear hb
       refine Ts.wpTree_one (m := []) rfl rfl Gr.Quietly.none ?_
       intro W222 hW
       replace Ly := lyb Ly hW
       replace HB0 := lh (HB0.out.trans (hW.mono HB0.out.size))
       replace HTn := lh ((HTn.out.below hW).more hW.size)
       clear hW
       gi_wp2
       have hup : Ts.Up W222 (W222.alloc (.cells #[.int .i64 9] 3)) := (Below.refl _ _).alloc (Nat.le_refl _) _
       first | refine ⟨trivial, hup, ?_⟩ | refine ⟨hup, ?_⟩
       clear hup
       obtain ⟨V223, hV⟩ : ∃ V, (W222.alloc (.cells #[.int .i64 9] 3)) = V := ⟨_, rfl⟩
       rw [hV]
       have hb := fbox_bel hV
       have hnew := fbox_blk hV
       have hge := Ly.out.bel.size
       replace Ly := lyb Ly hb
       replace HB0 := lh (HB0.out.trans (hb.mono HB0.out.size))
       replace HTn := lh ((HTn.out.below hb).more hb.size)
       replace Ly := lh (Ly.out.add hge hnew)
       clear hnew hge hb hV
       obtain ⟨G224, hG⟩ : ∃ g, W222.heap.size = g := ⟨_, rfl⟩
       rw [hG] at Ly ⊢
       clear hG
       replace Ly := lh (show Lay w V223 [(Gt, 25, #[.slice (some ⟨od, 0, none⟩) 4 4, .slice (some ⟨ol, 0, none⟩) 4 4]), (Gs, 65, #[.int .i64 1000, .int .i64 1, .int .i64 2, .int .i64 4, .int .i64 3]), (Gg, 73, #[.int .i64 1, .int .i64 21, .int .i64 2, .int .i64 3]), (od, 3, #[.int .i64 1, .int .i64 2, .int .i64 3, .int .i64 4]), (ol, 52, #[.int .i64 1, .int .i64 1, .int .i64 2, .int .i64 50, .int .i64 40, .int .i64 2, .int .i64 1, .int .i64 3, .int .i64 0, .int .i64 100, .int .i64 3, .int .i64 3, .int .i64 2, .int .i64 20, .int .i64 10, .int .i64 4, .int .i64 2, .int .i64 2, .int .i64 0, .int .i64 30]), (G219, 63, #[.int .i64 0, .int .i64 0]), (G224, 3, #[.int .i64 9])] from Ly.out)
       refine Ts.wpTree_one (m := []) rfl rfl Gr.Quietly.none ?_
       intro W225 hW
       replace Ly := lyb Ly hW
       replace HB0 := lh (HB0.out.trans (hW.mono HB0.out.size))
       replace HTn := lh ((HTn.out.below hW).more hW.size)
       clear hW
       gi_wp2
       refine ⟨trivial, (callsIn_wide.2 (seconds_any (some ⟨g, 0, none⟩) 4 4 (some ⟨g2, 0, none⟩) 4 4 exT exW 1 (some ⟨G224, 0, none⟩) 1 1 [9] W225 (by omega) (by omega) (by omega) HTn.out (ints_blk2 [9] (Ly.out.blk 6 rfl)) (HL.out.below Ly.out.bel hl0))).mono ?_⟩
       rintro e W226 ⟨rfl, hb⟩
       replace Ly := lyb Ly hb
       replace HB0 := lh (HB0.out.trans (hb.mono HB0.out.size))
       replace HTn := lh ((HTn.out.below hb).more hb.size)
       rw [ey_sec]
       obtain ⟨⟨z1, z2⟩, hz⟩ : ∃ z, secV exT exW 1 [9] = z := ⟨_, rfl⟩
       rw [hz]
       clear hz
       gi_wp2
       first | refine ⟨trivial, hb, ?_⟩ | refine ⟨hb, ?_⟩
       clear hb
       refine Ts.wpTree_end (A := ?AF28) rfl ?hq28 ?_
       case hq28 =>
        rintro σ hσ of hof hcl
        have HOF := lh hof
        have HCL := lh hcl
        clear hof hcl
        obtain ⟨c0_, c1_, c2_, c3_⟩ := lyz4 Ly HOF 2 rfl
        have hfw := hfT
        simp only [pickB]
        repeat (gi_big_quiet_step (fail))
        refine wpQuietIn_nil ?_
        exact rfl
       intro W227 hW
       replace Ly := lyb Ly hW
       replace HB0 := lh (HB0.out.trans (hW.mono HB0.out.size))
       replace HTn := lh ((HTn.out.below hW).more hW.size)
       clear hW
       have x5_0 := lyc Ly 5 rfl 0
       have z5_0 := lyf Ly 5 rfl 0
       have x5_1 := lyc Ly 5 rfl 1
       have z5_1 := lyf Ly 5 rfl 1
       have l5_ := Ly.out.lt 5 rfl
       simp only [pickB]
       refine wpT_cons ?_
       gi_wp2
       refine wpT_nil ?_
       gi_wp2
       gi_meet
       exact ⟨rfl, lh ((HB0.out.setCell (p := ⟨G219, 0, none⟩) hgC _).setCell (p := ⟨G219, 1, none⟩) hgC _)⟩
      ·intro W228 hW
       replace Ly := lyb Ly hW
       replace HB0 := lh (HB0.out.trans (hW.mono HB0.out.size))
       clear hW
       gi_wp2
       have hup : Ts.Up W228 (W228.alloc (.cells #[.int .i64 9] 3)) := (Below.refl _ _).alloc (Nat.le_refl _) _
       first | refine ⟨trivial, hup, ?_⟩ | refine ⟨hup, ?_⟩
       clear hup
       obtain ⟨V229, hV⟩ : ∃ V, (W228.alloc (.cells #[.int .i64 9] 3)) = V := ⟨_, rfl⟩
       rw [hV]
       have hb := fbox_bel hV
       have hnew := fbox_blk hV
       have hge := Ly.out.bel.size
       replace Ly := lyb Ly hb
       replace HB0 := lh (HB0.out.trans (hb.mono HB0.out.size))
       replace Ly := lh (Ly.out.add hge hnew)
       clear hnew hge hb hV
       obtain ⟨G230, hG⟩ : ∃ g, W228.heap.size = g := ⟨_, rfl⟩
       rw [hG] at Ly ⊢
       clear hG
       replace Ly := lh (show Lay w V229 [(Gt, 25, #[.slice (some ⟨od, 0, none⟩) 4 4, .slice (some ⟨ol, 0, none⟩) 4 4]), (Gs, 65, #[.int .i64 1000, .int .i64 1, .int .i64 2, .int .i64 4, .int .i64 3]), (Gg, 73, #[.int .i64 1, .int .i64 21, .int .i64 2, .int .i64 3]), (od, 3, #[.int .i64 1, .int .i64 2, .int .i64 3, .int .i64 4]), (ol, 52, #[.int .i64 1, .int .i64 1, .int .i64 2, .int .i64 50, .int .i64 40, .int .i64 2, .int .i64 1, .int .i64 3, .int .i64 0, .int .i64 100, .int .i64 3, .int .i64 3, .int .i64 2, .int .i64 20, .int .i64 10, .int .i64 4, .int .i64 2, .int .i64 2, .int .i64 0, .int .i64 30]), (G219, 63, #[.int .i64 0, .int .i64 0]), (G230, 3, #[.int .i64 9])] from Ly.out)
       refine Ts.wpTree_one (m := []) rfl rfl Gr.Quietly.none ?_
       intro W231 hW
       replace Ly := lyb Ly hW
       replace HB0 := lh (HB0.out.trans (hW.mono HB0.out.size))
       clear hW
       gi_wp2
       refine ⟨trivial, (callsIn_wide.2 (town_any W231)).mono ?_⟩
       rintro e W232 ⟨g, g2, rfl, ht, hb⟩
       replace Ly := lyb Ly hb
       replace HB0 := lh (HB0.out.trans (hb.mono HB0.out.size))
       have HTn := lh ht
       clear ht
       gi_wp2
       first | refine ⟨trivial, hb, ?_⟩ | refine ⟨hb, ?_⟩
       clear hb
       refine Ts.wpTree_one (m := []) rfl rfl Gr.Quietly.none ?_
       intro W233 hW
       replace Ly := lyb Ly hW
       replace HB0 := lh (HB0.out.trans (hW.mono HB0.out.size))
       replace HTn := lh ((HTn.out.below hW).more hW.size)
       clear hW
       gi_wp2
       refine ⟨trivial, (callsIn_wide.2 (seconds_any (some ⟨g, 0, none⟩) 4 4 (some ⟨g2, 0, none⟩) 4 4 exT exW 1 (some ⟨G230, 0, none⟩) 1 1 [9] W233 (by omega) (by omega) (by omega) HTn.out (ints_blk2 [9] (Ly.out.blk 6 rfl)) (HL.out.below Ly.out.bel hl0))).mono ?_⟩
       rintro e W234 ⟨rfl, hb⟩
       replace Ly := lyb Ly hb
       replace HB0 := lh (HB0.out.trans (hb.mono HB0.out.size))
       replace HTn := lh ((HTn.out.below hb).more hb.size)
       rw [ey_sec]
       obtain ⟨⟨z1, z2⟩, hz⟩ : ∃ z, secV exT exW 1 [9] = z := ⟨_, rfl⟩
       rw [hz]
       clear hz
       gi_wp2
       first | refine ⟨trivial, hb, ?_⟩ | refine ⟨hb, ?_⟩
       clear hb
       refine Ts.wpTree_end (A := ?AF29) rfl ?hq29 ?_
       case hq29 =>
        rintro σ hσ of hof hcl
        have HOF := lh hof
        have HCL := lh hcl
        clear hof hcl
        obtain ⟨c0_, c1_, c2_, c3_⟩ := lyz4 Ly HOF 2 rfl
        have hfw := hfT
        simp only [pickB]
        repeat (gi_big_quiet_step (fail))
        refine wpQuietIn_nil ?_
        exact rfl
       intro W235 hW
       replace Ly := lyb Ly hW
       replace HB0 := lh (HB0.out.trans (hW.mono HB0.out.size))
       replace HTn := lh ((HTn.out.below hW).more hW.size)
       clear hW
       have x5_0 := lyc Ly 5 rfl 0
       have z5_0 := lyf Ly 5 rfl 0
       have x5_1 := lyc Ly 5 rfl 1
       have z5_1 := lyf Ly 5 rfl 1
       have l5_ := Ly.out.lt 5 rfl
       simp only [pickB]
       refine wpT_cons ?_
       gi_wp2
       refine wpT_nil ?_
       gi_wp2
       gi_meet
       exact ⟨rfl, lh ((HB0.out.setCell (p := ⟨G219, 0, none⟩) hgC _).setCell (p := ⟨G219, 1, none⟩) hgC _)⟩
   case rest =>
    as_aux_lemma =>
     obtain ⟨rfl, hcb⟩ := hcut
     rename World => C236
     have hb := hcb.out
     clear hcb
     replace Ly := lyb Ly hb
     clear hb
     gi_wp2
     refine ⟨trivial, (callsIn_wide.2 (town_any C236)).mono ?_⟩
     rintro e W237 ⟨g, g2, rfl, ht, hb⟩
     replace Ly := lyb Ly hb
     clear hb
     have HTn := lh ht
     clear ht
     gi_wp2
     refine ⟨trivial, (callsIn_wide.2 (lgait_any W237)).mono ?_⟩
     rintro e W238 ⟨rfl, hb⟩
     replace Ly := lyb Ly hb
     replace HTn := lh ((HTn.out.below hb).more hb.size)
     clear hb
     gi_wp2
     refine ⟨trivial, (callsIn_wide.2 (minutes_any (some ⟨g, 0, none⟩) 4 4 (some ⟨g2, 0, none⟩) 4 4 exT exG 4 1 true W238 (by omega) (by omega) HTn.out (HL.out.below Ly.out.bel hl0))).mono ?_⟩
     rintro e W239 ⟨rfl, hb⟩
     replace Ly := lyb Ly hb
     replace HTn := lh ((HTn.out.below hb).more hb.size)
     clear hb
     rw [ey_min]
     obtain ⟨⟨z1, z2⟩, hz⟩ : ∃ z, minV exT exG 4 1 true = z := ⟨_, rfl⟩
     rw [hz]
     clear hz
     clear HTn
     gi_upto_region 31 with fail
     obtain ⟨V240, hV⟩ : ∃ V, (W239.alloc (.cells #[.int .i64 z1, .int .i64 z2] 63)) = V := ⟨_, rfl⟩
     rw [hV]
     have hb := fbox_bel hV
     replace Ly := lyb Ly hb
     clear hb hV
     obtain ⟨G241, hG⟩ : ∃ g, W239.heap.size = g := ⟨_, rfl⟩
     rw [hG]
     clear hG
     gi_upto_region 31 with fail
     gi_cut [41, 42, 43] from 244 (fun v41 v42 v43 wx => v43 = .int .i64 35 ∧ Hid (Below V240.heap.size V240 wx))
     case first =>
      as_aux_lemma =>
       have HB0 := lh (Below.refl V240.heap.size V240)
       refine Ts.wpIn_region_tree (G := Ts.Up) (V0 := V240) [([], [false, true], [0, 7]), ([0], [], [2, 7]), ([0, 2], [false, false, false, true, true, true, true], [7]), ([0, 2, 7], [false, false, false, false, false, false, false, false, true, false, true], []), ([0, 7], [], [2]), ([0, 7, 2], [false, false, false, true, true, true, true, false, true, false, true], []), ([7], [], [0]), ([7, 0], [], [2]), ([7, 0, 2], [false, false, false, true, true, true, true, false, true, false, true], [])] 4 [false, false, false, false, false, false, false, false, false, true] (by kernel_rfl) (by kernel_rfl) (by kernel_rfl) (below_drewN (Below.refl _ _) 1) ?_
       refine Ts.wpTree_two (A := ?AF30) rfl rfl rfl ?hq30 ?_ ?_
       case hq30 =>
        rintro σ hσ of hof hcl
        have HOF := lh hof
        have HCL := lh hcl
        clear hof hcl
        obtain ⟨c0_, c1_, c2_, c3_⟩ := lyz4 Ly HOF 2 rfl
        have hfw := hfT
        simp only [pickB]
        repeat (gi_big_quiet_step (fail))
        refine wpQuietIn_nil ?_
        exact rfl
       ·intro W242 hW
        replace Ly := lyb Ly hW
        replace HB0 := lh (HB0.out.trans (hW.mono HB0.out.size))
        clear hW
        gi_wp2
        refine ⟨trivial, (callsIn_wide.2 (town_any W242)).mono ?_⟩
        rintro e W243 ⟨g, g2, rfl, ht, hb⟩
        replace Ly := lyb Ly hb
        replace HB0 := lh (HB0.out.trans (hb.mono HB0.out.size))
        have HTn := lh ht
        clear ht
        gi_wp2
        first | refine ⟨trivial, hb, ?_⟩ | refine ⟨hb, ?_⟩
        clear hb
        refine Ts.wpTree_two (m := []) rfl rfl rfl Gr.Quietly.none ?_ ?_
        ·intro W244 hW
         replace Ly := lyb Ly hW
         replace HB0 := lh (HB0.out.trans (hW.mono HB0.out.size))
         replace HTn := lh ((HTn.out.below hW).more hW.size)
         clear hW
         gi_wp2
         refine ⟨trivial, (callsIn_wide.2 (quick_any (some ⟨g, 0, none⟩) 4 4 (some ⟨g2, 0, none⟩) 4 4 exT exW 1 4 true W244 (by omega) (by omega) HTn.out (HL.out.below Ly.out.bel hl0))).mono ?_⟩
         rintro e W245 ⟨AG, nAG, cAG, rfl, hi, hb⟩
         replace Ly := lyb Ly hb
         replace HB0 := lh (HB0.out.trans (hb.mono HB0.out.size))
         replace HTn := lh ((HTn.out.below hb).more hb.size)
         clear hi
         rw [ey_quick]
         obtain ⟨⟨z1, z2⟩, hz⟩ : ∃ z, (quickF exT exW 1 4 true).2.1 = z := ⟨_, rfl⟩
         rw [hz]
         clear hz
         gi_wp2
         first | refine ⟨trivial, hb, ?_⟩ | refine ⟨hb, ?_⟩
         clear hb
         refine Ts.wpTree_one (A := ?AF31) rfl rfl ?hq31 ?_
         case hq31 =>
          rintro σ hσ of hof hcl
          have HOF := lh hof
          have HCL := lh hcl
          clear hof hcl
          obtain ⟨c0_, c1_, c2_, c3_⟩ := lyz4 Ly HOF 2 rfl
          have hfw := hfT
          simp only [pickB]
          repeat (gi_big_quiet_step (fail))
          refine wpQuietIn_nil ?_
          exact rfl
         intro W246 hW
         replace Ly := lyb Ly hW
         replace HB0 := lh (HB0.out.trans (hW.mono HB0.out.size))
         replace HTn := lh ((HTn.out.below hW).more hW.size)
         clear hW
         gi_wp2
         have hup : Ts.Up W246 (W246.alloc (.cells #[.int .i64 0, .int .i64 0] 63)) := (Below.refl _ _).alloc (Nat.le_refl _) _
         first | refine ⟨trivial, hup, ?_⟩ | refine ⟨hup, ?_⟩
         clear hup
         have hgC := HB0.out.size
         obtain ⟨V247, hV⟩ : ∃ V, (W246.alloc (.cells #[.int .i64 0, .int .i64 0] 63)) = V := ⟨_, rfl⟩
         rw [hV]
         have hb := fbox_bel hV
         have hnew := fbox_blk hV
         have hge := Ly.out.bel.size
         replace Ly := lyb Ly hb
         replace HB0 := lh (HB0.out.trans (hb.mono HB0.out.size))
         replace HTn := lh ((HTn.out.below hb).more hb.size)
         replace Ly := lh (Ly.out.add hge hnew)
         clear hnew hge hb hV
         obtain ⟨G248, hG⟩ : ∃ g, W246.heap.size = g := ⟨_, rfl⟩
         rw [hG] at Ly hgC ⊢
         clear hG
         replace Ly := lh (show Lay w V247 [(Gt, 25, #[.slice (some ⟨od, 0, none⟩) 4 4, .slice (some ⟨ol, 0, none⟩) 4 4]), (Gs, 65, #[.int .i64 1000, .int .i64 1, .int .i64 2, .int .i64 4, .int .i64 3]), (Gg, 73, #[.int .i64 1, .int .i64 21, .int .i64 2, .int .i64 3]), (od, 3, #[.int .i64 1, .int .i64 2, .int .i64 3, .int .i64 4]), (ol, 52, #[.int .i64 1, .int .i64 1, .int .i64 2, .int .i64 50, .int .i64 40, .int .i64 2, .int .i64 1, .int .i64 3, .int .i64 0, .int .i64 100, .int .i64 3, .int .i64 3, .int .i64 2, .int .i64 20, .int .i64 10, .int .i64 4, .int .i64 2, .int .i64 2, .int .i64 0, .int .i64 30]), (G248, 63, #[.int .i64 0, .int .i64 0])] from Ly.out)
         refine Ts.wpTree_end (A := ?AF32) rfl ?hq32 ?_
         case hq32 =>
          rintro σ hσ of hof hcl
          have HOF := lh hof
          have HCL := lh hcl
          clear hof hcl
          obtain ⟨c0_, c1_, c2_, c3_⟩ := lyz4 Ly HOF 2 rfl
          have hfw := hfT
          simp only [pickB]
          repeat (gi_big_quiet_step (fail))
          refine wpQuietIn_nil ?_
          exact rfl
         intro W249 hW
         replace Ly := lyb Ly hW
         replace HB0 := lh (HB0.out.trans (hW.mono HB0.out.size))
         replace HTn := lh ((HTn.out.below hW).more hW.size)
         clear hW
         have x5_0 := lyc Ly 5 rfl 0
         have z5_0 := lyf Ly 5 rfl 0
         have x5_1 := lyc Ly 5 rfl 1
         have z5_1 := lyf Ly 5 rfl 1
         have l5_ := Ly.out.lt 5 rfl
         simp only [pickB]
         refine wpT_cons ?_
         gi_wp2
         refine wpT_nil ?_
         gi_wp2
         gi_meet
         exact ⟨rfl, lh ((HB0.out.setCell (p := ⟨G248, 0, none⟩) hgC _).setCell (p := ⟨G248, 1, none⟩) hgC _)⟩
        ·intro W250 hW
         replace Ly := lyb Ly hW
         replace HB0 := lh (HB0.out.trans (hW.mono HB0.out.size))
         replace HTn := lh ((HTn.out.below hW).more hW.size)
         clear hW
         gi_wp2
         have hup : Ts.Up W250 (W250.alloc (.cells #[.int .i64 0, .int .i64 0] 63)) := (Below.refl _ _).alloc (Nat.le_refl _) _
         first | refine ⟨trivial, hup, ?_⟩ | refine ⟨hup, ?_⟩
         clear hup
         have hgC := HB0.out.size
         obtain ⟨V251, hV⟩ : ∃ V, (W250.alloc (.cells #[.int .i64 0, .int .i64 0] 63)) = V := ⟨_, rfl⟩
         rw [hV]
         have hb := fbox_bel hV
         have hnew := fbox_blk hV
         have hge := Ly.out.bel.size
         replace Ly := lyb Ly hb
         replace HB0 := lh (HB0.out.trans (hb.mono HB0.out.size))
         replace HTn := lh ((HTn.out.below hb).more hb.size)
         replace Ly := lh (Ly.out.add hge hnew)
         clear hnew hge hb hV
         obtain ⟨G252, hG⟩ : ∃ g, W250.heap.size = g := ⟨_, rfl⟩
         rw [hG] at Ly hgC ⊢
         clear hG
         replace Ly := lh (show Lay w V251 [(Gt, 25, #[.slice (some ⟨od, 0, none⟩) 4 4, .slice (some ⟨ol, 0, none⟩) 4 4]), (Gs, 65, #[.int .i64 1000, .int .i64 1, .int .i64 2, .int .i64 4, .int .i64 3]), (Gg, 73, #[.int .i64 1, .int .i64 21, .int .i64 2, .int .i64 3]), (od, 3, #[.int .i64 1, .int .i64 2, .int .i64 3, .int .i64 4]), (ol, 52, #[.int .i64 1, .int .i64 1, .int .i64 2, .int .i64 50, .int .i64 40, .int .i64 2, .int .i64 1, .int .i64 3, .int .i64 0, .int .i64 100, .int .i64 3, .int .i64 3, .int .i64 2, .int .i64 20, .int .i64 10, .int .i64 4, .int .i64 2, .int .i64 2, .int .i64 0, .int .i64 30]), (G252, 63, #[.int .i64 0, .int .i64 0])] from Ly.out)
         refine Ts.wpTree_one (m := []) rfl rfl Gr.Quietly.none ?_
         intro W253 hW
         replace Ly := lyb Ly hW
         replace HB0 := lh (HB0.out.trans (hW.mono HB0.out.size))
         replace HTn := lh ((HTn.out.below hW).more hW.size)
         clear hW
         gi_wp2
         refine ⟨trivial, (callsIn_wide.2 (quick_any (some ⟨g, 0, none⟩) 4 4 (some ⟨g2, 0, none⟩) 4 4 exT exW 1 4 true W253 (by omega) (by omega) HTn.out (HL.out.below Ly.out.bel hl0))).mono ?_⟩
         rintro e W254 ⟨AG, nAG, cAG, rfl, hi, hb⟩
         replace Ly := lyb Ly hb
         replace HB0 := lh (HB0.out.trans (hb.mono HB0.out.size))
         replace HTn := lh ((HTn.out.below hb).more hb.size)
         clear hi
         rw [ey_quick]
         obtain ⟨⟨z1, z2⟩, hz⟩ : ∃ z, (quickF exT exW 1 4 true).2.1 = z := ⟨_, rfl⟩
         rw [hz]
         clear hz
         gi_wp2
         first | refine ⟨trivial, hb, ?_⟩ | refine ⟨hb, ?_⟩
         clear hb
         refine Ts.wpTree_end (A := ?AF33) rfl ?hq33 ?_
         case hq33 =>
          rintro σ hσ of hof hcl
          have HOF := lh hof
          have HCL := lh hcl
          clear hof hcl
          obtain ⟨c0_, c1_, c2_, c3_⟩ := lyz4 Ly HOF 2 rfl
          have hfw := hfT
          simp only [pickB]
          repeat (gi_big_quiet_step (fail))
          refine wpQuietIn_nil ?_
          exact rfl
         intro W255 hW
         replace Ly := lyb Ly hW
         replace HB0 := lh (HB0.out.trans (hW.mono HB0.out.size))
         replace HTn := lh ((HTn.out.below hW).more hW.size)
         clear hW
         have x5_0 := lyc Ly 5 rfl 0
         have z5_0 := lyf Ly 5 rfl 0
         have x5_1 := lyc Ly 5 rfl 1
         have z5_1 := lyf Ly 5 rfl 1
         have l5_ := Ly.out.lt 5 rfl
         simp only [pickB]
         refine wpT_cons ?_
         gi_wp2
         refine wpT_nil ?_
         gi_wp2
         gi_meet
         exact ⟨rfl, lh ((HB0.out.setCell (p := ⟨G252, 0, none⟩) hgC _).setCell (p := ⟨G252, 1, none⟩) hgC _)⟩
       ·intro W256 hW
        replace Ly := lyb Ly hW
        replace HB0 := lh (HB0.out.trans (hW.mono HB0.out.size))
        clear hW
        gi_wp2
        have hup : Ts.Up W256 (W256.alloc (.cells #[.int .i64 0, .int .i64 0] 63)) := (Below.refl _ _).alloc (Nat.le_refl _) _
        first | refine ⟨trivial, hup, ?_⟩ | refine ⟨hup, ?_⟩
        clear hup
        have hgC := HB0.out.size
        obtain ⟨V257, hV⟩ : ∃ V, (W256.alloc (.cells #[.int .i64 0, .int .i64 0] 63)) = V := ⟨_, rfl⟩
        rw [hV]
        have hb := fbox_bel hV
        have hnew := fbox_blk hV
        have hge := Ly.out.bel.size
        replace Ly := lyb Ly hb
        replace HB0 := lh (HB0.out.trans (hb.mono HB0.out.size))
        replace Ly := lh (Ly.out.add hge hnew)
        clear hnew hge hb hV
        obtain ⟨G258, hG⟩ : ∃ g, W256.heap.size = g := ⟨_, rfl⟩
        rw [hG] at Ly hgC ⊢
        clear hG
        replace Ly := lh (show Lay w V257 [(Gt, 25, #[.slice (some ⟨od, 0, none⟩) 4 4, .slice (some ⟨ol, 0, none⟩) 4 4]), (Gs, 65, #[.int .i64 1000, .int .i64 1, .int .i64 2, .int .i64 4, .int .i64 3]), (Gg, 73, #[.int .i64 1, .int .i64 21, .int .i64 2, .int .i64 3]), (od, 3, #[.int .i64 1, .int .i64 2, .int .i64 3, .int .i64 4]), (ol, 52, #[.int .i64 1, .int .i64 1, .int .i64 2, .int .i64 50, .int .i64 40, .int .i64 2, .int .i64 1, .int .i64 3, .int .i64 0, .int .i64 100, .int .i64 3, .int .i64 3, .int .i64 2, .int .i64 20, .int .i64 10, .int .i64 4, .int .i64 2, .int .i64 2, .int .i64 0, .int .i64 30]), (G258, 63, #[.int .i64 0, .int .i64 0])] from Ly.out)
        refine Ts.wpTree_one (m := []) rfl rfl Gr.Quietly.none ?_
        intro W259 hW
        replace Ly := lyb Ly hW
        replace HB0 := lh (HB0.out.trans (hW.mono HB0.out.size))
        clear hW
        gi_wp2
        refine ⟨trivial, (callsIn_wide.2 (town_any W259)).mono ?_⟩
        rintro e W260 ⟨g, g2, rfl, ht, hb⟩
        replace Ly := lyb Ly hb
        replace HB0 := lh (HB0.out.trans (hb.mono HB0.out.size))
        have HTn := lh ht
        clear ht
        gi_wp2
        first | refine ⟨trivial, hb, ?_⟩ | refine ⟨hb, ?_⟩
        clear hb
        refine Ts.wpTree_one (m := []) rfl rfl Gr.Quietly.none ?_
        intro W261 hW
        replace Ly := lyb Ly hW
        replace HB0 := lh (HB0.out.trans (hW.mono HB0.out.size))
        replace HTn := lh ((HTn.out.below hW).more hW.size)
        clear hW
        gi_wp2
        refine ⟨trivial, (callsIn_wide.2 (quick_any (some ⟨g, 0, none⟩) 4 4 (some ⟨g2, 0, none⟩) 4 4 exT exW 1 4 true W261 (by omega) (by omega) HTn.out (HL.out.below Ly.out.bel hl0))).mono ?_⟩
        rintro e W262 ⟨AG, nAG, cAG, rfl, hi, hb⟩
        replace Ly := lyb Ly hb
        replace HB0 := lh (HB0.out.trans (hb.mono HB0.out.size))
        replace HTn := lh ((HTn.out.below hb).more hb.size)
        clear hi
        rw [ey_quick]
        obtain ⟨⟨z1, z2⟩, hz⟩ : ∃ z, (quickF exT exW 1 4 true).2.1 = z := ⟨_, rfl⟩
        rw [hz]
        clear hz
        gi_wp2
        first | refine ⟨trivial, hb, ?_⟩ | refine ⟨hb, ?_⟩
        clear hb
        refine Ts.wpTree_end (A := ?AF34) rfl ?hq34 ?_
        case hq34 =>
         rintro σ hσ of hof hcl
         have HOF := lh hof
         have HCL := lh hcl
         clear hof hcl
         obtain ⟨c0_, c1_, c2_, c3_⟩ := lyz4 Ly HOF 2 rfl
         have hfw := hfT
         simp only [pickB]
         repeat (gi_big_quiet_step (fail))
         refine wpQuietIn_nil ?_
         exact rfl
        intro W263 hW
        replace Ly := lyb Ly hW
        replace HB0 := lh (HB0.out.trans (hW.mono HB0.out.size))
        replace HTn := lh ((HTn.out.below hW).more hW.size)
        clear hW
        have x5_0 := lyc Ly 5 rfl 0
        have z5_0 := lyf Ly 5 rfl 0
        have x5_1 := lyc Ly 5 rfl 1
        have z5_1 := lyf Ly 5 rfl 1
        have l5_ := Ly.out.lt 5 rfl
        simp only [pickB]
        refine wpT_cons ?_
        gi_wp2
        refine wpT_nil ?_
        gi_wp2
        gi_meet
        exact ⟨rfl, lh ((HB0.out.setCell (p := ⟨G258, 0, none⟩) hgC _).setCell (p := ⟨G258, 1, none⟩) hgC _)⟩
     case rest =>
      as_aux_lemma =>
       obtain ⟨rfl, hcb⟩ := hcut
       rename World => C264
       have hb := hcb.out
       clear hcb
       replace Ly := lyb Ly hb
       clear hb
       gi_wp2
       refine ⟨trivial, (callsIn_wide.2 (town_any C264)).mono ?_⟩
       rintro e W265 ⟨g, g2, rfl, ht, hb⟩
       replace Ly := lyb Ly hb
       clear hb
       have HTn := lh ht
       clear ht
       gi_wp2
       obtain ⟨V266, hV⟩ : ∃ V, (W265.alloc (.cells #[.int .i64 3, .int .i64 2] 3)) = V := ⟨_, rfl⟩
       rw [hV]
       have hb := fbox_bel hV
       have hnew := fbox_blk hV
       have hge := Ly.out.bel.size
       replace Ly := lyb Ly hb
       replace HTn := lh ((HTn.out.below hb).more hb.size)
       replace Ly := lh (Ly.out.add hge hnew)
       clear hnew hge hb hV
       obtain ⟨G267, hG⟩ : ∃ g, W265.heap.size = g := ⟨_, rfl⟩
       rw [hG] at Ly ⊢
       clear hG
       replace Ly := lh (show Lay w V266 [(Gt, 25, #[.slice (some ⟨od, 0, none⟩) 4 4, .slice (some ⟨ol, 0, none⟩) 4 4]), (Gs, 65, #[.int .i64 1000, .int .i64 1, .int .i64 2, .int .i64 4, .int .i64 3]), (Gg, 73, #[.int .i64 1, .int .i64 21, .int .i64 2, .int .i64 3]), (od, 3, #[.int .i64 1, .int .i64 2, .int .i64 3, .int .i64 4]), (ol, 52, #[.int .i64 1, .int .i64 1, .int .i64 2, .int .i64 50, .int .i64 40, .int .i64 2, .int .i64 1, .int .i64 3, .int .i64 0, .int .i64 100, .int .i64 3, .int .i64 3, .int .i64 2, .int .i64 20, .int .i64 10, .int .i64 4, .int .i64 2, .int .i64 2, .int .i64 0, .int .i64 30]), (G267, 3, #[.int .i64 3, .int .i64 2])] from Ly.out)
       refine ⟨trivial, (callsIn_wide.2 (close_any (some ⟨g, 0, none⟩) 4 4 (some ⟨g2, 0, none⟩) 4 4 exT (some ⟨G267, 0, none⟩) 2 2 [3, 2] V266 (by omega) (by omega) (by omega) HTn.out (ints_blk2 [3, 2] (Ly.out.blk 5 rfl)) (HL.out.below Ly.out.bel hl0))).mono ?_⟩
       rintro e W268 ⟨AZ, cZ, AY, cY, rfl, _, _, _, hb⟩
       replace Ly := lyb Ly hb
       replace HTn := lh ((HTn.out.below hb).more hb.size)
       clear hb
       rw [ey_close]
       obtain ⟨zp, hzp⟩ : ∃ zp, (closeT exT [3, 2]).places.length = zp := ⟨_, rfl⟩
       obtain ⟨zl, hzl⟩ : ∃ zl, (closeT exT [3, 2]).links.length = zl := ⟨_, rfl⟩
       rw [hzp, hzl]
       clear hzp hzl
       clear HTn
       replace Ly := lh (show Lay w W268 [(Gt, 25, #[.slice (some ⟨od, 0, none⟩) 4 4, .slice (some ⟨ol, 0, none⟩) 4 4]), (Gs, 65, #[.int .i64 1000, .int .i64 1, .int .i64 2, .int .i64 4, .int .i64 3]), (Gg, 73, #[.int .i64 1, .int .i64 21, .int .i64 2, .int .i64 3]), (od, 3, #[.int .i64 1, .int .i64 2, .int .i64 3, .int .i64 4]), (ol, 52, #[.int .i64 1, .int .i64 1, .int .i64 2, .int .i64 50, .int .i64 40, .int .i64 2, .int .i64 1, .int .i64 3, .int .i64 0, .int .i64 100, .int .i64 3, .int .i64 3, .int .i64 2, .int .i64 20, .int .i64 10, .int .i64 4, .int .i64 2, .int .i64 2, .int .i64 0, .int .i64 30])] from lay_take 5 Ly.out)
       gi_wp2
       obtain ⟨V269, hV⟩ : ∃ V, (W268.alloc (.cells #[.slice AZ zp cZ, .slice AY zl cY] 25)) = V := ⟨_, rfl⟩
       rw [hV]
       have hb := fbox_bel hV
       replace Ly := lyb Ly hb
       clear hb hV
       obtain ⟨G270, hG⟩ : ∃ g, W268.heap.size = g := ⟨_, rfl⟩
       rw [hG]
       clear hG
       refine ⟨trivial, (callsIn_wide.2 (town_any V269)).mono ?_⟩
       rintro e W271 ⟨g, g2, rfl, ht, hb⟩
       replace Ly := lyb Ly hb
       clear hb
       have HTn := lh ht
       clear ht
       gi_wp2
       refine ⟨trivial, (callsIn_wide.2 (open_any (some ⟨g, 0, none⟩) 4 4 (some ⟨g2, 0, none⟩) 4 4 exT exY W271 (by omega) (by omega) HTn.out (HL.out.below Ly.out.bel hl0))).mono ?_⟩
       rintro e W272 ⟨AZ, cZ, AY, cY, rfl, _, _, _, hb⟩
       replace Ly := lyb Ly hb
       replace HTn := lh ((HTn.out.below hb).more hb.size)
       clear hb
       rw [ey_open2]
       obtain ⟨zp, hzp⟩ : ∃ zp, (openR exT exY).places.length = zp := ⟨_, rfl⟩
       obtain ⟨zl, hzl⟩ : ∃ zl, (openR exT exY).links.length = zl := ⟨_, rfl⟩
       rw [hzp, hzl]
       clear hzp hzl
       clear HTn
       gi_upto_region 34 with fail
       obtain ⟨V273, hV⟩ : ∃ V, (W272.alloc (.cells #[.slice AZ zp cZ, .slice AY zl cY] 25)) = V := ⟨_, rfl⟩
       rw [hV]
       have hb := fbox_bel hV
       replace Ly := lyb Ly hb
       clear hb hV
       obtain ⟨G274, hG⟩ : ∃ g, W272.heap.size = g := ⟨_, rfl⟩
       rw [hG]
       clear hG
       obtain ⟨x0_0, x0_1⟩ := lyc2 Ly 0 rfl
       have l0_ := Ly.out.lt 0 rfl
       gi_wp2
       clear x0_0 x0_1 l0_
       refine ⟨trivial, (callsIn_wide.2 (check_any (some ⟨od, 0, none⟩) 4 4 (some ⟨ol, 0, none⟩) 4 4 exO V273 (by unfold maxLen; omega) (by unfold maxLen; omega) ⟨reads_blk (xs := [1, 2, 3, 4].map (Value.int .i64)) (Ly.out.blk 3 rfl) rfl, reads_blk (xs := exO.links.flatMap Link.vals) (Ly.out.blk 4 rfl) rfl⟩ (HL.out.below Ly.out.bel hl0))).mono ?_⟩
       rintro e W275 ⟨rfl, hb⟩
       replace Ly := lyb Ly hb
       clear hb
       rw [ey_odd.2.2.1]
       gi_wp2
       refine ⟨trivial, (callsIn_wide.2 (town_any W275)).mono ?_⟩
       rintro e W276 ⟨g, g2, rfl, ht, hb⟩
       replace Ly := lyb Ly hb
       clear hb
       have HTn := lh ht
       clear ht
       gi_wp2
       refine ⟨trivial, (callsIn_wide.2 (check_any (some ⟨g, 0, none⟩) 4 4 (some ⟨g2, 0, none⟩) 4 4 exT W276 (by unfold maxLen; omega) (by unfold maxLen; omega) HTn.out (HL.out.below Ly.out.bel hl0))).mono ?_⟩
       rintro e W277 ⟨rfl, hb⟩
       replace Ly := lyb Ly hb
       replace HTn := lh ((HTn.out.below hb).more hb.size)
       clear hb
       rw [ey_odd.2.2.2]
       clear HTn
       gi_wp2
       exact bodyPost_ret (v := .bool true) (by simp [results, Tryz.results10, go_sem]) rfl ⟨rfl, Ly.out.bel⟩
theorem zexamples_walk (w : World) (hL : Laid w) : Calls Tryz.prog 10 #[] w fun e w' => e = .returned (.bool true) ∧ Below w.heap.size w w' := callsIn_wide.1 (zexamples_walk_in w hL)
end
end Go.Proofs.YtahkjagjcogeiaaGreatDoor
