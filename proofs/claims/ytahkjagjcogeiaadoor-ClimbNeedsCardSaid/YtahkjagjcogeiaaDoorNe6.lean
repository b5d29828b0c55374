/- Part 6 of the texts of this claim, joined. -/
import Derived.Sort.WalkA
import Derived.Sort.OwnSortedInts
import Derived.Laws.MakeOwn
import Derived.Test.YtahkjagjcogeiaaDoorNe5
/- The answer's leads: where a link leads from a place, and what it costs. -/
namespace Go.Proofs.YtahkjagjcogeiaaDoor
open Go.RowKit Go.Shelf
set_option linter.unusedVariables false

/-- A price within its limits. -/
structure Cheap (p : Price) : Prop where
  pace : 0 ≤ p.pace ∧ p.pace ≤ 100
  up : 0 ≤ p.up ∧ p.up ≤ 100
  step : 0 ≤ p.step ∧ p.step ≤ 100

def leadsV (r : Option (Int × Cost)) : Value := match r with
  | some y => .tuple #[.int .i64 y.1, costV y.2, .bool true]
  | none => .tuple #[.int .i64 0, costV zeroC, .bool false]

set_option maxRecDepth 100000 in
set_option maxHeartbeats 8000000 in
theorem leads_skip (x : Link) (v : Int) (dk : Bool) (p : Price) (w : World) (hd : dk = true) (hst : 0 < x.steps) :
    CallsIn Fence.wide 9 Tryd.prog 112 #[.agg #[.int .i64 x.id, .int .i64 x.fr, .int .i64 x.to, .int .i64 x.steps, .int .i64 x.paces], .int .i64 v, .bool dk, .agg #[.int .i64 p.pace, .int .i64 p.up, .int .i64 p.step]] w fun e w' => e = .returned (.tuple #[.int .i64 0, .agg #[.int .i64 0, .int .i64 0, .int .i64 0, .int .i64 0], .bool false]) ∧ Below w.heap.size w w' := by
  subst hd
  refine callsIn_of_wp Tryd.func112 rfl trivial ?_ rfl
  simp only [Tryd.ntmps112, List.size_toArray, List.length_cons, List.length_nil, Nat.reduceAdd, Nat.reduceSub, Array.replicate_succ, Array.replicate_zero, List.push_toArray, List.append_toArray, List.nil_append, List.cons_append]
  gi_wp2
  exact bodyPost_ret (v := .tuple #[.int .i64 0, .agg #[.int .i64 0, .int .i64 0, .int .i64 0, .int .i64 0], .bool false]) (by simp [results, Tryd.results112, go_sem]) rfl ⟨rfl, (((Below.refl _ _).alloc (Nat.le_refl _) _).alloc (by simp) _).alloc (by simp; omega) _⟩
set_option maxRecDepth 100000 in
set_option maxHeartbeats 8000000 in
theorem leads_off (x : Link) (v : Int) (dk : Bool) (p : Price) (w : World) (hd : dk = false ∨ dk = true ∧ ¬ 0 < x.steps) (hf : (x.fr == v) = false) (ht : (x.to == v) = false) :
    CallsIn Fence.wide 9 Tryd.prog 112 #[.agg #[.int .i64 x.id, .int .i64 x.fr, .int .i64 x.to, .int .i64 x.steps, .int .i64 x.paces], .int .i64 v, .bool dk, .agg #[.int .i64 p.pace, .int .i64 p.up, .int .i64 p.step]] w fun e w' => e = .returned (.tuple #[.int .i64 0, .agg #[.int .i64 0, .int .i64 0, .int .i64 0, .int .i64 0], .bool false]) ∧ Below w.heap.size w w' := by
  rcases hd with rfl | ⟨rfl, hst⟩
  · refine callsIn_of_wp Tryd.func112 rfl trivial ?_ rfl
    simp only [Tryd.ntmps112, List.size_toArray, List.length_cons, List.length_nil, Nat.reduceAdd, Nat.reduceSub, Array.replicate_succ, Array.replicate_zero, List.push_toArray, List.append_toArray, List.nil_append, List.cons_append]
    gi_wp2
    exact bodyPost_ret (v := .tuple #[.int .i64 0, .agg #[.int .i64 0, .int .i64 0, .int .i64 0, .int .i64 0], .bool false]) (by simp [results, Tryd.results112, go_sem]) rfl ⟨rfl, (((Below.refl _ _).alloc (Nat.le_refl _) _).alloc (by simp) _).alloc (by simp; omega) _⟩
  · refine callsIn_of_wp Tryd.func112 rfl trivial ?_ rfl
    simp only [Tryd.ntmps112, List.size_toArray, List.length_cons, List.length_nil, Nat.reduceAdd, Nat.reduceSub, Array.replicate_succ, Array.replicate_zero, List.push_toArray, List.append_toArray, List.nil_append, List.cons_append]
    gi_wp2
    exact bodyPost_ret (v := .tuple #[.int .i64 0, .agg #[.int .i64 0, .int .i64 0, .int .i64 0, .int .i64 0], .bool false]) (by simp [results, Tryd.results112, go_sem]) rfl ⟨rfl, (((Below.refl _ _).alloc (Nat.le_refl _) _).alloc (by simp) _).alloc (by simp; omega) _⟩
set_option maxRecDepth 100000 in
set_option maxHeartbeats 8000000 in
theorem leads_up (x : Link) (v : Int) (dk : Bool) (p : Price) (w : World) (hd : dk = false ∨ dk = true ∧ ¬ 0 < x.steps) (hf : (x.fr == v) = true) (h1 : 0 ≤ x.paces * p.pace) (h2 : x.paces * p.pace ≤ 200000) (h3 : 0 ≤ x.steps * (p.up + p.step)) (h4 : x.steps * (p.up + p.step) ≤ 100000) (h5 : 0 ≤ x.steps * p.step) (h6 : x.steps * p.step ≤ 50000) (a1 : 0 ≤ p.up) (a2 : p.up ≤ 100) (a3 : 0 ≤ p.step) (a4 : p.step ≤ 100) :
    CallsIn Fence.wide 9 Tryd.prog 112 #[.agg #[.int .i64 x.id, .int .i64 x.fr, .int .i64 x.to, .int .i64 x.steps, .int .i64 x.paces], .int .i64 v, .bool dk, .agg #[.int .i64 p.pace, .int .i64 p.up, .int .i64 p.step]] w fun e w' => e = .returned (.tuple #[.int .i64 x.to, .agg #[.int .i64 (x.paces * p.pace + x.steps * (p.up + p.step)), .int .i64 x.steps, .int .i64 x.paces, .int .i64 1], .bool true]) ∧ Below w.heap.size w w' := by
  rcases hd with rfl | ⟨rfl, hst⟩
  · refine callsIn_of_wp Tryd.func112 rfl trivial ?_ rfl
    simp only [Tryd.ntmps112, List.size_toArray, List.length_cons, List.length_nil, Nat.reduceAdd, Nat.reduceSub, Array.replicate_succ, Array.replicate_zero, List.push_toArray, List.append_toArray, List.nil_append, List.cons_append]
    gi_wp2
    have HLay := Lib.hid (Lay.three w 45 #[.int .i64 x.id, .int .i64 x.fr, .int .i64 x.to, .int .i64 x.steps, .int .i64 x.paces] 107 #[.int .i64 p.pace, .int .i64 p.up, .int .i64 p.step] 103 #[.int .i64 0, .int .i64 0, .int .i64 0, .int .i64 0])
    generalize (((w.alloc (.cells #[.int .i64 x.id, .int .i64 x.fr, .int .i64 x.to, .int .i64 x.steps, .int .i64 x.paces] 45)).alloc (.cells #[.int .i64 p.pace, .int .i64 p.up, .int .i64 p.step] 107)).alloc (.cells #[.int .i64 0, .int .i64 0, .int .i64 0, .int .i64 0] 103)) = w0 at *
    refine wpIn_flow_old [] [true, true, true, true, true, true, true, true, true, true, true, true, true, true, true, true, true, true, true, true, true, true, false, true] [false, false, false, false, false, false, false, false, false, false, false, false, false, false, false, false, false, false, false, false, false, false, true] (by kernel_rfl) (by kernel_rfl) (by kernel_rfl) (below_drewN (Below.refl _ _) 1) ?_
    refine wpFlow_nil (A := ?AF1) ?hq1 ?_
    case hq1 =>
      rintro σ hσ of hof hcl
      have HOF := Lib.hid hof
      have HCL := Lib.hid hcl
      clear hof hcl
      have c0_ : ∀ z, (of z).cell? ⟨w.heap.size, 0, none⟩ = some (.int .i64 x.id) := fun z => ((HLay.out.below (HOF.out z)).blk 0 rfl).cell 0
      have c1_ : ∀ z, (of z).cell? ⟨w.heap.size, 1, none⟩ = some (.int .i64 x.fr) := fun z => ((HLay.out.below (HOF.out z)).blk 0 rfl).cell 1
      have c2_ : ∀ z, (of z).cell? ⟨w.heap.size, 2, none⟩ = some (.int .i64 x.to) := fun z => ((HLay.out.below (HOF.out z)).blk 0 rfl).cell 2
      have c3_ : ∀ z, (of z).cell? ⟨w.heap.size, 3, none⟩ = some (.int .i64 x.steps) := fun z => ((HLay.out.below (HOF.out z)).blk 0 rfl).cell 3
      have c4_ : ∀ z, (of z).cell? ⟨w.heap.size, 4, none⟩ = some (.int .i64 x.paces) := fun z => ((HLay.out.below (HOF.out z)).blk 0 rfl).cell 4
      have c5_ : ∀ z, (of z).cell? ⟨w.heap.size + 1, 0, none⟩ = some (.int .i64 p.pace) := fun z => ((HLay.out.below (HOF.out z)).blk 1 rfl).cell 0
      have c6_ : ∀ z, (of z).cell? ⟨w.heap.size + 1, 1, none⟩ = some (.int .i64 p.up) := fun z => ((HLay.out.below (HOF.out z)).blk 1 rfl).cell 1
      have c7_ : ∀ z, (of z).cell? ⟨w.heap.size + 1, 2, none⟩ = some (.int .i64 p.step) := fun z => ((HLay.out.below (HOF.out z)).blk 1 rfl).cell 2
      have hfw : ∀ f, Fence.wide.fn f := fun _ => trivial
      simp only [pickB]
      repeat (gi_big_quiet_step (fail))
      refine wpQuietIn_nil ?_
      exact rfl
    intro W1 hW
    replace HLay := Lib.hid (HLay.out.below hW)
    clear hW
    simp only [pickB]
    have x2_0 := (HLay.out.blk 2 rfl).cell 0
    have z2_0 := (HLay.out.blk 2 rfl).frozen 0
    have x2_1 := (HLay.out.blk 2 rfl).cell 1
    have z2_1 := (HLay.out.blk 2 rfl).frozen 1
    have x2_2 := (HLay.out.blk 2 rfl).cell 2
    have z2_2 := (HLay.out.blk 2 rfl).frozen 2
    have x2_3 := (HLay.out.blk 2 rfl).cell 3
    have z2_3 := (HLay.out.blk 2 rfl).frozen 3
    have l2_ := HLay.out.lt 2 rfl
    refine wpT_cons ?_
    gi_wp2
    refine wpT_nil ?_
    clear x2_0 z2_0 x2_1 z2_1 x2_2 z2_2 x2_3 z2_3 l2_
    have R1 := ret4' (HLay.out.blk 2 rfl) HLay.out.1 (by omega) (.int .i64 (x.paces * p.pace + x.steps * (p.up + p.step))) (.int .i64 (x.steps)) (.int .i64 (x.paces)) (.int .i64 (1))
    have y0 := R1.1.cell 0
    have y1 := R1.1.cell 1
    have y2 := R1.1.cell 2
    have y3 := R1.1.cell 3
    gi_wp2
    exact bodyPost_ret (v := .tuple #[.int .i64 x.to, .agg #[.int .i64 (x.paces * p.pace + x.steps * (p.up + p.step)), .int .i64 (x.steps), .int .i64 (x.paces), .int .i64 (1)], .bool true]) (by simp [results, Tryd.results112, go_sem, y0, y1, y2, y3]) rfl ⟨rfl, R1.2.1⟩
  · refine callsIn_of_wp Tryd.func112 rfl trivial ?_ rfl
    simp only [Tryd.ntmps112, List.size_toArray, List.length_cons, List.length_nil, Nat.reduceAdd, Nat.reduceSub, Array.replicate_succ, Array.replicate_zero, List.push_toArray, List.append_toArray, List.nil_append, List.cons_append]
    gi_wp2
    have HLay := Lib.hid (Lay.three w 45 #[.int .i64 x.id, .int .i64 x.fr, .int .i64 x.to, .int .i64 x.steps, .int .i64 x.paces] 107 #[.int .i64 p.pace, .int .i64 p.up, .int .i64 p.step] 103 #[.int .i64 0, .int .i64 0, .int .i64 0, .int .i64 0])
    generalize (((w.alloc (.cells #[.int .i64 x.id, .int .i64 x.fr, .int .i64 x.to, .int .i64 x.steps, .int .i64 x.paces] 45)).alloc (.cells #[.int .i64 p.pace, .int .i64 p.up, .int .i64 p.step] 107)).alloc (.cells #[.int .i64 0, .int .i64 0, .int .i64 0, .int .i64 0] 103)) = w0 at *
    refine wpIn_flow_old [] [true, true, true, true, true, true, true, true, true, true, true, true, true, true, true, true, true, true, true, true, true, true, false, true] [false, false, false, false, false, false, false, false, false, false, false, false, false, false, false, false, false, false, false, false, false, false, true] (by kernel_rfl) (by kernel_rfl) (by kernel_rfl) (below_drewN (Below.refl _ _) 1) ?_
    refine wpFlow_nil (A := ?AF2) ?hq2 ?_
    case hq2 =>
      rintro σ hσ of hof hcl
      have HOF := Lib.hid hof
      have HCL := Lib.hid hcl
      clear hof hcl
      have c0_ : ∀ z, (of z).cell? ⟨w.heap.size, 0, none⟩ = some (.int .i64 x.id) := fun z => ((HLay.out.below (HOF.out z)).blk 0 rfl).cell 0
      have c1_ : ∀ z, (of z).cell? ⟨w.heap.size, 1, none⟩ = some (.int .i64 x.fr) := fun z => ((HLay.out.below (HOF.out z)).blk 0 rfl).cell 1
      have c2_ : ∀ z, (of z).cell? ⟨w.heap.size, 2, none⟩ = some (.int .i64 x.to) := fun z => ((HLay.out.below (HOF.out z)).blk 0 rfl).cell 2
      have c3_ : ∀ z, (of z).cell? ⟨w.heap.size, 3, none⟩ = some (.int .i64 x.steps) := fun z => ((HLay.out.below (HOF.out z)).blk 0 rfl).cell 3
      have c4_ : ∀ z, (of z).cell? ⟨w.heap.size, 4, none⟩ = some (.int .i64 x.paces) := fun z => ((HLay.out.below (HOF.out z)).blk 0 rfl).cell 4
      have c5_ : ∀ z, (of z).cell? ⟨w.heap.size + 1, 0, none⟩ = some (.int .i64 p.pace) := fun z => ((HLay.out.below (HOF.out z)).blk 1 rfl).cell 0
      have c6_ : ∀ z, (of z).cell? ⟨w.heap.size + 1, 1, none⟩ = some (.int .i64 p.up) := fun z => ((HLay.out.below (HOF.out z)).blk 1 rfl).cell 1
      have c7_ : ∀ z, (of z).cell? ⟨w.heap.size + 1, 2, none⟩ = some (.int .i64 p.step) := fun z => ((HLay.out.below (HOF.out z)).blk 1 rfl).cell 2
      have hfw : ∀ f, Fence.wide.fn f := fun _ => trivial
      simp only [pickB]
      repeat (gi_big_quiet_step (fail))
      refine wpQuietIn_nil ?_
      exact rfl
    intro W1 hW
    replace HLay := Lib.hid (HLay.out.below hW)
    clear hW
    simp only [pickB]
    have x2_0 := (HLay.out.blk 2 rfl).cell 0
    have z2_0 := (HLay.out.blk 2 rfl).frozen 0
    have x2_1 := (HLay.out.blk 2 rfl).cell 1
    have z2_1 := (HLay.out.blk 2 rfl).frozen 1
    have x2_2 := (HLay.out.blk 2 rfl).cell 2
    have z2_2 := (HLay.out.blk 2 rfl).frozen 2
    have x2_3 := (HLay.out.blk 2 rfl).cell 3
    have z2_3 := (HLay.out.blk 2 rfl).frozen 3
    have l2_ := HLay.out.lt 2 rfl
    refine wpT_cons ?_
    gi_wp2
    refine wpT_nil ?_
    clear x2_0 z2_0 x2_1 z2_1 x2_2 z2_2 x2_3 z2_3 l2_
    have R1 := ret4' (HLay.out.blk 2 rfl) HLay.out.1 (by omega) (.int .i64 (x.paces * p.pace + x.steps * (p.up + p.step))) (.int .i64 (x.steps)) (.int .i64 (x.paces)) (.int .i64 (1))
    have y0 := R1.1.cell 0
    have y1 := R1.1.cell 1
    have y2 := R1.1.cell 2
    have y3 := R1.1.cell 3
    gi_wp2
    exact bodyPost_ret (v := .tuple #[.int .i64 x.to, .agg #[.int .i64 (x.paces * p.pace + x.steps * (p.up + p.step)), .int .i64 (x.steps), .int .i64 (x.paces), .int .i64 (1)], .bool true]) (by simp [results, Tryd.results112, go_sem, y0, y1, y2, y3]) rfl ⟨rfl, R1.2.1⟩
set_option maxRecDepth 100000 in
set_option maxHeartbeats 8000000 in
theorem leads_down (x : Link) (v : Int) (dk : Bool) (p : Price) (w : World) (hd : dk = false ∨ dk = true ∧ ¬ 0 < x.steps) (hf : (x.fr == v) = false) (ht : (x.to == v) = true) (h1 : 0 ≤ x.paces * p.pace) (h2 : x.paces * p.pace ≤ 200000) (h3 : 0 ≤ x.steps * (p.up + p.step)) (h4 : x.steps * (p.up + p.step) ≤ 100000) (h5 : 0 ≤ x.steps * p.step) (h6 : x.steps * p.step ≤ 50000) (a1 : 0 ≤ p.up) (a2 : p.up ≤ 100) (a3 : 0 ≤ p.step) (a4 : p.step ≤ 100) :
    CallsIn Fence.wide 9 Tryd.prog 112 #[.agg #[.int .i64 x.id, .int .i64 x.fr, .int .i64 x.to, .int .i64 x.steps, .int .i64 x.paces], .int .i64 v, .bool dk, .agg #[.int .i64 p.pace, .int .i64 p.up, .int .i64 p.step]] w fun e w' => e = .returned (.tuple #[.int .i64 x.fr, .agg #[.int .i64 (x.paces * p.pace + x.steps * p.step), .int .i64 0, .int .i64 x.paces, .int .i64 1], .bool true]) ∧ Below w.heap.size w w' := by
  rcases hd with rfl | ⟨rfl, hst⟩
  · refine callsIn_of_wp Tryd.func112 rfl trivial ?_ rfl
    simp only [Tryd.ntmps112, List.size_toArray, List.length_cons, List.length_nil, Nat.reduceAdd, Nat.reduceSub, Array.replicate_succ, Array.replicate_zero, List.push_toArray, List.append_toArray, List.nil_append, List.cons_append]
    gi_wp2
    have HLay := Lib.hid (Lay.three w 45 #[.int .i64 x.id, .int .i64 x.fr, .int .i64 x.to, .int .i64 x.steps, .int .i64 x.paces] 107 #[.int .i64 p.pace, .int .i64 p.up, .int .i64 p.step] 103 #[.int .i64 0, .int .i64 0, .int .i64 0, .int .i64 0])
    generalize (((w.alloc (.cells #[.int .i64 x.id, .int .i64 x.fr, .int .i64 x.to, .int .i64 x.steps, .int .i64 x.paces] 45)).alloc (.cells #[.int .i64 p.pace, .int .i64 p.up, .int .i64 p.step] 107)).alloc (.cells #[.int .i64 0, .int .i64 0, .int .i64 0, .int .i64 0] 103)) = w0 at *
    refine wpIn_flow_old [] [true, true, true, true, true, true, true, true, true, true, true, true, true, true, true, true, true, false, true] [false, false, false, false, false, false, false, false, false, false, false, false, false, false, false, false, false, true] (by kernel_rfl) (by kernel_rfl) (by kernel_rfl) (below_drewN (Below.refl _ _) 1) ?_
    refine wpFlow_nil (A := ?AF1) ?hq1 ?_
    case hq1 =>
      rintro σ hσ of hof hcl
      have HOF := Lib.hid hof
      have HCL := Lib.hid hcl
      clear hof hcl
      have c0_ : ∀ z, (of z).cell? ⟨w.heap.size, 0, none⟩ = some (.int .i64 x.id) := fun z => ((HLay.out.below (HOF.out z)).blk 0 rfl).cell 0
      have c1_ : ∀ z, (of z).cell? ⟨w.heap.size, 1, none⟩ = some (.int .i64 x.fr) := fun z => ((HLay.out.below (HOF.out z)).blk 0 rfl).cell 1
      have c2_ : ∀ z, (of z).cell? ⟨w.heap.size, 2, none⟩ = some (.int .i64 x.to) := fun z => ((HLay.out.below (HOF.out z)).blk 0 rfl).cell 2
      have c3_ : ∀ z, (of z).cell? ⟨w.heap.size, 3, none⟩ = some (.int .i64 x.steps) := fun z => ((HLay.out.below (HOF.out z)).blk 0 rfl).cell 3
      have c4_ : ∀ z, (of z).cell? ⟨w.heap.size, 4, none⟩ = some (.int .i64 x.paces) := fun z => ((HLay.out.below (HOF.out z)).blk 0 rfl).cell 4
      have c5_ : ∀ z, (of z).cell? ⟨w.heap.size + 1, 0, none⟩ = some (.int .i64 p.pace) := fun z => ((HLay.out.below (HOF.out z)).blk 1 rfl).cell 0
      have c6_ : ∀ z, (of z).cell? ⟨w.heap.size + 1, 1, none⟩ = some (.int .i64 p.up) := fun z => ((HLay.out.below (HOF.out z)).blk 1 rfl).cell 1
      have c7_ : ∀ z, (of z).cell? ⟨w.heap.size + 1, 2, none⟩ = some (.int .i64 p.step) := fun z => ((HLay.out.below (HOF.out z)).blk 1 rfl).cell 2
      have hfw : ∀ f, Fence.wide.fn f := fun _ => trivial
      simp only [pickB]
      repeat (gi_big_quiet_step (fail))
      refine wpQuietIn_nil ?_
      exact rfl
    intro W1 hW
    replace HLay := Lib.hid (HLay.out.below hW)
    clear hW
    simp only [pickB]
    have x2_0 := (HLay.out.blk 2 rfl).cell 0
    have z2_0 := (HLay.out.blk 2 rfl).frozen 0
    have x2_1 := (HLay.out.blk 2 rfl).cell 1
    have z2_1 := (HLay.out.blk 2 rfl).frozen 1
    have x2_2 := (HLay.out.blk 2 rfl).cell 2
    have z2_2 := (HLay.out.blk 2 rfl).frozen 2
    have x2_3 := (HLay.out.blk 2 rfl).cell 3
    have z2_3 := (HLay.out.blk 2 rfl).frozen 3
    have l2_ := HLay.out.lt 2 rfl
    refine wpT_cons ?_
    gi_wp2
    refine wpT_nil ?_
    clear x2_0 z2_0 x2_1 z2_1 x2_2 z2_2 x2_3 z2_3 l2_
    have R1 := ret4' (HLay.out.blk 2 rfl) HLay.out.1 (by omega) (.int .i64 (x.paces * p.pace + x.steps * p.step)) (.int .i64 (0)) (.int .i64 (x.paces)) (.int .i64 (1))
    have y0 := R1.1.cell 0
    have y1 := R1.1.cell 1
    have y2 := R1.1.cell 2
    have y3 := R1.1.cell 3
    gi_wp2
    exact bodyPost_ret (v := .tuple #[.int .i64 x.fr, .agg #[.int .i64 (x.paces * p.pace + x.steps * p.step), .int .i64 (0), .int .i64 (x.paces), .int .i64 (1)], .bool true]) (by simp [results, Tryd.results112, go_sem, y0, y1, y2, y3]) rfl ⟨rfl, R1.2.1⟩
  · refine callsIn_of_wp Tryd.func112 rfl trivial ?_ rfl
    simp only [Tryd.ntmps112, List.size_toArray, List.length_cons, List.length_nil, Nat.reduceAdd, Nat.reduceSub, Array.replicate_succ, Array.replicate_zero, List.push_toArray, List.append_toArray, List.nil_append, List.cons_append]
    gi_wp2
    have HLay := Lib.hid (Lay.three w 45 #[.int .i64 x.id, .int .i64 x.fr, .int .i64 x.to, .int .i64 x.steps, .int .i64 x.paces] 107 #[.int .i64 p.pace, .int .i64 p.up, .int .i64 p.step] 103 #[.int .i64 0, .int .i64 0, .int .i64 0, .int .i64 0])
    generalize (((w.alloc (.cells #[.int .i64 x.id, .int .i64 x.fr, .int .i64 x.to, .int .i64 x.steps, .int .i64 x.paces] 45)).alloc (.cells #[.int .i64 p.pace, .int .i64 p.up, .int .i64 p.step] 107)).alloc (.cells #[.int .i64 0, .int .i64 0, .int .i64 0, .int .i64 0] 103)) = w0 at *
    refine wpIn_flow_old [] [true, true, true, true, true, true, true, true, true, true, true, true, true, true, true, true, true, false, true] [false, false, false, false, false, false, false, false, false, false, false, false, false, false, false, false, false, true] (by kernel_rfl) (by kernel_rfl) (by kernel_rfl) (below_drewN (Below.refl _ _) 1) ?_
    refine wpFlow_nil (A := ?AF2) ?hq2 ?_
    case hq2 =>
      rintro σ hσ of hof hcl
      have HOF := Lib.hid hof
      have HCL := Lib.hid hcl
      clear hof hcl
      have c0_ : ∀ z, (of z).cell? ⟨w.heap.size, 0, none⟩ = some (.int .i64 x.id) := fun z => ((HLay.out.below (HOF.out z)).blk 0 rfl).cell 0
      have c1_ : ∀ z, (of z).cell? ⟨w.heap.size, 1, none⟩ = some (.int .i64 x.fr) := fun z => ((HLay.out.below (HOF.out z)).blk 0 rfl).cell 1
      have c2_ : ∀ z, (of z).cell? ⟨w.heap.size, 2, none⟩ = some (.int .i64 x.to) := fun z => ((HLay.out.below (HOF.out z)).blk 0 rfl).cell 2
      have c3_ : ∀ z, (of z).cell? ⟨w.heap.size, 3, none⟩ = some (.int .i64 x.steps) := fun z => ((HLay.out.below (HOF.out z)).blk 0 rfl).cell 3
      have c4_ : ∀ z, (of z).cell? ⟨w.heap.size, 4, none⟩ = some (.int .i64 x.paces) := fun z => ((HLay.out.below (HOF.out z)).blk 0 rfl).cell 4
      have c5_ : ∀ z, (of z).cell? ⟨w.heap.size + 1, 0, none⟩ = some (.int .i64 p.pace) := fun z => ((HLay.out.below (HOF.out z)).blk 1 rfl).cell 0
      have c6_ : ∀ z, (of z).cell? ⟨w.heap.size + 1, 1, none⟩ = some (.int .i64 p.up) := fun z => ((HLay.out.below (HOF.out z)).blk 1 rfl).cell 1
      have c7_ : ∀ z, (of z).cell? ⟨w.heap.size + 1, 2, none⟩ = some (.int .i64 p.step) := fun z => ((HLay.out.below (HOF.out z)).blk 1 rfl).cell 2
      have hfw : ∀ f, Fence.wide.fn f := fun _ => trivial
      simp only [pickB]
      repeat (gi_big_quiet_step (fail))
      refine wpQuietIn_nil ?_
      exact rfl
    intro W1 hW
    replace HLay := Lib.hid (HLay.out.below hW)
    clear hW
    simp only [pickB]
    have x2_0 := (HLay.out.blk 2 rfl).cell 0
    have z2_0 := (HLay.out.blk 2 rfl).frozen 0
    have x2_1 := (HLay.out.blk 2 rfl).cell 1
    have z2_1 := (HLay.out.blk 2 rfl).frozen 1
    have x2_2 := (HLay.out.blk 2 rfl).cell 2
    have z2_2 := (HLay.out.blk 2 rfl).frozen 2
    have x2_3 := (HLay.out.blk 2 rfl).cell 3
    have z2_3 := (HLay.out.blk 2 rfl).frozen 3
    have l2_ := HLay.out.lt 2 rfl
    refine wpT_cons ?_
    gi_wp2
    refine wpT_nil ?_
    clear x2_0 z2_0 x2_1 z2_1 x2_2 z2_2 x2_3 z2_3 l2_
    have R1 := ret4' (HLay.out.blk 2 rfl) HLay.out.1 (by omega) (.int .i64 (x.paces * p.pace + x.steps * p.step)) (.int .i64 (0)) (.int .i64 (x.paces)) (.int .i64 (1))
    have y0 := R1.1.cell 0
    have y1 := R1.1.cell 1
    have y2 := R1.1.cell 2
    have y3 := R1.1.cell 3
    gi_wp2
    exact bodyPost_ret (v := .tuple #[.int .i64 x.fr, .agg #[.int .i64 (x.paces * p.pace + x.steps * p.step), .int .i64 (0), .int .i64 (x.paces), .int .i64 (1)], .bool true]) (by simp [results, Tryd.results112, go_sem, y0, y1, y2, y3]) rfl ⟨rfl, R1.2.1⟩

theorem leads_any (x : Link) (v : Int) (dk : Bool) (p : Price) (w : World) (hx : Fit x) (hp : Cheap p) :
    Calls Tryd.prog 112 #[.agg #[.int .i64 x.id, .int .i64 x.fr, .int .i64 x.to, .int .i64 x.steps, .int .i64 x.paces], .int .i64 v, .bool dk, .agg #[.int .i64 p.pace, .int .i64 p.up, .int .i64 p.step]] w fun e w' => e = .returned (leadsV (leads dk p x v)) ∧ Below w.heap.size w w' := by
  obtain ⟨m1, m2⟩ := mul_fits (m := 2000) (n := 100) (show 0 ≤ x.paces ∧ x.paces ≤ 2000 from ⟨by have := hx.paces; omega, hx.paces.2⟩) hp.pace
  obtain ⟨m3, m4⟩ := mul_fits (m := 500) (n := 200) hx.steps (show 0 ≤ p.up + p.step ∧ p.up + p.step ≤ 200 from ⟨by have := hp.up; have := hp.step; omega, by have := hp.up; have := hp.step; omega⟩)
  obtain ⟨m5, m6⟩ := mul_fits (m := 500) (n := 100) hx.steps hp.step
  obtain ⟨a1, a2⟩ := hp.up
  obtain ⟨a3, a4⟩ := hp.step
  by_cases hskip : dk = true ∧ 0 < x.steps
  · have hl : leads dk p x v = none := by unfold leads; rw [if_pos hskip]
    rw [hl]
    exact callsIn_wide.1 (leads_skip x v dk p w hskip.1 hskip.2)
  · have hd : dk = false ∨ dk = true ∧ ¬ 0 < x.steps := by cases dk <;> simp_all
    have hl : leads dk p x v = if x.fr = v then some (x.to, ⟨x.paces * p.pace + x.steps * (p.up + p.step), x.steps, x.paces, 1⟩) else if x.to = v then some (x.fr, ⟨x.paces * p.pace + x.steps * p.step, 0, x.paces, 1⟩) else none := by unfold leads; rw [if_neg hskip]
    rw [hl]
    by_cases hfr : x.fr = v
    · rw [if_pos hfr]
      exact callsIn_wide.1 (leads_up x v dk p w hd (by simpa using hfr) m1 (by omega) m3 (by omega) m5 (by omega) a1 a2 a3 a4)
    · rw [if_neg hfr]
      by_cases hto : x.to = v
      · rw [if_pos hto]
        exact callsIn_wide.1 (leads_down x v dk p w hd (by simpa using hfr) (by simpa using hto) m1 (by omega) m3 (by omega) m5 (by omega) a1 a2 a3 a4)
      · rw [if_neg hto]
        exact callsIn_wide.1 (leads_off x v dk p w hd (by simpa using hfr) (by simpa using hto))
end Go.Proofs.YtahkjagjcogeiaaDoor
/- What a valid town, skin or gait is good for. -/
namespace Go.Proofs.YtahkjagjcogeiaaDoor
set_option linter.unusedVariables false

theorem inB1_spec {lo hi x : Int} (h : inB lo hi [x] = true) : lo ≤ x ∧ x ≤ hi := by
  unfold inB at h
  simp at h
  omega
theorem inB2_spec {lo hi x y : Int} (h : inB lo hi [x, y] = true) : (lo ≤ x ∧ x ≤ hi) ∧ lo ≤ y ∧ y ≤ hi := by
  unfold inB at h
  simp at h
  omega
theorem upB_spec : ∀ {l : List Int} {last : Int}, upB last l = true → (∀ x ∈ l, last < x ∧ x ≤ 9999) ∧ l.Pairwise (· < ·)
  | [], _, _ => ⟨by simp, .nil⟩
  | x :: l, last, h => by
    simp only [upB, Bool.and_eq_true] at h
    have h1 := inB1_spec h.1
    obtain ⟨h2, h3⟩ := upB_spec h.2
    refine ⟨fun y hy => ?_, .cons (fun y hy => (h2 y hy).1) h3⟩
    rcases List.mem_cons.1 hy with rfl | hy
    · omega
    · have := h2 y hy; omega
theorem linksB_spec {t : Town} : ∀ {l : List Link} {last : Int}, linksB t last l = true → (∀ x ∈ l, last < x.id ∧ x.id ≤ 9999 ∧ (0 ≤ x.steps ∧ x.steps ≤ 500) ∧ (1 ≤ x.paces ∧ x.paces ≤ 2000) ∧ x.fr ≠ x.to ∧ x.fr ∈ t.places ∧ x.to ∈ t.places) ∧ l.Pairwise fun x y => x.id < y.id
  | [], _, _ => ⟨by simp, .nil⟩
  | x :: l, last, h => by
    simp only [linksB, linkB, Bool.and_eq_true] at h
    obtain ⟨⟨⟨⟨⟨h1, h2⟩, h3⟩, h4⟩, h5⟩, h6⟩ := h
    have a1 := inB1_spec h1
    have a2 := inB1_spec h2
    have a3 := inB1_spec h3
    have a4 : x.fr ≠ x.to := by simpa using h4
    have a5 : x.fr ∈ t.places ∧ x.to ∈ t.places := by
      unfold hasB at h5
      simp [memI] at h5
      exact h5
    obtain ⟨h7, h8⟩ := linksB_spec h6
    refine ⟨fun y hy => ?_, .cons (fun y hy => (h7 y hy).1) h8⟩
    rcases List.mem_cons.1 hy with rfl | hy
    · exact ⟨by omega, by omega, a2, a3, a4, a5.1, a5.2⟩
    · obtain ⟨b1, b2⟩ := h7 y hy
      exact ⟨by omega, b2⟩

/-- A valid town. -/
structure GoodT (t : Town) : Prop where
  fine : Fine t
  nodup : t.places.Nodup
  up : t.places.Pairwise (· < ·)
  ids : ∀ v ∈ t.places, 1 ≤ v ∧ v ≤ 9999
  some_ : 1 ≤ t.places.length
  links : t.links.length ≤ 20
  lids : ∀ x ∈ t.links, 1 ≤ x.id ∧ x.id ≤ 9999
  ends : ∀ x ∈ t.links, x.fr ≠ x.to
theorem goodT {t : Town} (h : townB t = true) : GoodT t := by
  unfold townB sizeB at h
  simp only [Bool.and_eq_true, decide_eq_true_eq] at h
  obtain ⟨⟨⟨h1, h2⟩, h3⟩, h4⟩ := h
  have a1 := inB1_spec h1
  obtain ⟨b1, b2⟩ := upB_spec h3
  obtain ⟨c1, c2⟩ := linksB_spec h4
  refine ⟨⟨fun x hx => (c1 x hx).2.2.1, fun x hx => (c1 x hx).2.2.2.1, fun x hx => (c1 x hx).2.2.2.2.2, c2, by omega⟩, b2.imp fun h => by omega, b2, fun v hv => by have := b1 v hv; omega, by omega, h2, fun x hx => by have := c1 x hx; omega, fun x hx => (c1 x hx).2.2.2.2.1⟩

theorem spanB_spec {most : Int} {x : Span} (h : spanB most x = true) : (0 ≤ x.lo ∧ x.lo ≤ most) ∧ (0 ≤ x.hi ∧ x.hi ≤ most) ∧ x.lo ≤ x.hi := by
  unfold spanB at h
  simp only [Bool.and_eq_true, decide_eq_true_eq] at h
  have := inB2_spec h.1
  exact ⟨this.1, this.2, h.2⟩
theorem spansB_two {most : Int} {x y : Span} (h : spansB most [x, y] = true) : spanB most x = true ∧ spanB most y = true := by
  unfold spansB at h
  simpa [Bool.not_or] using h
structure GoodS (s : Skin) : Prop where
  drops : 0 ≤ s.drops ∧ s.drops ≤ 100000
  pace : (0 ≤ s.pace.lo ∧ s.pace.lo ≤ 50) ∧ (0 ≤ s.pace.hi ∧ s.pace.hi ≤ 50) ∧ s.pace.lo ≤ s.pace.hi
  step : (0 ≤ s.step.lo ∧ s.step.lo ≤ 50) ∧ (0 ≤ s.step.hi ∧ s.step.hi ≤ 50) ∧ s.step.lo ≤ s.step.hi
theorem goodS {s : Skin} (h : skinB s = true) : GoodS s := by
  unfold skinB at h
  simp only [Bool.and_eq_true] at h
  obtain ⟨h1, h2⟩ := spansB_two h.2
  exact ⟨inB1_spec h.1, spanB_spec h1, spanB_spec h2⟩
structure GoodG (s : Gait) : Prop where
  pace : (0 ≤ s.pace.lo ∧ s.pace.lo ≤ 20) ∧ (0 ≤ s.pace.hi ∧ s.pace.hi ≤ 20) ∧ s.pace.lo ≤ s.pace.hi
  step : (0 ≤ s.step.lo ∧ s.step.lo ≤ 20) ∧ (0 ≤ s.step.hi ∧ s.step.hi ≤ 20) ∧ s.step.lo ≤ s.step.hi
theorem goodG {s : Gait} (h : gaitB s = true) : GoodG s := by
  obtain ⟨h1, h2⟩ := spansB_two h
  exact ⟨spanB_spec h1, spanB_spec h2⟩

/-- The prices. -/
def lossP (pace step : Int) : Price := ⟨pace, 0, step⟩
def timeP (pace step : Int) : Price := ⟨pace, step, 0⟩
def freeP : Price := ⟨0, 0, 0⟩
theorem lossP_fair {a b : Int} (h1 : 0 ≤ a ∧ a ≤ 50) (h2 : 0 ≤ b ∧ b ≤ 50) : Fair (lossP a b) := ⟨h1, by simp [lossP], h2.1, by simp [lossP]; omega⟩
theorem lossP_cheap {a b : Int} (h1 : 0 ≤ a ∧ a ≤ 50) (h2 : 0 ≤ b ∧ b ≤ 50) : Cheap (lossP a b) := ⟨⟨h1.1, by simp [lossP]; omega⟩, by simp [lossP], ⟨h2.1, by simp [lossP]; omega⟩⟩
theorem timeP_fair {a b : Int} (h1 : 0 ≤ a ∧ a ≤ 50) (h2 : 0 ≤ b ∧ b ≤ 50) : Fair (timeP a b) := ⟨h1, h2.1, by simp [timeP], by simp [timeP]; omega⟩
theorem timeP_cheap {a b : Int} (h1 : 0 ≤ a ∧ a ≤ 50) (h2 : 0 ≤ b ∧ b ≤ 50) : Cheap (timeP a b) := ⟨⟨h1.1, by simp [timeP]; omega⟩, ⟨h2.1, by simp [timeP]; omega⟩, by simp [timeP]⟩
theorem freeP_fair : Fair freeP := ⟨by simp [freeP], by simp [freeP], by simp [freeP], by simp [freeP]⟩
theorem freeP_cheap : Cheap freeP := ⟨by simp [freeP], by simp [freeP], by simp [freeP]⟩

theorem askE_zero {t : Town} {l : List Int} (h : askE t l = 0) : townB t = true ∧ hasB t l = true := by
  unfold askE at h
  cases h1 : townB t <;> cases h2 : hasB t l <;> rw [h1, h2] at h <;> simp at h
  exact ⟨rfl, rfl⟩
theorem askE_vals (t : Town) (l : List Int) : askE t l = 0 ∨ askE t l = 30 ∨ askE t l = 31 := by
  unfold askE
  split
  · split <;> simp
  · simp
theorem hasB_mem {t : Town} {l : List Int} (h : hasB t l = true) : ∀ v ∈ l, v ∈ t.places := by
  unfold hasB at h
  simp [memI] at h
  exact h
theorem or2_zero {a b : Int} (h : or2 a b = 0) : a = 0 ∧ b = 0 := by
  unfold or2 at h
  split at h
  · exact ⟨by assumption, h⟩
  · exact absurd h (by assumption)
theorem dryE_zero {s : Skin} (h : dryE s = 0) : skinB s = true := by
  unfold dryE at h
  cases h1 : skinB s <;> rw [h1] at h <;> simp at h ⊢
theorem slowE_zero {g : Gait} (h : slowE g = 0) : gaitB g = true := by
  unfold slowE at h
  cases h1 : gaitB g <;> rw [h1] at h <;> simp at h ⊢
theorem best_len {t : Town} {dk : Bool} {p : Price} {u v : Int} {c : Cost} {l : List Int} (hf : Fine t) (hp : Fair p) (h : best t dk p u v = some (c, l)) : l.length ≤ 9 := by
  have hF := best_first hf hp dk u v
  rw [h] at hF
  obtain ⟨c', l', h1, h2, h3⟩ := hF.1.short hf hp
  obtain ⟨rfl, rfl⟩ := key_inj (cmpL_antisymm h2 (hF.2 _ _ h1))
  have := hf.size
  rcases h3 with rfl | h3
  · simp
  · omega
theorem best_cost {t : Town} {dk : Bool} {p : Price} {u v : Int} {c : Cost} {l : List Int} (hf : Fine t) (hp : Fair p) (h : best t dk p u v = some (c, l)) : (0 ≤ c.a ∧ c.a ≤ 2000000) ∧ (0 ≤ c.b ∧ c.b ≤ 4500) ∧ (0 ≤ c.c ∧ c.c ≤ 18000) := by
  have hl := best_len hf hp h
  have hF := best_first hf hp dk u v
  rw [h] at hF
  have := hF.1.bound hf hp
  omega
end Go.Proofs.YtahkjagjcogeiaaDoor
/- climb.End: what a skin holds at the end of a walk. -/
namespace Go.Proofs.YtahkjagjcogeiaaDoor
open Go.RowKit Go.Shelf
set_option linter.unusedVariables false

def endE (t : Town) (s : Skin) (place : Int) (l : List Int) : Int := if or2 (askE t [place]) (dryE s) = 0 then betE t place l else or2 (askE t [place]) (dryE s)
def endV (t : Town) (s : Skin) (place : Int) (l : List Int) : Span := if endE t s place l = 0 then ⟨max 0 (s.drops - firstA t (lossP s.pace.hi s.step.hi) place l), max 0 (s.drops - firstA t (lossP s.pace.lo s.step.lo) place l)⟩ else ⟨0, 0⟩
def EndOut (w : World) (v : Span) (e : Int) (x : Ending) (w' : World) : Prop := x = .returned (.tuple #[.agg #[.int .i64 v.lo, .int .i64 v.hi], .int .i64 e]) ∧ Below w.heap.size w w'

set_option maxRecDepth 100000 in
set_option maxHeartbeats 16000000 in
theorem end_in (A : Option Addr) (n c : Nat) (A' : Option Addr) (m d : Nat) (t : Town) (s : Skin) (place : Int) (A2 : Option Addr) (k2 c2 : Nat) (l : List Int) (w : World)
    (hn : n ≤ 1000) (hm : m ≤ 1000) (hk2 : k2 ≤ 1000) (ht : TownAt w w.heap.size A n A' m t) (hr : IntsAt w w.heap.size A2 k2 l) (hL : Laid w) :
    CallsIn Fence.wide 9 Tryd.prog 11 #[.agg #[.slice A n c, .slice A' m d], .agg #[.int .i64 s.drops, .int .i64 s.pace.lo, .int .i64 s.pace.hi, .int .i64 s.step.lo, .int .i64 s.step.hi], .int .i64 place, .slice A2 k2 c2] w (EndOut w (endV t s place l) (endE t s place l)) := by
  have HT := Lib.hid ht
  have HR := Lib.hid hr
  have HL := Lib.hid hL
  have hl0 := hL.2.2.2
  clear ht hr hL
  refine callsIn_of_wp Tryd.func11 rfl trivial ?_ rfl
  simp only [Tryd.ntmps11, List.size_toArray, List.length_cons, List.length_nil, Nat.reduceAdd, Nat.reduceSub, Array.replicate_succ, Array.replicate_zero, List.push_toArray, List.append_toArray, List.nil_append, List.cons_append]
  gi_wp2
  have L0 := Lay.three w 25 #[.slice A n c, .slice A' m d] 29 #[.int .i64 s.drops, .int .i64 s.pace.lo, .int .i64 s.pace.hi, .int .i64 s.step.lo, .int .i64 s.step.hi] 27 #[.int .i64 0, .int .i64 0]
  have HLay := Lib.hid L0
  clear L0
  generalize (((w.alloc (.cells #[.slice A n c, .slice A' m d] 25)).alloc (.cells #[.int .i64 s.drops, .int .i64 s.pace.lo, .int .i64 s.pace.hi, .int .i64 s.step.lo, .int .i64 s.step.hi] 29)).alloc (.cells #[.int .i64 0, .int .i64 0] 27)) = w0 at *
  refine wpIn_flow_old [([true, true, false, false, true], 2), ([], 3), ([], 5), ([], 6), ([], 7)] [false, false, false, false, false, false, false, false, true] [] (by kernel_rfl) (by kernel_rfl) (by kernel_rfl) (below_drewN (Below.refl _ _) 1) ?_
  refine wpFlow_cons (A := ?AF1) rfl ?hq1 ?_
  case hq1 =>
    rintro σ hσ of hof hcl
    have HOF := Lib.hid hof
    clear hof hcl
    have t0 : ∀ z, (of z).cell? ⟨w.heap.size, 0, none⟩ = some (.slice A n c) := fun z => ((HLay.out.below (HOF.out z)).blk 0 rfl).cell 0
    have t1 : ∀ z, (of z).cell? ⟨w.heap.size, 1, none⟩ = some (.slice A' m d) := fun z => ((HLay.out.below (HOF.out z)).blk 0 rfl).cell 1
    have s0 : ∀ z, (of z).cell? ⟨w.heap.size + 1, 0, none⟩ = some (.int .i64 s.drops) := fun z => ((HLay.out.below (HOF.out z)).blk 1 rfl).cell 0
    have s1 : ∀ z, (of z).cell? ⟨w.heap.size + 1, 1, none⟩ = some (.int .i64 s.pace.lo) := fun z => ((HLay.out.below (HOF.out z)).blk 1 rfl).cell 1
    have s2 : ∀ z, (of z).cell? ⟨w.heap.size + 1, 2, none⟩ = some (.int .i64 s.pace.hi) := fun z => ((HLay.out.below (HOF.out z)).blk 1 rfl).cell 2
    have s3 : ∀ z, (of z).cell? ⟨w.heap.size + 1, 3, none⟩ = some (.int .i64 s.step.lo) := fun z => ((HLay.out.below (HOF.out z)).blk 1 rfl).cell 3
    have s4 : ∀ z, (of z).cell? ⟨w.heap.size + 1, 4, none⟩ = some (.int .i64 s.step.hi) := fun z => ((HLay.out.below (HOF.out z)).blk 1 rfl).cell 4
    have hfw : ∀ f, Fence.wide.fn f := fun _ => trivial
    simp only [pickB]
    repeat (gi_big_quiet_step (fail))
    refine wpQuietIn_nil ?_
    exact rfl
  intro W1 hW1
  gi_wp2
  refine ⟨trivial, (Below.refl _ _).alloc (Nat.le_refl _) _, ?_⟩
  have HLay1 := Lib.hid ((HLay.out.below hW1).below ((Below.refl _ _).alloc (Nat.le_refl _) (.cells #[.int .i64 place] 3)))
  have HPl : Hid (IntsAt (W1.alloc (.cells #[.int .i64 place] 3)) (W1.alloc (.cells #[.int .i64 place] 3)).heap.size (some ⟨W1.heap.size, 0, none⟩) 1 [place]) := Lib.hid (IntsAt.new W1 3 [place] _ (by simp))
  obtain ⟨P1, hP1⟩ : ∃ P1, W1.heap.size = P1 := ⟨_, rfl⟩
  rw [hP1] at HPl ⊢
  generalize (W1.alloc (.cells #[.int .i64 place] 3)) = V1 at *
  clear hW1
  refine wpFlow_cons rfl Quietly.none ?_
  intro W2 hW2
  have HLay2 := Lib.hid (HLay1.out.below hW2)
  have hlw := (HLay2.out.blk 1 rfl).lt
  gi_wp2
  refine ⟨trivial, (callsIn_wide.2 (asked_any A n c A' m d t (some ⟨P1, 0, none⟩) 1 1 [place] W2 (by unfold maxLen; omega) (by unfold maxLen; omega) (by decide) ((HT.out.below HLay2.out.1).more HLay2.out.1.size) ((HPl.out.below hW2).more hW2.size) (HL.out.below HLay2.out.1 hl0))).mono ?_⟩
  rintro e W3 ⟨rfl, hb3⟩
  gi_wp2
  refine ⟨trivial, hb3, ?_⟩
  have HLay3 := Lib.hid (HLay2.out.below hb3)
  clear hb3 hW2 HLay1 HLay2
  refine wpFlow_cons rfl Quietly.none ?_
  intro W4 hW4
  have HLay4 := Lib.hid (HLay3.out.below hW4)
  gi_wp2
  refine ⟨trivial, (callsIn_wide.2 (dry_any s W4)).mono ?_⟩
  rintro e W5 ⟨rfl, hb5⟩
  gi_wp2
  refine ⟨trivial, hb5, ?_⟩
  have HLay5 := Lib.hid (HLay4.out.below hb5)
  clear hb5 hW4 HLay3 HLay4
  refine wpFlow_cons rfl Quietly.none ?_
  intro W6 hW6
  gi_wp2
  refine ⟨trivial, (Below.refl _ _).alloc (Nat.le_refl _) _, ?_⟩
  have HLay6 := Lib.hid ((HLay5.out.below hW6).below ((Below.refl _ _).alloc (Nat.le_refl _) (.cells #[.int .i64 (askE t [place]), .int .i64 (dryE s)] 32)))
  have HOr := Lib.hid (Blk.new W6 32 #[.int .i64 (askE t [place]), .int .i64 (dryE s)])
  obtain ⟨P2, hP2⟩ : ∃ P2, W6.heap.size = P2 := ⟨_, rfl⟩
  rw [hP2] at HOr ⊢
  generalize (W6.alloc (.cells #[.int .i64 (askE t [place]), .int .i64 (dryE s)] 32)) = V6 at *
  clear hW6 HLay5
  refine wpFlow_cons rfl Quietly.none ?_
  intro W7 hW7
  gi_wp2
  refine ⟨trivial, (callsIn_wide.2 (or_any (askE t [place]) (dryE s) P2 W7 (HOr.out.below hW7 HOr.out.lt))).mono ?_⟩
  rintro e W8 ⟨rfl, rfl⟩
  gi_wp2
  refine ⟨trivial, Below.refl _ _, ?_⟩
  have HLay7 := Lib.hid (HLay6.out.below hW7)
  clear hW7 HLay6 HOr
  obtain ⟨ee, hee⟩ : ∃ ee, or2 (askE t [place]) (dryE s) = ee := ⟨_, rfl⟩
  rw [hee]
  have HEE := Lib.hid hee
  clear hee
  refine wpFlow_nil (A := ?AF9) ?hq9 ?_
  case hq9 =>
    rintro σ hσ of hof hcl
    simp only [pickB]
    repeat (gi_big_quiet_step (fail))
    refine wpQuietIn_nil ?_
    exact rfl
  intro W9 hW9
  simp only [pickB]
  refine wpT_nil ?_
  have HLay9 := Lib.hid (HLay7.out.below hW9)
  clear hW9 HLay7
  have r0 := (HLay9.out.blk 2 rfl).cell 0
  have r1 := (HLay9.out.blk 2 rfl).cell 1
  have z0 := (HLay9.out.blk 2 rfl).frozen 0
  have z1 := (HLay9.out.blk 2 rfl).frozen 1
  have hl2 := HLay9.out.lt 2 rfl
  by_cases h0 : ee = 0
  · subst h0
    have HOK := Lib.hid (or2_zero HEE.out)
    obtain ⟨htb, hhas⟩ := askE_zero HOK.out.1
    have HG := Lib.hid (goodT htb)
    have HGS := Lib.hid (goodS (dryE_zero HOK.out.2))
    have hm20 : m ≤ 20 := by have := HG.out.links; have := HT.out.links.len; omega
    clear htb hhas
    gi_wp2
    clear r0 r1 z0 z1 hl2 hlw HLay
    refine wpIn_flow_new [([true, true, true, true, true, true, true, true, true, false, true, true, true, true, true, true], 9), ([], 16), ([], 17)] [false, false, false, false, false, false, false, false, false, false, false, false, false, false, false, false, false, false, true, true, true, false, false, true] [false, false, false, false, false, false, false, false, false, false, false, false, false, false, false, false, false, false, false, false, false, false, true] 21 (fun b => .pointer (some ⟨b, 0, none⟩)) 27 #[.int .i64 0, .int .i64 0] (by kernel_rfl) (by kernel_rfl) (by kernel_rfl) (below_drewN (Below.refl _ _) 1) rfl rfl rfl (fun _ _ => rfl) (fun _ _ => rfl) ?_
    refine wpFlow_cons (A := ?AF2) rfl ?hq2 ?_
    case hq2 =>
      rintro σ hσ of hof hcl
      have HOF := Lib.hid hof
      clear hof hcl
      have t0 : ∀ z, (of z).cell? ⟨w.heap.size, 0, none⟩ = some (.slice A n c) := fun z => ((HLay9.out.below (HOF.out z)).blk 0 rfl).cell 0
      have t1 : ∀ z, (of z).cell? ⟨w.heap.size, 1, none⟩ = some (.slice A' m d) := fun z => ((HLay9.out.below (HOF.out z)).blk 0 rfl).cell 1
      have s1 : ∀ z, (of z).cell? ⟨w.heap.size + 1, 1, none⟩ = some (.int .i64 s.pace.lo) := fun z => ((HLay9.out.below (HOF.out z)).blk 1 rfl).cell 1
      have s2 : ∀ z, (of z).cell? ⟨w.heap.size + 1, 2, none⟩ = some (.int .i64 s.pace.hi) := fun z => ((HLay9.out.below (HOF.out z)).blk 1 rfl).cell 2
      have s3 : ∀ z, (of z).cell? ⟨w.heap.size + 1, 3, none⟩ = some (.int .i64 s.step.lo) := fun z => ((HLay9.out.below (HOF.out z)).blk 1 rfl).cell 3
      have s4 : ∀ z, (of z).cell? ⟨w.heap.size + 1, 4, none⟩ = some (.int .i64 s.step.hi) := fun z => ((HLay9.out.below (HOF.out z)).blk 1 rfl).cell 4
      have hfw : ∀ f, Fence.wide.fn f := fun _ => trivial
      simp only [pickB]
      repeat (gi_big_quiet_step (fail))
      refine wpQuietIn_nil ?_
      exact rfl
    intro W10 hW10
    gi_wp2
    refine ⟨trivial, (callsIn_wide.2 (drips_any s.pace.lo s.step.lo W10 (by have := HGS.out.pace; omega) (by have := HGS.out.step; omega))).mono ?_⟩
    rintro e W11 ⟨⟨b1, b2, rfl, hp1⟩, hb11⟩
    have HP1 := Lib.hid hp1
    have HLay11 := Lib.hid ((HLay9.out.below hW10).below hb11)
    gi_wp2
    refine ⟨trivial, hb11, ?_⟩
    clear hp1 hW10 hb11
    refine wpFlow_cons rfl Quietly.none ?_
    intro W12 hW12
    gi_wp2
    refine ⟨trivial, (callsIn_wide.2 (drips_any s.pace.hi s.step.hi W12 (by have := HGS.out.pace; omega) (by have := HGS.out.step; omega))).mono ?_⟩
    rintro e W13 ⟨⟨b3, b4, rfl, hp2⟩, hb13⟩
    have HP2 := Lib.hid hp2
    have HP13 := Lib.hid (HP1.out.below (hW12.trans (hb13.mono hW12.size)))
    have HLay13 := Lib.hid ((HLay11.out.below hW12).below hb13)
    gi_wp2
    refine ⟨trivial, hb13, ?_⟩
    clear hp2 hW12 hb13 HP1
    refine wpFlow_cons rfl Quietly.none ?_
    intro W14 hW14
    have HLay14 := Lib.hid (HLay13.out.below hW14)
    gi_wp2
    refine ⟨trivial, (callsIn_wide.2 (between_any A n c A' m d _ _ _ _ (lossP s.pace.lo s.step.lo) (lossP s.pace.hi s.step.hi) t place A2 k2 c2 l W14 hm20 hk2 ((HT.out.links.below HLay14.out.1).more HLay14.out.1.size) (HP13.out.below hW14) (HP2.out.below hW14) HG.out.fine (lossP_fair (by have := HGS.out.pace; omega) (by have := HGS.out.step; omega)) (lossP_fair (by have := HGS.out.pace; omega) (by have := HGS.out.step; omega)) ((HR.out.below HLay14.out.1).more HLay14.out.1.size))).mono ?_⟩
    rintro e W15 ⟨rfl, hb15⟩
    have HLay15 := Lib.hid (HLay14.out.below hb15)
    gi_wp2
    refine ⟨trivial, hb15, ?_⟩
    clear hW14 hb15 HP2 HP13 HLay11 HLay13 HLay14
    refine wpFlow_nil (A := ?AF3) ?hq3 ?_
    case hq3 =>
      rintro σ hσ of hof hcl
      simp only [pickB]
      repeat (gi_big_quiet_step (fail))
      refine wpQuietIn_nil ?_
      exact rfl
    intro b W16 hW16 hbg hbb _
    have HLay16 := Lib.hid ((HLay15.out.below hW16).add (Nat.le_trans HLay9.out.1.size hbg) hbb)
    have HBG := Lib.hid hbg
    have c0 := hbb.cell 0
    have c1 := hbb.cell 1
    have z0 := hbb.frozen 0
    have z1 := hbb.frozen 1
    have hbl := hbb.lt
    clear hW16 hbg hbb HLay15
    simp only [pickB]
    refine wpT_cons ?_
    gi_wp2
    refine wpT_nil ?_
    have HLay17 := Lib.hid ((HLay16.out.setLast (fun p hp e => by have := (HLay9.out.2 p hp).2.lt; have := HBG.out; omega) 0 (.int .i64 (firstA t (lossP s.pace.lo s.step.lo) place l))).setLast (fun p hp e => by have := (HLay9.out.2 p hp).2.lt; have := HBG.out; omega) 1 (.int .i64 (firstA t (lossP s.pace.hi s.step.hi) place l)))
    generalize ((W16.setCell ⟨b, 0, none⟩ (.int .i64 (firstA t (lossP s.pace.lo s.step.lo) place l))).setCell ⟨b, 1, none⟩ (.int .i64 (firstA t (lossP s.pace.hi s.step.hi) place l))) = W17 at *
    clear c0 c1 z0 z1 hbl HLay16
    have hb1 := firstA_bound HG.out.fine (lossP_fair (a := s.pace.lo) (b := s.step.lo) (by have := HGS.out.pace; omega) (by have := HGS.out.step; omega)) place l
    have hb2 := firstA_bound HG.out.fine (lossP_fair (a := s.pace.hi) (b := s.step.hi) (by have := HGS.out.pace; omega) (by have := HGS.out.step; omega)) place l
    have hv : ∀ e', betE t place l = e' → endE t s place l = e' := fun e' h => by unfold endE; rw [HEE.out, if_pos rfl, h]
    have HV := Lib.hid hv
    clear hv
    have HVV := Lib.hid (show endV t s place l = if endE t s place l = 0 then ⟨max 0 (s.drops - firstA t (lossP s.pace.hi s.step.hi) place l), max 0 (s.drops - firstA t (lossP s.pace.lo s.step.lo) place l)⟩ else ⟨0, 0⟩ from rfl)
    generalize firstA t (lossP s.pace.lo s.step.lo) place l = fa at *
    generalize firstA t (lossP s.pace.hi s.step.hi) place l = fb at *
    generalize betE t place l = eb at *
    obtain ⟨hd0, hd1⟩ := HGS.out.drops
    obtain ⟨hb10, hb11⟩ := hb1
    obtain ⟨hb20, hb21⟩ := hb2
    have r0 := (HLay17.out.blk 2 rfl).cell 0
    have r1 := (HLay17.out.blk 2 rfl).cell 1
    have z0 := (HLay17.out.blk 2 rfl).frozen 0
    have z1 := (HLay17.out.blk 2 rfl).frozen 1
    have s0 := (HLay17.out.blk 1 rfl).cell 0
    have q0 := (HLay17.out.blk 3 rfl).cell 0
    have q1 := (HLay17.out.blk 3 rfl).cell 1
    have hl1 := HLay17.out.lt 1 rfl
    have hl2 := HLay17.out.lt 2 rfl
    have hl3 := HLay17.out.lt 3 rfl
    by_cases he0 : eb = 0
    · subst he0
      gi_wp2
      all_goals
        have he := HV.out 0 rfl
        have hvv : endV t s place l = ⟨max 0 (s.drops - fb), max 0 (s.drops - fa)⟩ := by rw [HVV.out, he, if_pos rfl]
        clear r0 r1 z0 z1 s0 q0 q1
        first
        | (have R1 := ret2 (HLay17.out.blk 2 rfl) HLay17.out.1 (by omega) (.int .i64 (max 0 (s.drops - fb))) (.int .i64 (max 0 (s.drops - fa)))
           have y0 := R1.1.cell 0
           have y1 := R1.1.cell 1
           exact bodyPost_ret (v := .tuple #[.agg #[.int .i64 (max 0 (s.drops - fb)), .int .i64 (max 0 (s.drops - fa))], .int .i64 0]) (by simp [results, Tryd.results11, go_sem, y0, y1]) rfl ⟨by rw [he, hvv], R1.2⟩)
        | (have hx : max 0 (s.drops - fb) = 0 := by omega
           have hy : max 0 (s.drops - fa) = 0 := by omega
           have R1 := ret2 (HLay17.out.blk 2 rfl) HLay17.out.1 (by omega) (.int .i64 (0)) (.int .i64 (0))
           have y0 := R1.1.cell 0
           have y1 := R1.1.cell 1
           exact bodyPost_ret (v := .tuple #[.agg #[.int .i64 (0), .int .i64 (0)], .int .i64 0]) (by simp [results, Tryd.results11, go_sem, y0, y1]) rfl ⟨by rw [he, hvv, hx, hy], R1.2⟩)
        | (have hx : max 0 (s.drops - fb) = 0 := by omega
           have hy : max 0 (s.drops - fa) = s.drops - fa := by omega
           have R1 := ret2 (HLay17.out.blk 2 rfl) HLay17.out.1 (by omega) (.int .i64 (0)) (.int .i64 (s.drops - fa))
           have y0 := R1.1.cell 0
           have y1 := R1.1.cell 1
           exact bodyPost_ret (v := .tuple #[.agg #[.int .i64 (0), .int .i64 (s.drops - fa)], .int .i64 0]) (by simp [results, Tryd.results11, go_sem, y0, y1]) rfl ⟨by rw [he, hvv, hx, hy], R1.2⟩)
        | (have hx : max 0 (s.drops - fb) = s.drops - fb := by omega
           have hy : max 0 (s.drops - fa) = 0 := by omega
           have R1 := ret2 (HLay17.out.blk 2 rfl) HLay17.out.1 (by omega) (.int .i64 (s.drops - fb)) (.int .i64 (0))
           have y0 := R1.1.cell 0
           have y1 := R1.1.cell 1
           exact bodyPost_ret (v := .tuple #[.agg #[.int .i64 (s.drops - fb), .int .i64 (0)], .int .i64 0]) (by simp [results, Tryd.results11, go_sem, y0, y1]) rfl ⟨by rw [he, hvv, hx, hy], R1.2⟩)
        | (have hx : max 0 (s.drops - fb) = s.drops - fb := by omega
           have hy : max 0 (s.drops - fa) = s.drops - fa := by omega
           have R1 := ret2 (HLay17.out.blk 2 rfl) HLay17.out.1 (by omega) (.int .i64 (s.drops - fb)) (.int .i64 (s.drops - fa))
           have y0 := R1.1.cell 0
           have y1 := R1.1.cell 1
           exact bodyPost_ret (v := .tuple #[.agg #[.int .i64 (s.drops - fb), .int .i64 (s.drops - fa)], .int .i64 0]) (by simp [results, Tryd.results11, go_sem, y0, y1]) rfl ⟨by rw [he, hvv, hx, hy], R1.2⟩)
    · have h1 : (eb != 0) = true := by simpa using he0
      have HE0 := Lib.hid he0
      clear he0
      gi_wp2
      have R1 := ret2 (HLay17.out.blk 2 rfl) HLay17.out.1 (by omega) (.int .i64 0) (.int .i64 0)
      have y0 := R1.1.cell 0
      have y1 := R1.1.cell 1
      have he := HV.out eb rfl
      have hv : endV t s place l = ⟨0, 0⟩ := by rw [HVV.out, he, if_neg HE0.out]
      exact bodyPost_ret (v := .tuple #[.agg #[.int .i64 0, .int .i64 0], .int .i64 eb]) (by simp [results, Tryd.results11, go_sem, y0, y1]) rfl ⟨by rw [he, hv], R1.2⟩
  · have h1 : (ee != 0) = true := by simpa using h0
    have HE0 := Lib.hid h0
    clear h0
    gi_wp2
    have R1 := ret2 (HLay9.out.blk 2 rfl) HLay9.out.1 (by omega) (.int .i64 0) (.int .i64 0)
    have y0 := R1.1.cell 0
    have y1 := R1.1.cell 1
    have he : endE t s place l = ee := by unfold endE; rw [HEE.out, if_neg HE0.out]
    have hv : endV t s place l = ⟨0, 0⟩ := by unfold endV; rw [he, if_neg HE0.out]
    exact bodyPost_ret (v := .tuple #[.agg #[.int .i64 0, .int .i64 0], .int .i64 ee]) (by simp [results, Tryd.results11, go_sem, y0, y1]) rfl ⟨by rw [he, hv], R1.2⟩

theorem end_any (A : Option Addr) (n c : Nat) (A' : Option Addr) (m d : Nat) (t : Town) (s : Skin) (place : Int) (A2 : Option Addr) (k2 c2 : Nat) (l : List Int) (w : World)
    (hn : n ≤ 1000) (hm : m ≤ 1000) (hk2 : k2 ≤ 1000) (ht : TownAt w w.heap.size A n A' m t) (hr : IntsAt w w.heap.size A2 k2 l) (hL : Laid w) :
    Calls Tryd.prog 11 #[.agg #[.slice A n c, .slice A' m d], .agg #[.int .i64 s.drops, .int .i64 s.pace.lo, .int .i64 s.pace.hi, .int .i64 s.step.lo, .int .i64 s.step.hi], .int .i64 place, .slice A2 k2 c2] w (EndOut w (endV t s place l) (endE t s place l)) :=
  callsIn_wide.1 (end_in A n c A' m d t s place A2 k2 c2 l w hn hm hk2 ht hr hL)
end Go.Proofs.YtahkjagjcogeiaaDoor
/- climb.way: the way between two places. -/
namespace Go.Proofs.YtahkjagjcogeiaaDoor
open Go.RowKit Go.Shelf
set_option linter.unusedVariables false

def wayE (t : Town) (u v : Int) (dk : Bool) : Int := if askE t [u, v] = 0 then (if (best t dk freeP u v).isSome then 0 else 6) else askE t [u, v]
def wayR (t : Town) (u v : Int) (dk : Bool) : Option (Cost × List Int) := if askE t [u, v] = 0 then best t dk freeP u v else none
def WayOut (w : World) (v : Int) (r : Option (Cost × List Int)) (e : Int) (x : Ending) (w' : World) : Prop :=
  ∃ (to : Int) (co : Cost) (A : Option Addr) (n c : Nat), x = .returned (.tuple #[.agg #[.int .i64 to, .int .i64 co.a, .int .i64 co.b, .int .i64 co.c, .int .i64 co.d, .slice A n c], .int .i64 e]) ∧ (r = none → to = 0 ∧ co = zeroC ∧ A = none ∧ n = 0 ∧ c = 0) ∧
    (∀ q, r = some q → co = q.1 ∧ IntsAt w' w'.heap.size A n q.2 ∧ n ≤ 9 ∧ to = v) ∧ (∀ a, A = some a → ∃ cs, Blk w' a.block 3 cs) ∧ Below w.heap.size w w'

set_option maxRecDepth 100000 in
set_option maxHeartbeats 16000000 in
theorem way_in (A : Option Addr) (n c : Nat) (A' : Option Addr) (m d : Nat) (t : Town) (u v : Int) (dk : Bool) (w : World)
    (hn : n ≤ 1000) (hm : m ≤ 1000) (ht : TownAt w w.heap.size A n A' m t) (hL : Laid w) :
    CallsIn Fence.wide 9 Tryd.prog 79 #[.agg #[.slice A n c, .slice A' m d], .int .i64 u, .int .i64 v, .bool dk] w (WayOut w v (wayR t u v dk) (wayE t u v dk)) := by
  have HT := Lib.hid ht
  have HL := Lib.hid hL
  have hl0 := hL.2.2.2
  clear ht hL
  refine callsIn_of_wp Tryd.func79 rfl trivial ?_ rfl
  simp only [Tryd.ntmps79, List.size_toArray, List.length_cons, List.length_nil, Nat.reduceAdd, Nat.reduceSub, Array.replicate_succ, Array.replicate_zero, List.push_toArray, List.append_toArray, List.nil_append, List.cons_append]
  gi_wp2
  have HLay := Lib.hid (Lay.three w 25 #[.slice A n c, .slice A' m d] 111 #[.int .i64 0, .int .i64 0, .int .i64 0, .int .i64 0, .int .i64 0, .slice none 0 0] 3 #[.int .i64 u, .int .i64 v])
  generalize (((w.alloc (.cells #[.slice A n c, .slice A' m d] 25)).alloc (.cells #[.int .i64 0, .int .i64 0, .int .i64 0, .int .i64 0, .int .i64 0, .slice none 0 0] 111)).alloc (.cells #[.int .i64 u, .int .i64 v] 3)) = w0 at *
  have HUV0 := Lib.hid (show IntsAt w0 w0.heap.size (some ⟨w.heap.size + 1 + 1, 0, none⟩) 2 [u, v] from two_ints (HLay.out.blk 2 rfl))
  refine ⟨trivial, (callsIn_wide.2 (asked_any A n c A' m d t (some ⟨w.heap.size + 1 + 1, 0, none⟩) 2 2 [u, v] w0 (by unfold maxLen; omega) (by unfold maxLen; omega) (by decide) ((HT.out.below HLay.out.1).more HLay.out.1.size) HUV0.out (HL.out.below HLay.out.1 hl0))).mono ?_⟩
  rintro e W1 ⟨rfl, hb⟩
  replace HLay := Lib.hid (HLay.out.below hb)
  clear hb
  obtain ⟨ee, hee⟩ : ∃ ee, askE t [u, v] = ee := ⟨_, rfl⟩
  rw [hee]
  have HEE := Lib.hid hee
  clear hee
  have x0_0 := (HLay.out.blk 0 rfl).cell 0
  have x0_1 := (HLay.out.blk 0 rfl).cell 1
  have l0_ := HLay.out.lt 0 rfl
  have x1_0 := (HLay.out.blk 1 rfl).cell 0
  have z1_0 := (HLay.out.blk 1 rfl).frozen 0
  have x1_1 := (HLay.out.blk 1 rfl).cell 1
  have z1_1 := (HLay.out.blk 1 rfl).frozen 1
  have x1_2 := (HLay.out.blk 1 rfl).cell 2
  have z1_2 := (HLay.out.blk 1 rfl).frozen 2
  have x1_3 := (HLay.out.blk 1 rfl).cell 3
  have z1_3 := (HLay.out.blk 1 rfl).frozen 3
  have x1_4 := (HLay.out.blk 1 rfl).cell 4
  have z1_4 := (HLay.out.blk 1 rfl).frozen 4
  have x1_5 := (HLay.out.blk 1 rfl).cell 5
  have z1_5 := (HLay.out.blk 1 rfl).frozen 5
  have l1_ := HLay.out.lt 1 rfl
  by_cases h0 : ee = 0
  · subst h0
    obtain ⟨htb, hhas⟩ := askE_zero HEE.out
    have HG := Lib.hid (goodT htb)
    have HUV := Lib.hid (hasB_mem hhas)
    have hm20 : m ≤ 20 := by have := HG.out.links; have := HT.out.links.len; omega
    clear htb hhas
    gi_wp2
    refine ⟨trivial, (callsIn_wide.2 (callsIn_wide.1 (all_in A n c A' m d dk _ _ freeP t u W1 hm20 ((HT.out.links.below HLay.out.1).more HLay.out.1.size) (free_price W1) HG.out.fine freeP_fair (HUV.out u (by simp)) HG.out.ids))).mono ?_⟩
    rintro e W2 ⟨r, ms, rfl, hms, hrr, hoks, hfn, hb⟩
    replace HLay := Lib.hid (HLay.out.below hb)
    clear hb
    have HMS := Lib.hid hms
    have HOKS := Lib.hid hoks
    have HFN := Lib.hid hfn
    clear hms hrr hoks hfn
    clear x0_0 x0_1 l0_ x1_0 z1_0 x1_1 z1_1 x1_2 z1_2 x1_3 z1_3 x1_4 z1_4 x1_5 z1_5 l1_
    have HOV := Lib.hid (show okI v from okI_of (by have := HG.out.ids v (HUV.out v (by simp)); omega) (by have := HG.out.ids v (HUV.out v (by simp)); omega))
    have hlook := HMS.out.lookup wkTy HOV.out true
    have x0_0 := (HLay.out.blk 0 rfl).cell 0
    have x0_1 := (HLay.out.blk 0 rfl).cell 1
    have l0_ := HLay.out.lt 0 rfl
    have x1_0 := (HLay.out.blk 1 rfl).cell 0
    have z1_0 := (HLay.out.blk 1 rfl).frozen 0
    have x1_1 := (HLay.out.blk 1 rfl).cell 1
    have z1_1 := (HLay.out.blk 1 rfl).frozen 1
    have x1_2 := (HLay.out.blk 1 rfl).cell 2
    have z1_2 := (HLay.out.blk 1 rfl).frozen 2
    have x1_3 := (HLay.out.blk 1 rfl).cell 3
    have z1_3 := (HLay.out.blk 1 rfl).frozen 3
    have x1_4 := (HLay.out.blk 1 rfl).cell 4
    have z1_4 := (HLay.out.blk 1 rfl).frozen 4
    have x1_5 := (HLay.out.blk 1 rfl).cell 5
    have z1_5 := (HLay.out.blk 1 rfl).frozen 5
    have l1_ := HLay.out.lt 1 rfl
    cases hlk : look ms v with
    | none =>
      rw [hlk] at hlook
      simp only [if_true] at hlook
      have HLK := Lib.hid hlk
      clear hlk
      have HBE : Hid (best t dk freeP u v = none) := Lib.hid (by rw [← HFN.out v]; unfold fnOf; rw [HLK.out]; rfl)
      gi_wp2
      have R1 := ret6' (HLay.out.blk 1 rfl) HLay.out.1 (by omega) (.int .i64 0) (.int .i64 0) (.int .i64 0) (.int .i64 0) (.int .i64 0) (.slice none 0 0)
      have R2 := R1.1.alloc (.cells #[.int .i64 0, .int .i64 0, .int .i64 0, .int .i64 0, .int .i64 0, .slice none 0 0] 111)
      have y0 := R2.cell 0
      have y1 := R2.cell 1
      have y2 := R2.cell 2
      have y3 := R2.cell 3
      have y4 := R2.cell 4
      have y5 := R2.cell 5
      refine bodyPost_ret (v := .tuple #[.agg #[.int .i64 0, .int .i64 0, .int .i64 0, .int .i64 0, .int .i64 0, .slice none 0 0], .int .i64 6]) (by simp [results, Tryd.results79, go_sem, y0, y1, y2, y3, y4, y5]) rfl ?_
      have he : wayE t u v dk = 6 := by unfold wayE; rw [if_pos HEE.out, HBE.out]; rfl
      have hr : wayR t u v dk = none := by unfold wayR; rw [if_pos HEE.out, HBE.out]
      rw [he, hr]
      exact ⟨0, zeroC, none, 0, 0, rfl, fun _ => ⟨rfl, rfl, rfl, rfl, rfl⟩, (fun q hq => by cases hq), (fun a ha => by cases ha), R1.2.1.alloc R1.2.1.size _⟩
    | some x =>
      rw [hlk] at hlook
      simp only [if_true] at hlook
      have HLK := Lib.hid hlk
      clear hlk
      have HBE : Hid (best t dk freeP u v = some (x.cost, x.links)) := Lib.hid (by rw [← HFN.out v]; unfold fnOf; rw [HLK.out]; rfl)
      have HXO := Lib.hid (HOKS.out _ (look_mem HLK.out))
      gi_wp2
      have R1 := ret6' (HLay.out.blk 1 rfl) HLay.out.1 (by omega) (.int .i64 x.to) (.int .i64 x.cost.a) (.int .i64 x.cost.b) (.int .i64 x.cost.c) (.int .i64 x.cost.d) (.slice x.A x.n x.cap)
      have R2 := R1.1.alloc (.cells #[.int .i64 x.to, .int .i64 x.cost.a, .int .i64 x.cost.b, .int .i64 x.cost.c, .int .i64 x.cost.d, .slice x.A x.n x.cap] 111)
      have HX2 := HXO.out.grownBox R1.2.2 (HLay.out.blk 1 rfl)
      have HX3 := HX2.below ((Below.refl _ _).alloc (Nat.le_refl _) (.cells #[.int .i64 x.to, .int .i64 x.cost.a, .int .i64 x.cost.b, .int .i64 x.cost.c, .int .i64 x.cost.d, .slice x.A x.n x.cap] 111))
      have y0 := R2.cell 0
      have y1 := R2.cell 1
      have y2 := R2.cell 2
      have y3 := R2.cell 3
      have y4 := R2.cell 4
      have y5 := R2.cell 5
      refine bodyPost_ret (v := .tuple #[.agg #[.int .i64 x.to, .int .i64 x.cost.a, .int .i64 x.cost.b, .int .i64 x.cost.c, .int .i64 x.cost.d, .slice x.A x.n x.cap], .int .i64 0]) (by simp [results, Tryd.results79, go_sem, y0, y1, y2, y3, y4, y5]) rfl ?_
      have he : wayE t u v dk = 0 := by unfold wayE; rw [if_pos HEE.out, HBE.out]; rfl
      have hr : wayR t u v dk = some (x.cost, x.links) := by unfold wayR; rw [if_pos HEE.out, HBE.out]
      rw [he, hr]
      exact ⟨x.to, x.cost, x.A, x.n, x.cap, rfl, (fun h => by cases h), (fun q hq => by cases hq; exact ⟨rfl, HX3.at_, HX3.short, HX3.to⟩), (fun a ha => HX3.typ a ha), R1.2.1.alloc R1.2.1.size _⟩
  · have h1 : (ee != 0) = true := by simpa using h0
    have HE0 := Lib.hid h0
    clear h0
    gi_wp2
    have R1 := ret6' (HLay.out.blk 1 rfl) HLay.out.1 (by omega) (.int .i64 0) (.int .i64 0) (.int .i64 0) (.int .i64 0) (.int .i64 0) (.slice none 0 0)
    have y0 := R1.1.cell 0
    have y1 := R1.1.cell 1
    have y2 := R1.1.cell 2
    have y3 := R1.1.cell 3
    have y4 := R1.1.cell 4
    have y5 := R1.1.cell 5
    refine bodyPost_ret (v := .tuple #[.agg #[.int .i64 0, .int .i64 0, .int .i64 0, .int .i64 0, .int .i64 0, .slice none 0 0], .int .i64 (ee)]) (by simp [results, Tryd.results79, go_sem, y0, y1, y2, y3, y4, y5]) rfl ?_
    have he : wayE t u v dk = ee := by unfold wayE; rw [HEE.out, if_neg HE0.out]
    have hr : wayR t u v dk = none := by unfold wayR; rw [HEE.out, if_neg HE0.out]
    rw [he, hr]
    exact ⟨0, zeroC, none, 0, 0, rfl, fun _ => ⟨rfl, rfl, rfl, rfl, rfl⟩, (fun q hq => by cases hq), (fun a ha => by cases ha), R1.2.1⟩

theorem way_any (A : Option Addr) (n c : Nat) (A' : Option Addr) (m d : Nat) (t : Town) (u v : Int) (dk : Bool) (w : World)
    (hn : n ≤ 1000) (hm : m ≤ 1000) (ht : TownAt w w.heap.size A n A' m t) (hL : Laid w) :
    Calls Tryd.prog 79 #[.agg #[.slice A n c, .slice A' m d], .int .i64 u, .int .i64 v, .bool dk] w (WayOut w v (wayR t u v dk) (wayE t u v dk)) :=
  callsIn_wide.1 (way_in A n c A' m d t u v dk w hn hm ht hL)
end Go.Proofs.YtahkjagjcogeiaaDoor
/- climb.Way: the way between two places. -/
namespace Go.Proofs.YtahkjagjcogeiaaDoor
open Go.RowKit Go.Shelf
set_option linter.unusedVariables false

def wayL (t : Town) (u v : Int) (dk : Bool) : List Int := match wayR t u v dk with
  | some q => q.2
  | none => []
def wayT (t : Town) (u v : Int) (dk : Bool) : Int × Int := match wayR t u v dk with
  | some q => (q.1.b, q.1.c)
  | none => (0, 0)
theorem way_bad {t : Town} {u v e : Int} {dk : Bool} (h : askE t [u, v] = e) (h0 : e ≠ 0) : wayE t u v dk = e ∧ wayL t u v dk = [] ∧ wayT t u v dk = (0, 0) := by
  unfold wayL wayT wayE wayR
  rw [h, if_neg h0, if_neg h0]
  exact ⟨rfl, rfl, rfl⟩
theorem way_none {t : Town} {u v : Int} {dk : Bool} (h : askE t [u, v] = 0) (hb : best t dk freeP u v = none) : wayE t u v dk = 6 ∧ wayL t u v dk = [] ∧ wayT t u v dk = (0, 0) := by
  unfold wayL wayT wayE wayR
  rw [if_pos h, if_pos h, hb]
  exact ⟨rfl, rfl, rfl⟩
theorem way_some {t : Town} {u v : Int} {dk : Bool} {c : Cost} {l : List Int} (h : askE t [u, v] = 0) (hb : best t dk freeP u v = some (c, l)) : wayE t u v dk = 0 ∧ wayL t u v dk = l ∧ wayT t u v dk = (c.b, c.c) := by
  unfold wayL wayT wayE wayR
  rw [if_pos h, if_pos h, hb]
  exact ⟨rfl, rfl, rfl⟩
def ListOut (w : World) (l : List Int) (e : Int) (x : Ending) (w' : World) : Prop := ∃ (A : Option Addr) (n c : Nat), x = .returned (.tuple #[.slice A n c, .int .i64 e]) ∧ IntsAt w' w'.heap.size A n l ∧ Below w.heap.size w w'
def ToilOut (w : World) (q : Int × Int) (e : Int) (x : Ending) (w' : World) : Prop := x = .returned (.tuple #[.agg #[.int .i64 q.1, .int .i64 q.2], .int .i64 e]) ∧ Below w.heap.size w w'

set_option maxRecDepth 100000 in
set_option maxHeartbeats 16000000 in
theorem wayl_in (A : Option Addr) (n c : Nat) (A' : Option Addr) (m d : Nat) (t : Town) (u v : Int) (dk : Bool) (w : World)
    (hn : n ≤ 1000) (hm : m ≤ 1000) (ht : TownAt w w.heap.size A n A' m t) (hL : Laid w) :
    CallsIn Fence.wide 9 Tryd.prog 33 #[.agg #[.slice A n c, .slice A' m d], .int .i64 u, .int .i64 v, .bool dk] w (ListOut w (wayL t u v dk) (wayE t u v dk)) := by
  have HT := Lib.hid ht
  have HL := Lib.hid hL
  have hl0 := hL.2.2.2
  clear ht hL
  refine callsIn_of_wp Tryd.func33 rfl trivial ?_ rfl
  simp only [Tryd.ntmps33, List.size_toArray, List.length_cons, List.length_nil, Nat.reduceAdd, Nat.reduceSub, Array.replicate_succ, Array.replicate_zero, List.push_toArray, List.append_toArray, List.nil_append, List.cons_append]
  gi_wp2
  have HLay := Lib.hid (Lay.one w 25 #[.slice A n c, .slice A' m d])
  generalize (w.alloc (.cells #[.slice A n c, .slice A' m d] 25)) = w0 at *
  refine ⟨trivial, (callsIn_wide.2 (way_any A n c A' m d t u v dk w0 hn hm ((HT.out.below HLay.out.1).more HLay.out.1.size) (HL.out.below HLay.out.1 hl0))).mono ?_⟩
  rintro e W1 ⟨to, co, AW, nW, cW, rfl, hno, hq, hty, hb⟩
  replace HLay := Lib.hid (HLay.out.below hb)
  clear hb
  have HQ := Lib.hid hq
  have HNO := Lib.hid hno
  clear hty hno hq
  gi_wp2
  refine bodyPost_ret (v := .tuple #[.slice AW nW cW, .int .i64 (wayE t u v dk)]) (by simp [results, Tryd.results33, go_sem]) rfl ?_
  have hb := (Below.refl W1.heap.size W1).alloc (Nat.le_refl _) (.cells #[.int .i64 to, .int .i64 co.a, .int .i64 co.b, .int .i64 co.c, .int .i64 co.d, .slice AW nW cW] 111)
  have hin : IntsAt W1 W1.heap.size AW nW (wayL t u v dk) := by
    unfold wayL
    cases hr : wayR t u v dk with
    | none => obtain ⟨_, _, rfl, rfl, rfl⟩ := HNO.out hr; exact Reads.none_
    | some q => exact (HQ.out q hr).2.1
  exact ⟨AW, nW, cW, rfl, (hin.below hb).more hb.size, HLay.out.1.alloc HLay.out.1.size _⟩

theorem wayl_any (A : Option Addr) (n c : Nat) (A' : Option Addr) (m d : Nat) (t : Town) (u v : Int) (dk : Bool) (w : World)
    (hn : n ≤ 1000) (hm : m ≤ 1000) (ht : TownAt w w.heap.size A n A' m t) (hL : Laid w) :
    Calls Tryd.prog 33 #[.agg #[.slice A n c, .slice A' m d], .int .i64 u, .int .i64 v, .bool dk] w (ListOut w (wayL t u v dk) (wayE t u v dk)) :=
  callsIn_wide.1 (wayl_in A n c A' m d t u v dk w hn hm ht hL)
end Go.Proofs.YtahkjagjcogeiaaDoor
/- Towns without some links: the plain law; the closures that say which. -/
namespace Go.Proofs.YtahkjagjcogeiaaDoor
open Go.RowKit
set_option linter.unusedVariables false

theorem linksB_filter {t t' : Town} {q : Link → Bool} (hp : t'.places = t.places) : ∀ {l : List Link} {last last' : Int}, last' ≤ last → linksB t last l = true → linksB t' last' (l.filter q) = true
  | [], _, _, _, _ => rfl
  | x :: l, last, last', hl, h => by
    simp only [linksB, Bool.and_eq_true] at h
    obtain ⟨h0, hr⟩ := h
    have hlt : last < x.id ∧ x.id ≤ 9999 := by
      simp only [linkB, Bool.and_eq_true] at h0
      have := inB1_spec h0.1.1.1.1
      omega
    have hx : linkB t' last' x = true := by
      simp only [linkB, Bool.and_eq_true] at h0 ⊢
      obtain ⟨⟨⟨⟨a, b⟩, c⟩, d⟩, e⟩ := h0
      refine ⟨⟨⟨⟨?_, b⟩, c⟩, d⟩, ?_⟩
      · simp [inB]
        omega
      · unfold hasB at e ⊢
        rw [hp]
        exact e
    by_cases hq : q x = true
    · rw [List.filter_cons_of_pos hq]
      simp only [linksB, Bool.and_eq_true]
      exact ⟨hx, linksB_filter hp (Int.le_refl _) hr⟩
    · rw [List.filter_cons_of_neg hq]
      exact linksB_filter hp (by omega) hr
theorem townB_less {t : Town} {p : Link → Bool} (h : townB t = true) : townB (lessT t p) = true := by
  unfold townB sizeB at h ⊢
  simp only [Bool.and_eq_true, decide_eq_true_eq] at h ⊢
  obtain ⟨⟨⟨h1, h2⟩, h3⟩, h4⟩ := h
  refine ⟨⟨⟨h1, ?_⟩, h3⟩, linksB_filter (t := t) (t' := lessT t p) (q := fun x => !p x) rfl (Int.le_refl _) h4⟩
  exact Nat.le_trans (List.length_filter_le _ _) h2
theorem askE_less {t : Town} {p : Link → Bool} {l : List Int} (h : askE t l = 0) : askE (lessT t p) l = 0 := by
  obtain ⟨h1, h2⟩ := askE_zero h
  unfold askE
  rw [if_pos (townB_less h1), if_pos (show hasB (lessT t p) l = true from h2)]
/-- Whether no walk is left without some links. -/
def goneB (t : Town) (u v : Int) (dk : Bool) (p : Link → Bool) : Bool := !(best (lessT t p) dk freeP u v).isSome
theorem wayE_less {t : Town} {u v : Int} {dk : Bool} {p : Link → Bool} (h : askE t [u, v] = 0) : wayE (lessT t p) u v dk = if goneB t u v dk p then 6 else 0 := by
  unfold wayE goneB
  rw [if_pos (askE_less h)]
  cases (best (lessT t p) dk freeP u v).isSome <;> rfl
def ofOnly (id : Int) (x : Link) : Bool := x.id == id
def ofGate (id : Int) (x : Link) : Bool := x.fr == id || x.to == id
def neededL (t : Town) (u v : Int) (dk : Bool) (l : List Int) (of : Int → Link → Bool) : List Int := l.filter fun id => goneB t u v dk (of id)
def neededR (t : Town) (u v : Int) (dk : Bool) (l : List Int) (of : Int → Link → Bool) : List Int := if wayE t u v dk = 0 then neededL t u v dk l of else []
theorem needed_succ {t : Town} {u v x : Int} {dk : Bool} {l : List Int} {of : Int → Link → Bool} {k : Nat} (hx : l[k]? = some x) (hb : goneB t u v dk (of x) = true) : neededL t u v dk (l.take (k + 1)) of = neededL t u v dk (l.take k) of ++ [x] := by
  obtain ⟨hk, rfl⟩ := List.getElem?_eq_some_iff.1 hx
  unfold neededL
  rw [List.take_succ_eq_append_getElem hk, List.filter_append]
  simp [hb]
theorem needed_skip {t : Town} {u v x : Int} {dk : Bool} {l : List Int} {of : Int → Link → Bool} {k : Nat} (hx : l[k]? = some x) (hb : goneB t u v dk (of x) = false) : neededL t u v dk (l.take (k + 1)) of = neededL t u v dk (l.take k) of := by
  obtain ⟨hk, rfl⟩ := List.getElem?_eq_some_iff.1 hx
  unfold neededL
  rw [List.take_succ_eq_append_getElem hk, List.filter_append]
  simp [hb]
theorem needed_len (t : Town) (u v : Int) (dk : Bool) (l : List Int) (of : Int → Link → Bool) : (neededL t u v dk l of).length ≤ l.length := List.length_filter_le _ _
theorem wayE_zero {t : Town} {u v : Int} {dk : Bool} (h : wayE t u v dk = 0) : askE t [u, v] = 0 := by
  unfold wayE at h
  split at h
  · assumption
  · assumption

/-- A function from Ids to conditions on links. -/
structure OfAt (F F2 : FuncId) (of : Int → Link → Bool) : Prop where
  enters : ∀ args W, (callFunc F args).run Tryd.prog W = .ok (.enter F args) W
  enters2 : ∀ args W, (callFunc F2 args).run Tryd.prog W = .ok (.enter F2 args) W
  calls : ∀ id W, Calls Tryd.prog F #[.int .i64 id] W fun e w' => ∃ C2, e = .returned (.func (.func F2) #[] C2) ∧ PredL w' w'.heap.size F2 C2 (of id) ∧ Below W.heap.size W w'

theorem only1_any (id : Int) (g : Nat) (x : Link) (w : World) (hg : Blk w g 3 #[.int .i64 id]) :
    Calls Tryd.prog 125 (#[.agg #[.int .i64 x.id, .int .i64 x.fr, .int .i64 x.to, .int .i64 x.steps, .int .i64 x.paces]] ++ #[.pointer (some ⟨g, 0, none⟩)]) w fun e w' => e = .returned (.bool (ofOnly id x)) ∧ Below w.heap.size w w' := by
  have h0 := hg.cell 0
  have hl := hg.lt
  go_enter Tryd.func125, Tryd.ntmps125
  go_wp2_with fail
  go_ret
  exact ⟨rfl, (Below.refl _ _).alloc (Nat.le_refl _) _⟩
theorem gate21_any (id : Int) (g : Nat) (x : Link) (w : World) (hg : Blk w g 3 #[.int .i64 id]) :
    Calls Tryd.prog 77 (#[.agg #[.int .i64 x.id, .int .i64 x.fr, .int .i64 x.to, .int .i64 x.steps, .int .i64 x.paces]] ++ #[.pointer (some ⟨g, 0, none⟩)]) w fun e w' => e = .returned (.bool (ofGate id x)) ∧ Below w.heap.size w w' := by
  have h0 := hg.cell 0
  have hl := hg.lt
  cases h1 : (x.fr == id) with
  | true =>
    have he : ofGate id x = true := by unfold ofGate; rw [h1]; rfl
    go_enter Tryd.func77, Tryd.ntmps77
    go_wp2_with fail
    go_ret
    exact ⟨ret_bool he.symm, (Below.refl _ _).alloc (Nat.le_refl _) _⟩
  | false =>
    have he : ofGate id x = (x.to == id) := by unfold ofGate; rw [h1]; rfl
    go_enter Tryd.func77, Tryd.ntmps77
    go_wp2_with fail
    go_ret
    exact ⟨ret_bool he.symm, (Below.refl _ _).alloc (Nat.le_refl _) _⟩
theorem only_of : OfAt 72 125 ofOnly where
  enters := enters_of Tryd.func72 (by kernel_rfl) rfl
  enters2 := enters_of Tryd.func125 (by kernel_rfl) rfl
  calls := fun id W => by
    have hb := Blk.new W 3 #[.int .i64 id]
    go_enter Tryd.func72, Tryd.ntmps72
    go_wp2_with fail
    go_ret
    exact ⟨_, rfl, ⟨enters_of Tryd.func125 (by kernel_rfl) rfl, fun x W2 hW => only1_any id _ x W2 (hb.below hW hb.lt)⟩, (Below.refl _ _).alloc (Nat.le_refl _) _⟩
theorem gate_of : OfAt 76 77 ofGate where
  enters := enters_of Tryd.func76 (by kernel_rfl) rfl
  enters2 := enters_of Tryd.func77 (by kernel_rfl) rfl
  calls := fun id W => by
    have hb := Blk.new W 3 #[.int .i64 id]
    go_enter Tryd.func76, Tryd.ntmps76
    go_wp2_with fail
    go_ret
    exact ⟨_, rfl, ⟨enters_of Tryd.func77 (by kernel_rfl) rfl, fun x W2 hW => gate21_any id _ x W2 (hb.below hW hb.lt)⟩, (Below.refl _ _).alloc (Nat.le_refl _) _⟩
end Go.Proofs.YtahkjagjcogeiaaDoor
/- slices.Sort at ints, twelve or fewer: what lies there, sorted. (The walk of the insertion sort: the library's own worked walk, turned to this program.) -/
namespace Go.Proofs.YtahkjagjcogeiaaDoor
open Go.RowKit Go.Sort
set_option linter.unusedVariables false

theorem less_int (x y : Int) (w : World) : Calls Tryd.prog 151 #[.int .i64 x, .int .i64 y] w fun e w' => e = .returned (.bool (Sort.ltInt x y)) ∧ w' = w := by
  go_enter Tryd.func151, Tryd.ntmps151
  go_wp2_with (go_at_call 122; refine (isNaN_int _ _).mono ?_; rintro e w' ⟨rfl, rfl⟩)
  go_ret
  exact ⟨rfl, rfl⟩

set_option maxHeartbeats 4000000 in
theorem insertion_int (blk off cap a b : Nat) (d : Array Int) (w : World) (hH : Holds (Value.int .i64) w blk off d) (hab : a ≤ b) (hb : b ≤ d.size) (hsz : d.size < 4611686018427387904) :
    Calls Tryd.prog 145 #[.slice (some ⟨blk, off, none⟩) d.size cap, .int .i64 a, .int .i64 b] w fun e w' =>
      e = .returned (.tuple #[]) ∧ ∃ n, w' = putRow (Value.int .i64) (Sort.ahead w n) blk off (Sort.insertionSort ltInt d a b) := by
  go_enter Tryd.func145, Tryd.ntmps145
  go_wp2
  go_loopw [6] (fun vi wr => ∃ (i n : Nat) (dk : Array Int), vi = .int .i64 i ∧ a < i ∧ i ≤ b + 1 ∧ dk.size = d.size ∧ wr = putRow (Value.int .i64) (Sort.ahead w n) blk off dk ∧
      insOuter ltInt a b i dk = insOuter ltInt a b (a + 1) d) (fun vi _ => b + 1 - (intOf vi).toNat)
  case atStart => exact ⟨a + 1, 0, d, by go_num, by omega, by omega, rfl, (putRow_self _ _ _ _ _ hH).symm, rfl⟩
  case round =>
    obtain ⟨i, n, dk, rfl, hai, hib, hsk, hwr, hO⟩ := hrel
    have HO : Hid (insOuter ltInt a b i dk = insOuter ltInt a b (a + 1) d) := hO
    clear hO
    go_wp2
    · go_loopw [7] (fun vj wr2 => ∃ (j m : Nat) (dj : Array Int), vj = .int .i64 j ∧ a ≤ j ∧ j ≤ i ∧ dj.size = d.size ∧ wr2 = putRow (Value.int .i64) (Sort.ahead w m) blk off dj ∧
          insInner ltInt a j dj = insInner ltInt a i dk) (fun vj _ => (intOf vj).toNat)
      case atStart => exact ⟨i, n, dk, rfl, by omega, Nat.le_refl _, hsk, rfl, rfl⟩
      case round =>
        obtain ⟨j, m, dj, rfl, haj, hji, hsj, hw2, hI⟩ := hrel
        have hlt : i < b := by assumption
        obtain ⟨G, hG⟩ : ∃ G : Nat → Int, ∀ t, G t = dj[t]! := ⟨fun t => dj[t]!, fun _ => rfl⟩
        have hcw : ∀ t, t < d.size → wr.cell? ⟨blk, off + t, none⟩ = some (.int .i64 (G t)) := fun t ht => by
          rw [hw2, hG]; exact cell?_putRow _ _ _ _ d dj (holds_ahead _ _ _ _ _ _ hH) hsj t (by omega)
        have hfw : ∀ t, t < d.size → wr.frozen? ⟨blk, off + t, none⟩ = false := fun t ht => by
          rw [hw2, frozen?_putRow]; exact ((holds_ahead _ _ m _ _ _ hH) t ht).2
        have HW : Hid (wr = putRow (Value.int .i64) (Sort.ahead w m) blk off dj) := hw2
        have HG : Hid (∀ t, G t = dj[t]!) := hG
        have HI : Hid (insInner ltInt a j dj = insInner ltInt a i dk) := hI
        clear hw2 hG hI hH
        have out : (j ≤ a ∨ ltInt dj[j]! dj[j - 1]! = false) → ∀ q, ∃ i' n' dk', Value.int .i64 ((i : Int) + 1) = .int .i64 (i' : Nat) ∧ a < i' ∧ i' ≤ b + 1 ∧ dk'.size = d.size ∧
            wr.drewN q = putRow (Value.int .i64) (Sort.ahead w n') blk off dk' ∧ insOuter ltInt a b i' dk' = insOuter ltInt a b (a + 1) d := fun hs q =>
          ⟨i + 1, m + q, dj, by go_num, by omega, by omega, hsj, by rw [HW.out]; exact putRow_drewN _ _ _ _ _ _ _,
            by rw [← HO.out, insOuter_go _ _ _ _ _ hlt, ← HI.out, insInner_stop _ _ _ _ hs]⟩
        have OUT : Hid _ := out
        clear out
        go_wp2
        by_cases hja : a < j
        · go_quiet (first | (go_at_call 151; refine Calls.quiet_of_same (less_int _ _ _)))
          go_wp2
          · have hl : ltInt (G j) (G (j - 1)) = true := by assumption
            go_region
            all_goals go_wp2
            go_roundw
            case rel =>
              refine ⟨j - 1, m + (nq + 1), swp dj j (j - 1), by congr 1; omega, by omega, by omega, by rw [size_swp]; exact hsj, ?_, ?_⟩
              · rw [HW.out, HG.out, HG.out]
                exact swap_worldA _ w m (nq + 1) blk off dj j (j - 1) (by omega) (by omega)
              · rw [← HI.out, insInner_go ltInt a j dj hja (by rw [← HG.out, ← HG.out]; exact hl)]
            case measure => simp [intOf]; omega
          · have hl : ltInt (G j) (G (j - 1)) = false := by assumption
            go_roundw
            case rel => exact OUT.out (Or.inr (by rw [← HG.out, ← HG.out]; exact hl)) nq
            case measure => simp [intOf]; omega
        · go_quiet (first | (go_at_call 151; refine Calls.quiet_of_same (less_int _ _ _)))
          go_wp2
          go_roundw
          case rel => exact OUT.out (Or.inl (by omega)) nq
          case measure => simp [intOf]; omega
    · have hge : ¬ i < b := by assumption
      go_end0
      exact ⟨rfl, n, by unfold Sort.insertionSort; rw [← HO.out, insOuter_stop _ _ _ _ _ hge]⟩

theorem insertion_nil (p : Option Addr) (cap : Nat) (w : World) :
    Calls Tryd.prog 145 #[.slice p 0 cap, .int .i64 0, .int .i64 0] w fun e w' => e = .returned (.tuple #[]) ∧ w' = w := by
  go_enter Tryd.func145, Tryd.ntmps145
  go_wp2
  refine wp_loop_rounds 1 ?_
  rw [rounds_succ]
  go_wp2
  go_end0
  exact ⟨rfl, rfl⟩

set_option maxRecDepth 1000000 in
theorem len64_small (x : Int) (h0 : 0 ≤ x) (hx : x ≤ 12) (w : World) : Calls Tryd.prog 155 #[.int .u64 x] w fun e w' => (∃ k, e = .returned (.int .i64 k)) ∧ w' = w := by
  have h : x = 0 ∨ x = 1 ∨ x = 2 ∨ x = 3 ∨ x = 4 ∨ x = 5 ∨ x = 6 ∨ x = 7 ∨ x = 8 ∨ x = 9 ∨ x = 10 ∨ x = 11 ∨ x = 12 := by omega
  clear h0 hx
  rcases h with rfl | rfl | rfl | rfl | rfl | rfl | rfl | rfl | rfl | rfl | rfl | rfl | rfl
  all_goals
    go_enter Tryd.func155, Tryd.ntmps155
    go_wp2
    go_ret
    exact ⟨⟨_, rfl⟩, rfl⟩

theorem len_small (x : Int) (h0 : 0 ≤ x) (hx : x ≤ 12) (w : World) : Calls Tryd.prog 130 #[.int .u64 x] w fun e w' => (∃ k, e = .returned (.int .i64 k)) ∧ w' = w := by
  go_enter Tryd.func130, Tryd.ntmps130
  go_wp2_with (go_at_call 155; refine (len64_small _ h0 hx _).mono ?_; rintro e w' ⟨⟨k, rfl⟩, rfl⟩)
  go_ret
  exact ⟨⟨k, rfl⟩, rfl⟩

set_option maxHeartbeats 2000000 in
set_option maxRecDepth 100000 in
theorem pdq_small (R : Ending → World → Prop) (p : Option Addr) (n cap : Nat) (k : Int) (w : World) (hn : n ≤ 12) (h : Calls Tryd.prog 145 #[.slice p n cap, .int .i64 0, .int .i64 n] w R) (hR : ∀ e w', R e w' → e = .returned (.tuple #[])) :
    Calls Tryd.prog 129 #[.slice p n cap, .int .i64 0, .int .i64 n, .int .i64 k] w R := by
  go_enter Tryd.func129, Tryd.ntmps129
  go_wp2
  refine wp_loop_rounds 1 ?_
  rw [rounds_succ]
  have hn' : (n : Int) ≤ 12 := by omega
  go_wp2_with (first | (go_at_call 145; refine h.mono ?_; rintro e w' hr; obtain rfl := hR _ _ hr))
  refine bodyPost_ret (results_none rfl _ _ _) rfl ?_
  exact hr

set_option maxHeartbeats 2000000 in
theorem sort1 (R : Ending → World → Prop) (p : Option Addr) (n cap : Nat) (w : World) (hn : n ≤ 12) (h : Calls Tryd.prog 145 #[.slice p n cap, .int .i64 0, .int .i64 n] w R) (hR : ∀ e w', R e w' → e = .returned (.tuple #[])) :
    Calls Tryd.prog 88 #[.slice p n cap] w R := by
  go_enter Tryd.func88, Tryd.ntmps88
  go_wp2_with (first
    | (go_at_call 130; refine (len_small _ (by omega) (by omega) _).mono ?_; rintro e w' ⟨⟨k, rfl⟩, rfl⟩)
    | (go_at_call 129; refine (pdq_small R p n cap _ _ hn h hR).mono ?_; rintro e w' hr; obtain rfl := hR _ _ hr))
  go_end0
  exact hr

abbrev upI (l : List Int) : List Int := l.mergeSort fun x y => decide (x ≤ y)
theorem upI_perm (l : List Int) : (upI l).Perm l := List.mergeSort_perm _ _
theorem upI_sorted (l : List Int) : (upI l).Pairwise (· ≤ ·) := by
  have h := List.pairwise_mergeSort (le := fun x y : Int => decide (x ≤ y)) (fun a b c h1 h2 => by simp at h1 h2 ⊢; omega) (fun a b => by simp; omega) l
  exact h.imp fun h => by simpa using h

theorem insertion_up (l : List Int) : (Sort.insertionSort ltInt l.toArray 0 l.length) = (upI l).toArray := by
  obtain ⟨hP, hSo⟩ := insertionSort_holds (lt := ltInt) swo_ltInt l.toArray 0 l.length (Nat.zero_le _) (by simp)
  have h := sorted_unique_holds swo_ltInt (fun x y h1 h2 => by simp only [ltInt, decide_eq_false_iff_not] at h1 h2; omega) l.toArray _ (by simpa using hP) (by simpa using hSo)
  have e : (fun x y : Int => !ltInt y x) = fun x y => decide (x ≤ y) := by
    funext x y
    simp only [ltInt]
    by_cases hxy : y < x <;> simp [hxy] <;> omega
  rw [e] at h
  apply Array.ext'
  simpa using h

theorem sort_int (base : Nat) (A : Option Addr) (n c : Nat) (l : List Int) (w : World) (hO : Own w base 3 1 A n c (l.map (Value.int .i64))) (hn : n ≤ 12) :
    Calls Tryd.prog 88 #[.slice A n c] w fun e w' => e = .returned (.tuple #[]) ∧ Own w' base 3 1 A n c ((upI l).map (Value.int .i64)) ∧ w.grownBy w' (A.map (·.block)) := by
  have hl : l.length = n := by have := hO.len; simpa using this
  rcases hO.form with ⟨rfl, rfl, rfl, hxs⟩ | ⟨g, cur, rfl, hbg, hblk, hnc, hcm, hsz, htake, _⟩
  · obtain rfl : l = [] := List.length_eq_zero_iff.1 hl
    refine (sort1 (fun e w' => e = .returned (.tuple #[]) ∧ w' = w) none 0 0 w (by omega) (insertion_nil none 0 w) (fun e w' h => h.1)).mono ?_
    rintro e w' ⟨rfl, rfl⟩
    exact ⟨rfl, by simpa [upI] using Own.none_ _ _ _ _, grown_refl _ _⟩
  · have hat : ∀ j, j < l.length → cur[j]? = some (.int .i64 l[j]!) := by
      intro j hj
      have h1 : (cur.toList.take (n * 1))[j]? = (l.map (Value.int .i64))[j]? := by rw [htake]
      rw [List.getElem?_take_of_lt (by omega), Array.getElem?_toList] at h1
      rw [h1]
      simp [hj]
    have hH : Holds (Value.int .i64) w g 0 l.toArray := by
      intro j hj
      have hj' : j < l.length := by simpa using hj
      refine ⟨?_, hblk.frozen _⟩
      rw [Nat.zero_add, hblk.cell, hat j hj']
      simp [hj']
    have hw := insertion_int g 0 c 0 l.length l.toArray w hH (Nat.zero_le _) (by simp) (by simp; omega)
    have hs : l.toArray.size = n := by simpa using hl
    rw [insertion_up, hs, hl] at hw
    refine (sort1 _ (some ⟨g, 0, none⟩) n c w hn hw (fun e w' h => h.1)).mono ?_
    rintro e w' ⟨rfl, q, rfl⟩
    have hlu : (upI l).length = n := by rw [(upI_perm l).length_eq]; exact hl
    have hb2 : Blk (putRow (Value.int .i64) (Sort.ahead w q) g 0 (upI l).toArray) g 3 (putCells (Value.int .i64) 0 (upI l).toArray cur) := by
      have h0 : w.heap[g]? = some (.cells cur 3 (0, 0)) := hblk
      show (putRow (Value.int .i64) (Sort.ahead w q) g 0 (upI l).toArray).heap[g]? = _
      simp [putRow, mapBlock, Sort.ahead, Array.getElem?_modify, h0, onCells]
    refine ⟨rfl, Own.mk_ hbg hb2 hnc hcm (by simpa [putCells] using hsz) (by simpa using hlu) ?_, ⟨rfl, rfl, rfl, by simp [putRow, mapBlock, Sort.ahead], fun k hk hne => ?_⟩⟩
    · intro k hk
      have h1 := take_putCellsI cur (upI l) (by rw [hlu]; omega)
      have h2 : ((putCells (Value.int .i64) 0 (upI l).toArray cur).toList.take (upI l).length)[k]? = ((upI l).map (Value.int .i64))[k]? := by rw [h1]
      rwa [List.getElem?_take_of_lt (by omega), Array.getElem?_toList] at h2
    · have : g ≠ k := fun e => hne (by rw [← e]; rfl)
      simp [putRow, mapBlock, Sort.ahead, Array.getElem?_modify, this]
end Go.Proofs.YtahkjagjcogeiaaDoor
/- climb.Reach: all places to which a walk leads. -/
namespace Go.Proofs.YtahkjagjcogeiaaDoor
open Go.RowKit Go.Shelf
set_option linter.unusedVariables false

def reachL (t : Town) (u : Int) (dk : Bool) : List Int := t.places.filter fun v => (best t dk freeP u v).isSome
def reachR (t : Town) (u : Int) (dk : Bool) : List Int := if askE t [u] = 0 then reachL t u dk else []
theorem reach_keys {t : Town} {dk : Bool} {u : Int} {ms : List (Int × Wk)} (hg : GoodT t) (hu : u ∈ t.places) (hn : (ms.map Prod.fst).Nodup) (hf : ∀ v, fnOf ms v = best t dk freeP u v) : (ms.map Prod.fst).Perm (reachL t u dk) := by
  unfold reachL
  rw [List.perm_ext_iff_of_nodup hn (hg.nodup.filter _)]
  intro v
  rw [List.mem_filter]
  constructor
  · intro hv
    obtain ⟨⟨k, x⟩, hm, rfl⟩ := List.mem_map.1 hv
    have h3 := fnOf_mem hn hm
    have h4 := hf k
    rw [h3] at h4
    have hF := best_first hg.fine freeP_fair dk u k
    rw [← h4] at hF
    refine ⟨?_, by simp only; rw [← h4]; rfl⟩
    rcases hF.1.ends hg.fine with ⟨h5, _⟩ | ⟨_, h5⟩
    · simp only; rw [← h5]; exact hu
    · exact h5
  · rintro ⟨_, h3⟩
    obtain ⟨⟨c, l⟩, h4⟩ := Option.isSome_iff_exists.1 h3
    obtain ⟨x, hx, _⟩ := fnOf_some ((hf v).trans h4)
    exact List.mem_map.2 ⟨(v, x), hx, rfl⟩
theorem reach_up {t : Town} {dk : Bool} {u : Int} {ms pre : List (Int × Wk)} (hg : GoodT t) (hu : u ∈ t.places) (hn : (ms.map Prod.fst).Nodup) (hf : ∀ v, fnOf ms v = best t dk freeP u v) (hp : pre.Perm ms) : upI (pre.map Prod.fst) = reachL t u dk := by
  have h1 : (upI (pre.map Prod.fst)).Perm (ms.map Prod.fst) := (upI_perm _).trans (hp.map _)
  refine (h1.trans (reach_keys hg hu hn hf)).eq_of_pairwise (le := (· ≤ ·)) (fun a b _ _ h h' => by omega) (upI_sorted _) ?_
  exact (hg.up.filter _).imp (fun h => by omega)
theorem reach_len {t : Town} {dk : Bool} {u : Int} {ms pre : List (Int × Wk)} (hg : GoodT t) (hu : u ∈ t.places) (hn : (ms.map Prod.fst).Nodup) (hf : ∀ v, fnOf ms v = best t dk freeP u v) (hp : pre.Perm ms) : pre.length ≤ 9 := by
  have h1 := ((hp.map Prod.fst).trans (reach_keys hg hu hn hf)).length_eq
  have h2 : (reachL t u dk).length ≤ t.places.length := List.length_filter_le _ _
  have h3 := hg.fine.size
  simp only [List.length_map] at h1
  omega
theorem own_ne_map {w : World} {base size n c it r : Nat} {e : TypeId} {B : Option Addr} {xs : List Value} {ms left : List (Int × Wk)} (hO : Own w base e size B n c xs) (hI : IterIs (Value.int .i64) Wk.val okI w it r ms left) : some r ≠ B.map (·.block) ∧ some it ≠ B.map (·.block) := by
  rcases hO.form with ⟨rfl, _⟩ | ⟨g, cur, rfl, _, hb, _⟩
  · exact ⟨by simp, by simp⟩
  · obtain ⟨es, clock, since, seen, c0, h1, _, _, _, h5, _⟩ := hI
    have h2 : w.heap[g]? = some (.cells cur e (0, 0)) := hb
    constructor
    · intro h
      simp at h
      subst h
      rw [h1] at h2
      cases h2
    · intro h
      simp at h
      subst h
      rw [h5] at h2
      cases h2

set_option maxRecDepth 100000 in
set_option maxHeartbeats 16000000 in
theorem reach_in (A : Option Addr) (n c : Nat) (A' : Option Addr) (m d : Nat) (t : Town) (u : Int) (dk : Bool) (w : World)
    (hn : n ≤ 1000) (hm : m ≤ 1000) (ht : TownAt w w.heap.size A n A' m t) (hL : Laid w) :
    CallsIn Fence.wide 9 Tryd.prog 37 #[.agg #[.slice A n c, .slice A' m d], .int .i64 u, .bool dk] w (ListOut w (reachR t u dk) (askE t [u])) := by
  have HT := Lib.hid ht
  have HL := Lib.hid hL
  have hl0 := hL.2.2.2
  clear ht hL
  refine callsIn_of_wp Tryd.func37 rfl trivial ?_ rfl
  simp only [Tryd.ntmps37, List.size_toArray, List.length_cons, List.length_nil, Nat.reduceAdd, Nat.reduceSub, Array.replicate_succ, Array.replicate_zero, List.push_toArray, List.append_toArray, List.nil_append, List.cons_append]
  gi_wp2
  have HLay := Lib.hid (Lay.two w 25 #[.slice A n c, .slice A' m d] 3 #[.int .i64 u])
  generalize ((w.alloc (.cells #[.slice A n c, .slice A' m d] 25)).alloc (.cells #[.int .i64 u] 3)) = w0 at *
  have HUV0 := Lib.hid (show IntsAt w0 w0.heap.size (some ⟨w.heap.size + 1, 0, none⟩) 1 [u] from one_int (HLay.out.blk 1 rfl).lt ((HLay.out.blk 1 rfl).cell 0))
  refine ⟨trivial, (callsIn_wide.2 (asked_any A n c A' m d t (some ⟨w.heap.size + 1, 0, none⟩) 1 1 [u] w0 (by unfold maxLen; omega) (by unfold maxLen; omega) (by decide) ((HT.out.below HLay.out.1).more HLay.out.1.size) HUV0.out (HL.out.below HLay.out.1 hl0))).mono ?_⟩
  rintro e W1 ⟨rfl, hb⟩
  replace HLay := Lib.hid (HLay.out.below hb)
  clear hb
  obtain ⟨ee, hee⟩ : ∃ ee, askE t [u] = ee := ⟨_, rfl⟩
  rw [hee]
  have HEE := Lib.hid hee
  clear hee
  have x0_0 := (HLay.out.blk 0 rfl).cell 0
  have x0_1 := (HLay.out.blk 0 rfl).cell 1
  have l0_ := HLay.out.lt 0 rfl
  by_cases h0 : ee = 0
  · subst h0
    obtain ⟨htb, hhas⟩ := askE_zero HEE.out
    have HG := Lib.hid (goodT htb)
    have HUV := Lib.hid (hasB_mem hhas u (by simp))
    have hm20 : m ≤ 20 := by have := HG.out.links; have := HT.out.links.len; omega
    clear htb hhas
    gi_wp2
    clear x0_0 x0_1 l0_
    refine ⟨trivial, (callsIn_wide.2 (callsIn_wide.1 (all_in A n c A' m d dk _ _ freeP t u W1 hm20 ((HT.out.links.below HLay.out.1).more HLay.out.1.size) (free_price W1) HG.out.fine freeP_fair HUV.out HG.out.ids))).mono ?_⟩
    rintro e W2 ⟨r, ms, rfl, hms, hrr, hoks, hfn, hb⟩
    replace HLay := Lib.hid (HLay.out.below hb)
    clear hb
    have HMS := Lib.hid hms
    have HND := Lib.hid (MapIs.nodup wkTy hms)
    have HFN := Lib.hid hfn
    clear hms hrr hoks hfn
    obtain ⟨w1, hr1, hi1, hg1, hs1⟩ := MapIs.range (P := Tryd.prog) (t := 113) Tryd.underlying113 HMS.out
    have HI := Lib.hid hi1
    have HB1 := Lib.hid (HLay.out.1.grown hg1 HLay.out.1.size (fun j hj => by cases hj))
    have HML := Lib.hid (reach_len HG.out HUV.out HND.out HFN.out (List.Perm.refl ms))
    clear hi1 hg1 hs1
    gi_wp2
    clear hr1
    gi_loopw [9] (fun v9 wr => ∃ (left pre : List (Int × Wk)) (B : Option Addr) (q : Nat), v9 = .slice B pre.length q ∧ Hid (IterIs (Value.int .i64) Wk.val okI wr W2.heap.size r ms left ∧ (pre ++ left).Perm ms ∧ (∀ p ∈ left, p ∈ ms) ∧ Own wr w.heap.size 3 1 B pre.length q ((pre.map Prod.fst).map (Value.int .i64)) ∧ Below w.heap.size w wr))
      (fun _ wr => iterLeft wr W2.heap.size)
    case atStart => exact ⟨ms, [], none, 0, rfl, Lib.hid ⟨HI.out, by simp, fun p hp => hp, Own.none_ _ _ _ _, HB1.out⟩⟩
    case round =>
      obtain ⟨left, pre, B, q, rfl, HS⟩ := hrel
      rcases HS.out.1.next (P := Tryd.prog) 0 with ⟨hl, hr⟩ | ⟨i, p, w', hp, hr, hi2, hg2, hs2, he2⟩
      · gi_wp2
        clear hr
        subst hl
        have HPP := Lib.hid (show pre.Perm ms by simpa using HS.out.2.1)
        have hpl : pre.length ≤ 9 := reach_len HG.out HUV.out HND.out HFN.out HPP.out
        refine ⟨trivial, (callsIn_wide.2 (sort_int w.heap.size B pre.length q (pre.map Prod.fst) _ HS.out.2.2.2.1 (by omega))).mono ?_⟩
        rintro e w2 ⟨rfl, hO2, hg2⟩
        have HO2 := Lib.hid hO2
        have HB2 := Lib.hid (HS.out.2.2.2.2.grown hg2 HS.out.2.2.2.2.size (fun j hj => own_row HS.out.2.2.2.1 hj))
        clear hO2 hg2
        gi_wp2
        refine bodyPost_ret (v := .tuple #[.slice B pre.length q, .int .i64 0]) (by simp [results, Tryd.results37, go_sem]) rfl ?_
        have hr : reachR t u dk = upI (pre.map Prod.fst) := by unfold reachR; rw [if_pos HEE.out, reach_up HG.out HUV.out HND.out HFN.out HPP.out]
        rw [hr, HEE.out]
        exact ⟨B, pre.length, q, rfl, ints_of_own HO2.out (Nat.le_refl _), HB2.out⟩
      · obtain ⟨kk, x⟩ := p
        have HP := Lib.hid hp
        have hne := own_ne_map HS.out.2.2.2.1 HS.out.1
        have hlen : pre.length + left.length ≤ 9 := by have h1 := HS.out.2.1.length_eq; have h2 := HML.out; simp at h1; omega
        have hpos : 0 < left.length := by have := (List.getElem?_eq_some_iff.1 hp).1; omega
        have HB2 := Lib.hid (HS.out.2.2.2.2.grown hg2 HS.out.2.2.2.2.size (fun j hj => by cases hj; exact (HLay.out.1.size)))
        have HOW := Lib.hid ((HS.out.2.2.2.1.grown hg2 (fun a ha e => hne.2 (by rw [ha]; exact e.symm))).alloc (.cells #[.int .i64 kk] 3))
        have HOB : Hid (Blk (w'.alloc (.cells #[.int .i64 kk] 3)) w'.heap.size 3 #[.int .i64 kk]) := Lib.hid (Blk.new _ _ _)
        have HI2 := Lib.hid (hi2.below ((Below.refl _ _).alloc (Nat.le_refl _) (.cells #[.int .i64 kk] 3)) hi2.map.lt hi2.lt)
        have HB3 := Lib.hid (HB2.out.alloc HB2.out.size (.cells #[.int .i64 kk] 3))
        clear hi2 hg2 hs2 hp hne
        gi_wp2_with (first | (gi_at_builtin; refine wpListIn_append_any rfl (.tmp 28) (.tmp 30) (by rfl) elem_int rfl HOW.out rfl (one_int (x := kk) HOB.out.lt (HOB.out.cell 0)) (ints_one _) (by unfold maxLen; omega) (by omega) HB3.out.size ?_) | fail)
        rintro A8 c8 W8 hown hgr hA8
        have hne2 := own_ne_map HOW.out HI2.out
        have HI3 := Lib.hid (HI2.out.grown hgr hne2.1 hne2.2)
        have HB4 := Lib.hid (HB3.out.grown hgr HB3.out.size (fun j hj => own_row HOW.out hj))
        have HO8 := Lib.hid hown
        clear hown hgr hA8 hne2 hr he2
        gi_wp2
        go_roundw
        case rel =>
          refine ⟨left.eraseIdx i, pre ++ [(kk, x)], A8, c8, by simp, Lib.hid ⟨HI3.out, ?_, fun p hp => HS.out.2.2.1 p (List.mem_of_mem_eraseIdx hp), ?_, HB4.out⟩⟩
          · rw [List.append_assoc]
            exact ((perm_erase HP.out).append_left _).trans HS.out.2.1
          · have h := HO8.out
            simpa using h
        case measure =>
          have h2 := (List.getElem?_eq_some_iff.1 HP.out).1
          rw [HI3.out.left_eq, HS.out.1.left_eq, List.length_eraseIdx_of_lt h2]
          omega
  · have h1 : (ee != 0) = true := by simpa using h0
    have HE0 := Lib.hid h0
    clear h0
    gi_wp2
    clear x0_0 x0_1 l0_
    refine bodyPost_ret (v := .tuple #[.slice none 0 0, .int .i64 (ee)]) (by simp [results, Tryd.results37, go_sem]) rfl ?_
    have hr : reachR t u dk = [] := by unfold reachR; rw [if_neg (by rw [HEE.out]; exact HE0.out)]
    rw [hr, HEE.out]
    exact ⟨none, 0, 0, rfl, Reads.none_, HLay.out.1⟩

theorem reach_any (A : Option Addr) (n c : Nat) (A' : Option Addr) (m d : Nat) (t : Town) (u : Int) (dk : Bool) (w : World)
    (hn : n ≤ 1000) (hm : m ≤ 1000) (ht : TownAt w w.heap.size A n A' m t) (hL : Laid w) :
    Calls Tryd.prog 37 #[.agg #[.slice A n c, .slice A' m d], .int .i64 u, .bool dk] w (ListOut w (reachR t u dk) (askE t [u])) :=
  callsIn_wide.1 (reach_in A n c A' m d t u dk w hn hm ht hL)
end Go.Proofs.YtahkjagjcogeiaaDoor
/- climb.needed: the numbers of a list that each walk needs. -/
namespace Go.Proofs.YtahkjagjcogeiaaDoor
open Go.RowKit Go.Shelf
set_option linter.unusedVariables false

theorem PredL.more {w : World} {K K' : Nat} {F : FuncId} {C : Array Value} {p : Link → Bool} (h : PredL w K F C p) (hK : K ≤ K') : PredL w K' F C p := ⟨h.enters, fun x W hW => h.calls x W (hW.mono hK)⟩
theorem less_n {t : Town} {n : Nat} {p : Link → Bool} (h : t.places.length = n) (hn : n ≤ 1000) : (lessT t p).places.length ≤ 1000 := by
  show t.places.length ≤ 1000
  omega
theorem less_m {t : Town} {m : Nat} {p : Link → Bool} (h : t.links.length = m) (hm : m ≤ 1000) : (lessT t p).links.length ≤ 1000 := by
  have : (lessT t p).links.length ≤ t.links.length := List.length_filter_le _ _
  omega
theorem gone_of {t : Town} {u v : Int} {dk : Bool} {p : Link → Bool} (h : askE t [u, v] = 0) (he : wayE (lessT t p) u v dk = 6) : goneB t u v dk p = true := by
  rw [wayE_less h] at he
  cases hg : goneB t u v dk p
  · rw [hg] at he; simp at he
  · rfl
theorem not_gone_of {t : Town} {u v e : Int} {dk : Bool} {p : Link → Bool} (h : askE t [u, v] = 0) (he : wayE (lessT t p) u v dk = e) (h6 : e ≠ 6) : goneB t u v dk p = false := by
  rw [wayE_less h] at he
  cases hg : goneB t u v dk p
  · rfl
  · rw [hg] at he; simp at he; omega

set_option maxRecDepth 100000 in
set_option maxHeartbeats 16000000 in
theorem needed_in (A : Option Addr) (n c : Nat) (A' : Option Addr) (m d : Nat) (t : Town) (u v : Int) (dk : Bool) (A2 : Option Addr) (k2 c2 : Nat) (l : List Int) (F F2 : FuncId) (of : Int → Link → Bool) (w : World)
    (hn : n ≤ 1000) (hm : m ≤ 1000) (hk2 : k2 ≤ 1000) (ht : TownAt w w.heap.size A n A' m t) (hr : IntsAt w w.heap.size A2 k2 l) (hL : Laid w) (hof : OfAt F F2 of) :
    CallsIn Fence.wide 9 Tryd.prog 71 #[.agg #[.slice A n c, .slice A' m d], .int .i64 u, .int .i64 v, .bool dk, .slice A2 k2 c2, .func (.func F) #[] #[]] w (ListOut w (neededR t u v dk l of) (wayE t u v dk)) := by
  have HT := Lib.hid ht
  have HL := Lib.hid hL
  have HLn := Lib.hid ht.places.len
  have HLm := Lib.hid ht.links.len
  have hl0 := hL.2.2.2
  clear ht hL
  have HR := Lib.hid hr
  have HLk := Lib.hid hr.len
  have HFO := Lib.hid hof
  have hE := hof.enters
  clear hr hof
  refine callsIn_of_wp Tryd.func71 rfl trivial ?_ rfl
  simp only [Tryd.ntmps71, List.size_toArray, List.length_cons, List.length_nil, Nat.reduceAdd, Nat.reduceSub, Array.replicate_succ, Array.replicate_zero, List.push_toArray, List.append_toArray, List.nil_append, List.cons_append]
  gi_wp2
  have HLay := Lib.hid (Lay.one w 25 #[.slice A n c, .slice A' m d])
  generalize (w.alloc (.cells #[.slice A n c, .slice A' m d] 25)) = w0 at *
  refine ⟨trivial, (callsIn_wide.2 (way_any A n c A' m d t u v dk w0 hn hm ((HT.out.below HLay.out.1).more HLay.out.1.size) (HL.out.below HLay.out.1 hl0))).mono ?_⟩
  rintro e W1 ⟨to, co, AW, nW, cW, rfl, hno, hq, hty, hb⟩
  replace HLay := Lib.hid (HLay.out.below hb)
  clear hb
  clear hno hq hty
  obtain ⟨ee, hee⟩ : ∃ e, wayE t u v dk = e := ⟨_, rfl⟩
  rw [hee]
  have HEE := Lib.hid hee
  clear hee
  by_cases h0 : ee = 0
  · subst h0
    gi_wp2
    have hb : Below W1.heap.size W1 (W1.alloc (.cells #[.int .i64 to, .int .i64 co.a, .int .i64 co.b, .int .i64 co.c, .int .i64 co.d, .slice AW nW cW] 111)) := (Below.refl _ _).alloc (Nat.le_refl _) _
    have hnew := Blk.new W1 111 #[.int .i64 to, .int .i64 co.a, .int .i64 co.b, .int .i64 co.c, .int .i64 co.d, .slice AW nW cW]
    have hge := HLay.out.bel.size
    replace HLay := Lib.hid (HLay.out.below hb)
    replace HLay := Lib.hid (HLay.out.add hge hnew)
    clear hnew hge hb
    obtain ⟨G3, hG⟩ : ∃ g, W1.heap.size = g := ⟨_, rfl⟩
    rw [hG] at HLay ⊢
    generalize (W1.alloc (.cells #[.int .i64 to, .int .i64 co.a, .int .i64 co.b, .int .i64 co.c, .int .i64 co.d, .slice AW nW cW] 111)) = V2 at *
    clear hG
    replace HLay := Lib.hid (show Lay w V2 [(w.heap.size, 25, #[.slice A n c, .slice A' m d]), (G3, 111, #[.int .i64 to, .int .i64 co.a, .int .i64 co.b, .int .i64 co.c, .int .i64 co.d, .slice AW nW cW])] from HLay.out)
    gi_loopw [16, 34] (fun v16 v34 wr => ∃ (k : Nat) (B : Option Addr) (q : Nat), k ≤ k2 ∧ v34 = .int .i64 k ∧ v16 = .slice B (neededL t u v dk (l.take k) of).length q ∧ Hid (Own wr V2.heap.size 3 1 B (neededL t u v dk (l.take k) of).length q ((neededL t u v dk (l.take k) of).map (Value.int .i64)) ∧ Below V2.heap.size V2 wr))
      (fun _ vi _ => k2 - (intOf vi).toNat)
    case atStart => exact ⟨0, none, 0, by omega, rfl, rfl, Lib.hid ⟨Own.none_ _ _ _ _, Below.refl _ _⟩⟩
    case round =>
      obtain ⟨k, B, q, hk, rfl, rfl, HS⟩ := hrel
      rename World => wr
      replace HLay := Lib.hid (HLay.out.below HS.out.2)
      have HO := Lib.hid HS.out.1
      have HB := Lib.hid HS.out.2
      have hge := HS.out.2.size
      clear HS
      have hkl : (neededL t u v dk (l.take k) of).length ≤ k := by have := needed_len t u v dk (l.take k) of; rw [List.length_take] at this; omega
      by_cases hlt : k < k2
      · have hcell := (HR.out.below HLay.out.1).cell hlt
        obtain ⟨b, off, x, rfl, hbB, hx, hc⟩ := hcell
        have HX := Lib.hid hx
        clear hx
        gi_wp2
        clear hc
        refine wpIn_flow_new [([true, true, true, false, false, true, true, true], 3), ([], 4), ([], 8)] [false, false, false, false, false, false, false, false, false, true, true, true, false, false, true] [false, false, false, false, false, false, false, false, false, false, false, false, false, true] 12 (fun b => .pointer (some ⟨b, 0, none⟩)) 111 #[.int .i64 0, .int .i64 0, .int .i64 0, .int .i64 0, .int .i64 0, .slice none 0 0] (by kernel_rfl) (by kernel_rfl) (by kernel_rfl) (below_drewN (Below.refl _ _) 1) rfl rfl rfl (fun _ _ => rfl) (fun _ _ => rfl) ?_
        refine wpFlow_cons (A := ?AF1) rfl ?hq1 ?_
        case hq1 =>
          rintro σ hσ of hof hcl
          have HOF := Lib.hid hof
          have HCL := Lib.hid hcl
          clear hof hcl
          have c0_ : ∀ z, (of z).cell? ⟨w.heap.size, 0, none⟩ = some (.slice A n c) := fun z => ((HLay.out.below (HOF.out z)).blk 0 rfl).cell 0
          have c1_ : ∀ z, (of z).cell? ⟨w.heap.size, 1, none⟩ = some (.slice A' m d) := fun z => ((HLay.out.below (HOF.out z)).blk 0 rfl).cell 1
          have hfw : ∀ f, Fence.wide.fn f := fun _ => trivial
          simp only [pickB]
          repeat (gi_big_quiet_step (fail))
          refine wpQuietIn_nil ?_
          exact rfl
        intro W4 hW
        replace HLay := Lib.hid (HLay.out.below hW)
        replace HO := Lib.hid (HO.out.below hW (Nat.le_refl _))
        replace HB := Lib.hid (HB.out.trans (hW.mono HB.out.size))
        clear hW
        gi_wp2
        refine ⟨trivial, (callsIn_wide.2 (HFO.out.calls x W4)).mono ?_⟩
        rintro e W5 ⟨C2, rfl, hpl, hb⟩
        replace HLay := Lib.hid (HLay.out.below hb)
        replace HO := Lib.hid (HO.out.below hb (Nat.le_refl _))
        replace HB := Lib.hid (HB.out.trans (hb.mono HB.out.size))
        have HPL := Lib.hid hpl
        clear hpl
        gi_wp2
        refine ⟨trivial, hb, ?_⟩
        clear hb
        refine wpFlow_cons rfl Quietly.none ?_
        intro W6 hW
        replace HLay := Lib.hid (HLay.out.below hW)
        replace HO := Lib.hid (HO.out.below hW (Nat.le_refl _))
        replace HB := Lib.hid (HB.out.trans (hW.mono HB.out.size))
        replace HPL := Lib.hid ((HPL.out.below hW).more hW.size)
        clear hW
        gi_wp2
        refine ⟨trivial, (callsIn_wide.2 (less_any A n c A' m d t F2 C2 (of x) W6 hn hm ((HT.out.below HLay.out.1).more HLay.out.1.size) HPL.out)).mono ?_⟩
        rintro e W7 ⟨AP, cP, AK, cK, rfl, hP, hK, hap, hb⟩
        replace HLay := Lib.hid (HLay.out.below hb)
        replace HO := Lib.hid (HO.out.below hb (Nat.le_refl _))
        replace HB := Lib.hid (HB.out.trans (hb.mono HB.out.size))
        replace HPL := Lib.hid ((HPL.out.below hb).more hb.size)
        have HP := Lib.hid hP
        have HK := Lib.hid hK
        clear hP hK hap
        gi_wp2
        refine ⟨trivial, hb, ?_⟩
        clear hb
        clear HPL
        refine wpFlow_cons rfl Quietly.none ?_
        intro W8 hW
        replace HLay := Lib.hid (HLay.out.below hW)
        replace HO := Lib.hid (HO.out.below hW (Nat.le_refl _))
        replace HB := Lib.hid (HB.out.trans (hW.mono HB.out.size))
        replace HP := Lib.hid (HP.out.below hW (Nat.le_refl _))
        replace HK := Lib.hid (HK.out.below hW (Nat.le_refl _))
        clear hW
        gi_wp2
        refine ⟨trivial, (callsIn_wide.2 (way_any AP _ cP AK _ cK (lessT t (of x)) u v dk W8 (less_n HLn.out hn) (less_m HLm.out hm) ⟨ints_of_own HP.out (Nat.le_refl _), links_of_own HK.out (Nat.le_refl _)⟩ (HL.out.below HLay.out.1 hl0))).mono ?_⟩
        rintro e W9 ⟨to2, co2, AW2, nW2, cW2, rfl, hno, hq, hty, hb⟩
        replace HLay := Lib.hid (HLay.out.below hb)
        replace HO := Lib.hid (HO.out.below hb (Nat.le_refl _))
        replace HB := Lib.hid (HB.out.trans (hb.mono HB.out.size))
        replace HP := Lib.hid (HP.out.below hb (Nat.le_refl _))
        replace HK := Lib.hid (HK.out.below hb (Nat.le_refl _))
        clear hno hq hty
        obtain ⟨ev, hev⟩ : ∃ y, wayE (lessT t (of x)) u v dk = y := ⟨_, rfl⟩
        rw [hev]
        have HEV := Lib.hid hev
        clear hev
        gi_wp2
        refine ⟨trivial, hb, ?_⟩
        clear hb
        clear HP HK
        refine wpFlow_nil (A := ?AF2) ?hq2 ?_
        case hq2 =>
          rintro σ hσ of hof hcl
          have HOF := Lib.hid hof
          have HCL := Lib.hid hcl
          clear hof hcl
          have c0_ : ∀ z, (of z).cell? ⟨w.heap.size, 0, none⟩ = some (.slice A n c) := fun z => ((HLay.out.below (HOF.out z)).blk 0 rfl).cell 0
          have c1_ : ∀ z, (of z).cell? ⟨w.heap.size, 1, none⟩ = some (.slice A' m d) := fun z => ((HLay.out.below (HOF.out z)).blk 0 rfl).cell 1
          have hfw : ∀ f, Fence.wide.fn f := fun _ => trivial
          simp only [pickB]
          repeat (gi_big_quiet_step (fail))
          refine wpQuietIn_nil ?_
          exact rfl
        intro b2 W10 hW hbg hbb hbi
        replace HLay := Lib.hid (HLay.out.below hW)
        replace HO := Lib.hid (HO.out.below hW (Nat.le_refl _))
        replace HB := Lib.hid (HB.out.trans (hW.mono HB.out.size))
        have c0 := hbb.cell 0
        have z0 := hbb.frozen 0
        have c1 := hbb.cell 1
        have z1 := hbb.frozen 1
        have c2 := hbb.cell 2
        have z2 := hbb.frozen 2
        have c3 := hbb.cell 3
        have z3 := hbb.frozen 3
        have c4 := hbb.cell 4
        have z4 := hbb.frozen 4
        have c5 := hbb.cell 5
        have z5 := hbb.frozen 5
        have hbl := hbb.lt
        have hbv : V2.heap.size ≤ b2 := Nat.le_trans hge hbg
        simp only [pickB]
        refine wpT_cons ?_
        gi_wp2
        refine wpT_nil ?_
        clear c0 z0 c1 z1 c2 z2 c3 z3 c4 z4 c5 z5 hbl
        have R1 := ret6' hbb HB.out hbv (.int .i64 to2) (.int .i64 co2.a) (.int .i64 co2.b) (.int .i64 co2.c) (.int .i64 co2.d) (.slice AW2 nW2 cW2)
        replace HO := Lib.hid (HO.out.grown R1.2.2 (fun a ha e => by
          rcases HO.out.form with ⟨h1, _⟩ | ⟨g, cur, h1, _, h2, _⟩
          · rw [h1] at ha; cases ha
          · rw [h1] at ha
            cases ha
            have h3 : g = b2 := Option.some.inj e
            exact blk_ne h2 hbb (by decide) h3))
        replace HB := Lib.hid (R1.2.1)
        generalize ((((((W10.setCell ⟨b2, 0, none⟩ (.int .i64 to2)).setCell ⟨b2, 1, none⟩ (.int .i64 co2.a)).setCell ⟨b2, 2, none⟩ (.int .i64 co2.b)).setCell ⟨b2, 3, none⟩ (.int .i64 co2.c)).setCell ⟨b2, 4, none⟩ (.int .i64 co2.d)).setCell ⟨b2, 5, none⟩ (.slice AW2 nW2 cW2)) = W9 at *
        clear R1 hbb hbg hbi hbv hW HLay
        by_cases h6 : ev = 6
        · subst h6
          have HBO := Lib.hid (gone_of (wayE_zero HEE.out) HEV.out)
          have HOW := Lib.hid (HO.out.alloc (.cells #[.int .i64 x] 3))
          have HOB : Hid (Blk (W9.alloc (.cells #[.int .i64 x] 3)) W9.heap.size 3 #[.int .i64 x]) := Lib.hid (Blk.new _ _ _)
          have HB6 := Lib.hid (HB.out.alloc HB.out.size (.cells #[.int .i64 x] 3))
          gi_wp2_with (first | (gi_at_builtin; refine wpListIn_append_any rfl (.tmp 52) (.tmp 54) (by rfl) elem_int rfl HOW.out rfl (one_int (x := x) HOB.out.lt (HOB.out.cell 0)) (ints_one _) (by unfold maxLen; omega) (by omega) HB6.out.size ?_) | fail)
          rintro A8 c8 W8 hown hgr hA8
          have HO8 := Lib.hid hown
          have HB8 := Lib.hid (HB6.out.grown hgr HB6.out.size (fun j hj => own_row HOW.out hj))
          clear hown hgr hA8
          gi_wp2
          go_roundw
          case rel =>
            have he := needed_succ (t := t) (u := u) (v := v) (dk := dk) HX.out HBO.out
            refine ⟨k + 1, A8, c8, by omega, by go_num, by rw [he]; simp, Lib.hid ⟨?_, HB8.out⟩⟩
            rw [he]
            have h := HO8.out
            simpa using h
          case measure => simp [intOf]; omega
        · have HBO := Lib.hid (not_gone_of (wayE_zero HEE.out) HEV.out h6)
          have h6' : (ev == 6) = false := by simpa using h6
          clear h6
          gi_wp2
          go_roundw
          case rel =>
            have he := needed_skip (t := t) (u := u) (v := v) (dk := dk) HX.out HBO.out
            refine ⟨k + 1, B, q, by omega, by go_num, by rw [he], Lib.hid ⟨?_, HB.out⟩⟩
            rw [he]
            exact HO.out
          case measure => simp [intOf]; omega
      · obtain rfl : k = k2 := by omega
        gi_wp2
        have hl : neededL t u v dk (l.take k) of = neededR t u v dk l of := by unfold neededR; rw [if_pos HEE.out, List.take_of_length_le (by rw [HLk.out]; exact Nat.le_refl _)]
        rw [hl]
        have hO := HO.out
        rw [hl] at hO
        refine bodyPost_ret (v := .tuple #[.slice B (neededR t u v dk l of).length q, .int .i64 0]) (by simp [results, Tryd.results71, go_sem]) rfl ?_
        rw [HEE.out]
        exact ⟨B, _, q, rfl, ints_of_own hO (Nat.le_refl _), HLay.out.1⟩
  · have h1 : (ee != 0) = true := by simpa using h0
    have HE0 := Lib.hid h0
    clear h0
    gi_wp2
    refine bodyPost_ret (v := .tuple #[.slice none 0 0, .int .i64 ee]) (by simp [results, Tryd.results71, go_sem]) rfl ?_
    have hr : neededR t u v dk l of = [] := by unfold neededR; rw [if_neg (by rw [HEE.out]; exact HE0.out)]
    rw [hr, HEE.out]
    exact ⟨none, 0, 0, rfl, Reads.none_, HLay.out.1.alloc HLay.out.1.size _⟩

theorem needed_any (A : Option Addr) (n c : Nat) (A' : Option Addr) (m d : Nat) (t : Town) (u v : Int) (dk : Bool) (A2 : Option Addr) (k2 c2 : Nat) (l : List Int) (F F2 : FuncId) (of : Int → Link → Bool) (w : World)
    (hn : n ≤ 1000) (hm : m ≤ 1000) (hk2 : k2 ≤ 1000) (ht : TownAt w w.heap.size A n A' m t) (hr : IntsAt w w.heap.size A2 k2 l) (hL : Laid w) (hof : OfAt F F2 of) :
    Calls Tryd.prog 71 #[.agg #[.slice A n c, .slice A' m d], .int .i64 u, .int .i64 v, .bool dk, .slice A2 k2 c2, .func (.func F) #[] #[]] w (ListOut w (neededR t u v dk l of) (wayE t u v dk)) :=
  callsIn_wide.1 (needed_in A n c A' m d t u v dk A2 k2 c2 l F F2 of w hn hm hk2 ht hr hL hof)
end Go.Proofs.YtahkjagjcogeiaaDoor
/- climb.Need: the links that each walk needs. -/
namespace Go.Proofs.YtahkjagjcogeiaaDoor
open Go.RowKit Go.Shelf
set_option linter.unusedVariables false

set_option maxRecDepth 100000 in
set_option maxHeartbeats 16000000 in
theorem need_in (A : Option Addr) (n c : Nat) (A' : Option Addr) (m d : Nat) (t : Town) (u v : Int) (dk : Bool) (w : World)
    (hn : n ≤ 1000) (hm : m ≤ 1000) (ht : TownAt w w.heap.size A n A' m t) (hL : Laid w) :
    CallsIn Fence.wide 9 Tryd.prog 21 #[.agg #[.slice A n c, .slice A' m d], .int .i64 u, .int .i64 v, .bool dk] w (ListOut w (neededR t u v dk (idsOf t.links) ofOnly) (wayE t u v dk)) := by
  have HT := Lib.hid ht
  have HL := Lib.hid hL
  have HLm := Lib.hid ht.links.len
  have hl0 := hL.2.2.2
  clear ht hL
  refine callsIn_of_wp Tryd.func21 rfl trivial ?_ rfl
  simp only [Tryd.ntmps21, List.size_toArray, List.length_cons, List.length_nil, Nat.reduceAdd, Nat.reduceSub, Array.replicate_succ, Array.replicate_zero, List.push_toArray, List.append_toArray, List.nil_append, List.cons_append]
  gi_wp2
  have HLay := Lib.hid (Lay.one w 25 #[.slice A n c, .slice A' m d])
  generalize (w.alloc (.cells #[.slice A n c, .slice A' m d] 25)) = w0 at *
  refine wpIn_flow_old [([true, true, true, true, true], 5), ([], 6)] [false, false, false, false, false, false, false, true, true, true, true] [] (by kernel_rfl) (by kernel_rfl) (by kernel_rfl) (below_drewN (Below.refl _ _) 1) ?_
  refine wpFlow_cons (A := ?AF1) rfl ?hq1 ?_
  case hq1 =>
    rintro σ hσ of hof hcl
    have HOF := Lib.hid hof
    have HCL := Lib.hid hcl
    clear hof hcl
    have c0_ : ∀ z, (of z).cell? ⟨w.heap.size, 0, none⟩ = some (.slice A n c) := fun z => ((HLay.out.below (HOF.out z)).blk 0 rfl).cell 0
    have c1_ : ∀ z, (of z).cell? ⟨w.heap.size, 1, none⟩ = some (.slice A' m d) := fun z => ((HLay.out.below (HOF.out z)).blk 0 rfl).cell 1
    have hfw : ∀ f, Fence.wide.fn f := fun _ => trivial
    simp only [pickB]
    repeat (gi_big_quiet_step (fail))
    refine wpQuietIn_nil ?_
    exact rfl
  intro W1 hW
  replace HLay := Lib.hid (HLay.out.below hW)
  clear hW
  gi_wp2
  refine ⟨trivial, (callsIn_wide.2 (ids_any A n c A' m d t W1 hm ((HT.out.links.below HLay.out.1).more HLay.out.1.size))).mono ?_⟩
  rintro e W2 ⟨AI, cI, rfl, hI, hb⟩
  replace HLay := Lib.hid (HLay.out.below hb)
  have HI := Lib.hid hI
  clear hI
  gi_wp2
  refine ⟨trivial, hb, ?_⟩
  clear hb
  refine wpFlow_cons rfl Quietly.none ?_
  intro W3 hW
  replace HLay := Lib.hid (HLay.out.below hW)
  replace HI := Lib.hid (HI.out.below hW (Nat.le_refl _))
  clear hW
  gi_wp2
  refine ⟨trivial, (callsIn_wide.2 (needed_any A n c A' m d t u v dk AI _ cI (idsOf t.links) _ _ ofOnly W3 hn hm (by unfold idsOf; rw [List.length_map, HLm.out]; exact hm) ((HT.out.below HLay.out.1).more HLay.out.1.size) (ints_of_own HI.out (Nat.le_refl _)) (HL.out.below HLay.out.1 hl0) only_of)).mono ?_⟩
  rintro e W4 ⟨AN, nN, cN, rfl, hiw, hb⟩
  replace HLay := Lib.hid (HLay.out.below hb)
  replace HI := Lib.hid (HI.out.below hb (Nat.le_refl _))
  have HN := Lib.hid hiw
  clear hiw
  gi_wp2
  refine ⟨trivial, hb, ?_⟩
  clear hb
  refine wpFlow_nil (A := ?AF2) ?hq2 ?_
  case hq2 =>
    rintro σ hσ of hof hcl
    have HOF := Lib.hid hof
    have HCL := Lib.hid hcl
    clear hof hcl
    have c0_ : ∀ z, (of z).cell? ⟨w.heap.size, 0, none⟩ = some (.slice A n c) := fun z => ((HLay.out.below (HOF.out z)).blk 0 rfl).cell 0
    have c1_ : ∀ z, (of z).cell? ⟨w.heap.size, 1, none⟩ = some (.slice A' m d) := fun z => ((HLay.out.below (HOF.out z)).blk 0 rfl).cell 1
    have hfw : ∀ f, Fence.wide.fn f := fun _ => trivial
    simp only [pickB]
    repeat (gi_big_quiet_step (fail))
    refine wpQuietIn_nil ?_
    exact rfl
  intro W5 hW
  replace HLay := Lib.hid (HLay.out.below hW)
  replace HI := Lib.hid (HI.out.below hW (Nat.le_refl _))
  replace HN := Lib.hid ((HN.out.below hW).more hW.size)
  clear hW
  simp only [pickB]
  refine wpT_nil ?_
  gi_wp2
  exact bodyPost_ret (v := .tuple #[.slice AN nN cN, .int .i64 (wayE t u v dk)]) (by simp [results, Tryd.results21, go_sem]) rfl ⟨AN, nN, cN, rfl, HN.out, HLay.out.1⟩

theorem need_any (A : Option Addr) (n c : Nat) (A' : Option Addr) (m d : Nat) (t : Town) (u v : Int) (dk : Bool) (w : World)
    (hn : n ≤ 1000) (hm : m ≤ 1000) (ht : TownAt w w.heap.size A n A' m t) (hL : Laid w) :
    Calls Tryd.prog 21 #[.agg #[.slice A n c, .slice A' m d], .int .i64 u, .int .i64 v, .bool dk] w (ListOut w (neededR t u v dk (idsOf t.links) ofOnly) (wayE t u v dk)) :=
  callsIn_wide.1 (need_in A n c A' m d t u v dk w hn hm ht hL)
end Go.Proofs.YtahkjagjcogeiaaDoor
/- slices.DeleteFunc at ints. -/
namespace Go.Proofs.YtahkjagjcogeiaaDoor
open Go.RowKit
set_option linter.unusedVariables false

theorem zero_int (w : World) : (zeroValue 3).run Tryd.prog w = .ok (.int .i64 0) w := by kernel_rfl
/-- A condition on ints, by a function that makes memory above K alone. -/
structure PredI (w : World) (K : Nat) (F : FuncId) (C : Array Value) (p : Int → Bool) : Prop where
  enters : ∀ args W, (callFunc F args).run Tryd.prog W = .ok (.enter F args) W
  calls : ∀ x W, Below K w W → Calls Tryd.prog F (#[.int .i64 x] ++ C) W fun e w' => e = .returned (.bool (p x)) ∧ Below W.heap.size W w'
theorem PredI.below {w w' : World} {K : Nat} {F : FuncId} {C : Array Value} {p : Int → Bool} (h : PredI w K F C p) (hb : Below K w w') : PredI w' K F C p :=
  ⟨h.enters, fun x W hW => h.calls x W (hb.trans hW)⟩

/-- Between two rounds: i kept, j looked at. -/
structure DelI (g : Nat) (e : TypeId) (sz : Nat) (l : List Int) (p : Int → Bool) (i j : Nat) (wr : World) (cur : Array Value) : Prop where
  blk : Blk wr g e cur
  size : cur.size = sz
  num : ((l.take j).filter fun x => !p x).length = i
  kept : ∀ (k : Nat) x, ((l.take j).filter fun x => !p x)[k]? = some x → cur[k]? = some (.int .i64 x)
  left : ∀ (k : Nat) x, j ≤ k → l[k]? = some x → cur[k]? = some (.int .i64 x)
theorem DelI.later {g : Nat} {e : TypeId} {sz : Nat} {l : List Int} {p : Int → Bool} {i j : Nat} {wr w' : World} {cur : Array Value} (h : DelI g e sz l p i j wr cur) (hb : Blk w' g e cur) : DelI g e sz l p i j w' cur := ⟨hb, h.size, h.num, h.kept, h.left⟩
theorem DelI.skip {g : Nat} {e : TypeId} {sz : Nat} {l : List Int} {p : Int → Bool} {i j : Nat} {wr : World} {cur : Array Value} {x : Int} (h : DelI g e sz l p i j wr cur) (hx : l[j]? = some x) (hp : p x = true) : DelI g e sz l p i (j + 1) wr cur := by
  obtain ⟨hj, rfl⟩ := List.getElem?_eq_some_iff.1 hx
  have e1 : ((l.take (j + 1)).filter fun x => !p x) = (l.take j).filter fun x => !p x := by
    rw [List.take_succ_eq_append_getElem hj, List.filter_append]; simp [hp]
  exact ⟨h.blk, h.size, by rw [e1]; exact h.num, by rw [e1]; exact h.kept, fun k y hk hy => h.left k y (by omega) hy⟩
theorem DelI.keep {g : Nat} {e : TypeId} {sz : Nat} {l : List Int} {p : Int → Bool} {i j : Nat} {wr w' : World} {cur : Array Value} {x : Int} (h : DelI g e sz l p i j wr cur) (hx : l[j]? = some x) (hp : p x = false) (hij : i ≤ j) (hs : l.length ≤ sz)
    (hb : Blk w' g e (cur.setIfInBounds i (.int .i64 x))) : DelI g e sz l p (i + 1) (j + 1) w' (cur.setIfInBounds i (.int .i64 x)) := by
  obtain ⟨hj, rfl⟩ := List.getElem?_eq_some_iff.1 hx
  have e1 : ((l.take (j + 1)).filter fun x => !p x) = ((l.take j).filter fun x => !p x) ++ [l[j]] := by
    rw [List.take_succ_eq_append_getElem hj, List.filter_append]; simp [hp]
  have hsz := h.size
  refine ⟨hb, by simpa using h.size, by rw [e1, List.length_append, h.num]; rfl, ?_, ?_⟩
  · intro k y hy
    rw [e1] at hy
    have hn := h.num
    by_cases hk : k < i
    · rw [List.getElem?_append_left (by omega)] at hy
      rw [Array.getElem?_setIfInBounds_ne (by omega)]
      exact h.kept k y hy
    · rw [List.getElem?_append_right (by omega), hn] at hy
      have hk0 : k - i = 0 := by
        rcases Nat.eq_zero_or_pos (k - i) with h0 | h0
        · exact h0
        · rw [List.getElem?_eq_none (by simp; omega)] at hy; cases hy
      rw [hk0] at hy
      simp at hy
      subst hy
      obtain rfl : k = i := by omega
      rw [Array.getElem?_setIfInBounds_self_of_lt (by omega)]
  · intro k y hk hy
    rw [Array.getElem?_setIfInBounds_ne (by omega)]
    exact h.left k y (by omega) hy

set_option maxRecDepth 100000 in
set_option maxHeartbeats 4000000 in
theorem deleteFunc_int (base K : Nat) (F : FuncId) (C : Array Value) (p : Int → Bool) (A : Option Addr) (n c : Nat) (l : List Int) (w : World) (hO : Own w base 3 1 A n c (l.map (Value.int .i64))) (hK : K ≤ base) (hKw : K ≤ w.heap.size) (hp : PredI w K F C p) :
    Calls Tryd.prog 74 #[.slice A n c, .func (.func F) #[] C] w fun e w' => e = .returned (.slice A (l.filter fun x => !p x).length c) ∧ Own w' base 3 1 A (l.filter fun x => !p x).length c ((l.filter fun x => !p x).map (Value.int .i64)) ∧ w.grownBy w' (A.map (·.block)) := by
  have hl : l.length = n := by have := hO.len; simpa using this
  have hcap := hO.cap_le
  have hmax : c ≤ 9223372036854775807 := by have := hcap.2; unfold maxLen at this; omega
  have hcn := hcap.1
  have HI := Lib.hid (indexFunc_int F C p A n c l w (hO.reads (Nat.le_refl _)) (by omega) hp.enters (fun x _ W hW => hp.calls x W (hW.mono hKw)))
  have hE := hp.enters
  have HF := Lib.hid hp
  clear hp
  by_cases hany : ∀ y ∈ l, p y = false
  · have hi : idx p l = -1 := idx_none hany
    have hfil : (l.filter fun x => !p x) = l := List.filter_eq_self.2 fun y hy => by rw [hany y hy]; rfl
    have HO := Lib.hid hO
    have HX := Lib.hid hfil
    rw [hi] at HI
    clear hany hi hO hfil
    go_enter Tryd.func74, Tryd.ntmps74
    go_wp2_with fail
    refine HI.out.mono ?_
    rintro e w1 ⟨rfl, hb⟩
    go_wp2_with fail
    go_ret
    rw [HX.out, hl]
    exact ⟨rfl, HO.out.below hb (Nat.le_refl _), grown_of_below hb _⟩
  · obtain ⟨k0, x0, hx0, hp0, hno⟩ : ∃ (k : Nat) (x : Int), l[k]? = some x ∧ p x = true ∧ ∀ y ∈ l.take k, p y = false := by
      have h1 : l.any p = true := by
        rw [List.any_eq_true]
        refine Classical.byContradiction fun hc => hany fun y hy => ?_
        cases hpy : p y with
        | false => rfl
        | true => exact absurd ⟨y, hy, hpy⟩ hc
      have h2 := List.findIdx_lt_length_of_exists (List.any_eq_true.1 h1)
      refine ⟨l.findIdx p, l[l.findIdx p], List.getElem?_eq_getElem h2, List.findIdx_getElem, fun y hy => ?_⟩
      rw [List.mem_take_iff_getElem] at hy
      obtain ⟨j, hj, rfl⟩ := hy
      have := List.not_of_lt_findIdx (xs := l) (p := p) (i := j) (by omega)
      simpa using this
    have hi : idx p l = (k0 : Int) := idx_some hx0 hp0 hno
    have hk0 : k0 < n := by rw [← hl]; exact (List.getElem?_eq_some_iff.1 hx0).1
    rw [hi] at HI
    rcases hO.form with ⟨rfl, rfl, rfl, _⟩ | ⟨g, cur, rfl, hbg, hblk, _, _, hsz, htake, _⟩
    · omega
    have hcells : ∀ (k : Nat) x, l[k]? = some x → cur[k]? = some (.int .i64 x) := by
      intro k x hx
      have hk : k < l.length := (List.getElem?_eq_some_iff.1 hx).1
      have h1 : (cur.toList.take (n * 1))[k]? = (l.map (Value.int .i64))[k]? := by rw [htake]
      rw [List.getElem?_take_of_lt (by omega), Array.getElem?_toList] at h1
      rw [h1, List.getElem?_map, hx]
      rfl
    have hsz' : cur.size = c := by omega
    have hfil : ((l.take k0).filter fun x => !p x) = l.take k0 := List.filter_eq_self.2 fun y hy => by rw [hno y hy]; rfl
    have D0 : DelI g 3 c l p k0 k0 w cur := ⟨hblk, hsz', by rw [hfil, List.length_take]; omega, fun k x h => hcells k x (by
      rw [hfil, List.getElem?_take] at h
      split at h
      · exact h
      · cases h), fun k x _ h => hcells k x h⟩
    have D1 := Lib.hid (D0.skip hx0 hp0)
    have HB := Lib.hid hblk
    have HN := Lib.hid hl
    have hlg := hblk.lt
    have hne : ((k0 : Int) == -1) = false := by simp
    clear hany hi hO hno hp0 hx0 hcells hfil htake hsz hsz' D0 hl hblk
    go_enter Tryd.func74, Tryd.ntmps74
    go_wp2_with fail
    refine HI.out.mono ?_
    rintro e w1 ⟨rfl, hb⟩
    go_wp2_with fail
    go_loopw [5, 6] (fun vi vj wr => ∃ (i j : Nat) (cur : Array Value), vi = .int .i64 i ∧ vj = .int .i64 j ∧ i < j ∧ j ≤ n ∧ DelI g 3 c l p i j wr cur ∧ w.grownBy wr (some g))
      (fun _ vj _ => n - (intOf vj).toNat)
    case atStart => exact ⟨k0, k0 + 1, cur, rfl, by go_num, by omega, by omega, D1.out.later (HB.out.below hb hlg), grown_of_below hb _⟩
    case round =>
      obtain ⟨i, j, cur1, rfl, rfl, hij, hjn, hD, hg⟩ := hrel
      by_cases hlt : j < n
      · have hxj : l[j]? = some (l[j]'(by have := HN.out; omega)) := List.getElem?_eq_getElem _
        generalize (l[j]'(by have := HN.out; omega)) = x at hxj
        have c0 : wr.cell? ⟨g, j, none⟩ = some (.int .i64 x) := (hD.blk.cell _).trans (hD.left j x (Nat.le_refl _) hxj)
        have HX := Lib.hid hxj
        have HD := Lib.hid hD
        have hgs := hg.size
        have HG := Lib.hid hg
        clear hxj hD hg
        go_wp2_with fail
        have hgl := HD.out.blk.lt
        have hKg : ∀ k, some g = some k → K ≤ k := fun k hk => by cases hk; omega
        refine (HF.out.calls x _ (below_of_grown HG.out hKg (by omega))).mono ?_
        rintro e w2 ⟨rfl, hb2⟩
        have G2 := HD.out.blk.below hb2 hgl
        have hG2 := Lib.hid (grown_below HG.out hb2)
        have hsz2 := hb2.size
        have D2 := Lib.hid (HD.out.later G2)
        clear HG HD c0 hb2
        cases hp : p x with
        | true =>
          have HP := Lib.hid hp
          clear hp G2
          go_wp2_with fail
          go_roundw
          case rel => exact ⟨i, j + 1, cur1, rfl, by go_num, by omega, by omega, D2.out.skip HX.out HP.out, hG2.out⟩
          case measure => simp [intOf]; omega
        | false =>
          have HP := Lib.hid hp
          have hsz := D2.out.size
          have f0 : w2.frozen? ⟨g, i, none⟩ = false := G2.frozen _
          obtain ⟨u0, g0⟩ : ∃ u, w2.cell? ⟨g, i, none⟩ = some u := ⟨_, by rw [G2.cell]; exact Array.getElem?_eq_getElem (by omega)⟩
          have HGB := Lib.hid G2
          clear hp hsz G2
          go_wp2_with fail
          go_roundw
          case rel =>
            exact ⟨i + 1, j + 1, cur1.setIfInBounds i (.int .i64 x), by go_num, by go_num, by omega, by omega, D2.out.keep HX.out HP.out (by omega) (by have := HN.out; omega) (HGB.out.set_ i _), grown_setCell hG2.out (p := ⟨g, i, none⟩) (.inl rfl) _⟩
          case measure => simp [intOf]; omega
      · obtain rfl : j = n := by omega
        have hfin : ((l.take j).filter fun x => !p x) = l.filter fun x => !p x := by rw [List.take_of_length_le (by have := HN.out; omega)]
        have hsz := hD.size
        obtain ⟨vs, hvs, hclr⟩ := run_clear_row (P := Tryd.prog) (w := wr) (g := g) (t := 22) (ty := 0) hD.blk Tryd.underlying22 zero_int (by intro u hu; simp [Value.cells] at hu; subst hu; rfl) i (j - i) (c - i) (by simp [Value.cells]; omega)
        have hnum := hD.num
        rw [hfin] at hnum
        have HFin := Lib.hid hfin
        have HNum := Lib.hid hnum
        have HVs := Lib.hid hvs
        have HD := Lib.hid hD
        have HG := Lib.hid hg
        have HSz := Lib.hid hsz
        clear hfin hnum hvs hD hg hsz
        go_wp2_with fail
        go_ret
        refine ⟨?_, Own.mk_ hbg (Blk.setCells vs i HD.out.blk) (by rw [HNum.out]; omega) hcap.2 (by rw [wrt_size, HSz.out]; omega) (by simp) ?_, grown_setCells vs i HG.out (.inl rfl)⟩
        · rw [HNum.out]; rfl
        · intro k hk
          rw [HNum.out] at hk
          rw [wrt_out _ _ _ _ (.inl (by omega))]
          have hk' := HD.out.kept
          rw [HFin.out] at hk'
          have hkl : k < (l.filter fun x => !p x).length := by rw [HNum.out]; omega
          rw [hk' k _ (List.getElem?_eq_getElem hkl), List.getElem?_map, List.getElem?_eq_getElem hkl]
          rfl
end Go.Proofs.YtahkjagjcogeiaaDoor
/- climb.Gate: the places that each walk needs. -/
namespace Go.Proofs.YtahkjagjcogeiaaDoor
open Go.RowKit Go.Shelf
set_option linter.unusedVariables false

def inUV (u v x : Int) : Bool := x == u || x == v
def othersL (t : Town) (u v : Int) : List Int := t.places.filter fun x => !inUV u v x
theorem gate1_any (x u v : Int) (g1 g2 : Nat) (w : World) (h1 : Blk w g1 3 #[.int .i64 u]) (h2 : Blk w g2 3 #[.int .i64 v]) :
    Calls Tryd.prog 75 (#[.int .i64 x] ++ #[.pointer (some ⟨g1, 0, none⟩), .pointer (some ⟨g2, 0, none⟩)]) w fun e w' => e = .returned (.bool (inUV u v x)) ∧ Below w.heap.size w w' := by
  have hd : inUV u v x = (x == u || x == v) := rfl
  have HD := Lib.hid hd
  clear hd
  have c1 := h1.cell 0
  have c2 := h2.cell 0
  have l1 := h1.lt
  have l2 := h2.lt
  cases hu : (x == u) with
  | true =>
    go_enter Tryd.func75, Tryd.ntmps75
    go_wp2_with fail
    go_ret
    exact ⟨ret_bool (by rw [HD.out, hu]; rfl), Below.refl _ _⟩
  | false =>
    go_enter Tryd.func75, Tryd.ntmps75
    go_wp2_with fail
    go_ret
    exact ⟨ret_bool (by rw [HD.out, hu]; rfl), Below.refl _ _⟩
theorem gate1_pred {u v : Int} {g1 g2 K : Nat} {w : World} (h1 : Blk w g1 3 #[.int .i64 u]) (h2 : Blk w g2 3 #[.int .i64 v]) (k1 : g1 < K) (k2 : g2 < K) : PredI w K 75 #[.pointer (some ⟨g1, 0, none⟩), .pointer (some ⟨g2, 0, none⟩)] (inUV u v) :=
  ⟨enters_of Tryd.func75 (by kernel_rfl) rfl, fun x W hW => gate1_any x u v g1 g2 W (h1.below hW k1) (h2.below hW k2)⟩

set_option maxRecDepth 100000 in
set_option maxHeartbeats 16000000 in
theorem gate_in (A : Option Addr) (n c : Nat) (A' : Option Addr) (m d : Nat) (t : Town) (u v : Int) (dk : Bool) (w : World)
    (hn : n ≤ 1000) (hm : m ≤ 1000) (ht : TownAt w w.heap.size A n A' m t) (hL : Laid w) :
    CallsIn Fence.wide 9 Tryd.prog 23 #[.agg #[.slice A n c, .slice A' m d], .int .i64 u, .int .i64 v, .bool dk] w (ListOut w (neededR t u v dk (othersL t u v) ofGate) (wayE t u v dk)) := by
  have HT := Lib.hid ht
  have HL := Lib.hid hL
  have HLn := Lib.hid ht.places.len
  have hl0 := hL.2.2.2
  clear ht hL
  refine callsIn_of_wp Tryd.func23 rfl trivial ?_ rfl
  simp only [Tryd.ntmps23, List.size_toArray, List.length_cons, List.length_nil, Nat.reduceAdd, Nat.reduceSub, Array.replicate_succ, Array.replicate_zero, List.push_toArray, List.append_toArray, List.nil_append, List.cons_append]
  gi_wp2
  have HLay := Lib.hid (Lay.three w 25 #[.slice A n c, .slice A' m d] 3 #[.int .i64 u] 3 #[.int .i64 v])
  generalize (((w.alloc (.cells #[.slice A n c, .slice A' m d] 25)).alloc (.cells #[.int .i64 u] 3)).alloc (.cells #[.int .i64 v] 3)) = w0 at *
  have HLB := Lib.hid (HLay.out.lt 1 rfl)
  have HLC := Lib.hid (HLay.out.lt 2 rfl)
  have HL0 := HLay
  refine ⟨trivial, (callsIn_wide.2 (clone_int A n c t.places w0 ((HT.out.places.below HLay.out.1).more HLay.out.1.size) (by unfold maxLen; omega) (by omega))).mono ?_⟩
  rintro e W1 ⟨AP, cP, rfl, hP, _, hb⟩
  have HP := Lib.hid hP
  have HB := Lib.hid hb
  replace HLay := Lib.hid (HLay.out.below hb)
  have HPR := Lib.hid (gate1_pred (u := u) (v := v) (HLay.out.blk 1 rfl) (HLay.out.blk 2 rfl) HLB.out HLC.out)
  have hE := HPR.out.enters
  clear hP hb
  gi_wp2
  refine ⟨trivial, (callsIn_wide.2 (deleteFunc_int w0.heap.size w0.heap.size _ _ (inUV u v) AP n cP t.places W1 HP.out (Nat.le_refl _) HB.out.size HPR.out)).mono ?_⟩
  rintro e W2 ⟨rfl, hO, hg⟩
  rw [show (t.places.filter fun x => !inUV u v x) = othersL t u v from rfl] at hO ⊢
  have HO := Lib.hid hO
  have HB2 := Lib.hid (HB.out.grown hg HB.out.size (fun j hj => own_row HP.out hj))
  replace HLay := Lib.hid (HL0.out.below HB2.out)
  have hlo : (othersL t u v).length ≤ 1000 := by have h1 := HLn.out; have h2 : (othersL t u v).length ≤ t.places.length := List.length_filter_le _ _; omega
  clear hO hg HB HPR hE HL0 HP
  have x0_0 := (HLay.out.blk 0 rfl).cell 0
  have x0_1 := (HLay.out.blk 0 rfl).cell 1
  have l0_ := HLay.out.lt 0 rfl
  have x1_0 := (HLay.out.blk 1 rfl).cell 0
  have l1_ := HLay.out.lt 1 rfl
  have x2_0 := (HLay.out.blk 2 rfl).cell 0
  have l2_ := HLay.out.lt 2 rfl
  gi_wp2
  clear x0_0 x0_1 l0_ x1_0 l1_ x2_0 l2_
  refine ⟨trivial, (callsIn_wide.2 (needed_any A n c A' m d t u v dk AP _ cP (othersL t u v) _ _ ofGate W2 hn hm hlo ((HT.out.below HLay.out.1).more HLay.out.1.size) (ints_of_own HO.out (Nat.le_refl _)) (HL.out.below HLay.out.1 hl0) gate_of)).mono ?_⟩
  rintro e W3 ⟨AN, nN, cN, rfl, hiw, hb⟩
  replace HLay := Lib.hid (HLay.out.below hb)
  clear hb
  have HN := Lib.hid hiw
  clear hiw
  gi_wp2
  exact bodyPost_ret (v := .tuple #[.slice AN nN cN, .int .i64 (wayE t u v dk)]) (by simp [results, Tryd.results23, go_sem]) rfl ⟨AN, nN, cN, rfl, HN.out, HLay.out.1⟩

theorem gate_any (A : Option Addr) (n c : Nat) (A' : Option Addr) (m d : Nat) (t : Town) (u v : Int) (dk : Bool) (w : World)
    (hn : n ≤ 1000) (hm : m ≤ 1000) (ht : TownAt w w.heap.size A n A' m t) (hL : Laid w) :
    Calls Tryd.prog 23 #[.agg #[.slice A n c, .slice A' m d], .int .i64 u, .int .i64 v, .bool dk] w (ListOut w (neededR t u v dk (othersL t u v) ofGate) (wayE t u v dk)) :=
  callsIn_wide.1 (gate_in A n c A' m d t u v dk w hn hm ht hL)
end Go.Proofs.YtahkjagjcogeiaaDoor
/- climb.easier, and the order of toils. -/
namespace Go.Proofs.YtahkjagjcogeiaaDoor
open Go.RowKit Go.Shelf
set_option linter.unusedVariables false
set_option maxRecDepth 100000 in
set_option maxHeartbeats 2000000 in
theorem orI_any (a b : Int) (g : Nat) (w : World) (hg : Blk w g 3 #[.int .i64 a, .int .i64 b]) :
    Calls Tryd.prog 127 #[.slice (some ⟨g, 0, none⟩) 2 2] w fun e w' => e = .returned (.int .i64 (or2 a b)) ∧ w' = w := by
  have c0 := hg.cell 0
  have c1 := hg.cell 1
  have hlt := hg.lt
  clear hg
  go_enter Tryd.func127, Tryd.ntmps127
  go_wp2_with fail
  go_loop [8, 5] (fun i x => ∃ k : Nat, k ≤ 2 ∧ i = .int .i64 k ∧ Hid ((0 < k → a = 0) ∧ (1 < k → b = 0))) (fun i _ => 2 - (intOf i).toNat)
  case atStart => exact ⟨0, by omega, rfl, Lib.hid ⟨fun h => absurd h (by omega), fun h => absurd h (by omega)⟩⟩
  case round =>
    obtain ⟨k, hk, rfl, HP⟩ := hrel
    have hk' : k = 0 ∨ k = 1 ∨ k = 2 := by omega
    rcases hk' with rfl | rfl | rfl
    · by_cases ha : a = 0
      · have ha' : (a == 0) = true := by simpa using ha
        have ha2 : (a != 0) = false := by simpa using ha
        have HA := Lib.hid ha
        clear ha
        go_wp2_with fail
        go_round
        case rel => exact ⟨1, by omega, by go_num, Lib.hid ⟨fun _ => HA.out, fun h => absurd h (by omega)⟩⟩
        case measure => simp [intOf]
      · have ha' : (a == 0) = false := by simpa using ha
        have ha2 : (a != 0) = true := by simpa using ha
        have HA := Lib.hid ha
        clear ha
        go_wp2_with fail
        go_ret
        exact ⟨ret_int (by unfold or2; rw [if_neg HA.out]), rfl⟩
    · by_cases hb : b = 0
      · have hb' : (b == 0) = true := by simpa using hb
        have hb2 : (b != 0) = false := by simpa using hb
        have HB := Lib.hid hb
        clear hb
        go_wp2_with fail
        go_round
        case rel => exact ⟨2, by omega, by go_num, Lib.hid ⟨fun _ => HP.out.1 (by omega), fun _ => HB.out⟩⟩
        case measure => simp [intOf]
      · have hb' : (b == 0) = false := by simpa using hb
        have hb2 : (b != 0) = true := by simpa using hb
        have HB := Lib.hid hb
        clear hb
        go_wp2_with fail
        go_ret
        exact ⟨ret_int (by unfold or2; rw [if_pos (HP.out.1 (by omega))]), rfl⟩
    · go_wp2_with fail
      go_ret
      exact ⟨ret_int (by unfold or2; rw [if_pos (HP.out.1 (by omega)), HP.out.2 (by omega)]), rfl⟩
def lessP (a1 a2 b1 b2 : Int) : Bool := decide (a1 < b1) || (a1 == b1 && decide (a2 < b2))
theorem easy_lt (a1 a2 b1 b2 : Int) : decide (or2 (cmpI a1 b1) (cmpI a2 b2) < 0) = lessP a1 a2 b1 b2 := by
  unfold lessP or2 cmpI
  rcases Int.lt_trichotomy a1 b1 with h | h | h
  · simp [h]
  · subst h
    rcases Int.lt_trichotomy a2 b2 with h | h | h
    · simp [h]
    · subst h; simp
    · have h' : ¬ a2 < b2 := by omega
      simp [h, h']
  · have h1 : ¬ a1 < b1 := by omega
    have h2 : ¬ a1 = b1 := by omega
    simp [h, h1, h2]

set_option maxRecDepth 100000 in
set_option maxHeartbeats 8000000 in
theorem easier_in (a1 a2 b1 b2 : Int) (w : World) :
    CallsIn Fence.wide 9 Tryd.prog 80 #[.agg #[.int .i64 a1, .int .i64 a2], .agg #[.int .i64 b1, .int .i64 b2]] w fun e w' => e = .returned (.int .i64 (or2 (cmpI a1 b1) (cmpI a2 b2))) ∧ Below w.heap.size w w' := by
  refine callsIn_of_wp Tryd.func80 rfl trivial ?_ rfl
  simp only [Tryd.ntmps80, List.size_toArray, List.length_cons, List.length_nil, Nat.reduceAdd, Nat.reduceSub, Array.replicate_succ, Array.replicate_zero, List.push_toArray, List.append_toArray, List.nil_append, List.cons_append]
  gi_wp2
  have HLay := Lib.hid (Lay.two w 59 #[.int .i64 a1, .int .i64 a2] 59 #[.int .i64 b1, .int .i64 b2])
  generalize ((w.alloc (.cells #[.int .i64 a1, .int .i64 a2] 59)).alloc (.cells #[.int .i64 b1, .int .i64 b2] 59)) = w0 at *
  refine wpIn_flow_old [([true, true, true, true, false, true, true, true, true], 4), ([], 9), ([], 10), ([], 11)] [false, false, false, false, false, false, false, false, false, false, false, false, true] [] (by kernel_rfl) (by kernel_rfl) (by kernel_rfl) (below_drewN (Below.refl _ _) 1) ?_
  refine wpFlow_cons (A := ?AF1) rfl ?hq1 ?_
  case hq1 =>
    rintro σ hσ of hof hcl
    have HOF := Lib.hid hof
    have HCL := Lib.hid hcl
    clear hof hcl
    have c0_ : ∀ z, (of z).cell? ⟨w.heap.size, 0, none⟩ = some (.int .i64 a1) := fun z => ((HLay.out.below (HOF.out z)).blk 0 rfl).cell 0
    have c1_ : ∀ z, (of z).cell? ⟨w.heap.size, 1, none⟩ = some (.int .i64 a2) := fun z => ((HLay.out.below (HOF.out z)).blk 0 rfl).cell 1
    have c2_ : ∀ z, (of z).cell? ⟨w.heap.size + 1, 0, none⟩ = some (.int .i64 b1) := fun z => ((HLay.out.below (HOF.out z)).blk 1 rfl).cell 0
    have c3_ : ∀ z, (of z).cell? ⟨w.heap.size + 1, 1, none⟩ = some (.int .i64 b2) := fun z => ((HLay.out.below (HOF.out z)).blk 1 rfl).cell 1
    have hfw : ∀ f, Fence.wide.fn f := fun _ => trivial
    simp only [pickB]
    repeat (gi_big_quiet_step (fail))
    refine wpQuietIn_nil ?_
    exact rfl
  intro W1 hW
  replace HLay := Lib.hid (HLay.out.below hW)
  clear hW
  gi_wp2
  refine ⟨trivial, (callsIn_wide.2 (cmp_int a1 b1 W1)).mono ?_⟩
  rintro e W2 ⟨rfl, rfl⟩
  gi_wp2
  refine ⟨trivial, Below.refl _ _, ?_⟩
  refine wpFlow_cons rfl Quietly.none ?_
  intro W3 hW
  replace HLay := Lib.hid (HLay.out.below hW)
  clear hW
  gi_wp2
  refine ⟨trivial, (callsIn_wide.2 (cmp_int a2 b2 W3)).mono ?_⟩
  rintro e W4 ⟨rfl, rfl⟩
  gi_wp2
  refine ⟨trivial, Below.refl _ _, ?_⟩
  refine wpFlow_cons rfl Quietly.none ?_
  intro W5 hW
  replace HLay := Lib.hid (HLay.out.below hW)
  clear hW
  gi_wp2
  refine ⟨trivial, (Below.refl _ _).alloc (Nat.le_refl _) _, ?_⟩
  have hb : Below W5.heap.size W5 (W5.alloc (.cells #[.int .i64 (cmpI a1 b1), .int .i64 (cmpI a2 b2)] 3)) := (Below.refl _ _).alloc (Nat.le_refl _) _
  replace HLay := Lib.hid (HLay.out.below hb)
  have HOr := Lib.hid (Blk.new W5 3 #[.int .i64 (cmpI a1 b1), .int .i64 (cmpI a2 b2)])
  obtain ⟨P7, hP⟩ : ∃ P, W5.heap.size = P := ⟨_, rfl⟩
  rw [hP] at HOr ⊢
  generalize (W5.alloc (.cells #[.int .i64 (cmpI a1 b1), .int .i64 (cmpI a2 b2)] 3)) = V6 at *
  clear hb hP
  refine wpFlow_cons rfl Quietly.none ?_
  intro W8 hW
  replace HLay := Lib.hid (HLay.out.below hW)
  replace HOr := Lib.hid (HOr.out.below hW HOr.out.lt)
  clear hW
  gi_wp2
  refine ⟨trivial, (callsIn_wide.2 (orI_any (cmpI a1 b1) (cmpI a2 b2) P7 W8 HOr.out)).mono ?_⟩
  rintro e W9 ⟨rfl, rfl⟩
  gi_wp2
  refine ⟨trivial, Below.refl _ _, ?_⟩
  refine wpFlow_nil (A := ?AF2) ?hq2 ?_
  case hq2 =>
    rintro σ hσ of hof hcl
    have HOF := Lib.hid hof
    have HCL := Lib.hid hcl
    clear hof hcl
    have c0_ : ∀ z, (of z).cell? ⟨w.heap.size, 0, none⟩ = some (.int .i64 a1) := fun z => ((HLay.out.below (HOF.out z)).blk 0 rfl).cell 0
    have c1_ : ∀ z, (of z).cell? ⟨w.heap.size, 1, none⟩ = some (.int .i64 a2) := fun z => ((HLay.out.below (HOF.out z)).blk 0 rfl).cell 1
    have c2_ : ∀ z, (of z).cell? ⟨w.heap.size + 1, 0, none⟩ = some (.int .i64 b1) := fun z => ((HLay.out.below (HOF.out z)).blk 1 rfl).cell 0
    have c3_ : ∀ z, (of z).cell? ⟨w.heap.size + 1, 1, none⟩ = some (.int .i64 b2) := fun z => ((HLay.out.below (HOF.out z)).blk 1 rfl).cell 1
    have hfw : ∀ f, Fence.wide.fn f := fun _ => trivial
    simp only [pickB]
    repeat (gi_big_quiet_step (fail))
    refine wpQuietIn_nil ?_
    exact rfl
  intro W10 hW
  replace HLay := Lib.hid (HLay.out.below hW)
  replace HOr := Lib.hid (HOr.out.below hW HOr.out.lt)
  clear hW
  simp only [pickB]
  refine wpT_nil ?_
  gi_wp2
  exact bodyPost_ret (v := .int .i64 (or2 (cmpI a1 b1) (cmpI a2 b2))) (by simp [results, Tryd.results80, go_sem]) rfl ⟨rfl, HLay.out.1⟩

theorem easier_any (a1 a2 b1 b2 : Int) (w : World) :
    Calls Tryd.prog 80 #[.agg #[.int .i64 a1, .int .i64 a2], .agg #[.int .i64 b1, .int .i64 b2]] w fun e w' => e = .returned (.int .i64 (or2 (cmpI a1 b1) (cmpI a2 b2))) ∧ Below w.heap.size w w' :=
  callsIn_wide.1 (easier_in a1 a2 b1 b2 w)
end Go.Proofs.YtahkjagjcogeiaaDoor
/- The link whose closing costs most: the plain law. -/
namespace Go.Proofs.YtahkjagjcogeiaaDoor
open Go.RowKit
set_option linter.unusedVariables false

def worstStep (t : Town) (u v : Int) (dk : Bool) (s : Int × Int × Int) (id : Int) : Int × Int × Int := match best (lessT t (ofOnly id)) dk freeP u v with
  | none => s
  | some q => if s.1 = 0 then (id, q.1.b, q.1.c) else if lessP s.2.1 s.2.2 q.1.b q.1.c then (id, q.1.b, q.1.c) else s
def worstF (t : Town) (u v : Int) (dk : Bool) (l : List Int) : Int × Int × Int := l.foldl (worstStep t u v dk) (0, 0, 0)
theorem worst_succ {t : Town} {u v x : Int} {dk : Bool} {l : List Int} {k : Nat} (hx : l[k]? = some x) : worstF t u v dk (l.take (k + 1)) = worstStep t u v dk (worstF t u v dk (l.take k)) x := by
  obtain ⟨hk, rfl⟩ := List.getElem?_eq_some_iff.1 hx
  unfold worstF
  rw [List.take_succ_eq_append_getElem hk, List.foldl_append]
  rfl
theorem worst_zero {t : Town} {u v : Int} {dk : Bool} : ∀ (l : List Int) (s : Int × Int × Int), (∀ x ∈ l, x ≠ 0) → (s.1 = 0 → s = (0, 0, 0)) → (l.foldl (worstStep t u v dk) s).1 = 0 → l.foldl (worstStep t u v dk) s = (0, 0, 0)
  | [], s, _, hs, h => hs h
  | x :: l, s, hl, hs, h => by
    rw [List.foldl_cons] at h ⊢
    refine worst_zero l _ (fun y hy => hl y (by simp [hy])) (fun h0 => ?_) h
    have hx := hl x (by simp)
    unfold worstStep at h0 ⊢
    split at h0
    · exact hs h0
    · rename_i q hb
      split at h0
      · exact absurd h0 hx
      · split at h0
        · exact absurd h0 hx
        · contradiction
theorem worst_no {t : Town} {u v x : Int} {dk : Bool} {s : Int × Int × Int} {e : Int} (h : askE t [u, v] = 0) (he : wayE (lessT t (ofOnly x)) u v dk = e) (h0 : e ≠ 0) : worstStep t u v dk s x = s := by
  rw [wayE_less h] at he
  unfold goneB at he
  unfold worstStep
  cases hb : best (lessT t (ofOnly x)) dk freeP u v with
  | none => rfl
  | some q => rw [hb] at he; simp at he; omega
theorem worst_yes {t : Town} {u v x : Int} {dk : Bool} {s : Int × Int × Int} {a b : Int} (h : askE t [u, v] = 0) (he : wayE (lessT t (ofOnly x)) u v dk = 0) (hT : wayT (lessT t (ofOnly x)) u v dk = (a, b)) :
    worstStep t u v dk s x = if s.1 = 0 then (x, a, b) else if lessP s.2.1 s.2.2 a b then (x, a, b) else s := by
  rw [wayE_less h] at he
  unfold goneB at he
  unfold worstStep
  cases hb : best (lessT t (ofOnly x)) dk freeP u v with
  | none => rw [hb] at he; simp at he
  | some q =>
    obtain ⟨e1, e2, e3⟩ := way_some (askE_less (p := ofOnly x) h) (c := q.1) (l := q.2) hb
    rw [hT] at e3
    have e4 : a = q.1.b := congrArg Prod.fst e3
    have e5 : b = q.1.c := congrArg Prod.snd e3
    subst e4 e5
    rfl
/-- What Worst hands back: link, steps, paces, error. -/
def worstV (t : Town) (u v : Int) (dk : Bool) : Int × Int × Int × Int := if askE t [u, v] = 0 then (if (worstF t u v dk (idsOf t.links)).1 = 0 then (0, 0, 0, 6) else ((worstF t u v dk (idsOf t.links)).1, (worstF t u v dk (idsOf t.links)).2.1, (worstF t u v dk (idsOf t.links)).2.2, 0)) else (0, 0, 0, askE t [u, v])
theorem worstV_bad {t : Town} {u v e : Int} {dk : Bool} (h : askE t [u, v] = e) (h0 : e ≠ 0) : worstV t u v dk = (0, 0, 0, e) := by
  unfold worstV
  rw [h, if_neg h0]
theorem worstV_zero {t : Town} {u v : Int} {dk : Bool} {s2 s3 : Int} (h : askE t [u, v] = 0) (hs : worstF t u v dk (idsOf t.links) = (0, s2, s3)) : worstV t u v dk = (0, 0, 0, 6) := by
  unfold worstV
  rw [if_pos h, hs, if_pos rfl]
theorem worstV_some {t : Town} {u v : Int} {dk : Bool} {s1 s2 s3 : Int} (h : askE t [u, v] = 0) (hs : worstF t u v dk (idsOf t.links) = (s1, s2, s3)) (h0 : s1 ≠ 0) : worstV t u v dk = (s1, s2, s3, 0) := by
  unfold worstV
  rw [if_pos h, hs, if_neg h0]
def WorstOut (w : World) (r : Int × Int × Int × Int) (x : Ending) (w' : World) : Prop := x = .returned (.tuple #[.int .i64 r.1, .agg #[.int .i64 r.2.1, .int .i64 r.2.2.1], .int .i64 r.2.2.2]) ∧ Below w.heap.size w w'
end Go.Proofs.YtahkjagjcogeiaaDoor
/- climb.Worst: the link whose closing costs most. -/
namespace Go.Proofs.YtahkjagjcogeiaaDoor
open Go.RowKit Go.Shelf
set_option linter.unusedVariables false

theorem worst_ids {t : Town} {u v s2 s3 : Int} {dk : Bool} (hg : GoodT t) (h : worstF t u v dk (idsOf t.links) = (0, s2, s3)) : s2 = 0 ∧ s3 = 0 := by
  have h1 := worst_zero (t := t) (u := u) (v := v) (dk := dk) (idsOf t.links) (0, 0, 0) (fun x hx => by
    obtain ⟨y, hy, rfl⟩ := List.mem_map.1 hx
    have := hg.lids y hy
    omega) (fun _ => rfl) (by show (worstF t u v dk (idsOf t.links)).1 = 0; rw [h])
  have h2 : (0, s2, s3) = ((0 : Int), (0 : Int), (0 : Int)) := h.symm.trans h1
  simp only [Prod.mk.injEq, true_and] at h2
  exact h2

set_option maxRecDepth 100000 in
set_option maxHeartbeats 16000000 in
theorem worst_in (A : Option Addr) (n c : Nat) (A' : Option Addr) (m d : Nat) (t : Town) (u v : Int) (dk : Bool) (w : World)
    (hn : n ≤ 1000) (hm : m ≤ 1000) (ht : TownAt w w.heap.size A n A' m t) (hL : Laid w) :
    CallsIn Fence.wide 9 Tryd.prog 25 #[.agg #[.slice A n c, .slice A' m d], .int .i64 u, .int .i64 v, .bool dk] w (WorstOut w (worstV t u v dk)) := by
  have HT := Lib.hid ht
  have HL := Lib.hid hL
  have HLn := Lib.hid ht.places.len
  have HLm := Lib.hid ht.links.len
  have hl0 := hL.2.2.2
  clear ht hL
  refine callsIn_of_wp Tryd.func25 rfl trivial ?_ rfl
  simp only [Tryd.ntmps25, List.size_toArray, List.length_cons, List.length_nil, Nat.reduceAdd, Nat.reduceSub, Array.replicate_succ, Array.replicate_zero, List.push_toArray, List.append_toArray, List.nil_append, List.cons_append]
  gi_wp2
  have HLay := Lib.hid (Lay.three w 25 #[.slice A n c, .slice A' m d] 59 #[.int .i64 0, .int .i64 0] 3 #[.int .i64 u, .int .i64 v])
  generalize (((w.alloc (.cells #[.slice A n c, .slice A' m d] 25)).alloc (.cells #[.int .i64 0, .int .i64 0] 59)).alloc (.cells #[.int .i64 u, .int .i64 v] 3)) = w0 at *
  have HUV0 := Lib.hid (show IntsAt w0 w0.heap.size (some ⟨w.heap.size + 1 + 1, 0, none⟩) 2 [u, v] from two_ints (HLay.out.blk 2 rfl))
  refine ⟨trivial, (callsIn_wide.2 (asked_any A n c A' m d t (some ⟨w.heap.size + 1 + 1, 0, none⟩) 2 2 [u, v] w0 (by unfold maxLen; omega) (by unfold maxLen; omega) (by decide) ((HT.out.below HLay.out.1).more HLay.out.1.size) HUV0.out (HL.out.below HLay.out.1 hl0))).mono ?_⟩
  rintro e W1 ⟨rfl, hb⟩
  replace HLay := Lib.hid (HLay.out.below hb)
  clear hb
  obtain ⟨ee, hee⟩ : ∃ ee, askE t [u, v] = ee := ⟨_, rfl⟩
  rw [hee]
  have HEE := Lib.hid hee
  clear hee
  have x0_0 := (HLay.out.blk 0 rfl).cell 0
  have x0_1 := (HLay.out.blk 0 rfl).cell 1
  have l0_ := HLay.out.lt 0 rfl
  have x1_0 := (HLay.out.blk 1 rfl).cell 0
  have z1_0 := (HLay.out.blk 1 rfl).frozen 0
  have x1_1 := (HLay.out.blk 1 rfl).cell 1
  have z1_1 := (HLay.out.blk 1 rfl).frozen 1
  have l1_ := HLay.out.lt 1 rfl
  by_cases h0 : ee = 0
  · subst h0
    obtain ⟨htb, hhas⟩ := askE_zero HEE.out
    have HG := Lib.hid (goodT htb)
    clear htb hhas
    gi_wp2
    clear x0_0 x0_1 l0_ x1_0 z1_0 x1_1 z1_1 l1_
    have HBL := Lib.hid (HLay.out.lt 1 rfl)
    refine ⟨trivial, (callsIn_wide.2 (ids_any A n c A' m d t W1 hm ((HT.out.links.below HLay.out.1).more HLay.out.1.size))).mono ?_⟩
    rintro e W2 ⟨AI, cI, rfl, hI, hb⟩
    replace HLay := Lib.hid (HLay.out.below hb)
    clear hb
    obtain ⟨M, hM⟩ : ∃ k, (idsOf t.links).length = k := ⟨_, rfl⟩
    rw [hM] at hI ⊢
    have HM := Lib.hid hM
    have HI := Lib.hid hI
    clear hI hM
    have hM1 : M ≤ 1000 := by have h := HM.out; unfold idsOf at h; rw [List.length_map, HLm.out] at h; omega
    gi_wp2
    gi_loopw [8, 28] (fun v8 v28 wr => ∃ k : Nat, k ≤ M ∧ v28 = .int .i64 k ∧ v8 = .int .i64 (worstF t u v dk ((idsOf t.links).take k)).1 ∧ Hid (Lay w wr [(w.heap.size, 25, #[.slice A n c, .slice A' m d]), (w.heap.size + 1, 59, #[.int .i64 (worstF t u v dk ((idsOf t.links).take k)).2.1, .int .i64 (worstF t u v dk ((idsOf t.links).take k)).2.2])] ∧ Own wr W1.heap.size 3 1 AI M cI ((idsOf t.links).map (Value.int .i64))))
      (fun _ vi _ => M - (intOf vi).toNat)
    case atStart => exact ⟨0, by omega, rfl, rfl, Lib.hid ⟨HLay.out.sub (by intro b hb; simp only [List.take_zero, List.mem_cons] at hb ⊢; rcases hb with rfl | rfl | hb; exact .inl rfl; exact .inr (.inl rfl); cases hb), HI.out⟩⟩
    case round =>
      obtain ⟨k, hk, rfl, rfl, HS⟩ := hrel
      rename World => wr
      obtain ⟨s, hs⟩ : ∃ s, worstF t u v dk ((idsOf t.links).take k) = s := ⟨_, rfl⟩
      rw [hs] at HS ⊢
      obtain ⟨s1, s2, s3⟩ := s
      simp only at HS ⊢
      have HWF := Lib.hid hs
      clear hs
      replace HLay := Lib.hid HS.out.1
      replace HI := Lib.hid HS.out.2
      have HL0 := HLay
      have HI0 := HI
      have HBw := Lib.hid (Below.refl wr.heap.size wr)
      clear HS
      by_cases hlt : k < M
      · obtain ⟨b, off, x, hAI, hbB, hx, hc⟩ := (ints_of_own HI.out (Nat.le_refl _)).cell hlt
        subst hAI
        have HX := Lib.hid hx
        clear hx
        gi_wp2
        clear hc
        refine wpIn_flow_new [([true, true, false, false, true, true, true], 2), ([], 3), ([], 7)] [false, false, false, false, false, false, false, false, true, true, true, false, false, true] [false, false, false, false, false, false, false, false, false, false, false, false, true] 11 (fun b => .pointer (some ⟨b, 0, none⟩)) 111 #[.int .i64 0, .int .i64 0, .int .i64 0, .int .i64 0, .int .i64 0, .slice none 0 0] (by kernel_rfl) (by kernel_rfl) (by kernel_rfl) (below_drewN (Below.refl _ _) 1) rfl rfl rfl (fun _ _ => rfl) (fun _ _ => rfl) ?_
        refine wpFlow_cons (A := ?AF1) rfl ?hq1 ?_
        case hq1 =>
          rintro σ hσ of hof hcl
          have HOF := Lib.hid hof
          have HCL := Lib.hid hcl
          clear hof hcl
          have c0_ : ∀ z, (of z).cell? ⟨w.heap.size, 0, none⟩ = some (.slice A n c) := fun z => ((HLay.out.below (HOF.out z)).blk 0 rfl).cell 0
          have c1_ : ∀ z, (of z).cell? ⟨w.heap.size, 1, none⟩ = some (.slice A' m d) := fun z => ((HLay.out.below (HOF.out z)).blk 0 rfl).cell 1
          have hfw : ∀ f, Fence.wide.fn f := fun _ => trivial
          simp only [pickB]
          repeat (gi_big_quiet_step (fail))
          refine wpQuietIn_nil ?_
          exact rfl
        intro W41 hW
        replace HLay := Lib.hid (HLay.out.below hW)
        replace HBw := Lib.hid (HBw.out.trans (hW.mono HBw.out.size))
        clear hW
        gi_wp2
        refine ⟨trivial, (callsIn_wide.2 (only_of.calls x W41)).mono ?_⟩
        rintro e W42 ⟨C2, rfl, hpl, hb⟩
        replace HLay := Lib.hid (HLay.out.below hb)
        replace HBw := Lib.hid (HBw.out.trans (hb.mono HBw.out.size))
        have HPL := Lib.hid hpl
        clear hpl
        gi_wp2
        refine ⟨trivial, hb, ?_⟩
        clear hb
        refine wpFlow_cons rfl Quietly.none ?_
        intro W43 hW
        replace HLay := Lib.hid (HLay.out.below hW)
        replace HBw := Lib.hid (HBw.out.trans (hW.mono HBw.out.size))
        replace HPL := Lib.hid ((HPL.out.below hW).more hW.size)
        clear hW
        gi_wp2
        refine ⟨trivial, (callsIn_wide.2 (less_any A n c A' m d t _ C2 (ofOnly x) W43 hn hm ((HT.out.below HLay.out.1).more HLay.out.1.size) HPL.out)).mono ?_⟩
        rintro e W44 ⟨AP, cP, AK, cK, rfl, hP, hK, hap, hb⟩
        replace HLay := Lib.hid (HLay.out.below hb)
        replace HBw := Lib.hid (HBw.out.trans (hb.mono HBw.out.size))
        replace HPL := Lib.hid ((HPL.out.below hb).more hb.size)
        have HP := Lib.hid hP
        have HK := Lib.hid hK
        clear hP hK hap
        gi_wp2
        refine ⟨trivial, hb, ?_⟩
        clear hb
        clear HPL
        refine wpFlow_cons rfl Quietly.none ?_
        intro W45 hW
        replace HLay := Lib.hid (HLay.out.below hW)
        replace HBw := Lib.hid (HBw.out.trans (hW.mono HBw.out.size))
        replace HP := Lib.hid (HP.out.below hW (Nat.le_refl _))
        replace HK := Lib.hid (HK.out.below hW (Nat.le_refl _))
        clear hW
        gi_wp2
        refine ⟨trivial, (callsIn_wide.2 (way_any AP _ cP AK _ cK (lessT t (ofOnly x)) u v dk W45 (less_n HLn.out hn) (less_m HLm.out hm) ⟨ints_of_own HP.out (Nat.le_refl _), links_of_own HK.out (Nat.le_refl _)⟩ (HL.out.below HLay.out.1 hl0))).mono ?_⟩
        rintro e W46 ⟨to2, co2, AW2, nW2, cW2, rfl, hno, hq, hty, hb⟩
        replace HLay := Lib.hid (HLay.out.below hb)
        replace HBw := Lib.hid (HBw.out.trans (hb.mono HBw.out.size))
        replace HP := Lib.hid (HP.out.below hb (Nat.le_refl _))
        replace HK := Lib.hid (HK.out.below hb (Nat.le_refl _))
        have hT : wayT (lessT t (ofOnly x)) u v dk = (co2.b, co2.c) := by
          unfold wayT
          cases hr : wayR (lessT t (ofOnly x)) u v dk with
          | none => obtain ⟨_, rfl, _⟩ := hno hr; rfl
          | some q => rw [(hq q hr).1]
        have HQ := Lib.hid hT
        clear hno hq hty hT
        obtain ⟨ev, hev⟩ : ∃ y, wayE (lessT t (ofOnly x)) u v dk = y := ⟨_, rfl⟩
        rw [hev]
        have HEV := Lib.hid hev
        clear hev
        gi_wp2
        refine ⟨trivial, hb, ?_⟩
        clear hb
        clear HP HK
        refine wpFlow_nil (A := ?AF2) ?hq2 ?_
        case hq2 =>
          rintro σ hσ of hof hcl
          have HOF := Lib.hid hof
          have HCL := Lib.hid hcl
          clear hof hcl
          have c0_ : ∀ z, (of z).cell? ⟨w.heap.size, 0, none⟩ = some (.slice A n c) := fun z => ((HLay.out.below (HOF.out z)).blk 0 rfl).cell 0
          have c1_ : ∀ z, (of z).cell? ⟨w.heap.size, 1, none⟩ = some (.slice A' m d) := fun z => ((HLay.out.below (HOF.out z)).blk 0 rfl).cell 1
          have hfw : ∀ f, Fence.wide.fn f := fun _ => trivial
          simp only [pickB]
          repeat (gi_big_quiet_step (fail))
          refine wpQuietIn_nil ?_
          exact rfl
        intro b2 W47 hW hbg hbb hbi
        replace HLay := Lib.hid (HLay.out.below hW)
        replace HBw := Lib.hid (HBw.out.trans (hW.mono HBw.out.size))
        have c0 := hbb.cell 0
        have z0 := hbb.frozen 0
        have c1 := hbb.cell 1
        have z1 := hbb.frozen 1
        have c2 := hbb.cell 2
        have z2 := hbb.frozen 2
        have c3 := hbb.cell 3
        have z3 := hbb.frozen 3
        have c4 := hbb.cell 4
        have z4 := hbb.frozen 4
        have c5 := hbb.cell 5
        have z5 := hbb.frozen 5
        have hbl := hbb.lt
        simp only [pickB]
        refine wpT_cons ?_
        gi_wp2
        refine wpT_nil ?_
        clear c0 z0 c1 z1 c2 z2 c3 z3 c4 z4 c5 z5 hbl
        have R1 := ret6' hbb HBw.out hbg (.int .i64 to2) (.int .i64 co2.a) (.int .i64 co2.b) (.int .i64 co2.c) (.int .i64 co2.d) (.slice AW2 nW2 cW2)
        replace HLay := Lib.hid ((HL0.out.below R1.2.1).add (Nat.le_trans HL0.out.1.size hbg) R1.1)
        replace HI := Lib.hid (HI0.out.below R1.2.1 (Nat.le_refl _))
        generalize ((((((W47.setCell ⟨b2, 0, none⟩ (.int .i64 to2)).setCell ⟨b2, 1, none⟩ (.int .i64 co2.a)).setCell ⟨b2, 2, none⟩ (.int .i64 co2.b)).setCell ⟨b2, 3, none⟩ (.int .i64 co2.c)).setCell ⟨b2, 4, none⟩ (.int .i64 co2.d)).setCell ⟨b2, 5, none⟩ (.slice AW2 nW2 cW2)) = W9 at *
        clear R1 hbb hbg hbi hW HBw HL0 HI0
        replace HLay := Lib.hid (show Lay w W9 [(w.heap.size, 25, #[.slice A n c, .slice A' m d]), (w.heap.size + 1, 59, #[.int .i64 s2, .int .i64 s3]), (b2, 111, #[.int .i64 to2, .int .i64 co2.a, .int .i64 co2.b, .int .i64 co2.c, .int .i64 co2.d, .slice AW2 nW2 cW2])] from HLay.out)
        have hsucc := worst_succ (t := t) (u := u) (v := v) (dk := dk) HX.out
        rw [HWF.out] at hsucc
        have HSU := Lib.hid hsucc
        clear hsucc
        by_cases hv0 : ev = 0
        · subst hv0
          have HY := Lib.hid (worst_yes (s := (s1, s2, s3)) HEE.out HEV.out HQ.out)
          by_cases hs0 : s1 = 0
          · subst hs0
            have he : worstF t u v dk ((idsOf t.links).take (k + 1)) = (x, co2.b, co2.c) := by rw [HSU.out, HY.out, if_pos rfl]
            gi_wp2
            refine wpIn_flow_old [([true, true, true, true, true, true, true, true, true], 9), ([], 10)] [false, false, false, false, false, false, false, false, false, false, false, true, true, true] [] (by kernel_rfl) (by kernel_rfl) (by kernel_rfl) (below_drewN (Below.refl _ _) 1) ?_
            refine wpFlow_cons (A := ?AF3) rfl ?hq3 ?_
            case hq3 =>
              rintro σ hσ of hof hcl
              have HOF := Lib.hid hof
              have HCL := Lib.hid hcl
              clear hof hcl
              have c0_ : ∀ z, (of z).cell? ⟨w.heap.size + 1, 0, none⟩ = some (.int .i64 s2) := fun z => ((HLay.out.below (HOF.out z)).blk 1 rfl).cell 0
              have c1_ : ∀ z, (of z).cell? ⟨w.heap.size + 1, 1, none⟩ = some (.int .i64 s3) := fun z => ((HLay.out.below (HOF.out z)).blk 1 rfl).cell 1
              have c2_ : ∀ z, (of z).cell? ⟨b2, 0, none⟩ = some (.int .i64 to2) := fun z => ((HLay.out.below (HOF.out z)).blk 2 rfl).cell 0
              have c3_ : ∀ z, (of z).cell? ⟨b2, 1, none⟩ = some (.int .i64 co2.a) := fun z => ((HLay.out.below (HOF.out z)).blk 2 rfl).cell 1
              have c4_ : ∀ z, (of z).cell? ⟨b2, 2, none⟩ = some (.int .i64 co2.b) := fun z => ((HLay.out.below (HOF.out z)).blk 2 rfl).cell 2
              have c5_ : ∀ z, (of z).cell? ⟨b2, 3, none⟩ = some (.int .i64 co2.c) := fun z => ((HLay.out.below (HOF.out z)).blk 2 rfl).cell 3
              have c6_ : ∀ z, (of z).cell? ⟨b2, 4, none⟩ = some (.int .i64 co2.d) := fun z => ((HLay.out.below (HOF.out z)).blk 2 rfl).cell 4
              have c7_ : ∀ z, (of z).cell? ⟨b2, 5, none⟩ = some (.slice AW2 nW2 cW2) := fun z => ((HLay.out.below (HOF.out z)).blk 2 rfl).cell 5
              have hfw : ∀ f, Fence.wide.fn f := fun _ => trivial
              simp only [pickB]
              repeat (gi_big_quiet_step (fail))
              refine wpQuietIn_nil ?_
              exact rfl
            intro W48 hW
            replace HLay := Lib.hid (HLay.out.below hW)
            replace HI := Lib.hid (HI.out.below hW (Nat.le_refl _))
            clear hW
            gi_wp2
            try (any_goals (exfalso; have hu := ‹some undef = some (Value.bool _)›; first | cases hu | (simp [undef] at hu; done) | exact absurd hu (by decide)))
            refine ⟨trivial, ?_⟩
            gi_wp2
            refine ⟨trivial, Below.refl _ _, ?_⟩
            refine wpFlow_cons rfl Quietly.none ?_
            intro W49 hW
            replace HLay := Lib.hid (HLay.out.below hW)
            replace HI := Lib.hid (HI.out.below hW (Nat.le_refl _))
            clear hW
            gi_wp2
            try (any_goals (exfalso; have hu := ‹some undef = some (Value.bool _)›; first | cases hu | (simp [undef] at hu; done) | exact absurd hu (by decide)))
            refine ⟨trivial, ?_⟩
            gi_wp2
            refine ⟨trivial, Below.refl _ _, ?_⟩
            refine wpFlow_nil (A := ?AF4) ?hq4 ?_
            case hq4 =>
              rintro σ hσ of hof hcl
              have HOF := Lib.hid hof
              have HCL := Lib.hid hcl
              clear hof hcl
              have c0_ : ∀ z, (of z).cell? ⟨w.heap.size + 1, 0, none⟩ = some (.int .i64 s2) := fun z => ((HLay.out.below (HOF.out z)).blk 1 rfl).cell 0
              have c1_ : ∀ z, (of z).cell? ⟨w.heap.size + 1, 1, none⟩ = some (.int .i64 s3) := fun z => ((HLay.out.below (HOF.out z)).blk 1 rfl).cell 1
              have c2_ : ∀ z, (of z).cell? ⟨b2, 0, none⟩ = some (.int .i64 to2) := fun z => ((HLay.out.below (HOF.out z)).blk 2 rfl).cell 0
              have c3_ : ∀ z, (of z).cell? ⟨b2, 1, none⟩ = some (.int .i64 co2.a) := fun z => ((HLay.out.below (HOF.out z)).blk 2 rfl).cell 1
              have c4_ : ∀ z, (of z).cell? ⟨b2, 2, none⟩ = some (.int .i64 co2.b) := fun z => ((HLay.out.below (HOF.out z)).blk 2 rfl).cell 2
              have c5_ : ∀ z, (of z).cell? ⟨b2, 3, none⟩ = some (.int .i64 co2.c) := fun z => ((HLay.out.below (HOF.out z)).blk 2 rfl).cell 3
              have c6_ : ∀ z, (of z).cell? ⟨b2, 4, none⟩ = some (.int .i64 co2.d) := fun z => ((HLay.out.below (HOF.out z)).blk 2 rfl).cell 4
              have c7_ : ∀ z, (of z).cell? ⟨b2, 5, none⟩ = some (.slice AW2 nW2 cW2) := fun z => ((HLay.out.below (HOF.out z)).blk 2 rfl).cell 5
              have hfw : ∀ f, Fence.wide.fn f := fun _ => trivial
              simp only [pickB]
              repeat (gi_big_quiet_step (fail))
              refine wpQuietIn_nil ?_
              exact rfl
            intro W50 hW
            replace HLay := Lib.hid (HLay.out.below hW)
            replace HI := Lib.hid (HI.out.below hW (Nat.le_refl _))
            clear hW
            simp only [pickB]
            refine wpT_nil ?_
            have x2_0 := (HLay.out.blk 2 rfl).cell 0
            have x2_1 := (HLay.out.blk 2 rfl).cell 1
            have x2_2 := (HLay.out.blk 2 rfl).cell 2
            have x2_3 := (HLay.out.blk 2 rfl).cell 3
            have x2_4 := (HLay.out.blk 2 rfl).cell 4
            have x2_5 := (HLay.out.blk 2 rfl).cell 5
            have l2_ := HLay.out.lt 2 rfl
            gi_wp2
            clear x2_0 x2_1 x2_2 x2_3 x2_4 x2_5 l2_
            refine ⟨trivial, (callsIn_wide.2 (toil_any co2 W50)).mono ?_⟩
            rintro e W51 ⟨rfl, hb⟩
            replace HLay := Lib.hid (HLay.out.below hb)
            replace HI := Lib.hid (HI.out.below hb (Nat.le_refl _))
            clear hb
            have x1_0 := (HLay.out.blk 1 rfl).cell 0
            have z1_0 := (HLay.out.blk 1 rfl).frozen 0
            have x1_1 := (HLay.out.blk 1 rfl).cell 1
            have z1_1 := (HLay.out.blk 1 rfl).frozen 1
            have l1_ := HLay.out.lt 1 rfl
            gi_wp2
            clear x1_0 z1_0 x1_1 z1_1 l1_
            have hls : Lay w W51 [(w.heap.size, 25, #[.slice A n c, .slice A' m d]), (w.heap.size + 1, 59, #[.int .i64 s2, .int .i64 s3])] := HLay.out.sub (by intro b hb; simp only [List.mem_cons] at hb ⊢; rcases hb with rfl | rfl | hb; exact .inl rfl; exact .inr (.inl rfl); cases hb)
            have HLs := Lib.hid (show Lay w W51 ([(w.heap.size, 25, #[.slice A n c, .slice A' m d])] ++ [(w.heap.size + 1, 59, #[.int .i64 s2, .int .i64 s3])]) from hls)
            clear hls
            have HLt := Lib.hid ((HLs.out.setLast (fun p hp e => by simp at hp; subst hp; simp at e) 0 (.int .i64 co2.b)).setLast (fun p hp e => by simp at hp; subst hp; simp at e) 1 (.int .i64 co2.c))
            have HIt := Lib.hid (HI.out.grown (grown_setCell (grown_setCell (grown_refl _ (some (w.heap.size + 1))) (p := ⟨w.heap.size + 1, 0, none⟩) (.inl rfl) (.int .i64 co2.b)) (p := ⟨w.heap.size + 1, 1, none⟩) (.inl rfl) (.int .i64 co2.c)) (fun a ha e => by have h1 := (HI.out.lt ha).1; have h2 := Option.some.inj e; have h3 := HBL.out; omega))
            go_roundw
            case rel => exact ⟨k + 1, by omega, by go_num, by rw [he], Lib.hid ⟨by rw [he]; exact HLt.out, HIt.out⟩⟩
            case measure => simp [intOf]; omega
          · have hs1 : (s1 == 0) = false := by simpa using hs0
            gi_wp2
            refine wpIn_flow_old [([true, true, true, true, true, true, true, true, true], 9), ([], 10)] [false, false, false, false, false, false, false, false, false, false, false, true, true, true] [] (by kernel_rfl) (by kernel_rfl) (by kernel_rfl) (below_drewN (Below.refl _ _) 1) ?_
            refine wpFlow_cons (A := ?AF5) rfl ?hq5 ?_
            case hq5 =>
              rintro σ hσ of hof hcl
              have HOF := Lib.hid hof
              have HCL := Lib.hid hcl
              clear hof hcl
              have c0_ : ∀ z, (of z).cell? ⟨w.heap.size + 1, 0, none⟩ = some (.int .i64 s2) := fun z => ((HLay.out.below (HOF.out z)).blk 1 rfl).cell 0
              have c1_ : ∀ z, (of z).cell? ⟨w.heap.size + 1, 1, none⟩ = some (.int .i64 s3) := fun z => ((HLay.out.below (HOF.out z)).blk 1 rfl).cell 1
              have c2_ : ∀ z, (of z).cell? ⟨b2, 0, none⟩ = some (.int .i64 to2) := fun z => ((HLay.out.below (HOF.out z)).blk 2 rfl).cell 0
              have c3_ : ∀ z, (of z).cell? ⟨b2, 1, none⟩ = some (.int .i64 co2.a) := fun z => ((HLay.out.below (HOF.out z)).blk 2 rfl).cell 1
              have c4_ : ∀ z, (of z).cell? ⟨b2, 2, none⟩ = some (.int .i64 co2.b) := fun z => ((HLay.out.below (HOF.out z)).blk 2 rfl).cell 2
              have c5_ : ∀ z, (of z).cell? ⟨b2, 3, none⟩ = some (.int .i64 co2.c) := fun z => ((HLay.out.below (HOF.out z)).blk 2 rfl).cell 3
              have c6_ : ∀ z, (of z).cell? ⟨b2, 4, none⟩ = some (.int .i64 co2.d) := fun z => ((HLay.out.below (HOF.out z)).blk 2 rfl).cell 4
              have c7_ : ∀ z, (of z).cell? ⟨b2, 5, none⟩ = some (.slice AW2 nW2 cW2) := fun z => ((HLay.out.below (HOF.out z)).blk 2 rfl).cell 5
              have hfw : ∀ f, Fence.wide.fn f := fun _ => trivial
              simp only [pickB]
              repeat (gi_big_quiet_step (fail))
              refine wpQuietIn_nil ?_
              exact rfl
            intro W88 hW
            replace HLay := Lib.hid (HLay.out.below hW)
            replace HI := Lib.hid (HI.out.below hW (Nat.le_refl _))
            clear hW
            gi_wp2
            refine ⟨trivial, (callsIn_wide.2 (toil_any co2 W88)).mono ?_⟩
            rintro e W89 ⟨rfl, hb⟩
            replace HLay := Lib.hid (HLay.out.below hb)
            replace HI := Lib.hid (HI.out.below hb (Nat.le_refl _))
            gi_wp2
            refine ⟨trivial, hb, ?_⟩
            clear hb
            refine wpFlow_cons rfl Quietly.none ?_
            intro W90 hW
            replace HLay := Lib.hid (HLay.out.below hW)
            replace HI := Lib.hid (HI.out.below hW (Nat.le_refl _))
            clear hW
            gi_wp2
            refine ⟨trivial, (callsIn_wide.2 (easier_any s2 s3 co2.b co2.c W90)).mono ?_⟩
            rintro e W91 ⟨rfl, hb⟩
            replace HLay := Lib.hid (HLay.out.below hb)
            replace HI := Lib.hid (HI.out.below hb (Nat.le_refl _))
            have hel := easy_lt s2 s3 co2.b co2.c
            obtain ⟨lp, hlp⟩ : ∃ b, lessP s2 s3 co2.b co2.c = b := ⟨_, rfl⟩
            rw [hlp] at hel
            have HEL := Lib.hid hel
            clear hel
            gi_wp2
            refine ⟨trivial, hb, ?_⟩
            clear hb
            refine wpFlow_nil (A := ?AF6) ?hq6 ?_
            case hq6 =>
              rintro σ hσ of hof hcl
              have HOF := Lib.hid hof
              have HCL := Lib.hid hcl
              clear hof hcl
              have c0_ : ∀ z, (of z).cell? ⟨w.heap.size + 1, 0, none⟩ = some (.int .i64 s2) := fun z => ((HLay.out.below (HOF.out z)).blk 1 rfl).cell 0
              have c1_ : ∀ z, (of z).cell? ⟨w.heap.size + 1, 1, none⟩ = some (.int .i64 s3) := fun z => ((HLay.out.below (HOF.out z)).blk 1 rfl).cell 1
              have c2_ : ∀ z, (of z).cell? ⟨b2, 0, none⟩ = some (.int .i64 to2) := fun z => ((HLay.out.below (HOF.out z)).blk 2 rfl).cell 0
              have c3_ : ∀ z, (of z).cell? ⟨b2, 1, none⟩ = some (.int .i64 co2.a) := fun z => ((HLay.out.below (HOF.out z)).blk 2 rfl).cell 1
              have c4_ : ∀ z, (of z).cell? ⟨b2, 2, none⟩ = some (.int .i64 co2.b) := fun z => ((HLay.out.below (HOF.out z)).blk 2 rfl).cell 2
              have c5_ : ∀ z, (of z).cell? ⟨b2, 3, none⟩ = some (.int .i64 co2.c) := fun z => ((HLay.out.below (HOF.out z)).blk 2 rfl).cell 3
              have c6_ : ∀ z, (of z).cell? ⟨b2, 4, none⟩ = some (.int .i64 co2.d) := fun z => ((HLay.out.below (HOF.out z)).blk 2 rfl).cell 4
              have c7_ : ∀ z, (of z).cell? ⟨b2, 5, none⟩ = some (.slice AW2 nW2 cW2) := fun z => ((HLay.out.below (HOF.out z)).blk 2 rfl).cell 5
              have hfw : ∀ f, Fence.wide.fn f := fun _ => trivial
              have hel := HEL.out
              simp only [pickB]
              repeat (gi_big_quiet_step (fail))
              refine wpQuietIn_nil ?_
              exact rfl
            intro W92 hW
            replace HLay := Lib.hid (HLay.out.below hW)
            replace HI := Lib.hid (HI.out.below hW (Nat.le_refl _))
            clear hW
            simp only [pickB]
            refine wpT_nil ?_
            cases lp with
            | true =>
              have he : worstF t u v dk ((idsOf t.links).take (k + 1)) = (x, co2.b, co2.c) := by rw [HSU.out, HY.out, if_neg hs0]; simp only [hlp]; rfl
              have hel := HEL.out
              simp only [decide_eq_true_eq] at hel
              have x2_0 := (HLay.out.blk 2 rfl).cell 0
              have x2_1 := (HLay.out.blk 2 rfl).cell 1
              have x2_2 := (HLay.out.blk 2 rfl).cell 2
              have x2_3 := (HLay.out.blk 2 rfl).cell 3
              have x2_4 := (HLay.out.blk 2 rfl).cell 4
              have x2_5 := (HLay.out.blk 2 rfl).cell 5
              have l2_ := HLay.out.lt 2 rfl
              gi_wp2
              clear x2_0 x2_1 x2_2 x2_3 x2_4 x2_5 l2_
              refine ⟨trivial, (callsIn_wide.2 (toil_any co2 W92)).mono ?_⟩
              rintro e W93 ⟨rfl, hb⟩
              replace HLay := Lib.hid (HLay.out.below hb)
              replace HI := Lib.hid (HI.out.below hb (Nat.le_refl _))
              clear hb
              have x1_0 := (HLay.out.blk 1 rfl).cell 0
              have z1_0 := (HLay.out.blk 1 rfl).frozen 0
              have x1_1 := (HLay.out.blk 1 rfl).cell 1
              have z1_1 := (HLay.out.blk 1 rfl).frozen 1
              have l1_ := HLay.out.lt 1 rfl
              gi_wp2
              clear x1_0 z1_0 x1_1 z1_1 l1_
              have hls : Lay w W93 [(w.heap.size, 25, #[.slice A n c, .slice A' m d]), (w.heap.size + 1, 59, #[.int .i64 s2, .int .i64 s3])] := HLay.out.sub (by intro b hb; simp only [List.mem_cons] at hb ⊢; rcases hb with rfl | rfl | hb; exact .inl rfl; exact .inr (.inl rfl); cases hb)
              have HLs := Lib.hid (show Lay w W93 ([(w.heap.size, 25, #[.slice A n c, .slice A' m d])] ++ [(w.heap.size + 1, 59, #[.int .i64 s2, .int .i64 s3])]) from hls)
              clear hls
              have HLt := Lib.hid ((HLs.out.setLast (fun p hp e => by simp at hp; subst hp; simp at e) 0 (.int .i64 co2.b)).setLast (fun p hp e => by simp at hp; subst hp; simp at e) 1 (.int .i64 co2.c))
              have HIt := Lib.hid (HI.out.grown (grown_setCell (grown_setCell (grown_refl _ (some (w.heap.size + 1))) (p := ⟨w.heap.size + 1, 0, none⟩) (.inl rfl) (.int .i64 co2.b)) (p := ⟨w.heap.size + 1, 1, none⟩) (.inl rfl) (.int .i64 co2.c)) (fun a ha e => by have h1 := (HI.out.lt ha).1; have h2 := Option.some.inj e; have h3 := HBL.out; omega))
              go_roundw
              case rel => exact ⟨k + 1, by omega, by go_num, by rw [he], Lib.hid ⟨by rw [he]; exact HLt.out, HIt.out⟩⟩
              case measure => simp [intOf]; omega
            | false =>
              have he : worstF t u v dk ((idsOf t.links).take (k + 1)) = (s1, s2, s3) := by rw [HSU.out, HY.out, if_neg hs0]; simp only [hlp]; rfl
              have hel := HEL.out
              simp only [decide_eq_false_iff_not] at hel
              have x2_0 := (HLay.out.blk 2 rfl).cell 0
              have x2_1 := (HLay.out.blk 2 rfl).cell 1
              have x2_2 := (HLay.out.blk 2 rfl).cell 2
              have x2_3 := (HLay.out.blk 2 rfl).cell 3
              have x2_4 := (HLay.out.blk 2 rfl).cell 4
              have x2_5 := (HLay.out.blk 2 rfl).cell 5
              have l2_ := HLay.out.lt 2 rfl
              gi_wp2
              go_roundw
              case rel => exact ⟨k + 1, by omega, by go_num, by rw [he], Lib.hid ⟨by rw [he]; exact HLay.out.sub (by intro b hb; simp only [List.mem_cons] at hb ⊢; rcases hb with rfl | rfl | hb; exact .inl rfl; exact .inr (.inl rfl); cases hb), HI.out⟩⟩
              case measure => simp [intOf]; omega
        · have hv1 : (ev == 0) = false := by simpa using hv0
          have he : worstF t u v dk ((idsOf t.links).take (k + 1)) = (s1, s2, s3) := by rw [HSU.out, worst_no HEE.out HEV.out hv0]
          gi_wp2
          refine wpIn_flow_old [([true, true, true, true, true, true, true, true, true], 9), ([], 10)] [false, false, false, false, false, false, false, false, false, false, false, true, true, true] [] (by kernel_rfl) (by kernel_rfl) (by kernel_rfl) (below_drewN (Below.refl _ _) 1) ?_
          refine wpFlow_cons (A := ?AF7) rfl ?hq7 ?_
          case hq7 =>
            rintro σ hσ of hof hcl
            have HOF := Lib.hid hof
            have HCL := Lib.hid hcl
            clear hof hcl
            have c0_ : ∀ z, (of z).cell? ⟨w.heap.size + 1, 0, none⟩ = some (.int .i64 s2) := fun z => ((HLay.out.below (HOF.out z)).blk 1 rfl).cell 0
            have c1_ : ∀ z, (of z).cell? ⟨w.heap.size + 1, 1, none⟩ = some (.int .i64 s3) := fun z => ((HLay.out.below (HOF.out z)).blk 1 rfl).cell 1
            have c2_ : ∀ z, (of z).cell? ⟨b2, 0, none⟩ = some (.int .i64 to2) := fun z => ((HLay.out.below (HOF.out z)).blk 2 rfl).cell 0
            have c3_ : ∀ z, (of z).cell? ⟨b2, 1, none⟩ = some (.int .i64 co2.a) := fun z => ((HLay.out.below (HOF.out z)).blk 2 rfl).cell 1
            have c4_ : ∀ z, (of z).cell? ⟨b2, 2, none⟩ = some (.int .i64 co2.b) := fun z => ((HLay.out.below (HOF.out z)).blk 2 rfl).cell 2
            have c5_ : ∀ z, (of z).cell? ⟨b2, 3, none⟩ = some (.int .i64 co2.c) := fun z => ((HLay.out.below (HOF.out z)).blk 2 rfl).cell 3
            have c6_ : ∀ z, (of z).cell? ⟨b2, 4, none⟩ = some (.int .i64 co2.d) := fun z => ((HLay.out.below (HOF.out z)).blk 2 rfl).cell 4
            have c7_ : ∀ z, (of z).cell? ⟨b2, 5, none⟩ = some (.slice AW2 nW2 cW2) := fun z => ((HLay.out.below (HOF.out z)).blk 2 rfl).cell 5
            have hfw : ∀ f, Fence.wide.fn f := fun _ => trivial
            simp only [pickB]
            repeat (gi_big_quiet_step (fail))
            refine wpQuietIn_nil ?_
            exact rfl
          intro W148 hW
          replace HLay := Lib.hid (HLay.out.below hW)
          replace HI := Lib.hid (HI.out.below hW (Nat.le_refl _))
          clear hW
          gi_wp2
          try (any_goals (exfalso; have hu := ‹some undef = some (Value.bool _)›; first | cases hu | (simp [undef] at hu; done) | exact absurd hu (by decide)))
          refine ⟨trivial, ?_⟩
          gi_wp2
          refine ⟨trivial, Below.refl _ _, ?_⟩
          refine wpFlow_cons rfl Quietly.none ?_
          intro W149 hW
          replace HLay := Lib.hid (HLay.out.below hW)
          replace HI := Lib.hid (HI.out.below hW (Nat.le_refl _))
          clear hW
          gi_wp2
          try (any_goals (exfalso; have hu := ‹some undef = some (Value.bool _)›; first | cases hu | (simp [undef] at hu; done) | exact absurd hu (by decide)))
          refine ⟨trivial, ?_⟩
          gi_wp2
          refine ⟨trivial, Below.refl _ _, ?_⟩
          refine wpFlow_nil (A := ?AF8) ?hq8 ?_
          case hq8 =>
            rintro σ hσ of hof hcl
            have HOF := Lib.hid hof
            have HCL := Lib.hid hcl
            clear hof hcl
            have c0_ : ∀ z, (of z).cell? ⟨w.heap.size + 1, 0, none⟩ = some (.int .i64 s2) := fun z => ((HLay.out.below (HOF.out z)).blk 1 rfl).cell 0
            have c1_ : ∀ z, (of z).cell? ⟨w.heap.size + 1, 1, none⟩ = some (.int .i64 s3) := fun z => ((HLay.out.below (HOF.out z)).blk 1 rfl).cell 1
            have c2_ : ∀ z, (of z).cell? ⟨b2, 0, none⟩ = some (.int .i64 to2) := fun z => ((HLay.out.below (HOF.out z)).blk 2 rfl).cell 0
            have c3_ : ∀ z, (of z).cell? ⟨b2, 1, none⟩ = some (.int .i64 co2.a) := fun z => ((HLay.out.below (HOF.out z)).blk 2 rfl).cell 1
            have c4_ : ∀ z, (of z).cell? ⟨b2, 2, none⟩ = some (.int .i64 co2.b) := fun z => ((HLay.out.below (HOF.out z)).blk 2 rfl).cell 2
            have c5_ : ∀ z, (of z).cell? ⟨b2, 3, none⟩ = some (.int .i64 co2.c) := fun z => ((HLay.out.below (HOF.out z)).blk 2 rfl).cell 3
            have c6_ : ∀ z, (of z).cell? ⟨b2, 4, none⟩ = some (.int .i64 co2.d) := fun z => ((HLay.out.below (HOF.out z)).blk 2 rfl).cell 4
            have c7_ : ∀ z, (of z).cell? ⟨b2, 5, none⟩ = some (.slice AW2 nW2 cW2) := fun z => ((HLay.out.below (HOF.out z)).blk 2 rfl).cell 5
            have hfw : ∀ f, Fence.wide.fn f := fun _ => trivial
            simp only [pickB]
            repeat (gi_big_quiet_step (fail))
            refine wpQuietIn_nil ?_
            exact rfl
          intro W150 hW
          replace HLay := Lib.hid (HLay.out.below hW)
          replace HI := Lib.hid (HI.out.below hW (Nat.le_refl _))
          clear hW
          simp only [pickB]
          refine wpT_nil ?_
          gi_wp2
          go_roundw
          case rel => exact ⟨k + 1, by omega, by go_num, by rw [he], Lib.hid ⟨by rw [he]; exact HLay.out.sub (by intro b hb; simp only [List.mem_cons] at hb ⊢; rcases hb with rfl | rfl | hb; exact .inl rfl; exact .inr (.inl rfl); cases hb), HI.out⟩⟩
          case measure => simp [intOf]; omega
      · obtain rfl : k = M := by omega
        have hf : worstF t u v dk (idsOf t.links) = (s1, s2, s3) := by
          have h := HWF.out
          rwa [List.take_of_length_le (by rw [HM.out]; exact Nat.le_refl _)] at h
        have HF := Lib.hid hf
        clear hf
        by_cases hs0 : s1 = 0
        · subst hs0
          have hz := worst_ids HG.out HF.out
          obtain ⟨rfl, rfl⟩ : s2 = 0 ∧ s3 = 0 := hz
          gi_wp2
          refine wpIn_flow_old [] [true, true, false, true] [false, false, true] (by kernel_rfl) (by kernel_rfl) (by kernel_rfl) (below_drewN (Below.refl _ _) 1) ?_
          refine wpFlow_nil (A := ?AF9) ?hq9 ?_
          case hq9 =>
            rintro σ hσ of hof hcl
            have HOF := Lib.hid hof
            have HCL := Lib.hid hcl
            clear hof hcl
            have c0_ : ∀ z, (of z).cell? ⟨w.heap.size + 1, 0, none⟩ = some (.int .i64 0) := fun z => ((HLay.out.below (HOF.out z)).blk 1 rfl).cell 0
            have c1_ : ∀ z, (of z).cell? ⟨w.heap.size + 1, 1, none⟩ = some (.int .i64 0) := fun z => ((HLay.out.below (HOF.out z)).blk 1 rfl).cell 1
            have hfw : ∀ f, Fence.wide.fn f := fun _ => trivial
            simp only [pickB]
            repeat (gi_big_quiet_step (fail))
            refine wpQuietIn_nil ?_
            exact rfl
          intro W301 hW
          replace HLay := Lib.hid (HLay.out.below hW)
          clear hW
          simp only [pickB]
          have x1_0 := (HLay.out.blk 1 rfl).cell 0
          have z1_0 := (HLay.out.blk 1 rfl).frozen 0
          have x1_1 := (HLay.out.blk 1 rfl).cell 1
          have z1_1 := (HLay.out.blk 1 rfl).frozen 1
          have l1_ := HLay.out.lt 1 rfl
          refine wpT_cons ?_
          gi_wp2
          refine wpT_nil ?_
          clear x1_0 z1_0 x1_1 z1_1 l1_
          gi_wp2
          have R1 := ret2 (HLay.out.blk 1 rfl) HLay.out.1 (by omega) (.int .i64 (0)) (.int .i64 (0))
          have y0 := R1.1.cell 0
          have y1 := R1.1.cell 1
          have hV := worstV_zero HEE.out HF.out
          exact bodyPost_ret (v := .tuple #[.int .i64 0, .agg #[.int .i64 (0), .int .i64 (0)], .int .i64 6]) (by simp [results, Tryd.results25, go_sem, y0, y1]) rfl ⟨by rw [hV], R1.2⟩
        · have hs1 : (s1 == 0) = false := by simpa using hs0
          gi_wp2
          have x1_0 := (HLay.out.blk 1 rfl).cell 0
          have z1_0 := (HLay.out.blk 1 rfl).frozen 0
          have x1_1 := (HLay.out.blk 1 rfl).cell 1
          have z1_1 := (HLay.out.blk 1 rfl).frozen 1
          have l1_ := HLay.out.lt 1 rfl
          gi_region
          all_goals gi_wp2
          clear x1_0 z1_0 x1_1 z1_1 l1_
          all_goals
            have R1 := ret2 (HLay.out.blk 1 rfl) HLay.out.1 (by omega) (.int .i64 s2) (.int .i64 s3)
            have y0 := (Blk.drew R1.1).cell 0
            have y1 := (Blk.drew R1.1).cell 1
            have hV := worstV_some HEE.out HF.out hs0
            exact bodyPost_ret (v := .tuple #[.int .i64 s1, .agg #[.int .i64 s2, .int .i64 s3], .int .i64 0]) (by simp [results, Tryd.results25, go_sem, y0, y1]) rfl ⟨by rw [hV], R1.2.drew⟩
  · have h1 : (ee != 0) = true := by simpa using h0
    have HE0 := Lib.hid h0
    clear h0
    gi_wp2
    clear x0_0 x0_1 l0_ x1_0 z1_0 x1_1 z1_1 l1_
    refine wpIn_flow_old [] [true, true, true, false, true] [false, false, false, true] (by kernel_rfl) (by kernel_rfl) (by kernel_rfl) (below_drewN (Below.refl _ _) 1) ?_
    refine wpFlow_nil (A := ?AF10) ?hq10 ?_
    case hq10 =>
      rintro σ hσ of hof hcl
      have HOF := Lib.hid hof
      have HCL := Lib.hid hcl
      clear hof hcl
      have c0_ : ∀ z, (of z).cell? ⟨w.heap.size + 1, 0, none⟩ = some (.int .i64 0) := fun z => ((HLay.out.below (HOF.out z)).blk 1 rfl).cell 0
      have c1_ : ∀ z, (of z).cell? ⟨w.heap.size + 1, 1, none⟩ = some (.int .i64 0) := fun z => ((HLay.out.below (HOF.out z)).blk 1 rfl).cell 1
      have hfw : ∀ f, Fence.wide.fn f := fun _ => trivial
      simp only [pickB]
      repeat (gi_big_quiet_step (fail))
      refine wpQuietIn_nil ?_
      exact rfl
    intro W401 hW
    replace HLay := Lib.hid (HLay.out.below hW)
    clear hW
    simp only [pickB]
    have x1_0 := (HLay.out.blk 1 rfl).cell 0
    have z1_0 := (HLay.out.blk 1 rfl).frozen 0
    have x1_1 := (HLay.out.blk 1 rfl).cell 1
    have z1_1 := (HLay.out.blk 1 rfl).frozen 1
    have l1_ := HLay.out.lt 1 rfl
    refine wpT_cons ?_
    gi_wp2
    refine wpT_nil ?_
    clear x1_0 z1_0 x1_1 z1_1 l1_
    gi_wp2
    have R1 := ret2 (HLay.out.blk 1 rfl) HLay.out.1 (by omega) (.int .i64 (0)) (.int .i64 (0))
    have y0 := R1.1.cell 0
    have y1 := R1.1.cell 1
    have hV := worstV_bad (dk := dk) HEE.out HE0.out
    exact bodyPost_ret (v := .tuple #[.int .i64 0, .agg #[.int .i64 (0), .int .i64 (0)], .int .i64 ee]) (by simp [results, Tryd.results25, go_sem, y0, y1]) rfl ⟨by rw [hV], R1.2⟩

theorem worst_any (A : Option Addr) (n c : Nat) (A' : Option Addr) (m d : Nat) (t : Town) (u v : Int) (dk : Bool) (w : World)
    (hn : n ≤ 1000) (hm : m ≤ 1000) (ht : TownAt w w.heap.size A n A' m t) (hL : Laid w) :
    Calls Tryd.prog 25 #[.agg #[.slice A n c, .slice A' m d], .int .i64 u, .int .i64 v, .bool dk] w (WorstOut w (worstV t u v dk)) :=
  callsIn_wide.1 (worst_in A n c A' m d t u v dk w hn hm ht hL)
end Go.Proofs.YtahkjagjcogeiaaDoor
/- The answer's costs: its row of entries, plainly. -/
namespace Go.Proofs.YtahkjagjcogeiaaDoor
open Go.RowKit
set_option linter.unusedVariables false

def infC : Cost := ⟨1000000000, 0, 0, 0⟩
def entC (r : Option Cost) : Cost := r.getD infC
def eVals (E : List (Option Cost)) : List Value := E.flatMap fun r => (entC r).vals
theorem eVals_cons (r : Option Cost) (E : List (Option Cost)) : eVals (r :: E) = .int .i64 (entC r).a :: .int .i64 (entC r).b :: .int .i64 (entC r).c :: .int .i64 (entC r).d :: eVals E := by simp [eVals, Cost.vals]
theorem eVals_len (E : List (Option Cost)) : (eVals E).length = E.length * 4 := by
  induction E with
  | nil => rfl
  | cons r E ih => rw [eVals_cons]; simp [ih]; omega
theorem eVals_at {E : List (Option Cost)} {k j : Nat} {r : Option Cost} (h : E[k]? = some r) (hj : j < 4) : (eVals E)[k * 4 + j]? = (entC r).vals[j]? := by
  induction E generalizing k with
  | nil => simp at h
  | cons y l ih =>
    rw [eVals_cons]
    cases k with
    | zero =>
      simp at h
      subst h
      rcases (show j = 0 ∨ j = 1 ∨ j = 2 ∨ j = 3 by omega) with rfl | rfl | rfl | rfl <;> rfl
    | succ k =>
      have e : (k + 1) * 4 + j = (k * 4 + j) + 1 + 1 + 1 + 1 := by omega
      rw [e]
      simp only [List.getElem?_cons_succ]
      exact ih (by simpa using h)
theorem eVals_set {E : List (Option Cost)} {k : Nat} {r : Option Cost} (hk : k < E.length) :
    ((((eVals E).set (k * 4) (.int .i64 (entC r).a)).set (k * 4 + 1) (.int .i64 (entC r).b)).set (k * 4 + 2) (.int .i64 (entC r).c)).set (k * 4 + 3) (.int .i64 (entC r).d) = eVals (E.set k r) := by
  induction E generalizing k with
  | nil => simp at hk
  | cons y l ih =>
    cases k with
    | zero => simp only [eVals_cons, List.set_cons_zero]; rfl
    | succ k =>
      have e : (k + 1) * 4 = k * 4 + 1 + 1 + 1 + 1 := by omega
      have e1 : (k + 1) * 4 + 1 = (k * 4 + 1) + 1 + 1 + 1 + 1 := by omega
      have e2 : (k + 1) * 4 + 2 = (k * 4 + 2) + 1 + 1 + 1 + 1 := by omega
      have e3 : (k + 1) * 4 + 3 = (k * 4 + 3) + 1 + 1 + 1 + 1 := by omega
      rw [e1, e2, e3, e, List.set_cons_succ, eVals_cons, eVals_cons]
      simp only [List.set_cons_succ]
      rw [ih (by simpa using hk)]
theorem eVals_inf {E : List (Option Cost)} {k : Nat} (h : E[k]? = some (some zeroC)) : (eVals E).set (k * 4) (.int .i64 1000000000) = eVals (E.set k none) := by
  induction E generalizing k with
  | nil => simp at h
  | cons y l ih =>
    cases k with
    | zero =>
      simp at h
      subst h
      simp only [eVals_cons, List.set_cons_zero]; rfl
    | succ k =>
      have e : (k + 1) * 4 = k * 4 + 1 + 1 + 1 + 1 := by omega
      rw [e, List.set_cons_succ, eVals_cons, eVals_cons]
      simp only [List.set_cons_succ]
      rw [ih (by simpa using h)]
theorem eVals_zero (n : Nat) : eVals (List.replicate n (some zeroC)) = List.replicate (n * 4) (.int .i64 0) := by
  induction n with
  | zero => rfl
  | succ n ih =>
    have e : (n + 1) * 4 = n * 4 + 1 + 1 + 1 + 1 := by omega
    rw [List.replicate_succ, eVals_cons, ih, e]
    rfl
theorem made_zero (n : Nat) : madeCells #[.int .i64 0, .int .i64 0, .int .i64 0, .int .i64 0] (n * 4) = (eVals (List.replicate n (some zeroC))).toArray := by
  rw [eVals_zero]
  unfold madeCells
  apply Array.ext'
  rw [Array.toList_map]
  apply List.ext_getElem
  · simp
  · intro i h1 h2
    simp
    rcases (show i % 4 = 0 ∨ i % 4 = 1 ∨ i % 4 = 2 ∨ i % 4 = 3 by omega) with h | h | h | h <;> simp [h]

theorem lessC_cmp (x y : Cost) : lessC x y = decide (cmpL x.list y.list < 0) := by
  unfold lessC
  simp only [cmpL, Cost.list]
  by_cases h1 : x.a = y.a
  · by_cases h2 : x.b = y.b
    · by_cases h3 : x.c = y.c
      · by_cases h4 : x.d = y.d
        · simp [h1, h2, h3, h4]
        · rcases (show x.d < y.d ∨ y.d < x.d by omega) with h | h
          · simp [h1, h2, h3, h4, h]
          · simp [h1, h2, h3, h4, h, show ¬ x.d < y.d by omega]
      · rcases (show x.c < y.c ∨ y.c < x.c by omega) with h | h
        · simp [h1, h2, h3, h]
        · simp [h1, h2, h3, h, show ¬ x.c < y.c by omega]
    · rcases (show x.b < y.b ∨ y.b < x.b by omega) with h | h
      · simp [h1, h2, h]
      · simp [h1, h2, h, show ¬ x.b < y.b by omega]
  · rcases (show x.a < y.a ∨ y.a < x.a by omega) with h | h
    · simp [h1, h]
    · simp [h1, h, show ¬ x.a < y.a by omega]

theorem leE_zero {E : List (Option Cost)} {i : Nat} (h : E[i]? = some (some zeroC)) : leE E i zeroC := ⟨zeroC, h, by simp [cmpL, Cost.list]⟩
/-- The start. -/
theorem BSt.start {t : Town} {dk : Bool} {p : Price} {to : Int} {E : List (Option Cost)} (hl : E.length = t.places.length) (h : ∀ (i : Nat) v, t.places[i]? = some v → E[i]? = some (if v = to then some zeroC else none)) : BSt t dk p to 0 0 0 0 E := by
  refine ⟨hl, ?_, ?_, ?_, fun i' hi => absurd hi (by omega), fun v _ x hx => by simp at hx⟩
  · intro i v c hv hc
    rw [h i v hv] at hc
    by_cases e : v = to
    · rw [if_pos e] at hc
      cases hc
      subst e
      exact ⟨[], .nil _, by simp⟩
    · rw [if_neg e] at hc
      cases hc
  · intro i hi
    exact leE_zero (by rw [h i to hi, if_pos rfl])
  · intro i v c l hv hw hlen
    obtain rfl : l = [] := List.length_eq_zero_iff.1 (by omega)
    cases hw
    exact leE_zero (by rw [h i _ hv, if_pos rfl])
/-- An entry is small. -/
structure Little (x : Cost) : Prop where
  a : 0 ≤ x.a ∧ x.a ≤ 250000000
  b : 0 ≤ x.b ∧ x.b ≤ 1000000
  c : 0 ≤ x.c ∧ x.c ≤ 4000000
  d : 0 ≤ x.d ∧ x.d ≤ 2000
theorem BSt.little {t : Town} {dk : Bool} {p : Price} {to : Int} {k i j M : Nat} {E : List (Option Cost)} (h : BSt t dk p to k i j M E) (ht : Fine t) (hp : Fair p) (hM : M ≤ 2000) {q : Nat} {d : Cost} (hd : E[q]? = some (some d)) : Little d := by
  have hq : q < t.places.length := by rw [← h.len]; exact (List.getElem?_eq_some_iff.1 hd).1
  obtain ⟨l, hw, hl⟩ := h.sound q _ d (List.getElem?_eq_getElem hq) hd
  have := hw.bound ht hp
  exact ⟨by omega, by omega, by omega, by omega⟩
/-- A row of entries, in memory. -/
def EAt (w : World) (B : Nat) (A : Option Addr) (n : Nat) (E : List (Option Cost)) : Prop := Reads w B 4 A n (eVals E)
end Go.Proofs.YtahkjagjcogeiaaDoor
