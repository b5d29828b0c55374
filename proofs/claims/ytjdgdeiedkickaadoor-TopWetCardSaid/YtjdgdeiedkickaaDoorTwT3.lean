/- Part 3 of the texts of this claim, joined. -/
import Derived.Laws.EntriesVeiled
import Derived.Outline
import Derived.Sort.CutIn
import Derived.Test.YtjdgdeiedkickaaDoorTwT2
set_option linter.unusedVariables false
/- Where acts take from and bring to; shift. -/
namespace Go.Proofs.YtjdgdeiedkickaaDoor.Mx
open Go.RowKit

set_option maxRecDepth 100000 in
theorem source_any (T : Tb) (x : MAct) (w : World) (h : TbAt w T) :
  Calls Tryd.prog 67 #[.pointer (some ⟨T.g, 0, none⟩), .agg #[.int .i64 x.kind, .int .i64 x.fr, .int .i64 x.to, .int .i64 x.drops]] w fun e w' => e = .returned (.int .i64 (idxV T.m.vessels x.fr)) ∧ Below w.heap.size w w' := by
 have HT := Lib.hid h
 clear h
 go_enter Tryd.func67, Tryd.ntmps67
 go_wp2_with fail
 have hb : Below w.heap.size w (w.alloc (.cells #[.int .i64 x.kind, .int .i64 x.fr, .int .i64 x.to, .int .i64 x.drops] 43)) := (Below.refl _ _).alloc (Nat.le_refl _) _
 refine (vessel_any T x.fr _ (HT.out.below hb)).mono ?_
 rintro e w' ⟨rfl, hb'⟩
 go_wp2_with fail
 go_ret
 exact ⟨rfl, hb.trans (hb'.mono hb.size)⟩
set_option maxRecDepth 100000 in
theorem target_any (T : Tb) (x : MAct) (w : World) (h : TbAt w T) :
  Calls Tryd.prog 64 #[.pointer (some ⟨T.g, 0, none⟩), .agg #[.int .i64 x.kind, .int .i64 x.fr, .int .i64 x.to, .int .i64 x.drops]] w fun e w' => e = .returned (.int .i64 (idxV T.m.vessels x.to)) ∧ Below w.heap.size w w' := by
 have HT := Lib.hid h
 clear h
 go_enter Tryd.func64, Tryd.ntmps64
 go_wp2_with fail
 have hb : Below w.heap.size w (w.alloc (.cells #[.int .i64 x.kind, .int .i64 x.fr, .int .i64 x.to, .int .i64 x.drops] 43)) := (Below.refl _ _).alloc (Nat.le_refl _) _
 refine (vessel_any T x.to _ (HT.out.below hb)).mono ?_
 rintro e w' ⟨rfl, hb'⟩
 go_wp2_with fail
 go_ret
 exact ⟨rfl, hb.trans (hb'.mono hb.size)⟩
set_option maxRecDepth 100000 in
theorem nowhere_any (T : Tb) (x : MAct) (w : World) :
  Calls Tryd.prog 63 #[.pointer (some ⟨T.g, 0, none⟩), .agg #[.int .i64 x.kind, .int .i64 x.fr, .int .i64 x.to, .int .i64 x.drops]] w fun e w' => e = .returned (.int .i64 (-1)) ∧ Below w.heap.size w w' := by
 go_enter Tryd.func63, Tryd.ntmps63
 go_wp2_with fail
 go_ret
 exact ⟨rfl, (Below.refl _ _).alloc (Nat.le_refl _) _⟩
theorem enters_source (args : Array Value) (W : World) : (callFunc 67 args).run Tryd.prog W = .ok (.enter 67 args) W := by
 simp [go_sem]
theorem enters_target (args : Array Value) (W : World) : (callFunc 64 args).run Tryd.prog W = .ok (.enter 64 args) W := by
 simp [go_sem]
theorem enters_nowhere (args : Array Value) (W : World) : (callFunc 63 args).run Tryd.prog W = .ok (.enter 63 args) W := by
 simp [go_sem]
theorem enters_kinds1 (args : Array Value) (W : World) : (callFunc 61 args).run Tryd.prog W = .ok (.enter 61 args) W := by
 simp [go_sem]
theorem enters_kinds2 (args : Array Value) (W : World) : (callFunc 65 args).run Tryd.prog W = .ok (.enter 65 args) W := by
 simp [go_sem]
theorem enters_kinds3 (args : Array Value) (W : World) : (callFunc 68 args).run Tryd.prog W = .ok (.enter 68 args) W := by
 simp [go_sem]
theorem enters_kinds4 (args : Array Value) (W : World) : (callFunc 69 args).run Tryd.prog W = .ok (.enter 69 args) W := by
 simp [go_sem]
def kindsV : Value := .agg #[.nilFunc, .nilFunc, .nilFunc, .func (.func 61) #[] #[], .func (.func 63) #[] #[], .func (.func 64) #[] #[], .func (.func 65) #[] #[], .func (.func 67) #[] #[], .func (.func 64) #[] #[], .func (.func 68) #[] #[], .func (.func 67) #[] #[], .func (.func 63) #[] #[], .func (.func 69) #[] #[], .func (.func 67) #[] #[], .func (.func 63) #[] #[]]
set_option maxRecDepth 100000 in
set_option maxHeartbeats 8000000 in
theorem kinds_any (w : World) : Calls Tryd.prog 42 #[] w fun e w' => e = .returned (.agg #[.nilFunc, .nilFunc, .nilFunc, .func (.func 61) #[] #[], .func (.func 63) #[] #[], .func (.func 64) #[] #[], .func (.func 65) #[] #[], .func (.func 67) #[] #[], .func (.func 64) #[] #[], .func (.func 68) #[] #[], .func (.func 67) #[] #[], .func (.func 63) #[] #[], .func (.func 69) #[] #[], .func (.func 67) #[] #[], .func (.func 63) #[] #[]]) ∧ Below w.heap.size w w' := by
 go_enter Tryd.func42, Tryd.ntmps42
 go_wp2_with fail
 have HB := Lib.hid (Blk.new w 117 #[.nilFunc, .nilFunc, .nilFunc, .func (.func 61) #[] #[], .func (.func 63) #[] #[], .func (.func 64) #[] #[], .func (.func 65) #[] #[], .func (.func 67) #[] #[], .func (.func 64) #[] #[], .func (.func 68) #[] #[], .func (.func 67) #[] #[], .func (.func 63) #[] #[], .func (.func 69) #[] #[], .func (.func 67) #[] #[], .func (.func 63) #[] #[]])
 have HW := Lib.hid ((Below.refl w.heap.size w).alloc (Nat.le_refl _) (.cells #[.nilFunc, .nilFunc, .nilFunc, .func (.func 61) #[] #[], .func (.func 63) #[] #[], .func (.func 64) #[] #[], .func (.func 65) #[] #[], .func (.func 67) #[] #[], .func (.func 64) #[] #[], .func (.func 68) #[] #[], .func (.func 67) #[] #[], .func (.func 63) #[] #[], .func (.func 69) #[] #[], .func (.func 67) #[] #[], .func (.func 63) #[] #[]] 117))
 generalize w.alloc (.cells #[.nilFunc, .nilFunc, .nilFunc, .func (.func 61) #[] #[], .func (.func 63) #[] #[], .func (.func 64) #[] #[], .func (.func 65) #[] #[], .func (.func 67) #[] #[], .func (.func 64) #[] #[], .func (.func 68) #[] #[], .func (.func 67) #[] #[], .func (.func 63) #[] #[], .func (.func 69) #[] #[], .func (.func 67) #[] #[], .func (.func 63) #[] #[]] 117) = w0 at *
 have y0 := HB.out.cell 0
 have y1 := HB.out.cell 1
 have y2 := HB.out.cell 2
 have y3 := HB.out.cell 3
 have y4 := HB.out.cell 4
 have y5 := HB.out.cell 5
 have y6 := HB.out.cell 6
 have y7 := HB.out.cell 7
 have y8 := HB.out.cell 8
 have y9 := HB.out.cell 9
 have y10 := HB.out.cell 10
 have y11 := HB.out.cell 11
 have y12 := HB.out.cell 12
 have y13 := HB.out.cell 13
 have y14 := HB.out.cell 14
 exact bodyPost_ret (v := .agg #[.nilFunc, .nilFunc, .nilFunc, .func (.func 61) #[] #[], .func (.func 63) #[] #[], .func (.func 64) #[] #[], .func (.func 65) #[] #[], .func (.func 67) #[] #[], .func (.func 64) #[] #[], .func (.func 68) #[] #[], .func (.func 67) #[] #[], .func (.func 63) #[] #[], .func (.func 69) #[] #[], .func (.func 67) #[] #[], .func (.func 63) #[] #[]]) (by simp [results, Tryd.results42, go_sem, y0, y1, y2, y3, y4, y5, y6, y7, y8, y9, y10, y11, y12, y13, y14]) rfl ⟨rfl, HW.out⟩
theorem ret3' {w W : World} {B g : Nat} {t : TypeId} {z0 z1 z2 : Value} (R : Blk W g t #[z0, z1, z2]) (L : Below B w W) (hg : B ≤ g) (v0 v1 v2 : Value) :
  Blk (((W.setCell ⟨g, 0, none⟩ v0).setCell ⟨g, 1, none⟩ v1).setCell ⟨g, 2, none⟩ v2) g t #[v0, v1, v2] ∧ Below B w (((W.setCell ⟨g, 0, none⟩ v0).setCell ⟨g, 1, none⟩ v1).setCell ⟨g, 2, none⟩ v2) :=
 ⟨((R.set_ 0 v0).set_ 1 v1).set_ 2 v2, ((L.setCell (p := ⟨g, 0, none⟩) hg _).setCell (p := ⟨g, 1, none⟩) hg _).setCell (p := ⟨g, 2, none⟩) hg _⟩

set_option maxRecDepth 100000 in
set_option maxHeartbeats 8000000 in
theorem ends1_in (T : Tb) (fr to dr : Int) (w : World) (h : TbAt w T) :
  CallsIn Fence.wide 9 Tryd.prog 27 #[.pointer (some ⟨T.g, 0, none⟩), .agg #[.int .i64 1, .int .i64 fr, .int .i64 to, .int .i64 dr]] w fun e w' => e = .returned (.tuple #[.int .i64 (-1), .int .i64 (idxV T.m.vessels to)]) ∧ Below w.heap.size w w' := by
 have HT := Lib.hid h
 clear h
 have hE1 := enters_nowhere
 have hE2 := enters_target
 refine callsIn_of_wp Tryd.func27 rfl trivial ?_ rfl
 simp only [Tryd.ntmps27, List.size_toArray, List.length_cons, List.length_nil, Nat.reduceAdd, Nat.reduceSub, Array.replicate_succ, Array.replicate_zero, List.push_toArray, List.append_toArray, List.nil_append, List.cons_append]
 gi_wp2
 have HLay := Lib.hid (Lay.one w 43 #[.int .i64 1, .int .i64 fr, .int .i64 to, .int .i64 dr])
 generalize (w.alloc (.cells #[.int .i64 1, .int .i64 fr, .int .i64 to, .int .i64 dr] 43)) = w0 at *
 have HLay0 := Lib.hid HLay.out
 refine wpIn_flow_new [([false, true, true], 0)] [false, false, false, true] [false, false, false, false, false, true] 4 (fun b => .pointer (some ⟨b, 0, none⟩)) 116 #[.nilFunc, .nilFunc, .nilFunc] (by kernel_rfl) (by kernel_rfl) (by kernel_rfl) (below_drewN (Below.refl _ _) 1) rfl rfl rfl (fun _ _ => rfl) (fun _ _ => rfl) ?_
 refine wpFlow_cons (A := ?AF1) rfl ?hq1 ?_
 case hq1 =>
  rintro σ hσ of hof hcl
  have HOF := Lib.hid hof
  have HCL := Lib.hid hcl
  clear hof hcl
  have c0_ : ∀ z, (of z).cell? ⟨w.heap.size, 0, none⟩ = some (.int .i64 1) := fun z => ((HLay.out.below (HOF.out z)).blk 0 rfl).cell 0
  have c1_ : ∀ z, (of z).cell? ⟨w.heap.size, 1, none⟩ = some (.int .i64 fr) := fun z => ((HLay.out.below (HOF.out z)).blk 0 rfl).cell 1
  have c2_ : ∀ z, (of z).cell? ⟨w.heap.size, 2, none⟩ = some (.int .i64 to) := fun z => ((HLay.out.below (HOF.out z)).blk 0 rfl).cell 2
  have c3_ : ∀ z, (of z).cell? ⟨w.heap.size, 3, none⟩ = some (.int .i64 dr) := fun z => ((HLay.out.below (HOF.out z)).blk 0 rfl).cell 3
  have hfw : ∀ f, Fence.wide.fn f := fun _ => trivial
  have hix : ∀ z : World, (Instr.index 117 (.agg #[.nilFunc, .nilFunc, .nilFunc, .func (.func 61) #[] #[], .func (.func 63) #[] #[], .func (.func 64) #[] #[], .func (.func 65) #[] #[], .func (.func 67) #[] #[], .func (.func 64) #[] #[], .func (.func 68) #[] #[], .func (.func 67) #[] #[], .func (.func 63) #[] #[], .func (.func 69) #[] #[], .func (.func 67) #[] #[], .func (.func 63) #[] #[]]) (.int .i64 1)).run Tryd.prog z = .ok (.agg #[.func (.func 61) #[] #[], .func (.func 63) #[] #[], .func (.func 64) #[] #[]]) z := fun _ => by kernel_rfl
  simp only [pickB]
  repeat (gi_big_quiet_step (fail))
  refine wpQuietIn_nil ?_
  exact rfl
 intro W1 hW
 replace HLay := Lib.hid (HLay.out.below hW)
 clear hW
 gi_wp2
 refine ⟨trivial, (callsIn_wide.2 (kinds_any W1)).mono ?_⟩
 rintro e W2 ⟨rfl, hb⟩
 replace HLay := Lib.hid (HLay.out.below hb)
 gi_wp2
 refine ⟨trivial, hb, ?_⟩
 clear hb
 refine wpFlow_nil (A := ?AF2) ?hq2 ?_
 case hq2 =>
  rintro σ hσ of hof hcl
  have HOF := Lib.hid hof
  have HCL := Lib.hid hcl
  clear hof hcl
  have c0_ : ∀ z, (of z).cell? ⟨w.heap.size, 0, none⟩ = some (.int .i64 1) := fun z => ((HLay.out.below (HOF.out z)).blk 0 rfl).cell 0
  have c1_ : ∀ z, (of z).cell? ⟨w.heap.size, 1, none⟩ = some (.int .i64 fr) := fun z => ((HLay.out.below (HOF.out z)).blk 0 rfl).cell 1
  have c2_ : ∀ z, (of z).cell? ⟨w.heap.size, 2, none⟩ = some (.int .i64 to) := fun z => ((HLay.out.below (HOF.out z)).blk 0 rfl).cell 2
  have c3_ : ∀ z, (of z).cell? ⟨w.heap.size, 3, none⟩ = some (.int .i64 dr) := fun z => ((HLay.out.below (HOF.out z)).blk 0 rfl).cell 3
  have hfw : ∀ f, Fence.wide.fn f := fun _ => trivial
  have hix : ∀ z : World, (Instr.index 117 (.agg #[.nilFunc, .nilFunc, .nilFunc, .func (.func 61) #[] #[], .func (.func 63) #[] #[], .func (.func 64) #[] #[], .func (.func 65) #[] #[], .func (.func 67) #[] #[], .func (.func 64) #[] #[], .func (.func 68) #[] #[], .func (.func 67) #[] #[], .func (.func 63) #[] #[], .func (.func 69) #[] #[], .func (.func 67) #[] #[], .func (.func 63) #[] #[]]) (.int .i64 1)).run Tryd.prog z = .ok (.agg #[.func (.func 61) #[] #[], .func (.func 63) #[] #[], .func (.func 64) #[] #[]]) z := fun _ => by kernel_rfl
  simp only [pickB]
  repeat (gi_big_quiet_step (fail))
  refine wpQuietIn_nil ?_
  exact rfl
 intro b W3 hW hbg hbb hbi
 replace HLay := Lib.hid (HLay.out.below hW)
 have c0 := hbb.cell 0
 have z0 := hbb.frozen 0
 have c1 := hbb.cell 1
 have z1 := hbb.frozen 1
 have c2 := hbb.cell 2
 have z2 := hbb.frozen 2
 have hbl := hbb.lt
 have hbw : w.heap.size ≤ b := Nat.le_trans (HLay0.out.1.size) hbg
 simp only [pickB]
 refine wpT_cons ?_
 gi_wp2
 refine wpT_nil ?_
 have R3 := ret3' hbb (Below.refl b W3) (Nat.le_refl _) (.func (.func 61) #[] #[]) (.func (.func 63) #[] #[]) (.func (.func 64) #[] #[])
 have HLay9 := Lib.hid (Lay.add (w := w) (bs := [(w.heap.size, 43, #[.int .i64 1, .int .i64 fr, .int .i64 to, .int .i64 dr])]) ⟨HLay.out.1.trans (R3.2.mono hbw), fun p hp => ⟨(HLay.out.2 p hp).1, (HLay.out.2 p hp).2.below R3.2 (by have := (HLay0.out.2 p hp).2.lt; omega)⟩⟩ hbw R3.1)
 generalize (((W3.setCell ⟨b, 0, none⟩ (.func (.func 61) #[] #[])).setCell ⟨b, 1, none⟩ (.func (.func 63) #[] #[])).setCell ⟨b, 2, none⟩ (.func (.func 64) #[] #[])) = W99 at *
 clear c0 z0 c1 z1 c2 z2 hbl hbb hW hbg R3
 replace HLay := HLay9
 gi_wp2
 refine wpIn_flow_old [([true, true, true, true, false, true, true, true, true], 4), ([], 9)] [false, false, false, false, false, false, false, false, false, false, true, true] [] (by kernel_rfl) (by kernel_rfl) (by kernel_rfl) (below_drewN (Below.refl _ _) 1) ?_
 refine wpFlow_cons (A := ?AF3) rfl ?hq3 ?_
 case hq3 =>
  rintro σ hσ of hof hcl
  have HOF := Lib.hid hof
  have HCL := Lib.hid hcl
  clear hof hcl
  have c0_ : ∀ z, (of z).cell? ⟨w.heap.size, 0, none⟩ = some (.int .i64 1) := fun z => ((HLay.out.below (HOF.out z)).blk 0 rfl).cell 0
  have c1_ : ∀ z, (of z).cell? ⟨w.heap.size, 1, none⟩ = some (.int .i64 fr) := fun z => ((HLay.out.below (HOF.out z)).blk 0 rfl).cell 1
  have c2_ : ∀ z, (of z).cell? ⟨w.heap.size, 2, none⟩ = some (.int .i64 to) := fun z => ((HLay.out.below (HOF.out z)).blk 0 rfl).cell 2
  have c3_ : ∀ z, (of z).cell? ⟨w.heap.size, 3, none⟩ = some (.int .i64 dr) := fun z => ((HLay.out.below (HOF.out z)).blk 0 rfl).cell 3
  have c4_ : ∀ z, (of z).cell? ⟨b, 0, none⟩ = some (.func (.func 61) #[] #[]) := fun z => ((HLay.out.below (HOF.out z)).blk 1 rfl).cell 0
  have c5_ : ∀ z, (of z).cell? ⟨b, 1, none⟩ = some (.func (.func 63) #[] #[]) := fun z => ((HLay.out.below (HOF.out z)).blk 1 rfl).cell 1
  have c6_ : ∀ z, (of z).cell? ⟨b, 2, none⟩ = some (.func (.func 64) #[] #[]) := fun z => ((HLay.out.below (HOF.out z)).blk 1 rfl).cell 2
  have hfw : ∀ f, Fence.wide.fn f := fun _ => trivial
  simp only [pickB]
  repeat (gi_big_quiet_step (fail))
  refine wpQuietIn_nil ?_
  exact rfl
 intro W4 hW
 replace HLay := Lib.hid (HLay.out.below hW)
 clear hW
 gi_wp2
 refine ⟨trivial, (callsIn_wide.2 (nowhere_any T ⟨1, fr, to, dr⟩ W4)).mono ?_⟩
 rintro e W5 ⟨rfl, hb⟩
 replace HLay := Lib.hid (HLay.out.below hb)
 gi_wp2
 refine ⟨trivial, hb, ?_⟩
 clear hb
 refine wpFlow_cons rfl Quietly.none ?_
 intro W6 hW
 replace HLay := Lib.hid (HLay.out.below hW)
 clear hW
 gi_wp2
 refine ⟨trivial, (callsIn_wide.2 (target_any T ⟨1, fr, to, dr⟩ W6 (HT.out.below HLay.out.1))).mono ?_⟩
 rintro e W7 ⟨rfl, hb⟩
 replace HLay := Lib.hid (HLay.out.below hb)
 gi_wp2
 refine ⟨trivial, hb, ?_⟩
 clear hb
 refine wpFlow_nil (A := ?AF4) ?hq4 ?_
 case hq4 =>
  rintro σ hσ of hof hcl
  have HOF := Lib.hid hof
  have HCL := Lib.hid hcl
  clear hof hcl
  have c0_ : ∀ z, (of z).cell? ⟨w.heap.size, 0, none⟩ = some (.int .i64 1) := fun z => ((HLay.out.below (HOF.out z)).blk 0 rfl).cell 0
  have c1_ : ∀ z, (of z).cell? ⟨w.heap.size, 1, none⟩ = some (.int .i64 fr) := fun z => ((HLay.out.below (HOF.out z)).blk 0 rfl).cell 1
  have c2_ : ∀ z, (of z).cell? ⟨w.heap.size, 2, none⟩ = some (.int .i64 to) := fun z => ((HLay.out.below (HOF.out z)).blk 0 rfl).cell 2
  have c3_ : ∀ z, (of z).cell? ⟨w.heap.size, 3, none⟩ = some (.int .i64 dr) := fun z => ((HLay.out.below (HOF.out z)).blk 0 rfl).cell 3
  have c4_ : ∀ z, (of z).cell? ⟨b, 0, none⟩ = some (.func (.func 61) #[] #[]) := fun z => ((HLay.out.below (HOF.out z)).blk 1 rfl).cell 0
  have c5_ : ∀ z, (of z).cell? ⟨b, 1, none⟩ = some (.func (.func 63) #[] #[]) := fun z => ((HLay.out.below (HOF.out z)).blk 1 rfl).cell 1
  have c6_ : ∀ z, (of z).cell? ⟨b, 2, none⟩ = some (.func (.func 64) #[] #[]) := fun z => ((HLay.out.below (HOF.out z)).blk 1 rfl).cell 2
  have hfw : ∀ f, Fence.wide.fn f := fun _ => trivial
  simp only [pickB]
  repeat (gi_big_quiet_step (fail))
  refine wpQuietIn_nil ?_
  exact rfl
 intro W8 hW
 replace HLay := Lib.hid (HLay.out.below hW)
 clear hW
 simp only [pickB]
 refine wpT_nil ?_
 gi_wp2
 refine bodyPost_ret (v := .tuple #[.int .i64 (-1), .int .i64 (idxV T.m.vessels to)]) (by simp [results, Tryd.results27, go_sem]) rfl ?_
 exact ⟨rfl, HLay.out.1⟩

set_option maxRecDepth 100000 in
set_option maxHeartbeats 8000000 in
theorem ends2_in (T : Tb) (fr to dr : Int) (w : World) (h : TbAt w T) :
  CallsIn Fence.wide 9 Tryd.prog 27 #[.pointer (some ⟨T.g, 0, none⟩), .agg #[.int .i64 2, .int .i64 fr, .int .i64 to, .int .i64 dr]] w fun e w' => e = .returned (.tuple #[.int .i64 (idxV T.m.vessels fr), .int .i64 (idxV T.m.vessels to)]) ∧ Below w.heap.size w w' := by
 have HT := Lib.hid h
 clear h
 have hE1 := enters_source
 have hE2 := enters_target
 refine callsIn_of_wp Tryd.func27 rfl trivial ?_ rfl
 simp only [Tryd.ntmps27, List.size_toArray, List.length_cons, List.length_nil, Nat.reduceAdd, Nat.reduceSub, Array.replicate_succ, Array.replicate_zero, List.push_toArray, List.append_toArray, List.nil_append, List.cons_append]
 gi_wp2
 have HLay := Lib.hid (Lay.one w 43 #[.int .i64 2, .int .i64 fr, .int .i64 to, .int .i64 dr])
 generalize (w.alloc (.cells #[.int .i64 2, .int .i64 fr, .int .i64 to, .int .i64 dr] 43)) = w0 at *
 have HLay0 := Lib.hid HLay.out
 refine wpIn_flow_new [([false, true, true], 0)] [false, false, false, true] [false, false, false, false, false, true] 4 (fun b => .pointer (some ⟨b, 0, none⟩)) 116 #[.nilFunc, .nilFunc, .nilFunc] (by kernel_rfl) (by kernel_rfl) (by kernel_rfl) (below_drewN (Below.refl _ _) 1) rfl rfl rfl (fun _ _ => rfl) (fun _ _ => rfl) ?_
 refine wpFlow_cons (A := ?AF1) rfl ?hq1 ?_
 case hq1 =>
  rintro σ hσ of hof hcl
  have HOF := Lib.hid hof
  have HCL := Lib.hid hcl
  clear hof hcl
  have c0_ : ∀ z, (of z).cell? ⟨w.heap.size, 0, none⟩ = some (.int .i64 2) := fun z => ((HLay.out.below (HOF.out z)).blk 0 rfl).cell 0
  have c1_ : ∀ z, (of z).cell? ⟨w.heap.size, 1, none⟩ = some (.int .i64 fr) := fun z => ((HLay.out.below (HOF.out z)).blk 0 rfl).cell 1
  have c2_ : ∀ z, (of z).cell? ⟨w.heap.size, 2, none⟩ = some (.int .i64 to) := fun z => ((HLay.out.below (HOF.out z)).blk 0 rfl).cell 2
  have c3_ : ∀ z, (of z).cell? ⟨w.heap.size, 3, none⟩ = some (.int .i64 dr) := fun z => ((HLay.out.below (HOF.out z)).blk 0 rfl).cell 3
  have hfw : ∀ f, Fence.wide.fn f := fun _ => trivial
  have hix : ∀ z : World, (Instr.index 117 (.agg #[.nilFunc, .nilFunc, .nilFunc, .func (.func 61) #[] #[], .func (.func 63) #[] #[], .func (.func 64) #[] #[], .func (.func 65) #[] #[], .func (.func 67) #[] #[], .func (.func 64) #[] #[], .func (.func 68) #[] #[], .func (.func 67) #[] #[], .func (.func 63) #[] #[], .func (.func 69) #[] #[], .func (.func 67) #[] #[], .func (.func 63) #[] #[]]) (.int .i64 2)).run Tryd.prog z = .ok (.agg #[.func (.func 65) #[] #[], .func (.func 67) #[] #[], .func (.func 64) #[] #[]]) z := fun _ => by kernel_rfl
  simp only [pickB]
  repeat (gi_big_quiet_step (fail))
  refine wpQuietIn_nil ?_
  exact rfl
 intro W1 hW
 replace HLay := Lib.hid (HLay.out.below hW)
 clear hW
 gi_wp2
 refine ⟨trivial, (callsIn_wide.2 (kinds_any W1)).mono ?_⟩
 rintro e W2 ⟨rfl, hb⟩
 replace HLay := Lib.hid (HLay.out.below hb)
 gi_wp2
 refine ⟨trivial, hb, ?_⟩
 clear hb
 refine wpFlow_nil (A := ?AF2) ?hq2 ?_
 case hq2 =>
  rintro σ hσ of hof hcl
  have HOF := Lib.hid hof
  have HCL := Lib.hid hcl
  clear hof hcl
  have c0_ : ∀ z, (of z).cell? ⟨w.heap.size, 0, none⟩ = some (.int .i64 2) := fun z => ((HLay.out.below (HOF.out z)).blk 0 rfl).cell 0
  have c1_ : ∀ z, (of z).cell? ⟨w.heap.size, 1, none⟩ = some (.int .i64 fr) := fun z => ((HLay.out.below (HOF.out z)).blk 0 rfl).cell 1
  have c2_ : ∀ z, (of z).cell? ⟨w.heap.size, 2, none⟩ = some (.int .i64 to) := fun z => ((HLay.out.below (HOF.out z)).blk 0 rfl).cell 2
  have c3_ : ∀ z, (of z).cell? ⟨w.heap.size, 3, none⟩ = some (.int .i64 dr) := fun z => ((HLay.out.below (HOF.out z)).blk 0 rfl).cell 3
  have hfw : ∀ f, Fence.wide.fn f := fun _ => trivial
  have hix : ∀ z : World, (Instr.index 117 (.agg #[.nilFunc, .nilFunc, .nilFunc, .func (.func 61) #[] #[], .func (.func 63) #[] #[], .func (.func 64) #[] #[], .func (.func 65) #[] #[], .func (.func 67) #[] #[], .func (.func 64) #[] #[], .func (.func 68) #[] #[], .func (.func 67) #[] #[], .func (.func 63) #[] #[], .func (.func 69) #[] #[], .func (.func 67) #[] #[], .func (.func 63) #[] #[]]) (.int .i64 2)).run Tryd.prog z = .ok (.agg #[.func (.func 65) #[] #[], .func (.func 67) #[] #[], .func (.func 64) #[] #[]]) z := fun _ => by kernel_rfl
  simp only [pickB]
  repeat (gi_big_quiet_step (fail))
  refine wpQuietIn_nil ?_
  exact rfl
 intro b W3 hW hbg hbb hbi
 replace HLay := Lib.hid (HLay.out.below hW)
 have c0 := hbb.cell 0
 have z0 := hbb.frozen 0
 have c1 := hbb.cell 1
 have z1 := hbb.frozen 1
 have c2 := hbb.cell 2
 have z2 := hbb.frozen 2
 have hbl := hbb.lt
 have hbw : w.heap.size ≤ b := Nat.le_trans (HLay0.out.1.size) hbg
 simp only [pickB]
 refine wpT_cons ?_
 gi_wp2
 refine wpT_nil ?_
 have R3 := ret3' hbb (Below.refl b W3) (Nat.le_refl _) (.func (.func 65) #[] #[]) (.func (.func 67) #[] #[]) (.func (.func 64) #[] #[])
 have HLay9 := Lib.hid (Lay.add (w := w) (bs := [(w.heap.size, 43, #[.int .i64 2, .int .i64 fr, .int .i64 to, .int .i64 dr])]) ⟨HLay.out.1.trans (R3.2.mono hbw), fun p hp => ⟨(HLay.out.2 p hp).1, (HLay.out.2 p hp).2.below R3.2 (by have := (HLay0.out.2 p hp).2.lt; omega)⟩⟩ hbw R3.1)
 generalize (((W3.setCell ⟨b, 0, none⟩ (.func (.func 65) #[] #[])).setCell ⟨b, 1, none⟩ (.func (.func 67) #[] #[])).setCell ⟨b, 2, none⟩ (.func (.func 64) #[] #[])) = W99 at *
 clear c0 z0 c1 z1 c2 z2 hbl hbb hW hbg R3
 replace HLay := HLay9
 gi_wp2
 refine wpIn_flow_old [([true, true, true, true, false, true, true, true, true], 4), ([], 9)] [false, false, false, false, false, false, false, false, false, false, true, true] [] (by kernel_rfl) (by kernel_rfl) (by kernel_rfl) (below_drewN (Below.refl _ _) 1) ?_
 refine wpFlow_cons (A := ?AF3) rfl ?hq3 ?_
 case hq3 =>
  rintro σ hσ of hof hcl
  have HOF := Lib.hid hof
  have HCL := Lib.hid hcl
  clear hof hcl
  have c0_ : ∀ z, (of z).cell? ⟨w.heap.size, 0, none⟩ = some (.int .i64 2) := fun z => ((HLay.out.below (HOF.out z)).blk 0 rfl).cell 0
  have c1_ : ∀ z, (of z).cell? ⟨w.heap.size, 1, none⟩ = some (.int .i64 fr) := fun z => ((HLay.out.below (HOF.out z)).blk 0 rfl).cell 1
  have c2_ : ∀ z, (of z).cell? ⟨w.heap.size, 2, none⟩ = some (.int .i64 to) := fun z => ((HLay.out.below (HOF.out z)).blk 0 rfl).cell 2
  have c3_ : ∀ z, (of z).cell? ⟨w.heap.size, 3, none⟩ = some (.int .i64 dr) := fun z => ((HLay.out.below (HOF.out z)).blk 0 rfl).cell 3
  have c4_ : ∀ z, (of z).cell? ⟨b, 0, none⟩ = some (.func (.func 65) #[] #[]) := fun z => ((HLay.out.below (HOF.out z)).blk 1 rfl).cell 0
  have c5_ : ∀ z, (of z).cell? ⟨b, 1, none⟩ = some (.func (.func 67) #[] #[]) := fun z => ((HLay.out.below (HOF.out z)).blk 1 rfl).cell 1
  have c6_ : ∀ z, (of z).cell? ⟨b, 2, none⟩ = some (.func (.func 64) #[] #[]) := fun z => ((HLay.out.below (HOF.out z)).blk 1 rfl).cell 2
  have hfw : ∀ f, Fence.wide.fn f := fun _ => trivial
  simp only [pickB]
  repeat (gi_big_quiet_step (fail))
  refine wpQuietIn_nil ?_
  exact rfl
 intro W4 hW
 replace HLay := Lib.hid (HLay.out.below hW)
 clear hW
 gi_wp2
 refine ⟨trivial, (callsIn_wide.2 (source_any T ⟨2, fr, to, dr⟩ W4 (HT.out.below HLay.out.1))).mono ?_⟩
 rintro e W5 ⟨rfl, hb⟩
 replace HLay := Lib.hid (HLay.out.below hb)
 gi_wp2
 refine ⟨trivial, hb, ?_⟩
 clear hb
 refine wpFlow_cons rfl Quietly.none ?_
 intro W6 hW
 replace HLay := Lib.hid (HLay.out.below hW)
 clear hW
 gi_wp2
 refine ⟨trivial, (callsIn_wide.2 (target_any T ⟨2, fr, to, dr⟩ W6 (HT.out.below HLay.out.1))).mono ?_⟩
 rintro e W7 ⟨rfl, hb⟩
 replace HLay := Lib.hid (HLay.out.below hb)
 gi_wp2
 refine ⟨trivial, hb, ?_⟩
 clear hb
 refine wpFlow_nil (A := ?AF4) ?hq4 ?_
 case hq4 =>
  rintro σ hσ of hof hcl
  have HOF := Lib.hid hof
  have HCL := Lib.hid hcl
  clear hof hcl
  have c0_ : ∀ z, (of z).cell? ⟨w.heap.size, 0, none⟩ = some (.int .i64 2) := fun z => ((HLay.out.below (HOF.out z)).blk 0 rfl).cell 0
  have c1_ : ∀ z, (of z).cell? ⟨w.heap.size, 1, none⟩ = some (.int .i64 fr) := fun z => ((HLay.out.below (HOF.out z)).blk 0 rfl).cell 1
  have c2_ : ∀ z, (of z).cell? ⟨w.heap.size, 2, none⟩ = some (.int .i64 to) := fun z => ((HLay.out.below (HOF.out z)).blk 0 rfl).cell 2
  have c3_ : ∀ z, (of z).cell? ⟨w.heap.size, 3, none⟩ = some (.int .i64 dr) := fun z => ((HLay.out.below (HOF.out z)).blk 0 rfl).cell 3
  have c4_ : ∀ z, (of z).cell? ⟨b, 0, none⟩ = some (.func (.func 65) #[] #[]) := fun z => ((HLay.out.below (HOF.out z)).blk 1 rfl).cell 0
  have c5_ : ∀ z, (of z).cell? ⟨b, 1, none⟩ = some (.func (.func 67) #[] #[]) := fun z => ((HLay.out.below (HOF.out z)).blk 1 rfl).cell 1
  have c6_ : ∀ z, (of z).cell? ⟨b, 2, none⟩ = some (.func (.func 64) #[] #[]) := fun z => ((HLay.out.below (HOF.out z)).blk 1 rfl).cell 2
  have hfw : ∀ f, Fence.wide.fn f := fun _ => trivial
  simp only [pickB]
  repeat (gi_big_quiet_step (fail))
  refine wpQuietIn_nil ?_
  exact rfl
 intro W8 hW
 replace HLay := Lib.hid (HLay.out.below hW)
 clear hW
 simp only [pickB]
 refine wpT_nil ?_
 gi_wp2
 refine bodyPost_ret (v := .tuple #[.int .i64 (idxV T.m.vessels fr), .int .i64 (idxV T.m.vessels to)]) (by simp [results, Tryd.results27, go_sem]) rfl ?_
 exact ⟨rfl, HLay.out.1⟩

set_option maxRecDepth 100000 in
set_option maxHeartbeats 8000000 in
theorem ends3_in (T : Tb) (fr to dr : Int) (w : World) (h : TbAt w T) :
  CallsIn Fence.wide 9 Tryd.prog 27 #[.pointer (some ⟨T.g, 0, none⟩), .agg #[.int .i64 3, .int .i64 fr, .int .i64 to, .int .i64 dr]] w fun e w' => e = .returned (.tuple #[.int .i64 (idxV T.m.vessels fr), .int .i64 (-1)]) ∧ Below w.heap.size w w' := by
 have HT := Lib.hid h
 clear h
 have hE1 := enters_source
 have hE2 := enters_nowhere
 refine callsIn_of_wp Tryd.func27 rfl trivial ?_ rfl
 simp only [Tryd.ntmps27, List.size_toArray, List.length_cons, List.length_nil, Nat.reduceAdd, Nat.reduceSub, Array.replicate_succ, Array.replicate_zero, List.push_toArray, List.append_toArray, List.nil_append, List.cons_append]
 gi_wp2
 have HLay := Lib.hid (Lay.one w 43 #[.int .i64 3, .int .i64 fr, .int .i64 to, .int .i64 dr])
 generalize (w.alloc (.cells #[.int .i64 3, .int .i64 fr, .int .i64 to, .int .i64 dr] 43)) = w0 at *
 have HLay0 := Lib.hid HLay.out
 refine wpIn_flow_new [([false, true, true], 0)] [false, false, false, true] [false, false, false, false, false, true] 4 (fun b => .pointer (some ⟨b, 0, none⟩)) 116 #[.nilFunc, .nilFunc, .nilFunc] (by kernel_rfl) (by kernel_rfl) (by kernel_rfl) (below_drewN (Below.refl _ _) 1) rfl rfl rfl (fun _ _ => rfl) (fun _ _ => rfl) ?_
 refine wpFlow_cons (A := ?AF1) rfl ?hq1 ?_
 case hq1 =>
  rintro σ hσ of hof hcl
  have HOF := Lib.hid hof
  have HCL := Lib.hid hcl
  clear hof hcl
  have c0_ : ∀ z, (of z).cell? ⟨w.heap.size, 0, none⟩ = some (.int .i64 3) := fun z => ((HLay.out.below (HOF.out z)).blk 0 rfl).cell 0
  have c1_ : ∀ z, (of z).cell? ⟨w.heap.size, 1, none⟩ = some (.int .i64 fr) := fun z => ((HLay.out.below (HOF.out z)).blk 0 rfl).cell 1
  have c2_ : ∀ z, (of z).cell? ⟨w.heap.size, 2, none⟩ = some (.int .i64 to) := fun z => ((HLay.out.below (HOF.out z)).blk 0 rfl).cell 2
  have c3_ : ∀ z, (of z).cell? ⟨w.heap.size, 3, none⟩ = some (.int .i64 dr) := fun z => ((HLay.out.below (HOF.out z)).blk 0 rfl).cell 3
  have hfw : ∀ f, Fence.wide.fn f := fun _ => trivial
  have hix : ∀ z : World, (Instr.index 117 (.agg #[.nilFunc, .nilFunc, .nilFunc, .func (.func 61) #[] #[], .func (.func 63) #[] #[], .func (.func 64) #[] #[], .func (.func 65) #[] #[], .func (.func 67) #[] #[], .func (.func 64) #[] #[], .func (.func 68) #[] #[], .func (.func 67) #[] #[], .func (.func 63) #[] #[], .func (.func 69) #[] #[], .func (.func 67) #[] #[], .func (.func 63) #[] #[]]) (.int .i64 3)).run Tryd.prog z = .ok (.agg #[.func (.func 68) #[] #[], .func (.func 67) #[] #[], .func (.func 63) #[] #[]]) z := fun _ => by kernel_rfl
  simp only [pickB]
  repeat (gi_big_quiet_step (fail))
  refine wpQuietIn_nil ?_
  exact rfl
 intro W1 hW
 replace HLay := Lib.hid (HLay.out.below hW)
 clear hW
 gi_wp2
 refine ⟨trivial, (callsIn_wide.2 (kinds_any W1)).mono ?_⟩
 rintro e W2 ⟨rfl, hb⟩
 replace HLay := Lib.hid (HLay.out.below hb)
 gi_wp2
 refine ⟨trivial, hb, ?_⟩
 clear hb
 refine wpFlow_nil (A := ?AF2) ?hq2 ?_
 case hq2 =>
  rintro σ hσ of hof hcl
  have HOF := Lib.hid hof
  have HCL := Lib.hid hcl
  clear hof hcl
  have c0_ : ∀ z, (of z).cell? ⟨w.heap.size, 0, none⟩ = some (.int .i64 3) := fun z => ((HLay.out.below (HOF.out z)).blk 0 rfl).cell 0
  have c1_ : ∀ z, (of z).cell? ⟨w.heap.size, 1, none⟩ = some (.int .i64 fr) := fun z => ((HLay.out.below (HOF.out z)).blk 0 rfl).cell 1
  have c2_ : ∀ z, (of z).cell? ⟨w.heap.size, 2, none⟩ = some (.int .i64 to) := fun z => ((HLay.out.below (HOF.out z)).blk 0 rfl).cell 2
  have c3_ : ∀ z, (of z).cell? ⟨w.heap.size, 3, none⟩ = some (.int .i64 dr) := fun z => ((HLay.out.below (HOF.out z)).blk 0 rfl).cell 3
  have hfw : ∀ f, Fence.wide.fn f := fun _ => trivial
  have hix : ∀ z : World, (Instr.index 117 (.agg #[.nilFunc, .nilFunc, .nilFunc, .func (.func 61) #[] #[], .func (.func 63) #[] #[], .func (.func 64) #[] #[], .func (.func 65) #[] #[], .func (.func 67) #[] #[], .func (.func 64) #[] #[], .func (.func 68) #[] #[], .func (.func 67) #[] #[], .func (.func 63) #[] #[], .func (.func 69) #[] #[], .func (.func 67) #[] #[], .func (.func 63) #[] #[]]) (.int .i64 3)).run Tryd.prog z = .ok (.agg #[.func (.func 68) #[] #[], .func (.func 67) #[] #[], .func (.func 63) #[] #[]]) z := fun _ => by kernel_rfl
  simp only [pickB]
  repeat (gi_big_quiet_step (fail))
  refine wpQuietIn_nil ?_
  exact rfl
 intro b W3 hW hbg hbb hbi
 replace HLay := Lib.hid (HLay.out.below hW)
 have c0 := hbb.cell 0
 have z0 := hbb.frozen 0
 have c1 := hbb.cell 1
 have z1 := hbb.frozen 1
 have c2 := hbb.cell 2
 have z2 := hbb.frozen 2
 have hbl := hbb.lt
 have hbw : w.heap.size ≤ b := Nat.le_trans (HLay0.out.1.size) hbg
 simp only [pickB]
 refine wpT_cons ?_
 gi_wp2
 refine wpT_nil ?_
 have R3 := ret3' hbb (Below.refl b W3) (Nat.le_refl _) (.func (.func 68) #[] #[]) (.func (.func 67) #[] #[]) (.func (.func 63) #[] #[])
 have HLay9 := Lib.hid (Lay.add (w := w) (bs := [(w.heap.size, 43, #[.int .i64 3, .int .i64 fr, .int .i64 to, .int .i64 dr])]) ⟨HLay.out.1.trans (R3.2.mono hbw), fun p hp => ⟨(HLay.out.2 p hp).1, (HLay.out.2 p hp).2.below R3.2 (by have := (HLay0.out.2 p hp).2.lt; omega)⟩⟩ hbw R3.1)
 generalize (((W3.setCell ⟨b, 0, none⟩ (.func (.func 68) #[] #[])).setCell ⟨b, 1, none⟩ (.func (.func 67) #[] #[])).setCell ⟨b, 2, none⟩ (.func (.func 63) #[] #[])) = W99 at *
 clear c0 z0 c1 z1 c2 z2 hbl hbb hW hbg R3
 replace HLay := HLay9
 gi_wp2
 refine wpIn_flow_old [([true, true, true, true, false, true, true, true, true], 4), ([], 9)] [false, false, false, false, false, false, false, false, false, false, true, true] [] (by kernel_rfl) (by kernel_rfl) (by kernel_rfl) (below_drewN (Below.refl _ _) 1) ?_
 refine wpFlow_cons (A := ?AF3) rfl ?hq3 ?_
 case hq3 =>
  rintro σ hσ of hof hcl
  have HOF := Lib.hid hof
  have HCL := Lib.hid hcl
  clear hof hcl
  have c0_ : ∀ z, (of z).cell? ⟨w.heap.size, 0, none⟩ = some (.int .i64 3) := fun z => ((HLay.out.below (HOF.out z)).blk 0 rfl).cell 0
  have c1_ : ∀ z, (of z).cell? ⟨w.heap.size, 1, none⟩ = some (.int .i64 fr) := fun z => ((HLay.out.below (HOF.out z)).blk 0 rfl).cell 1
  have c2_ : ∀ z, (of z).cell? ⟨w.heap.size, 2, none⟩ = some (.int .i64 to) := fun z => ((HLay.out.below (HOF.out z)).blk 0 rfl).cell 2
  have c3_ : ∀ z, (of z).cell? ⟨w.heap.size, 3, none⟩ = some (.int .i64 dr) := fun z => ((HLay.out.below (HOF.out z)).blk 0 rfl).cell 3
  have c4_ : ∀ z, (of z).cell? ⟨b, 0, none⟩ = some (.func (.func 68) #[] #[]) := fun z => ((HLay.out.below (HOF.out z)).blk 1 rfl).cell 0
  have c5_ : ∀ z, (of z).cell? ⟨b, 1, none⟩ = some (.func (.func 67) #[] #[]) := fun z => ((HLay.out.below (HOF.out z)).blk 1 rfl).cell 1
  have c6_ : ∀ z, (of z).cell? ⟨b, 2, none⟩ = some (.func (.func 63) #[] #[]) := fun z => ((HLay.out.below (HOF.out z)).blk 1 rfl).cell 2
  have hfw : ∀ f, Fence.wide.fn f := fun _ => trivial
  simp only [pickB]
  repeat (gi_big_quiet_step (fail))
  refine wpQuietIn_nil ?_
  exact rfl
 intro W4 hW
 replace HLay := Lib.hid (HLay.out.below hW)
 clear hW
 gi_wp2
 refine ⟨trivial, (callsIn_wide.2 (source_any T ⟨3, fr, to, dr⟩ W4 (HT.out.below HLay.out.1))).mono ?_⟩
 rintro e W5 ⟨rfl, hb⟩
 replace HLay := Lib.hid (HLay.out.below hb)
 gi_wp2
 refine ⟨trivial, hb, ?_⟩
 clear hb
 refine wpFlow_cons rfl Quietly.none ?_
 intro W6 hW
 replace HLay := Lib.hid (HLay.out.below hW)
 clear hW
 gi_wp2
 refine ⟨trivial, (callsIn_wide.2 (nowhere_any T ⟨3, fr, to, dr⟩ W6)).mono ?_⟩
 rintro e W7 ⟨rfl, hb⟩
 replace HLay := Lib.hid (HLay.out.below hb)
 gi_wp2
 refine ⟨trivial, hb, ?_⟩
 clear hb
 refine wpFlow_nil (A := ?AF4) ?hq4 ?_
 case hq4 =>
  rintro σ hσ of hof hcl
  have HOF := Lib.hid hof
  have HCL := Lib.hid hcl
  clear hof hcl
  have c0_ : ∀ z, (of z).cell? ⟨w.heap.size, 0, none⟩ = some (.int .i64 3) := fun z => ((HLay.out.below (HOF.out z)).blk 0 rfl).cell 0
  have c1_ : ∀ z, (of z).cell? ⟨w.heap.size, 1, none⟩ = some (.int .i64 fr) := fun z => ((HLay.out.below (HOF.out z)).blk 0 rfl).cell 1
  have c2_ : ∀ z, (of z).cell? ⟨w.heap.size, 2, none⟩ = some (.int .i64 to) := fun z => ((HLay.out.below (HOF.out z)).blk 0 rfl).cell 2
  have c3_ : ∀ z, (of z).cell? ⟨w.heap.size, 3, none⟩ = some (.int .i64 dr) := fun z => ((HLay.out.below (HOF.out z)).blk 0 rfl).cell 3
  have c4_ : ∀ z, (of z).cell? ⟨b, 0, none⟩ = some (.func (.func 68) #[] #[]) := fun z => ((HLay.out.below (HOF.out z)).blk 1 rfl).cell 0
  have c5_ : ∀ z, (of z).cell? ⟨b, 1, none⟩ = some (.func (.func 67) #[] #[]) := fun z => ((HLay.out.below (HOF.out z)).blk 1 rfl).cell 1
  have c6_ : ∀ z, (of z).cell? ⟨b, 2, none⟩ = some (.func (.func 63) #[] #[]) := fun z => ((HLay.out.below (HOF.out z)).blk 1 rfl).cell 2
  have hfw : ∀ f, Fence.wide.fn f := fun _ => trivial
  simp only [pickB]
  repeat (gi_big_quiet_step (fail))
  refine wpQuietIn_nil ?_
  exact rfl
 intro W8 hW
 replace HLay := Lib.hid (HLay.out.below hW)
 clear hW
 simp only [pickB]
 refine wpT_nil ?_
 gi_wp2
 refine bodyPost_ret (v := .tuple #[.int .i64 (idxV T.m.vessels fr), .int .i64 (-1)]) (by simp [results, Tryd.results27, go_sem]) rfl ?_
 exact ⟨rfl, HLay.out.1⟩

set_option maxRecDepth 100000 in
set_option maxHeartbeats 8000000 in
theorem ends4_in (T : Tb) (fr to dr : Int) (w : World) (h : TbAt w T) :
  CallsIn Fence.wide 9 Tryd.prog 27 #[.pointer (some ⟨T.g, 0, none⟩), .agg #[.int .i64 4, .int .i64 fr, .int .i64 to, .int .i64 dr]] w fun e w' => e = .returned (.tuple #[.int .i64 (idxV T.m.vessels fr), .int .i64 (-1)]) ∧ Below w.heap.size w w' := by
 have HT := Lib.hid h
 clear h
 have hE1 := enters_source
 have hE2 := enters_nowhere
 refine callsIn_of_wp Tryd.func27 rfl trivial ?_ rfl
 simp only [Tryd.ntmps27, List.size_toArray, List.length_cons, List.length_nil, Nat.reduceAdd, Nat.reduceSub, Array.replicate_succ, Array.replicate_zero, List.push_toArray, List.append_toArray, List.nil_append, List.cons_append]
 gi_wp2
 have HLay := Lib.hid (Lay.one w 43 #[.int .i64 4, .int .i64 fr, .int .i64 to, .int .i64 dr])
 generalize (w.alloc (.cells #[.int .i64 4, .int .i64 fr, .int .i64 to, .int .i64 dr] 43)) = w0 at *
 have HLay0 := Lib.hid HLay.out
 refine wpIn_flow_new [([false, true, true], 0)] [false, false, false, true] [false, false, false, false, false, true] 4 (fun b => .pointer (some ⟨b, 0, none⟩)) 116 #[.nilFunc, .nilFunc, .nilFunc] (by kernel_rfl) (by kernel_rfl) (by kernel_rfl) (below_drewN (Below.refl _ _) 1) rfl rfl rfl (fun _ _ => rfl) (fun _ _ => rfl) ?_
 refine wpFlow_cons (A := ?AF1) rfl ?hq1 ?_
 case hq1 =>
  rintro σ hσ of hof hcl
  have HOF := Lib.hid hof
  have HCL := Lib.hid hcl
  clear hof hcl
  have c0_ : ∀ z, (of z).cell? ⟨w.heap.size, 0, none⟩ = some (.int .i64 4) := fun z => ((HLay.out.below (HOF.out z)).blk 0 rfl).cell 0
  have c1_ : ∀ z, (of z).cell? ⟨w.heap.size, 1, none⟩ = some (.int .i64 fr) := fun z => ((HLay.out.below (HOF.out z)).blk 0 rfl).cell 1
  have c2_ : ∀ z, (of z).cell? ⟨w.heap.size, 2, none⟩ = some (.int .i64 to) := fun z => ((HLay.out.below (HOF.out z)).blk 0 rfl).cell 2
  have c3_ : ∀ z, (of z).cell? ⟨w.heap.size, 3, none⟩ = some (.int .i64 dr) := fun z => ((HLay.out.below (HOF.out z)).blk 0 rfl).cell 3
  have hfw : ∀ f, Fence.wide.fn f := fun _ => trivial
  have hix : ∀ z : World, (Instr.index 117 (.agg #[.nilFunc, .nilFunc, .nilFunc, .func (.func 61) #[] #[], .func (.func 63) #[] #[], .func (.func 64) #[] #[], .func (.func 65) #[] #[], .func (.func 67) #[] #[], .func (.func 64) #[] #[], .func (.func 68) #[] #[], .func (.func 67) #[] #[], .func (.func 63) #[] #[], .func (.func 69) #[] #[], .func (.func 67) #[] #[], .func (.func 63) #[] #[]]) (.int .i64 4)).run Tryd.prog z = .ok (.agg #[.func (.func 69) #[] #[], .func (.func 67) #[] #[], .func (.func 63) #[] #[]]) z := fun _ => by kernel_rfl
  simp only [pickB]
  repeat (gi_big_quiet_step (fail))
  refine wpQuietIn_nil ?_
  exact rfl
 intro W1 hW
 replace HLay := Lib.hid (HLay.out.below hW)
 clear hW
 gi_wp2
 refine ⟨trivial, (callsIn_wide.2 (kinds_any W1)).mono ?_⟩
 rintro e W2 ⟨rfl, hb⟩
 replace HLay := Lib.hid (HLay.out.below hb)
 gi_wp2
 refine ⟨trivial, hb, ?_⟩
 clear hb
 refine wpFlow_nil (A := ?AF2) ?hq2 ?_
 case hq2 =>
  rintro σ hσ of hof hcl
  have HOF := Lib.hid hof
  have HCL := Lib.hid hcl
  clear hof hcl
  have c0_ : ∀ z, (of z).cell? ⟨w.heap.size, 0, none⟩ = some (.int .i64 4) := fun z => ((HLay.out.below (HOF.out z)).blk 0 rfl).cell 0
  have c1_ : ∀ z, (of z).cell? ⟨w.heap.size, 1, none⟩ = some (.int .i64 fr) := fun z => ((HLay.out.below (HOF.out z)).blk 0 rfl).cell 1
  have c2_ : ∀ z, (of z).cell? ⟨w.heap.size, 2, none⟩ = some (.int .i64 to) := fun z => ((HLay.out.below (HOF.out z)).blk 0 rfl).cell 2
  have c3_ : ∀ z, (of z).cell? ⟨w.heap.size, 3, none⟩ = some (.int .i64 dr) := fun z => ((HLay.out.below (HOF.out z)).blk 0 rfl).cell 3
  have hfw : ∀ f, Fence.wide.fn f := fun _ => trivial
  have hix : ∀ z : World, (Instr.index 117 (.agg #[.nilFunc, .nilFunc, .nilFunc, .func (.func 61) #[] #[], .func (.func 63) #[] #[], .func (.func 64) #[] #[], .func (.func 65) #[] #[], .func (.func 67) #[] #[], .func (.func 64) #[] #[], .func (.func 68) #[] #[], .func (.func 67) #[] #[], .func (.func 63) #[] #[], .func (.func 69) #[] #[], .func (.func 67) #[] #[], .func (.func 63) #[] #[]]) (.int .i64 4)).run Tryd.prog z = .ok (.agg #[.func (.func 69) #[] #[], .func (.func 67) #[] #[], .func (.func 63) #[] #[]]) z := fun _ => by kernel_rfl
  simp only [pickB]
  repeat (gi_big_quiet_step (fail))
  refine wpQuietIn_nil ?_
  exact rfl
 intro b W3 hW hbg hbb hbi
 replace HLay := Lib.hid (HLay.out.below hW)
 have c0 := hbb.cell 0
 have z0 := hbb.frozen 0
 have c1 := hbb.cell 1
 have z1 := hbb.frozen 1
 have c2 := hbb.cell 2
 have z2 := hbb.frozen 2
 have hbl := hbb.lt
 have hbw : w.heap.size ≤ b := Nat.le_trans (HLay0.out.1.size) hbg
 simp only [pickB]
 refine wpT_cons ?_
 gi_wp2
 refine wpT_nil ?_
 have R3 := ret3' hbb (Below.refl b W3) (Nat.le_refl _) (.func (.func 69) #[] #[]) (.func (.func 67) #[] #[]) (.func (.func 63) #[] #[])
 have HLay9 := Lib.hid (Lay.add (w := w) (bs := [(w.heap.size, 43, #[.int .i64 4, .int .i64 fr, .int .i64 to, .int .i64 dr])]) ⟨HLay.out.1.trans (R3.2.mono hbw), fun p hp => ⟨(HLay.out.2 p hp).1, (HLay.out.2 p hp).2.below R3.2 (by have := (HLay0.out.2 p hp).2.lt; omega)⟩⟩ hbw R3.1)
 generalize (((W3.setCell ⟨b, 0, none⟩ (.func (.func 69) #[] #[])).setCell ⟨b, 1, none⟩ (.func (.func 67) #[] #[])).setCell ⟨b, 2, none⟩ (.func (.func 63) #[] #[])) = W99 at *
 clear c0 z0 c1 z1 c2 z2 hbl hbb hW hbg R3
 replace HLay := HLay9
 gi_wp2
 refine wpIn_flow_old [([true, true, true, true, false, true, true, true, true], 4), ([], 9)] [false, false, false, false, false, false, false, false, false, false, true, true] [] (by kernel_rfl) (by kernel_rfl) (by kernel_rfl) (below_drewN (Below.refl _ _) 1) ?_
 refine wpFlow_cons (A := ?AF3) rfl ?hq3 ?_
 case hq3 =>
  rintro σ hσ of hof hcl
  have HOF := Lib.hid hof
  have HCL := Lib.hid hcl
  clear hof hcl
  have c0_ : ∀ z, (of z).cell? ⟨w.heap.size, 0, none⟩ = some (.int .i64 4) := fun z => ((HLay.out.below (HOF.out z)).blk 0 rfl).cell 0
  have c1_ : ∀ z, (of z).cell? ⟨w.heap.size, 1, none⟩ = some (.int .i64 fr) := fun z => ((HLay.out.below (HOF.out z)).blk 0 rfl).cell 1
  have c2_ : ∀ z, (of z).cell? ⟨w.heap.size, 2, none⟩ = some (.int .i64 to) := fun z => ((HLay.out.below (HOF.out z)).blk 0 rfl).cell 2
  have c3_ : ∀ z, (of z).cell? ⟨w.heap.size, 3, none⟩ = some (.int .i64 dr) := fun z => ((HLay.out.below (HOF.out z)).blk 0 rfl).cell 3
  have c4_ : ∀ z, (of z).cell? ⟨b, 0, none⟩ = some (.func (.func 69) #[] #[]) := fun z => ((HLay.out.below (HOF.out z)).blk 1 rfl).cell 0
  have c5_ : ∀ z, (of z).cell? ⟨b, 1, none⟩ = some (.func (.func 67) #[] #[]) := fun z => ((HLay.out.below (HOF.out z)).blk 1 rfl).cell 1
  have c6_ : ∀ z, (of z).cell? ⟨b, 2, none⟩ = some (.func (.func 63) #[] #[]) := fun z => ((HLay.out.below (HOF.out z)).blk 1 rfl).cell 2
  have hfw : ∀ f, Fence.wide.fn f := fun _ => trivial
  simp only [pickB]
  repeat (gi_big_quiet_step (fail))
  refine wpQuietIn_nil ?_
  exact rfl
 intro W4 hW
 replace HLay := Lib.hid (HLay.out.below hW)
 clear hW
 gi_wp2
 refine ⟨trivial, (callsIn_wide.2 (source_any T ⟨4, fr, to, dr⟩ W4 (HT.out.below HLay.out.1))).mono ?_⟩
 rintro e W5 ⟨rfl, hb⟩
 replace HLay := Lib.hid (HLay.out.below hb)
 gi_wp2
 refine ⟨trivial, hb, ?_⟩
 clear hb
 refine wpFlow_cons rfl Quietly.none ?_
 intro W6 hW
 replace HLay := Lib.hid (HLay.out.below hW)
 clear hW
 gi_wp2
 refine ⟨trivial, (callsIn_wide.2 (nowhere_any T ⟨4, fr, to, dr⟩ W6)).mono ?_⟩
 rintro e W7 ⟨rfl, hb⟩
 replace HLay := Lib.hid (HLay.out.below hb)
 gi_wp2
 refine ⟨trivial, hb, ?_⟩
 clear hb
 refine wpFlow_nil (A := ?AF4) ?hq4 ?_
 case hq4 =>
  rintro σ hσ of hof hcl
  have HOF := Lib.hid hof
  have HCL := Lib.hid hcl
  clear hof hcl
  have c0_ : ∀ z, (of z).cell? ⟨w.heap.size, 0, none⟩ = some (.int .i64 4) := fun z => ((HLay.out.below (HOF.out z)).blk 0 rfl).cell 0
  have c1_ : ∀ z, (of z).cell? ⟨w.heap.size, 1, none⟩ = some (.int .i64 fr) := fun z => ((HLay.out.below (HOF.out z)).blk 0 rfl).cell 1
  have c2_ : ∀ z, (of z).cell? ⟨w.heap.size, 2, none⟩ = some (.int .i64 to) := fun z => ((HLay.out.below (HOF.out z)).blk 0 rfl).cell 2
  have c3_ : ∀ z, (of z).cell? ⟨w.heap.size, 3, none⟩ = some (.int .i64 dr) := fun z => ((HLay.out.below (HOF.out z)).blk 0 rfl).cell 3
  have c4_ : ∀ z, (of z).cell? ⟨b, 0, none⟩ = some (.func (.func 69) #[] #[]) := fun z => ((HLay.out.below (HOF.out z)).blk 1 rfl).cell 0
  have c5_ : ∀ z, (of z).cell? ⟨b, 1, none⟩ = some (.func (.func 67) #[] #[]) := fun z => ((HLay.out.below (HOF.out z)).blk 1 rfl).cell 1
  have c6_ : ∀ z, (of z).cell? ⟨b, 2, none⟩ = some (.func (.func 63) #[] #[]) := fun z => ((HLay.out.below (HOF.out z)).blk 1 rfl).cell 2
  have hfw : ∀ f, Fence.wide.fn f := fun _ => trivial
  simp only [pickB]
  repeat (gi_big_quiet_step (fail))
  refine wpQuietIn_nil ?_
  exact rfl
 intro W8 hW
 replace HLay := Lib.hid (HLay.out.below hW)
 clear hW
 simp only [pickB]
 refine wpT_nil ?_
 gi_wp2
 refine bodyPost_ret (v := .tuple #[.int .i64 (idxV T.m.vessels fr), .int .i64 (-1)]) (by simp [results, Tryd.results27, go_sem]) rfl ?_
 exact ⟨rfl, HLay.out.1⟩

def KindOk (x : MAct) : Prop := x.kind = 1 ∨ x.kind = 2 ∨ x.kind = 3 ∨ x.kind = 4
theorem ends_in (T : Tb) (x : MAct) (w : World) (h : TbAt w T) (hk : KindOk x) :
  CallsIn Fence.wide 9 Tryd.prog 27 #[.pointer (some ⟨T.g, 0, none⟩), .agg #[.int .i64 x.kind, .int .i64 x.fr, .int .i64 x.to, .int .i64 x.drops]] w fun e w' => e = .returned (.tuple #[.int .i64 (fromI T.m x), .int .i64 (toI T.m x)]) ∧ Below w.heap.size w w' := by
 obtain ⟨k, fr, to, dr⟩ := x
 rcases hk with rfl | rfl | rfl | rfl
 ·exact ends1_in T fr to dr w h
 ·exact ends2_in T fr to dr w h
 ·exact ends3_in T fr to dr w h
 ·exact ends4_in T fr to dr w h

end Go.Proofs.YtjdgdeiedkickaaDoor.Mx
/- How many drops an act moves. -/
namespace Go.Proofs.YtjdgdeiedkickaaDoor.Mx
open Go.RowKit

theorem heldC_l (s : Held) {q : Nat} (h : q < 4) : (heldC s)[q]? = some (.int .i64 (heldAt s (q : Int))) := by
 match q, h with
 | 0, _ => rfl
 | 1, _ => rfl
 | 2, _ => rfl
 | 3, _ => rfl
set_option maxRecDepth 100000 in
set_option maxHeartbeats 8000000 in
theorem size_in (T : Tb) (k : Nat) (x : MAct) (all : Held) (w : World) (h : TbAt w T) (hx : T.m.acts[k]? = some x) (ha : T.L[k]? = some all) (hk : KindOk x) (hf : x.kind = 4 → 0 ≤ fromI T.m x) :
  CallsIn Fence.wide 9 Tryd.prog 28 #[.pointer (some ⟨T.g, 0, none⟩), .int .i64 k] w fun e w' => e = .returned (.int .i64 (sizeA T.m all x)) ∧ Below w.heap.size w w' := by
 have HT := Lib.hid h
 have hka : k < T.na := by have := h.mix.lenA; have := (List.getElem?_eq_some_iff.1 hx).1; omega
 obtain ⟨ba, oa, x', hAa, hba, hx', c0, c1, c2, c3⟩ := h.mix.act hka
 rw [hx] at hx'
 obtain rfl : x = x' := Option.some.inj hx'
 have hkl : k < T.nl := by have := recs_n heldC_k (by omega) h.all; have := (List.getElem?_eq_some_iff.1 ha).1; omega
 obtain ⟨bl, ol, all', hAL, hbl, ha', cl⟩ := recs_cell heldC_k (by omega) h.all hkl
 rw [ha] at ha'
 obtain rfl : all = all' := Option.some.inj ha'
 have HX := Lib.hid hx
 have HC0 := Lib.hid c0
 have HC1 := Lib.hid c1
 have HC2 := Lib.hid c2
 have HC3 := Lib.hid c3
 have HCL := Lib.hid cl
 have HAA := Lib.hid hAa
 have HAL := Lib.hid hAL
 have HBA := Lib.hid hba
 have HBL := Lib.hid hbl
 have HKA := Lib.hid hka
 have HKL := Lib.hid hkl
 have hsm := h.small
 clear hx hx' ha ha' c0 c1 c2 c3 cl hAa hAL hba hbl h
 have t2 : w.cell? ⟨T.g, 2, none⟩ = some (.slice (some ⟨ba, oa, none⟩) T.na T.ca) := by rw [← HAA.out]; exact HT.out.blk.cell 2
 have tl := HT.out.blk.lt
 have c0 := HC0.out
 have c1 := HC1.out
 have c2 := HC2.out
 have c3 := HC3.out
 have hka := HKA.out
 refine callsIn_of_wp Tryd.func28 rfl trivial ?_ rfl
 simp only [Tryd.ntmps28, List.size_toArray, List.length_cons, List.length_nil, Nat.reduceAdd, Nat.reduceSub, Array.replicate_succ, Array.replicate_zero, List.push_toArray, List.append_toArray, List.nil_append, List.cons_append]
 gi_upto_region 2 with fail
 clear t2 tl c0 c1 c2 c3
 have HLay := Lib.hid (Lay.one w 43 #[.int .i64 x.kind, .int .i64 x.fr, .int .i64 x.to, .int .i64 x.drops])
 generalize (w.alloc (.cells #[.int .i64 x.kind, .int .i64 x.fr, .int .i64 x.to, .int .i64 x.drops] 43)) = w0 at *
 by_cases h4 : x.kind = 4
 ·
  have HS : Hid (sizeA T.m all x = heldAt all (fromI T.m x)) := Lib.hid (by unfold sizeA; rw [if_pos h4])
  have hk4 : (x.kind == 4) = true := by simpa using h4
  have HF0 := Lib.hid (hf h4)
  have HF4 := Lib.hid (fromI_small (m := T.m) (by have := HT.out.mix.lenV; omega) x)
  clear h4
  have x0_0 := (HLay.out.blk 0 rfl).cell 0
  have x0_1 := (HLay.out.blk 0 rfl).cell 1
  have x0_2 := (HLay.out.blk 0 rfl).cell 2
  have x0_3 := (HLay.out.blk 0 rfl).cell 3
  have l0_ := HLay.out.lt 0 rfl
  gi_wp2
  clear x0_0 x0_1 x0_2 x0_3 l0_
  refine ⟨trivial, (callsIn_wide.2 (callsIn_wide.1 (ends_in T x w0 (HT.out.below HLay.out.1) hk))).mono ?_⟩
  rintro e W1 ⟨rfl, hb⟩
  replace HLay := Lib.hid (HLay.out.below hb)
  clear hb
  obtain ⟨q, hq⟩ : ∃ q : Nat, fromI T.m x = (q : Int) := ⟨(fromI T.m x).toNat, by have := HF0.out; omega⟩
  rw [hq] at HS HF4 ⊢
  have hq4 : q < 4 := by have := HF4.out; omega
  have HQ := Lib.hid hq
  clear hq
  generalize toI T.m x = tt
  have hb1 := HLay.out.1
  have t4 : W1.cell? ⟨T.g, 4, none⟩ = some (.slice (some ⟨bl, ol, none⟩) T.nl T.cl) := by rw [← HAL.out]; exact (HT.out.below hb1).blk.cell 4
  have tl := (HT.out.below hb1).blk.lt
  have ch : W1.cell? ⟨bl, ol + k * 4 + q, none⟩ = some (.int .i64 (heldAt all (q : Int))) := (hb1.cell (p := ⟨bl, ol + k * 4 + q, none⟩) HBL.out).trans (HCL.out q _ (heldC_l all hq4))
  have hkl := HKL.out
  clear hb1
  gi_wp2
  refine bodyPost_ret (v := .int .i64 (heldAt all (q : Int))) (by simp [results, Tryd.results28, go_sem]) rfl ?_
  rw [HS.out]
  exact ⟨rfl, HLay.out.1⟩
 ·
  have HS : Hid (sizeA T.m all x = x.drops) := Lib.hid (by unfold sizeA; rw [if_neg h4])
  have hk4 : (x.kind == 4) = false := by simpa using h4
  clear h4
  have x0_0 := (HLay.out.blk 0 rfl).cell 0
  have x0_1 := (HLay.out.blk 0 rfl).cell 1
  have x0_2 := (HLay.out.blk 0 rfl).cell 2
  have x0_3 := (HLay.out.blk 0 rfl).cell 3
  have l0_ := HLay.out.lt 0 rfl
  gi_wp2
  clear x0_0 x0_1 x0_2 x0_3 l0_
  refine bodyPost_ret (v := .int .i64 x.drops) (by simp [results, Tryd.results28, go_sem]) rfl ?_
  rw [HS.out]
  exact ⟨rfl, HLay.out.1⟩

end Go.Proofs.YtjdgdeiedkickaaDoor.Mx
/- mix.shift. -/
namespace Go.Proofs.YtjdgdeiedkickaaDoor.Mx
open Go.RowKit

def Small (s : Held) (k : Int) : Prop := ∀ q : Nat, -k ≤ heldAt s q ∧ heldAt s q ≤ k
def iV (a b c d : Int) : Value := .agg #[.int .i64 a, .int .i64 b, .int .i64 c, .int .i64 d]
set_option maxRecDepth 100000 in
set_option maxHeartbeats 8000000 in
theorem shift4 (a b c d fr to n : Int) (w : World) (ha : -2000 ≤ a ∧ a ≤ 2000) (hb : -2000 ≤ b ∧ b ≤ 2000) (hc : -2000 ≤ c ∧ c ≤ 2000) (hd : -2000 ≤ d ∧ d ≤ 2000) (hn : -2000 ≤ n ∧ n ≤ 2000) (hf : -1 ≤ fr ∧ fr < 4) (ht : -1 ≤ to ∧ to < 4) (hne : fr ≠ to ∨ fr < 0) :
  Calls Tryd.prog 70 #[.agg #[.int .i64 a, .int .i64 b, .int .i64 c, .int .i64 d], .int .i64 fr, .int .i64 to, .int .i64 n] w fun e w' => e = .returned (iV (heldAt (shiftH [a, b, c, d] fr to n) 0) (heldAt (shiftH [a, b, c, d] fr to n) 1) (heldAt (shiftH [a, b, c, d] fr to n) 2) (heldAt (shiftH [a, b, c, d] fr to n) 3)) ∧ Below w.heap.size w w' := by
 obtain ⟨ha1, ha2⟩ := ha
 obtain ⟨hb1, hb2⟩ := hb
 obtain ⟨hc1, hc2⟩ := hc
 obtain ⟨hd1, hd2⟩ := hd
 obtain ⟨hn1, hn2⟩ := hn
 have hfr : fr = -1 ∨ fr = 0 ∨ fr = 1 ∨ fr = 2 ∨ fr = 3 := by omega
 have hto : to = -1 ∨ to = 0 ∨ to = 1 ∨ to = 2 ∨ to = 3 := by omega
 clear hf ht
 rcases hfr with rfl | rfl | rfl | rfl | rfl <;> rcases hto with rfl | rfl | rfl | rfl | rfl
 all_goals try exact absurd hne (by decide)
 all_goals
  clear hne
  go_enter Tryd.func70, Tryd.ntmps70
  go_wp2_with fail
  exact bodyPost_ret (v := iV _ _ _ _) (by simp [results, Tryd.results70, go_sem]; rfl) rfl ⟨rfl, ((Below.refl _ _).alloc (Nat.le_refl _) _).alloc (by simp) _⟩
theorem shift_any (s : Held) (fr to n : Int) (w : World) (hs : s.length = 4) (hb : Small s 2000) (hn : -2000 ≤ n ∧ n ≤ 2000) (hf : -1 ≤ fr ∧ fr < 4) (ht : -1 ≤ to ∧ to < 4) (hne : fr ≠ to ∨ fr < 0) :
  Calls Tryd.prog 70 #[.agg #[.int .i64 (heldAt s 0), .int .i64 (heldAt s 1), .int .i64 (heldAt s 2), .int .i64 (heldAt s 3)], .int .i64 fr, .int .i64 to, .int .i64 n] w fun e w' => e = .returned (.agg #[.int .i64 (heldAt (shiftH s fr to n) 0), .int .i64 (heldAt (shiftH s fr to n) 1), .int .i64 (heldAt (shiftH s fr to n) 2), .int .i64 (heldAt (shiftH s fr to n) 3)]) ∧ Below w.heap.size w w' := by
 match s, hs with
 | [a, b, c, d], _ => exact shift4 a b c d fr to n w (hb 0) (hb 1) (hb 2) (hb 3) hn hf ht hne

end Go.Proofs.YtjdgdeiedkickaaDoor.Mx
/- A function that holds loops over functions, one behind another or in a loop, leaves with many marks among its deferred calls: each is shut, no call is made. -/
namespace Go.Proofs.YtjdgdeiedkickaaDoor
open Go.RowKit

/-- The marks: blocks of deferred calls without a call, at or above B, each but once. -/
def Marks (B : Nat) (w : World) : List Deferred → Prop
 | [] => True
 | d :: ds => (∃ r, B ≤ r ∧ d.target = .collected r ∧ w.heap[r]? = some (.deferred (some [])) ∧ ∀ d' ∈ ds, d'.target ≠ .collected r) ∧ Marks B w ds

theorem Marks.keep {B : Nat} {w w' : World} : ∀ {ds : List Deferred}, Marks B w ds → (∀ d ∈ ds, ∀ r, d.target = .collected r → w.heap[r]? = some (.deferred (some [])) → w'.heap[r]? = some (.deferred (some []))) → Marks B w' ds
 | [], _, _ => trivial
 | d :: ds, ⟨⟨r, h1, h2, h3, h4⟩, h5⟩, hk => ⟨⟨r, h1, h2, hk d (by simp) r h2 h3, h4⟩, Marks.keep h5 fun d' hd => hk d' (by simp [hd])⟩
theorem Marks.lt {B : Nat} {w : World} : ∀ {ds : List Deferred}, Marks B w ds → ∀ d ∈ ds, ∀ r, d.target = .collected r → r < w.heap.size
 | d :: ds, ⟨⟨r', h1, h2, h3, h4⟩, h5⟩, x, hx, r, hr => by
  rcases List.mem_cons.1 hx with rfl | hx
  ·rw [h2] at hr
   cases hr
   exact (Array.getElem?_eq_some_iff.1 h3).1
  ·exact Marks.lt h5 x hx r hr
theorem Marks.below {B : Nat} {w w' : World} {ds : List Deferred} (h : Marks B w ds) (hb : Below w.heap.size w w') : Marks B w' ds :=
 h.keep fun d hd r hr h0 => (hb.block r (h.lt d hd r hr)).trans h0
theorem Marks.more {B : Nat} {w : World} {ds : List Deferred} {D : Nat} (h : Marks B w ds) (hD : B ≤ D) (hd : w.heap[D]? = some (.deferred (some []))) (hn : ∀ d ∈ ds, ∀ r, d.target = .collected r → r < D) (a : Array Value) : Marks B w ({ target := .collected D, args := a } :: ds) :=
 ⟨⟨D, hD, rfl, hd, fun d' hd' e => absurd (hn d' hd' D e) (by omega)⟩, h⟩

/-- What shutting the marks leaves. -/
structure Shut (B : Nat) (w w' : World) : Prop where
 below : Below B w w'
 cells : ∀ (b : Nat) cs t fr, w.heap[b]? = some (.cells cs t fr) → w'.heap[b]? = some (.cells cs t fr)
theorem Shut.refl (B : Nat) (w : World) : Shut B w w := ⟨Below.refl _ _, fun _ _ _ _ h => h⟩
theorem Shut.trans {B : Nat} {w w' w'' : World} (h : Shut B w w') (k : Shut B w' w'') : Shut B w w'' := ⟨h.below.trans k.below, fun b cs t fr e => k.cells b cs t fr (h.cells b cs t fr e)⟩
theorem Shut.blk {B g : Nat} {w w' : World} {t : TypeId} {cs : Array Value} (h : Shut B w w') (b : Blk w g t cs) : Blk w' g t cs := h.cells _ _ _ _ b

theorem shut_put {B r : Nat} {w : World} (hB : B ≤ r) (h : w.heap[r]? = some (.deferred (some []))) : Shut B w (w.putObj r (.deferred none)) := by
 have hlt := (Array.getElem?_eq_some_iff.1 h).1
 refine ⟨(Below.refl B w).grown (grownBy_putObj' w r (.deferred none)) (by omega) (fun k e => by cases e; exact hB), fun b cs t fr e => ?_⟩
 have hne : b ≠ r := by
  intro e'
  subst e'
  rw [h] at e
  cases e
 exact (World.putObj_heap_other hne).trans e

theorem leaves_marks {F : Fence} {n : Nat} {P : Program} {fn : Func} {tmps : Array Value} {R : Ending → World → Prop} {B : Nat} : ∀ (ds : List Deferred) (w : World), Marks B w ds →
  (∀ w', Shut B w w' → LeavesIn F n P fn tmps R [] .returning w') → LeavesInM F n P fn tmps R ds .returning w
 | [], w, _, h => h w (Shut.refl _ _)
 | d :: ds, w, ⟨⟨r, h1, h2, h3, h4⟩, h5⟩, h => by
  refine ⟨by simp, .inl ⟨r, _, h2, run_takeDeferred h3, ?_⟩⟩
  refine leaves_marks ds _ (h5.keep fun d' hd r' hr h0 => ?_) (fun w' hs => h w' ((shut_put h1 h3).trans hs))
  have hne : r' ≠ r := by
   intro e
   subst e
   exact h4 d' hd hr
  exact (World.putObj_heap_other hne).trans h0
end Go.Proofs.YtjdgdeiedkickaaDoor
/- What a loop over a function turns by itself: an invariant on cells, and on what lay ahead of the loop, abides it. -/
namespace Go.Proofs.YtjdgdeiedkickaaDoor
open Go.RowKit Go.Shelf

theorem shut_of_grown {B : Nat} {W W' : World} {row : Option Nat} (hg : W.grownBy W' row) (hr : ∀ r, row = some r → B ≤ r ∧ ∃ o : Obj, W.heap[r]? = some o ∧ o.isCells = false) (hB : B ≤ W.heap.size) : Shut B W W' := by
 refine ⟨(Below.refl B W).grown hg hB (fun k e => (hr k e).1), fun b cs t fr h => ?_⟩
 have hlt := (Array.getElem?_eq_some_iff.1 h).1
 refine (hg.block b hlt ?_).trans h
 intro e
 obtain ⟨_, o, ho, hc⟩ := hr b e.symm
 rw [h] at ho
 cases ho
 simp [Obj.isCells] at hc
theorem ownFrom_shut {β : Type} {B : Nat} {I : β → World → Prop} (hB : ∀ s W, I s W → B ≤ W.heap.size) (h : ∀ s W W', I s W → Shut B W W' → I s W') : OwnFrom B I :=
 fun s W W' row hs hg hr => h s W W' hs (shut_of_grown hg hr (hB s W hs))
theorem Shut.mono {B B' : Nat} {W W' : World} (h : Shut B W W') (hB : B' ≤ B) : Shut B' W W' := ⟨h.below.mono hB, h.cells⟩
/-- The marks lie ahead of the loop. -/
theorem Marks.shut {B S : Nat} {W W' : World} {ds : List Deferred} (h : Marks B W ds) (hs : Shut S W W') (hlt : ∀ d ∈ ds, ∀ r, d.target = .collected r → r < S) : Marks B W' ds :=
 h.keep fun d hd r hr h0 => (hs.below.block r (hlt d hd r hr)).trans h0
theorem keepsFrom_below {B : Nat} {W W' : World} (h : Below W.heap.size W W') : KeepsFrom B W W' :=
 ⟨h.size, fun k o _ hk _ => (h.block k (Array.getElem?_eq_some_iff.1 hk).1).trans hk⟩
theorem keepsFrom_setCell (B : Nat) (W : World) (p : Addr) (v : Value) : KeepsFrom B W (W.setCell p v) := (KeepsOthers.setCell W p v).from B
end Go.Proofs.YtjdgdeiedkickaaDoor
/- append inside a fence, whatever its source; the marks of a function shut: maps lie as they lay. -/
namespace Go.Proofs.YtjdgdeiedkickaaDoor
open Go.RowKit

theorem wpListIn_append_any {F : Fence} {nn : Nat} {P : Program} {w : World} {ops : Array Oper} {rest : List Oper} {o : Oper} {a : Act} {Q : Exit → Act → World → Prop} (hgd : o.guard = none) (s x : Operand) {t e : TypeId}
  (ho : o.op = .call { callee := .builtin .append, args := #[s, x], argTypes := #[t, t] })
  {z : Value} {size bytes : Nat} (EE : ElemAt P t e z size bytes) {base : Nat} {A : Option Addr} {n cap : Nat} {xs : List Value} (hs : a.eval s = .slice A n cap) (hown : Own w base e size A n cap xs)
  {A2 : Option Addr} {m c B : Nat} {news : List Value} (hx : a.eval x = .slice A2 m c) (hR : Reads w B size A2 m news) (h1 : ∀ u ∈ news, u.oneCell' = true) (h63 : n + m ≤ maxLen) (hbytes : (n + m) * bytes ≤ 140737488355328) (hbase : base ≤ w.heap.size)
  (h : ∀ A' cap' w', Own w' base e size A' (n + m) cap' (xs ++ news) → w.grownBy w' (A.map (·.block)) → (A' = A ∨ A' = some ⟨w.heap.size, 0, none⟩) → wpListIn F nn P ops Q rest (a.put o.dst (.slice A' (n + m) cap')) w') :
  wpListIn F nn P ops Q (o :: rest) a w := by
 refine wpListIn_plain hgd fun K hK => ?_
 obtain ⟨A', cap', w', hr, h2, h3, h4⟩ := run_append_any (P := P) w o.type EE hown hR (c := c) h1 h63 hbytes hbase
 unfold Oper.wpIn
 refine ⟨?_, ?_⟩
 ·simp [Oper.about, ho, resolve, Target.leads, Sem.run_pure]
 ·rw [Oper.semAt_plain F _ _ (by rw [ho]; intro c hc'; cases hc')]
  unfold execOp
  simp only [ho, resolve, invoke, builtin, Sem.run_bind, Sem.run_pure, Result.andThen_ok, List.map_toArray, List.map_cons, List.map_nil, hs, hx, hr]
  exact hK _ _ (h A' cap' w' h2 h3 h4)

/-- What shutting the marks leaves: all that is no block of deferred calls. -/
structure ShutD (B : Nat) (w w' : World) : Prop where
 below : Below B w w'
 others : ∀ (b : Nat) o, w.heap[b]? = some o → (∀ x, o ≠ .deferred x) → w'.heap[b]? = some o
theorem ShutD.refl (B : Nat) (w : World) : ShutD B w w := ⟨Below.refl _ _, fun _ _ h _ => h⟩
theorem ShutD.trans {B : Nat} {w w' w'' : World} (h : ShutD B w w') (k : ShutD B w' w'') : ShutD B w w'' := ⟨h.below.trans k.below, fun b o e hn => k.others b o (h.others b o e hn) hn⟩
theorem ShutD.blk {B g : Nat} {w w' : World} {t : TypeId} {cs : Array Value} (h : ShutD B w w') (b : Blk w g t cs) : Blk w' g t cs := h.others _ _ b (fun x e => by cases e)
theorem ShutD.own {B base n cap size : Nat} {w w' : World} {e : TypeId} {A : Option Addr} {xs : List Value} (h : ShutD B w w') (o : Own w base e size A n cap xs) : Own w' base e size A n cap xs := by
 refine ⟨o.1, ?_⟩
 rcases o.2 with h' | ⟨g, cap', cur, hv, hb, hg, hr⟩
 ·exact .inl h'
 ·exact .inr ⟨g, cap', cur, hv, hb, h.others g _ hg (fun x e => by cases e), hr⟩
theorem ShutD.reads {B B' size n : Nat} {w w' : World} {A : Option Addr} {xs : List Value} (h : ShutD B w w') (r : Reads w B' size A n xs) : Reads w' B' size A n xs := by
 rcases Nat.eq_zero_or_pos size with h0 | h0
 ·refine ⟨r.1, fun hn => ?_⟩
  obtain ⟨ad, e, hb, hc⟩ := r.2 hn
  refine ⟨ad, e, hb, fun j u hu => ?_⟩
  have := (List.getElem?_eq_some_iff.1 hu).1
  rw [r.1, h0] at this
  omega
 ·refine ⟨r.1, fun hn => ?_⟩
  obtain ⟨ad, e, hb, hc⟩ := r.2 hn
  refine ⟨ad, e, hb, fun j u hu => ?_⟩
  have h1 := hc j u hu
  obtain ⟨o, ho, hcell⟩ := cells_of_cell h1
  rw [← h1]
  refine World.cell?_of_block ?_
  rw [ho]
  exact h.others _ _ ho (fun x e => by subst e; simp [Obj.isCells] at hcell)

theorem shutD_put {B r : Nat} {w : World} (hB : B ≤ r) (h : w.heap[r]? = some (.deferred (some []))) : ShutD B w (w.putObj r (.deferred none)) := by
 have hlt := (Array.getElem?_eq_some_iff.1 h).1
 refine ⟨(Below.refl B w).grown (grownBy_putObj' w r (.deferred none)) (by omega) (fun k e => by cases e; exact hB), fun b o e hn => ?_⟩
 have hne : b ≠ r := by
  intro e'
  subst e'
  rw [h] at e
  cases e
  exact hn _ rfl
 exact (World.putObj_heap_other hne).trans e

theorem leaves_marksD {F : Fence} {n : Nat} {P : Program} {fn : Func} {tmps : Array Value} {R : Ending → World → Prop} {B : Nat} : ∀ (ds : List Deferred) (w : World), Marks B w ds →
  (∀ w', ShutD B w w' → LeavesIn F n P fn tmps R [] .returning w') → LeavesInM F n P fn tmps R ds .returning w
 | [], w, _, h => h w (ShutD.refl _ _)
 | d :: ds, w, ⟨⟨r, h1, h2, h3, h4⟩, h5⟩, h => by
  refine ⟨by simp, .inl ⟨r, _, h2, run_takeDeferred h3, ?_⟩⟩
  refine leaves_marksD ds _ (h5.keep fun d' hd r' hr h0 => ?_) (fun w' hs => h w' ((shutD_put h1 h3).trans hs))
  have hne : r' ≠ r := by
   intro e
   subst e
   exact h4 d' hd hr
  exact (World.putObj_heap_other hne).trans h0
end Go.Proofs.YtjdgdeiedkickaaDoor
/- The law of a drawn region by stages, where an operation may do whatever a growth G lets it do. (Printed by bin/mkregiong.py out of RegionY.) -/
namespace Go.Proofs.YtjdgdeiedkickaaDoor.Gr
open Go.RowKit
set_option linter.unusedSectionVars false

/-- How the world may grow. -/
class Grows (G : World → World → Prop) : Prop where
 refl : ∀ W, G W W
 trans : ∀ {A B C : World}, G A B → G B C → G A C
 below : ∀ {A B : World}, Below A.heap.size A B → G A B
 size : ∀ {A B : World}, G A B → A.heap.size ≤ B.heap.size
/-- A class of worlds above V that is shut under growth. -/
def Good (G : World → World → Prop) (V : World) (C : World → Prop) : Prop := (∃ W, C W) ∧ (∀ W, C W → G V W) ∧ ∀ W W', C W → Below W.heap.size W W' → C W'
section
variable {G : World → World → Prop} [Grows G]
theorem Good.above (V : World) : Good G V fun W => G V W := ⟨⟨V, Grows.refl _⟩, fun _ h => h, fun _ _ h k => Grows.trans h (Grows.below k)⟩
theorem Good.up {V V' : World} {C : World → Prop} (h : Good G V' C) (hb : G V V') : Good G V C := ⟨h.1, fun W hW => Grows.trans hb (h.2.1 W hW), h.2.2⟩
variable {F : Fence} {n : Nat} {P : Program} {l : List Oper}
/-- Quiet operations, in whatever world above V. -/
def Quietly (G : World → World → Prop) (F : Fence) (n : Nat) (P : Program) (l : List Oper) (V : World) (qs : List Oper) (a A : Act) : Prop :=
 ∀ (σ : Type) (_ : Nonempty σ) (of : σ → World), (∀ z, G V (of z)) → (∀ z W', Below (of z).heap.size (of z) W' → Cls of W') → wpQuietIn F n P l.toArray (Cls of) (fun a2 => a2 = A) qs a
theorem Quietly.cls {V : World} {qs : List Oper} {a A : Act} (hq : Quietly G F n P l V qs a A) {C : World → Prop} (hC : Good G V C) : wpQuietIn F n P l.toArray C (fun a2 => a2 = A) qs a := by
 obtain ⟨⟨W0, h0⟩, h1, h2⟩ := hC
 have e : C = Cls (fun z : { W : World // C W } => z.1) := by
  funext W
  exact propext ⟨fun h => ⟨⟨W, h⟩, rfl⟩, fun ⟨z, hz⟩ => by rw [hz]; exact z.2⟩
 rw [e]
 exact hq _ ⟨⟨W0, h0⟩⟩ _ (fun z => h1 _ z.2) (fun z W' hb => ⟨⟨W', h2 _ _ z.2 hb⟩, rfl⟩)
theorem Quietly.none {V : World} {a : Act} : Quietly G F n P l V (pickB l []) a a := fun _ _ _ _ _ => by cases l <;> exact rfl

/-- Stage by stage: quiet operations, then one that may make memory. -/
def wpFlow (G : World → World → Prop) (F : Fence) (n : Nat) (P : Program) (l : List Oper) (tail : List (Nat × Nat) → World → Act → Prop) : List (List Bool × Nat) → List Bool → List (Nat × Nat) → World → Act → Prop
 | [], fin, I, V, a => ∃ A, Quietly G F n P l V (pickB l fin) a A ∧ tail I V A
 | (m, x) :: r, fin, I, V, a => ∃ A, Quietly G F n P l V (pickB l m) a A ∧ ∃ o, l[x]? = some o ∧ ∀ W, Below V.heap.size V W →
   wpListIn F n P l.toArray (Exit.then (fun a' W' => a'.defers = A.defers ∧ G W W' ∧ wpFlow G F n P l tail r fin ((W.heap.size, W'.heap.size) :: I) W' a') (fun _ _ _ => False)) [o] A W
theorem wpFlow_nil {tail : List (Nat × Nat) → World → Act → Prop} {fin : List Bool} {I : List (Nat × Nat)} {V : World} {a A : Act} (hq : Quietly G F n P l V (pickB l fin) a A) (h : tail I V A) : wpFlow G F n P l tail [] fin I V a := ⟨A, hq, h⟩
theorem wpFlow_cons {tail : List (Nat × Nat) → World → Act → Prop} {m : List Bool} {x : Nat} {r : List (List Bool × Nat)} {fin : List Bool} {I : List (Nat × Nat)} {V : World} {a A : Act} {o : Oper} (ho : l[x]? = some o) (hq : Quietly G F n P l V (pickB l m) a A)
  (h : ∀ W, Below V.heap.size V W → wpListIn F n P l.toArray (Exit.then (fun a' W' => a'.defers = A.defers ∧ G W W' ∧ wpFlow G F n P l tail r fin ((W.heap.size, W'.heap.size) :: I) W' a') (fun _ _ _ => False)) [o] A W) : wpFlow G F n P l tail ((m, x) :: r) fin I V a := ⟨A, hq, o, ho, h⟩

/-- What is next. -/
def NextF (G : World → World → Prop) (F : Fence) (n : Nat) (P : Program) (l : List Oper) (tail : List (Nat × Nat) → World → Act → Prop) (ws : List Nat) (fin : List Bool) (later : List Nat) (I : List (Nat × Nat)) (V : World) (A : Act) : Prop :=
 (later = [] ∧ tail I V A) ∨ ∃ x r o, later = x :: xsOf r fin ∧ x ∈ ws ∧ (∀ p ∈ r, p.2 ∈ ws ∧ p.1.length ≤ l.length) ∧ l[x]? = some o ∧ ∀ W, Below V.heap.size V W →
   wpListIn F n P l.toArray (Exit.then (fun a' W' => a'.defers = A.defers ∧ G W W' ∧ wpFlow G F n P l tail r fin ((W.heap.size, W'.heap.size) :: I) W' a') (fun _ _ _ => False)) [o] A W
/-- It may come up, and yields what A says. -/
def AvF (G : World → World → Prop) (F : Fence) (n : Nat) (P : Program) (l : List Oper) (xs : List Nat) (a0 : Act) (ys : List Nat) (V : World) (A : Act) (i : Nat) : Prop :=
 ∀ o, l[i]? = some o → ∃ pre post, xs = pre ++ i :: post ∧ (∀ k ∈ pre, k ∈ ys) ∧ ∀ C, Good G V C → ∃ LF, Mixed l (· ∈ pre) A a0 LF ∧ YieldsQuiet F n P l.toArray C o (valOf l A i) LF
section
variable {xs ws es : List Nat} {j : Nat} {a0 : Act} {tail : List (Nat × Nat) → World → Act → Prop} {fin : List Bool}
theorem enter_core (ok : FlowOk l xs ws es j) (hs : slotsM l a0.tmps.size = true) {ys qs rest : List Nat} {V : World} {A1 A : Act} (hx : xs = ys ++ (qs ++ rest)) (hA1 : Mixed l (· ∈ ys) A1 a0 A1) (hq : Quietly G F n P l V (pick l qs) A1 A) :
  Mixed l (· ∈ ys ++ qs) A a0 A ∧ (∀ i ∈ ys, ∀ t, dstAt l i = some t → A1.tmps.getD t undef = A.tmps.getD t undef) ∧ ∀ i ∈ qs, AvF G F n P l xs a0 (ys ++ qs) V A i := by
 have hslot : ∀ i, i < l.length → ∀ d, dstAt l i = some d → d < a0.tmps.size := fun i hi d hd => by
  have := List.all_eq_true.1 hs i (List.mem_range.2 hi)
  rw [hd] at this
  simpa using this
 have hnd := ok.nodup
 rw [hx, List.nodup_append] at hnd
 obtain ⟨_, hnd2, hdis⟩ := hnd
 have hqx : ∀ i ∈ qs, i ∈ xs := fun i hi => by rw [hx]; simp [hi]
 have hyx : ∀ i ∈ ys, i ∈ xs := fun i hi => by rw [hx]; simp [hi]
 have hcond : ∀ i ∈ qs, i < l.length ∧ ∃ d, dstAt l i = some d ∧ d < A1.tmps.size ∧ ∀ i' ∈ qs, dstAt l i' = some d → i' = i := fun i hi => by
  obtain ⟨h1, h2, h3⟩ := ok.x i (hqx i hi)
  obtain ⟨d, h4, h5⟩ := ok.own i h1 h3
  exact ⟨h1, d, h4, by rw [hA1.size]; exact hslot i h1 d h4, fun i' hi' hd' => h5 i' (ok.x i' (hqx i' hi')).1 hd'⟩
 have hnq : qs.Nodup := (List.nodup_append.1 hnd2).1
 have S := fun (C : World → Prop) (hC : Good G V C) => quiet_seq (F := F) (n := n) (P := P) (l := l) (C := C) (A := A) qs A1 hcond hnq (hq.cls hC)
 obtain ⟨M, _⟩ := S _ (Good.above V)
 have same : ∀ i ∈ ys, ∀ t, dstAt l i = some t → A1.tmps.getD t undef = A.tmps.getD t undef := fun i hi t ht => by
  refine (M.out t fun i' hi' hd' => ?_).symm
  obtain ⟨h1, h2, h3⟩ := ok.x i (hyx i hi)
  obtain ⟨d, h4, h5⟩ := ok.own i h1 h3
  rw [ht] at h4
  cases h4
  have := h5 i' (ok.x i' (hqx i' hi')).1 hd'
  subst this
  exact hdis i' hi i' (by simp [hi']) rfl
 have B := hA1.change same
 refine ⟨(M.trans B).congr (fun i => by simp [or_comm]), same, fun i hi o ho => ?_⟩
 obtain ⟨pre, post, e⟩ := List.append_of_mem hi
 refine ⟨ys ++ pre, post ++ rest, by rw [hx, e]; simp, fun k hk => ?_, fun C hC => ?_⟩
 ·rw [e]
  rcases List.mem_append.1 hk with h | h <;> simp [h]
 ·obtain ⟨LF, h1, h2⟩ := (S C hC).2 pre i post e o ho
  exact ⟨LF, (h1.trans B).congr (fun k => by simp [or_comm]), h2⟩
theorem flow_enter (ok : FlowOk l xs ws es j) (hs : slotsM l a0.tmps.size = true) (hfin : fin.length ≤ l.length) (r : List (List Bool × Nat)) (hr : ∀ p ∈ r, p.2 ∈ ws ∧ p.1.length ≤ l.length) {ys : List Nat} {I : List (Nat × Nat)} {V : World} {A1 : Act} (h : wpFlow G F n P l tail r fin I V A1) (hx : xs = ys ++ xsOf r fin) (hA1 : Mixed l (· ∈ ys) A1 a0 A1) :
  ∃ qs later A, xs = (ys ++ qs) ++ later ∧ Mixed l (· ∈ ys ++ qs) A a0 A ∧ (∀ i ∈ ys, ∀ t, dstAt l i = some t → A1.tmps.getD t undef = A.tmps.getD t undef) ∧ (∀ i ∈ qs, AvF G F n P l xs a0 (ys ++ qs) V A i) ∧ NextF G F n P l tail ws fin later I V A := by
 cases r with
 | nil =>
  obtain ⟨A, hq, ht⟩ := h
  rw [pickB_all l fin hfin] at hq
  obtain ⟨h1, h2, h3⟩ := enter_core ok hs (rest := []) (by rw [hx]; simp [xsOf]) hA1 hq
  exact ⟨idxs 0 fin, [], A, by rw [hx]; simp [xsOf], h1, h2, h3, .inl ⟨rfl, ht⟩⟩
 | cons p r =>
  obtain ⟨m, x⟩ := p
  obtain ⟨A, hq, o, ho, hw⟩ := h
  obtain ⟨hxw, hm⟩ := hr (m, x) (by simp)
  rw [pickB_all l m hm] at hq
  obtain ⟨h1, h2, h3⟩ := enter_core ok hs (rest := x :: xsOf r fin) (by rw [hx]; simp [xsOf]) hA1 hq
  exact ⟨idxs 0 m, x :: xsOf r fin, A, by rw [hx]; simp [xsOf], h1, h2, h3, .inr ⟨x, r, o, rfl, hxw, fun p hp => hr p (by simp [hp]), ho, hw⟩⟩
end

/-- What the end is given: the new block's place. -/
def tailF (G : World → World → Prop) (F : Fence) (n : Nat) (P : Program) (l : List Oper) (es : List Bool) (j : Nat) (dj : Tmp) (fv : Nat → Value) (ty : TypeId) (cs : Array Value) (V0 : World) (Qn : Act → World → Prop) : List (Nat × Nat) → World → Act → Prop := fun I V A =>
 ∀ b W, Below V.heap.size V W → (j < l.length → V0.heap.size ≤ b ∧ Blk W b ty cs ∧ ∀ p ∈ I, b < p.1 ∨ p.2 ≤ b) → wpT F n P l.toArray Qn (pickB l es) (if j < l.length then A.put (some dj) (fv b) else A) W

/-- THE LAW. -/
theorem wpIn_region_flow {Q : Exit → Act → World → Prop} {id : Nat} {a0 : Act} {w V0 : World} (stages : List (List Bool × Nat)) (fin em : List Bool) (j : Nat) (dj : Tmp) (fv : Nat → Value) (ty : TypeId) (cs : Array Value)
  (hnj : l.length ≤ j) (hm : P.follows .mixedOrders = true) (hB : (flowB l (xsOf stages fin) (stages.map (·.2)) (idxs 0 em) j && stages.all (fun p => decide (p.1.length ≤ l.length)) && decide (fin.length ≤ l.length) && decide (em.length ≤ l.length)) = true)
  (hs : slotsM l a0.tmps.size = true) (hV : Below V0.heap.size V0 w.drew)
  (hj : j < l.length → ∃ oj, l[j]? = some oj ∧ oj.dst = some dj ∧ oj.guard = none ∧ (∀ ρ W, oj.about P W ρ = none) ∧ ∀ ρ W, (execOp ρ oj).run P W = .ok (.value (fv W.heap.size)) (W.alloc (.cells cs ty)))
  (h : wpFlow G F n P l (tailF G F n P l em j dj fv ty cs V0 (Q .normal)) stages fin [] V0 a0) : (Code.region id l.toArray true).wpIn F n P Q a0 w := by
 simp only [Bool.and_eq_true, decide_eq_true_eq] at hB
 obtain ⟨⟨⟨hB, hst⟩, hfin⟩, hem⟩ := hB
 have ok := flowOk hB
 obtain ⟨xs, hxs⟩ : ∃ xs, xsOf stages fin = xs := ⟨_, rfl⟩
 obtain ⟨ws, hws⟩ : ∃ ws, stages.map (·.2) = ws := ⟨_, rfl⟩
 obtain ⟨es, hes⟩ : ∃ es, idxs 0 em = es := ⟨_, rfl⟩
 rw [hxs, hws, hes] at ok
 have hpe : pickB l em = pick l es := by rw [← hes]; exact pickB_all l em hem
 have hr0 : ∀ p ∈ stages, p.2 ∈ ws ∧ p.1.length ≤ l.length := fun p hp => ⟨by rw [← hws]; exact List.mem_map.2 ⟨p, hp, rfl⟩, by simpa using List.all_eq_true.1 hst p hp⟩
 have hnd : noDefer l.toArray := noDefer_of ok.nodef
 have hslot : ∀ i, i < l.length → ∀ d, dstAt l i = some d → d < a0.tmps.size := fun i hi d hd => by
  have := List.all_eq_true.1 hs i (List.mem_range.2 hi)
  rw [hd] at this
  simpa using this
 have hje : j < l.length → j ∉ es := fun hlt he => (ok.e j he).2 rfl
 have hdj : j < l.length → dstAt l j = some dj := fun hlt => by
  obtain ⟨oj, h1, h2, _⟩ := hj hlt
  unfold dstAt; rw [h1]; exact h2
 have hjd : j < l.length → ∀ i, i < l.length → dstAt l i = some dj → i = j := fun hlt i hi hd => by
  obtain ⟨d, h1, h2⟩ := ok.own j hlt (hje hlt)
  rw [hdj hlt] at h1
  cases h1
  exact h2 i hi hd
 let tail := tailF G F n P l em j dj fv ty cs V0 (Q .normal)
 let cls : List (Nat × Nat) → World → Option Nat → World → Prop := fun I V ob W => Below V.heap.size V W ∧ ob = none
 have growC : ∀ {I V ob W W'}, cls I V ob W → Below W.heap.size W W' → cls I V ob W' := fun hc hb => ⟨hc.1.trans (hb.mono hc.1.size), hc.2⟩
 let wJ : Option Nat → Act → Act := fun ob a => match ob with
  | some b => a.put (some dj) (fv b)
  | none => a
 have wJs : ∀ ob a, (wJ ob a).tmps.size = a.tmps.size := fun ob a => by cases ob <;> simp [wJ, Act.put]
 have wJd : ∀ ob a, (wJ ob a).defers = a.defers := fun ob a => by cases ob <;> simp [wJ, Act.put]
 have wJo : ∀ ob a t, (ob.isSome = true → dj ≠ t) → (wJ ob a).tmps.getD t undef = a.tmps.getD t undef := fun ob a t ht => by
  cases ob with
  | none => rfl
  | some b => exact getD_set_other a.tmps (fv b) (ht rfl)
 have wJp : ∀ ob a d v, (ob.isSome = true → d ≠ dj) → (wJ ob a).put (some d) v = wJ ob (a.put (some d) v) := fun ob a d v hd => by
  cases ob with
  | none => rfl
  | some b => exact Act.put_comm a (x := some dj) (y := some d) (fv b) v (fun d' e => by cases e; intro e'; exact hd rfl (Option.some.inj e'))
 let StA : Array Bool → Act → World → Prop := fun listed a W => listed.size = l.length ∧ (∀ e ∈ es, listed.getD e false = false) ∧ ∃ (ys later : List Nat) (A : Act) (V : World) (I : List (Nat × Nat)) (ob : Option Nat) (a1 : Act), xs = ys ++ later ∧ (∀ i ∈ later, listed.getD i false = false) ∧ Mixed l (· ∈ ys) A a0 A ∧
  Mixed l (fun i => i ∈ xs ∧ listed.getD i false = true) A a0 a1 ∧ a = wJ ob a1 ∧ (∀ i ∈ ys, listed.getD i false = false → AvF G F n P l xs a0 ys V A i) ∧ (j < l.length → listed.getD j false = ob.isSome) ∧ (l.length ≤ j → ob = none) ∧ cls I V ob W ∧ (∀ p ∈ I, p.2 ≤ V.heap.size) ∧ V0.heap.size ≤ V.heap.size ∧ NextF G F n P l tail ws fin later I V A
 let Miss : Array Bool → Tmp → Prop := fun listed t => ∃ i ∈ xs, listed.getD i false = false ∧ dstAt l i = some t
 let StB : Array Bool → Act → World → Prop := fun listed a W => listed.size = l.length ∧ ∃ (A Ac : Act) (m : Nat), m ≤ es.length ∧ (∀ e ∈ es.take m, listed.getD e false = true) ∧ (∀ e ∈ es.drop m, listed.getD e false = false) ∧ (j < l.length → listed.getD j false = true) ∧ Rel (Miss listed) a Ac ∧ (∀ t, Miss listed t → a.tmps.getD t undef = a0.tmps.getD t undef) ∧ Ac.tmps.size = a0.tmps.size ∧
  (∀ i ∈ xs, ∀ t, dstAt l i = some t → Ac.tmps.getD t undef = A.tmps.getD t undef) ∧ (∀ t, (∀ i, i < l.length → dstAt l i ≠ some t) → Ac.tmps.getD t undef = a0.tmps.getD t undef) ∧
  (∀ i ∈ xs, listed.getD i false = false → ∀ o, l[i]? = some o → ∃ pre post LF, xs = pre ++ i :: post ∧ Mixed l (· ∈ pre) A a0 LF ∧ YieldsAll F P l.toArray o (valOf l A i) LF) ∧ wpT F n P l.toArray (Q .normal) (pick l (es.drop m)) Ac W
 have setD : ∀ (listed : Array Bool) (i i' : Nat), listed.size = l.length → i < l.length → (listed.setIfInBounds i true).getD i' false = done (fun i => listed.getD i false) i i' := fun listed i i' hsz hi => by
  unfold done
  by_cases e : i' = i
  ·subst e
   rw [if_pos rfl, Array.getD_eq_getD_getElem?, Array.getElem?_setIfInBounds]
   have : i' < listed.size := by omega
   simp [this]
  ·rw [if_neg e, getD_set_ne false (Ne.symm e)]
 have mixS : ∀ (listed : Array Bool) (i : Nat), listed.size = l.length → i < l.length → i ∈ xs → ∀ k, ((k ∈ xs ∧ listed.getD k false = true) ∨ k = i) ↔ (k ∈ xs ∧ (listed.setIfInBounds i true).getD k false = true) := fun listed i hsz hi hix k => by
  rw [setD listed i k hsz hi]
  unfold done
  by_cases e : k = i
  ·subst e; simp [hix]
  ·simp [e]
 have obJ : ∀ {ob : Option Nat}, (l.length ≤ j → ob = none) → ob.isSome = true → j < l.length := fun h h' => by
  rcases Nat.lt_or_ge j l.length with h1 | h1
  ·exact h1
  ·rw [h h1] at h'; cases h'
 -- what an operation reads
 have agreeA : ∀ {listed : Array Bool} {A LF a1 : Act} {ob : Option Nat} {pre post : List Nat} {i : Nat} {o : Oper}, l[i]? = some o → xs = pre ++ i :: post → (∀ i', afterB l i i' = true → listed.getD i' false = true) → (∀ i', afterB l i' i = true → listed.getD i' false = false) → (l.length ≤ j → ob = none) →
   Mixed l (· ∈ pre) A a0 LF → Mixed l (fun i => i ∈ xs ∧ listed.getD i false = true) A a0 a1 → ∀ t ∈ o.looksAt l.toArray, LF.tmps.getD t undef = (wJ ob a1).tmps.getD t undef := by
  intro listed A LF a1 ob pre post i o hol hx hwait hopen hob hLF hM t ht
  by_cases hex : ∃ i', i' < l.length ∧ dstAt l i' = some t
  ·obtain ⟨i', hi', hd⟩ := hex
   rcases ok.deps pre i post hx o hol t ht i' hi' hd with ⟨h1, h2⟩ | ⟨h1, h2⟩
   rotate_left
   ·have hix : i' ∈ xs := by rw [hx]; simp [h2]
    obtain ⟨d, h8, h9⟩ := ok.own i' hi' (ok.x i' hix).2.2
    rw [hd] at h8
    cases h8
    rw [wJo ob a1 t (fun hsm e => by
     have hlt := obJ hob hsm
     subst e
     exact (ok.x i' hix).2.1 (hjd hlt i' hi' hd)), hLF.out t (fun i2 hi2 hd2 => by
      have h10 := h9 i2 (ok.x i2 (by rw [hx]; simp [hi2])).1 hd2
      subst h10
      have h11 := ok.nodup
      rw [hx, List.nodup_append] at h11
      exact h11.2.2 i2 hi2 i2 (List.mem_cons_of_mem _ h2) rfl), hM.out t (fun i2 hi2 hd2 => by
      have h10 := h9 i2 (ok.x i2 hi2.1).1 hd2
      subst h10
      rw [hopen _ h1] at hi2
      cases hi2.2)]
   have hix : i' ∈ xs := by rw [hx]; simp [h2]
   rw [wJo ob a1 t (fun hsm e => by
    have hlt := obJ hob hsm
    subst e
    exact (ok.x i' hix).2.1 (hjd hlt i' hi' hd)), hLF.in_ i' h2 t hd, hM.in_ i' ⟨hix, hwait i' h1⟩ t hd]
  ·have hno : ∀ i', i' < l.length → dstAt l i' ≠ some t := fun i' hi' hd => hex ⟨i', hi', hd⟩
   rw [wJo ob a1 t (fun hsm e => by
    have hlt := obJ hob hsm
    subst e
    exact hno j hlt (hdj hlt)), hLF.out t (fun i' hi' => hno i' (ok.x i' (by rw [hx]; simp [hi'])).1), hM.out t (fun i' hi' => hno i' (ok.x i' hi'.1).1)]
 have toB : ∀ listed a W, StA listed a W → (j < l.length → listed.getD j false = true) → (∀ i ∈ xs, listed.getD i false = false → ∀ o, l[i]? = some o → lateB o = true ∧ i ∉ ws) → StB listed a W := by
  rintro listed a W ⟨hsz, hesl, ys, later, A, V, I, ob, a1, hx, hlater, hA, hM, rfl, hav, h1, h2, hc, hI, hVV, hnext⟩ hjl hfl
  have hlt : later = [] ∧ tail I V A := by
   rcases hnext with h | ⟨x, r, o, e, hxw, _, ho, _⟩
   ·exact h
   ·exact absurd hxw (hfl x (by rw [hx, e]; simp) (hlater x (by rw [e]; simp)) o ho).2
  obtain ⟨rfl, ht⟩ := hlt
  rw [List.append_nil] at hx
  have hyx : ∀ i, i ∈ ys ↔ i ∈ xs := fun i => by rw [hx]
  have hfacts : ∃ b, (j < l.length → ob = some b) ∧ (j < l.length → V0.heap.size ≤ b ∧ Blk W b ty cs ∧ ∀ p ∈ I, b < p.1 ∨ p.2 ≤ b) := by
   by_cases h : j < l.length
   ·exact absurd h (by omega)
   ·exact ⟨0, fun h' => absurd h' h, fun h' => absurd h' h⟩
  obtain ⟨b, hob, hblk⟩ := hfacts
  have hw := ht b W hc.1 hblk
  have hAc : (if j < l.length then A.put (some dj) (fv b) else A) = wJ ob A := by
   by_cases h : j < l.length
   ·rw [if_pos h, hob h]
   ·rw [if_neg h, h2 (by omega)]
  rw [hAc, hpe] at hw
  refine ⟨hsz, A, _, 0, Nat.zero_le _, (fun e he => by simp at he), (fun e he => hesl e (by simpa using he)), hjl, ⟨?_, ?_, fun t ht' => ?_⟩, fun t ht' => ?_, ?_, fun i hi t hd => ?_, fun t hno => ?_, fun i hi hf o ho => ?_, by simpa using hw⟩
  ·rw [wJd, wJd, hM.defers, hA.defers]
  ·rw [wJs, wJs, hM.size, hA.size]
  ·by_cases e : ob.isSome = true ∧ dj = t
   ·obtain ⟨e1, rfl⟩ := e
    obtain ⟨b', rfl⟩ := Option.isSome_iff_exists.1 e1
    have hlt := obJ h2 e1
    show (a1.tmps.setIfInBounds dj (fv b')).getD dj undef = (A.tmps.setIfInBounds dj (fv b')).getD dj undef
    rw [getD_set_same _ _ _ (by rw [hM.size]; exact hslot j hlt dj (hdj hlt)), getD_set_same _ _ _ (by rw [hA.size]; exact hslot j hlt dj (hdj hlt))]
   ·rw [wJo ob a1 t (fun h3 h4 => e ⟨h3, h4⟩), wJo ob A t (fun h3 h4 => e ⟨h3, h4⟩)]
    by_cases hex : ∃ i ∈ xs, dstAt l i = some t
    ·obtain ⟨i, hi, hd⟩ := hex
     have hl : listed.getD i false = true := by
      cases hc' : listed.getD i false with
      | true => rfl
      | false => exact absurd ⟨i, hi, hc', hd⟩ ht'
     exact hM.in_ i ⟨hi, hl⟩ t hd
    ·rw [hM.out t (fun i hi hd => hex ⟨i, hi.1, hd⟩), hA.out t (fun i hi hd => hex ⟨i, (hyx i).1 hi, hd⟩)]
  ·obtain ⟨i, hi, hu, hd⟩ := ht'
   obtain ⟨d, h8, h9⟩ := ok.own i (ok.x i hi).1 (ok.x i hi).2.2
   rw [hd] at h8
   cases h8
   rw [wJo ob a1 t (fun hsm e => by
    have hlt := obJ h2 hsm
    subst e
    exact (ok.x i hi).2.1 (hjd hlt i (ok.x i hi).1 hd))]
   refine hM.out t fun i2 hi2 hd2 => ?_
   have h10 := h9 i2 (ok.x i2 hi2.1).1 hd2
   subst h10
   rw [hu] at hi2
   cases hi2.2
  ·rw [wJs, hA.size]
  ·exact wJo ob A t (fun h3 h4 => (ok.x i hi).2.1 (hjd (obJ h2 h3) i (ok.x i hi).1 (by rw [hd, h4])))
  ·rw [wJo ob A t (fun h3 h4 => hno j (obJ h2 h3) (by rw [hdj (obJ h2 h3), h4]))]
   exact hA.out t fun i hi => hno i (ok.x i ((hyx i).1 hi)).1
  ·obtain ⟨pre, post, e1, e2, e3⟩ := hav i ((hyx i).2 hi) hf o ho
   obtain ⟨LF, h3, h4⟩ := e3 _ (Good.above V)
   exact ⟨pre, post, LF, e1, h3, late_yields (hfl i hi hf o ho).1 ⟨V, Grows.refl _⟩ h4⟩
 let St : Array Bool → Act → World → Prop := fun listed a W => StA listed a W ∨ StB listed a W
 have stepB : ∀ listed a W i o, l[i]? = some o → listed.getD i true = false → (∀ i', afterB l i i' = true → listed.getD i' false = true) → (∀ i', afterB l i' i = true → listed.getD i' false = false) → StB listed a W → wpListIn F n P l.toArray (Exit.then (St (listed.setIfInBounds i true)) Q) [o] a W := by
  rintro listed a W i o hol hu hwait hopen ⟨hsz, A, Ac, m, hm', ht, hdp, hjl, hR, hMi, hAcs, hAcx, hAco, hfl, hwp⟩
  have hi : i < l.length := (List.getElem?_eq_some_iff.1 hol).1
  have hfalse : listed.getD i false = false := getD_both hu
  have hsel : ∀ cs b, o.op ≠ .select cs b := fun cs b => Region.noSelect_spec ok.nosel i o cs b (by simpa using hol)
  rcases ok.part i hi with hix | hie | hij
  ·obtain ⟨pre, post, LF, hx, hLF, hy⟩ := hfl i hix hfalse o hol
   have hag : ∀ t ∈ o.looksAt l.toArray, LF.tmps.getD t undef = a.tmps.getD t undef := fun t ht' => by
    by_cases hex : ∃ i', i' < l.length ∧ dstAt l i' = some t
    ·obtain ⟨i', hi', hd⟩ := hex
     rcases ok.deps pre i post hx o hol t ht' i' hi' hd with ⟨h1, h2⟩ | ⟨h1, h2⟩
     rotate_left
     ·have hix' : i' ∈ xs := by rw [hx]; simp [h2]
      obtain ⟨d, h8, h9⟩ := ok.own i' hi' (ok.x i' hix').2.2
      rw [hd] at h8
      cases h8
      rw [hMi t ⟨i', hix', hopen _ h1, hd⟩]
      refine hLF.out t fun i2 hi2 hd2 => ?_
      have h10 := h9 i2 (ok.x i2 (by rw [hx]; simp [hi2])).1 hd2
      subst h10
      have h11 := ok.nodup
      rw [hx, List.nodup_append] at h11
      exact h11.2.2 i2 hi2 i2 (List.mem_cons_of_mem _ h2) rfl
     have hix' : i' ∈ xs := by rw [hx]; simp [h2]
     rw [hLF.in_ i' h2 t hd, hR.same t (fun ⟨i2, h5, h6, h7⟩ => by
      obtain ⟨d, h8, h9⟩ := ok.own i' hi' (ok.x i' hix').2.2
      rw [hd] at h8
      cases h8
      have := h9 i2 (ok.x i2 h5).1 h7
      subst this
      rw [hwait _ h1] at h6
      cases h6), hAcx i' hix' t hd]
    ·have hno : ∀ i', i' < l.length → dstAt l i' ≠ some t := fun i' hi' hd => hex ⟨i', hi', hd⟩
     rw [hLF.out t (fun i' hi' => hno i' (ok.x i' (by rw [hx]; simp [hi'])).1), hR.same t (fun ⟨i2, h5, _, h7⟩ => hno i2 (ok.x i2 h5).1 h7), hAco t hno]
   have hya := hy.agree hsel (hLF.size.trans (hAcs.symm.trans hR.size.symm)) hag
   obtain ⟨d, hdi, huniq⟩ := ok.own i hi (ok.x i hix).2.2
   have hdo : o.dst = some d := by unfold dstAt at hdi; rw [hol] at hdi; exact hdi
   have hnext : St (listed.setIfInBounds i true) (a.put o.dst (valOf l A i)) W := by
    refine .inr ⟨by simpa using hsz, A, Ac, m, hm', fun e he => ?_, fun e he => ?_, fun h => ?_, ?_, fun t ht' => ?_, hAcs, hAcx, hAco, fun i' hi' hf => ?_, hwp⟩
    ·rw [setD _ _ _ hsz hi]; unfold done; split
     ·rfl
     ·exact ht e he
    ·rw [setD _ _ _ hsz hi]; unfold done; rw [if_neg (fun e' => by subst e'; exact (ok.x e hix).2.2 (List.mem_of_mem_drop he))]; exact hdp e he
    ·rw [setD _ _ _ hsz hi]; unfold done; split
     ·rfl
     ·exact hjl h
    ·rw [hdo]
     refine ⟨hR.defers, by rw [← hR.size]; simp [Act.put], fun t ht' => ?_⟩
     by_cases e : t = d
     ·subst e
      rw [show (a.put (some t) (valOf l A i)).tmps = a.tmps.setIfInBounds t (valOf l A i) from rfl, getD_set_same _ _ _ (by rw [hR.size, hAcs]; exact hslot i hi t hdi), hAcx i hix t hdi]
      unfold valOf; rw [hdi]; rfl
     ·rw [show (a.put (some d) (valOf l A i)).tmps = a.tmps.setIfInBounds d (valOf l A i) from rfl, getD_set_other _ _ (Ne.symm e)]
      refine hR.same t fun ⟨i2, h5, h6, h7⟩ => ht' ⟨i2, h5, ?_, h7⟩
      rw [setD _ _ _ hsz hi]; unfold done
      rw [if_neg (fun e' => by subst e'; rw [hdi] at h7; exact e (Option.some.inj h7).symm)]
      exact h6
    ·obtain ⟨i2, h5, h6, h7⟩ := ht'
     rw [setD _ _ _ hsz hi] at h6
     unfold done at h6
     split at h6
     ·cases h6
     ·rename_i hne
      have e : d ≠ t := fun e => by
       subst e
       exact hne (huniq i2 (ok.x i2 h5).1 h7)
      rw [hdo, show (a.put (some d) (valOf l A i)).tmps = a.tmps.setIfInBounds d (valOf l A i) from rfl, getD_set_other _ _ e]
      exact hMi t ⟨i2, h5, h6, h7⟩
    ·rw [setD _ _ _ hsz hi] at hf
     unfold done at hf
     split at hf
     ·cases hf
     ·exact hfl i' hi' hf
   simp only [wpListIn]
   rcases hya.2 with ⟨hw, hv⟩ | ⟨hw, hv⟩
   ·rw [if_pos hw]
    unfold Oper.wpIn
    refine ⟨hya.1 W, ?_⟩
    rw [Oper.semAt_eq _ _ _ (hnd i o (by simpa using hol)), hv W]
    exact hnext
   ·rw [if_neg (by rw [hw]; simp)]
    refine ⟨hya.1 W, ?_⟩
    rw [hv] at hnext
    exact hnext
  ·have hmem : i ∈ es.drop m := by
    rcases (List.mem_append.1 (by rw [List.take_append_drop]; exact hie : i ∈ es.take m ++ es.drop m)) with h | h
    ·rw [ht i h] at hfalse; cases hfalse
    ·exact h
   have hml : m < es.length := by
    rcases Nat.lt_or_ge m es.length with h | h
    ·exact h
    ·rw [List.drop_of_length_le h] at hmem; cases hmem
   have hdrop : es.drop m = es[m] :: es.drop (m + 1) := List.drop_eq_getElem_cons hml
   have hie' : i = es[m] := by
    rw [hdrop] at hmem
    rcases List.mem_cons.1 hmem with h | h
    ·exact h
    ·exfalso
     have hlt : es[m] < i := by
      have hp := ok.upE.sublist (List.drop_sublist m es)
      rw [hdrop, List.pairwise_cons] at hp
      exact hp.1 i h
     have h1 := hwait _ (ok.chain i hie es[m] (List.getElem_mem _) hlt)
     rw [hdp es[m] (by rw [hdrop]; exact List.mem_cons_self)] at h1
     cases h1
   rw [hdrop, ← hie', pick_cons hol] at hwp
   have hdn : o.dst = none := by
    have := ok.edst i hie
    unfold dstAt at this
    rw [hol] at this
    exact this
   refine wpListIn_rel hsel (hnd i o (by simpa using hol)) hdn hR (fun t ht' => ?_) hwp ?_
   ·rintro ⟨i2, h5, h6, h7⟩
    rw [hwait _ (ok.depsE i hie o hol t ht' i2 (ok.x i2 h5).1 h7)] at h6
    cases h6
   ·rintro A' a' W' eA ea ed hwp'
    refine .inr ⟨by simpa using hsz, A, A', m + 1, hml, fun e he => ?_, fun e he => ?_, fun h => ?_, ?_, fun t ht' => ?_, by rw [eA]; exact hAcs, by rw [eA]; exact hAcx, by rw [eA]; exact hAco, fun i' hi' hf => ?_, hwp'⟩
    ·rw [setD _ _ _ hsz hi]; unfold done; split
     ·rfl
     ·rename_i hne
      rw [List.take_succ_eq_append_getElem hml] at he
      rcases List.mem_append.1 he with h | h
      ·exact ht e h
      ·exact absurd ((List.mem_singleton.1 h).trans hie'.symm) hne
    ·rw [setD _ _ _ hsz hi]; unfold done
     have hne : e ≠ i := fun e' => by
      have hp := ok.upE.sublist (List.drop_sublist m es)
      rw [hdrop, List.pairwise_cons] at hp
      have := hp.1 e he
      omega
     rw [if_neg hne]
     exact hdp e (by rw [hdrop]; exact List.mem_cons_of_mem _ he)
    ·rw [setD _ _ _ hsz hi]; unfold done; split
     ·rfl
     ·exact hjl h
    ·refine ⟨ed, by rw [ea, eA]; exact hR.size, fun t ht' => ?_⟩
     rw [ea, eA]
     refine hR.same t fun ⟨i2, h5, h6, h7⟩ => ht' ⟨i2, h5, ?_, h7⟩
     rw [setD _ _ _ hsz hi]; unfold done
     rw [if_neg (fun e' => by subst e'; exact (ok.x i2 h5).2.2 hie)]
     exact h6
    ·obtain ⟨i2, h5, h6, h7⟩ := ht'
     rw [setD _ _ _ hsz hi] at h6
     unfold done at h6
     split at h6
     ·cases h6
     ·rw [ea]
      exact hMi t ⟨i2, h5, h6, h7⟩
    ·rw [setD _ _ _ hsz hi] at hf
     unfold done at hf
     split at hf
     ·cases hf
     ·exact hfl i' hi' hf
  ·subst hij
   rw [hjl hi] at hfalse
   cases hfalse
 refine wpIn_region_inv2 hm St ?_ ?_ ?_ ?_
 ·rintro listed a W (⟨h, _⟩ | ⟨h, _⟩) <;> simpa using h
 ·obtain ⟨qs, later, A, hx, hA, _, hav, hnext⟩ := flow_enter (G := G) (F := F) (n := n) (P := P) (tail := tail) (a0 := a0) ok hs hfin stages hr0 (ys := []) h (by simpa using hxs.symm) (Mixed.nil (by simp))
  have hrep : ∀ i, (Array.replicate l.toArray.size false).getD i false = false := fun i => getD_replicate_false _ _
  refine .inl ⟨by simp, fun e _ => hrep e, qs, later, A, V0, [], none, a0, by simpa using hx, fun i _ => hrep i, by simpa using hA, Mixed.nil (fun i hi => by rw [hrep i] at hi; cases hi.2), rfl, fun i hi _ => by simpa using hav i hi, fun _ => hrep j, fun _ => rfl, ⟨hV, rfl⟩, fun p hp => by simp at hp, Nat.le_refl _, hnext⟩
 ·rintro listed a W i o ho hu hd hcl hst
  have hol : l[i]? = some o := by simpa using ho
  have hi : i < l.length := (List.getElem?_eq_some_iff.1 hol).1
  have hwait : ∀ i', afterB l i i' = true → listed.getD i' false = true := fun i' h => by
   unfold afterB at h
   rw [hol] at h
   obtain ⟨e, he, h2⟩ := List.any_eq_true.1 h
   simp only [Bool.and_eq_true, beq_iff_eq] at h2
   rw [← h2.1]
   exact hd e (by simpa using he) h2.2
  have hopen := behind_open hcl (i := i) (getD_both hu)
  rcases hst with hA0 | hBB
  ·obtain ⟨hsz, hesl, ys, later, A, V, I, ob, a1, hx, hlater, hA, hM, rfl, hav, h1, h2, hc, hI, hVV, hnext⟩ := hA0
   have hfalse : listed.getD i false = false := getD_both hu
   have hsel : ∀ cs b, o.op ≠ .select cs b := fun cs b => Region.noSelect_spec ok.nosel i o cs b ho
   rcases ok.part i hi with hix | hie | hij
   ·have hij : i ≠ j := (ok.x i hix).2.1
    obtain ⟨d, hdi, hun⟩ := ok.own i hi (ok.x i hix).2.2
    have hdo : o.dst = some d := by unfold dstAt at hdi; rw [hol] at hdi; exact hdi
    have hdd : ob.isSome = true → d ≠ dj := fun hsm e => by subst e; exact hij (hjd (obJ h2 hsm) i hi hdi)
    have e1 : ∀ e ∈ es, (listed.setIfInBounds i true).getD e false = false := fun e he => by
     rw [setD _ _ _ hsz hi]; unfold done
     rw [if_neg (fun e' => by subst e'; exact (ok.x e hix).2.2 he)]
     exact hesl e he
    have e2 : j < l.length → (listed.setIfInBounds i true).getD j false = ob.isSome := fun h => by
     rw [setD _ _ _ hsz hi]; unfold done
     rw [if_neg (Ne.symm hij)]
     exact h1 h
    have hmem : i ∈ ys ∨ i ∈ later := by rw [hx] at hix; exact List.mem_append.1 hix
    rcases hmem with hy | hlt
    ·-- quiet
     obtain ⟨pre, post, hp1, hp2, hp3⟩ := hav i hy hfalse o hol
     obtain ⟨LF, hLF, hyq⟩ := hp3 (cls I V ob) ⟨⟨W, hc⟩, fun _ h => Grows.below h.1, fun W W' h k => growC (I := I) h k⟩
     have hag := agreeA hol hp1 hwait hopen h2 hLF hM
     have hya := yields_agree hsel (hLF.size.trans ((wJs ob a1).trans hM.size).symm) hag hyq
     have hval : valOf l A i = A.tmps.getD d undef := by unfold valOf; rw [hdi]; rfl
     have hnx : ∀ W', cls I V ob W' → St (listed.setIfInBounds i true) ((wJ ob a1).put o.dst (valOf l A i)) W' := fun W' hW' => by
      refine .inl ⟨by simpa using hsz, e1, ys, later, A, V, I, ob, a1.put (some d) (A.tmps.getD d undef), hx, fun k hk => ?_, hA, (hM.step hdi (fun i' hi' hd' => hun i' (ok.x i' hi'.1).1 hd') (hslot i hi d hdi)).congr (mixS listed i hsz hi hix), by rw [hdo, hval]; exact wJp ob a1 d _ hdd, fun k hk hf => ?_, e2, h2, hW', hI, hVV, hnext⟩
      ·rw [setD _ _ _ hsz hi]; unfold done
       rw [if_neg (fun e' => by
        subst e'
        have := ok.nodup
        rw [hx, List.nodup_append] at this
        exact this.2.2 k hy k hk rfl)]
       exact hlater k hk
      ·rw [setD _ _ _ hsz hi] at hf
       unfold done at hf
       split at hf
       ·cases hf
       ·exact hav k hk hf
     simp only [wpListIn]
     rcases hya.2 with ⟨hw, hv⟩ | ⟨hw, hv⟩
     ·rw [if_pos hw]
      exact wpIn_of_quiet' (K := fun a' => a' = (wJ ob a1).put o.dst (valOf l A i)) (hnd i o ho) hc (fun a' W' hW' ha' => by subst ha'; exact hnx W' hW') hya.1 ⟨_, hv, rfl⟩
     ·rw [if_neg (by rw [hw]; simp)]
      refine ⟨hya.1 W hc, ?_⟩
      have := hnx W hc
      rw [hv] at this
      exact this
    ·rcases hnext with ⟨h3, _⟩ | ⟨x, r, ox, he, hxw, hr, hox, hwx⟩
     ·rw [h3] at hlt; cases hlt
     rw [he] at hlt
     rcases List.mem_cons.1 hlt with rfl | hlt
     ·-- the next call
      obtain rfl : ox = o := Option.some.inj (hox.symm.trans hol)
      have hp1 : xs = ys ++ i :: xsOf r fin := by rw [hx, he]
      have hag := agreeA hol hp1 hwait hopen h2 hA hM
      refine wpListIn_relD hsel (hnd i ox ho) (by rw [wJs, hM.size, hA.size]) hag (hwx W hc.1) ?_
      rintro A' a' W' v eA ea ed ⟨hdf, hbW, hfl⟩
      have hpd : ∀ (z : Act) (u : Value), (z.put ox.dst u).defers = z.defers := fun z u => by cases ox.dst <;> rfl
      have eA' : A' = A.put (some d) v := by
       obtain ⟨t1, d1⟩ := A'
       rw [hdo] at eA
       simp only at eA hdf
       subst eA hdf
       rfl
      have ea' : a' = (wJ ob a1).put (some d) v := by
       obtain ⟨t1, d1⟩ := a'
       rw [hdo] at ea
       have h5 := ed hdf
       simp only at ea h5
       subst ea h5
       rfl
      rw [eA'] at hfl
      have hA1 : Mixed l (· ∈ ys ++ [i]) (A.put (some d) v) a0 (A.put (some d) v) := by
       have hpt : (A.put (some d) v).tmps = A.tmps.setIfInBounds d v := rfl
       refine ⟨hA.defers, by rw [hpt]; simpa using hA.size, fun _ _ _ _ => rfl, fun t ht => ?_⟩
       rw [hpt, getD_set_other _ _ (fun e => ht i (by simp) (by rw [hdi, e]))]
       exact hA.out t fun k hk => ht k (by simp [hk])
      obtain ⟨qs, later', A2, hx2, hA2, hsame, hav2, hnext2⟩ := flow_enter (G := G) (F := F) (n := n) (P := P) (tail := tail) (a0 := a0) ok hs hfin r hr (ys := ys ++ [i]) hfl (by rw [hp1]; simp) hA1
      have hbV : G V W' := Grows.trans (Grows.below hc.1) hbW
      have hdv : (A.put (some d) v).tmps.getD d undef = v := getD_set_same _ _ _ (by rw [hA.size]; exact hslot i hi d hdi)
      have hold : ∀ k ∈ ys, ∀ t, dstAt l k = some t → A.tmps.getD t undef = A2.tmps.getD t undef := fun k hk t hd => by
       rw [← hsame k (by simp [hk]) t hd]
       refine (getD_set_other _ _ (fun e => ?_)).symm
       subst e
       have hkx : k ∈ xs := by rw [hx]; simp [hk]
       have := hun k (ok.x k hkx).1 hd
       subst this
       have h6 := ok.nodup
       rw [hp1, List.nodup_append] at h6
       exact h6.2.2 k hk k (by simp) rfl
      have hlat : ∀ k ∈ later', k ∈ later := fun k hk => by
       have h6 : xs = ys ++ (i :: (qs ++ later')) := by rw [hx2]; simp
       rw [hp1] at h6
       have h7 := List.append_cancel_left h6
       rw [he, h7]
       simp [hk]
      have hlist : ∀ k, k ∈ xs ∧ listed.getD k false = true → k ∈ ys := fun k hk => by
       have := hk.1
       rw [hx] at this
       rcases List.mem_append.1 this with h | h
       ·exact h
       ·rw [hlater k h] at hk; cases hk.2
      have hM2 : Mixed l (fun k => k ∈ xs ∧ (listed.setIfInBounds i true).getD k false = true) A2 a0 (a1.put (some d) v) := by
       have h6 := (hM.change (A' := A2) (fun k hk t hd => hold k (hlist k hk) t hd)).step hdi (fun i' hi' hd' => hun i' (ok.x i' hi'.1).1 hd') (hslot i hi d hdi)
       have h7 : A2.tmps.getD d undef = v := by rw [← hsame i (by simp) d hdi]; exact hdv
       rw [h7] at h6
       exact h6.congr (mixS listed i hsz hi hix)
      refine .inl ⟨by simpa using hsz, e1, ys ++ [i] ++ qs, later', A2, W', (W.heap.size, W'.heap.size) :: I, ob, a1.put (some d) v, hx2, fun k hk => ?_, hA2, hM2, by rw [ea']; exact wJp ob a1 d v hdd, fun k hk hf => ?_, e2, h2, ⟨Below.refl _ _, hc.2⟩, fun p hp => ?_, Nat.le_trans hVV (Grows.size hbV), hnext2⟩
      ·rw [setD _ _ _ hsz hi]; unfold done
       rw [if_neg (fun e' => by
        subst e'
        have := ok.nodup
        rw [hx2, List.nodup_append] at this
        exact this.2.2 k (by simp) k hk rfl)]
       exact hlater k (hlat k hk)
      ·rw [setD _ _ _ hsz hi] at hf
       unfold done at hf
       split at hf
       ·cases hf
       ·rename_i hki
        rcases List.mem_append.1 hk with hk | hk
        ·have hk' : k ∈ ys := by
          rcases List.mem_append.1 hk with h | h
          ·exact h
          ·exact absurd (List.mem_singleton.1 h) hki
         intro o' ho'
         obtain ⟨pre, post, q1, q2, q3⟩ := hav k hk' hf o' ho'
         refine ⟨pre, post, q1, fun k' hk2 => by simp [q2 k' hk2], fun C hC => ?_⟩
         obtain ⟨LF, q4, q5⟩ := q3 C (hC.up hbV)
         have hkv : valOf l A k = valOf l A2 k := by
          have hkx : k ∈ xs := by rw [hx]; simp [hk']
          obtain ⟨dk, g1, _⟩ := ok.own k (ok.x k hkx).1 (ok.x k hkx).2.2
          unfold valOf
          rw [g1]
          exact hold k hk' dk g1
         exact ⟨LF, q4.change (fun k2 hk2 t hd => hold k2 (q2 k2 hk2) t hd), by rw [← hkv]; exact q5⟩
        ·exact hav2 k hk
      ·rcases List.mem_cons.1 hp with rfl | hp
       ·exact Nat.le_refl _
       ·exact Nat.le_trans (hI p hp) (Grows.size hbV)
     ·-- not yet
      exfalso
      have hp1 : xs = ys ++ x :: xsOf r fin := by rw [hx, he]
      obtain ⟨m, hm1, hm2⟩ := ok.ord ys x _ hp1 hxw i hlt
      have := hwait m hm2
      rw [hlater m (by rw [he]; exact hm1)] at this
      cases this
   ·refine stepB listed _ W i o hol hu hwait hopen (toB listed _ W ⟨hsz, hesl, ys, later, A, V, I, ob, a1, hx, hlater, hA, hM, rfl, hav, h1, h2, hc, hI, hVV, hnext⟩ (fun h => hwait j (ok.fresh i hie h)) fun i' hi' hf o' ho' => ?_)
    rcases ok.late i' hi' o' ho' with h | h
    ·exact h
    ·rw [after2_listed (h i hie) hwait hcl] at hf
     cases hf
   ·subst hij
    exact absurd hi (by omega)
  ·exact stepB listed a W i o hol hu hwait hopen hBB
 ·rintro listed a W hr hst
  have hal : ∀ i, i < l.length → listed.getD i false = true := by
   rcases hst with ⟨h, _⟩ | ⟨h, _⟩ <;> exact fun i hi => ready_nil_all ok.back (by simpa using h) hr i (by simpa using hi)
  have hBB : StB listed a W := by
   rcases hst with h | h
   ·exact toB listed a W h (fun h' => hal j h') (fun i hi hf => by rw [hal i (ok.x i hi).1] at hf; cases hf)
   ·exact h
  obtain ⟨hsz, A, Ac, m, hm', ht, hdp, hjl, hR, _, hAcs, hAcx, hAco, hfl, hwp⟩ := hBB
  have hnil : es.drop m = [] := by
   cases h : es.drop m with
   | nil => rfl
   | cons e r =>
    have h1 := hdp e (by rw [h]; simp)
    rw [hal e (ok.e e (List.mem_of_mem_drop (by rw [h]; simp))).1] at h1
    cases h1
  rw [hnil] at hwp
  have hEq : a = Ac := by
   obtain ⟨t, d⟩ := a
   obtain ⟨t', d'⟩ := Ac
   have e1 : d = d' := hR.defers
   have s1 : t.size = t'.size := hR.size
   have e2 : t = t' := by
    apply Array.ext s1
    intro i h1 h2
    have := hR.same i (fun ⟨i2, h5, h6, _⟩ => by rw [hal i2 (ok.x i2 h5).1] at h6; cases h6)
    simpa [h1, h2] using this
   rw [e1, e2]
  subst hEq
  exact hwp

/-- THE LAW, without a new block. -/
theorem wpIn_flow_old {Q : Exit → Act → World → Prop} {id : Nat} {a0 : Act} {w V0 : World} (stages : List (List Bool × Nat)) (fin em : List Bool)
  (hm : P.follows .mixedOrders = true) (hB : (flowB l (xsOf stages fin) (stages.map (·.2)) (idxs 0 em) l.length && stages.all (fun p => decide (p.1.length ≤ l.length)) && decide (fin.length ≤ l.length) && decide (em.length ≤ l.length)) = true)
  (hs : slotsM l a0.tmps.size = true) (hV : Below V0.heap.size V0 w.drew)
  (h : wpFlow G F n P l (fun I V A => ∀ W, Below V.heap.size V W → wpT F n P l.toArray (Q .normal) (pickB l em) A W) stages fin [] V0 a0) : (Code.region id l.toArray true).wpIn F n P Q a0 w := by
 refine wpIn_region_flow (G := G) stages fin em l.length 0 (fun _ => undef) 0 #[] (Nat.le_refl _) hm hB hs hV (fun h => absurd h (Nat.lt_irrefl _)) ?_
 have e : tailF G F n P l em l.length 0 (fun _ => undef) 0 #[] V0 (Q .normal) = fun I V A => ∀ W, Below V.heap.size V W → wpT F n P l.toArray (Q .normal) (pickB l em) A W := by
  funext I V A
  unfold tailF
  exact propext ⟨fun k W h1 => by have := k 0 W h1 (fun h => absurd h (Nat.lt_irrefl _)); rwa [if_neg (Nat.lt_irrefl _)] at this, fun k b W h1 _ => by rw [if_neg (Nat.lt_irrefl _)]; exact k W h1⟩
 rw [e]
 exact h
end
end Go.Proofs.YtjdgdeiedkickaaDoor.Gr
/- The law of a drawn region by a plan: quiet operations float; of those that do something, whichever of some comes next; stores last. -/
namespace Go.Proofs.YtjdgdeiedkickaaDoor.Tr
open Go.RowKit Gr
set_option linter.unusedSectionVars false

/-- The plainest growth. -/
def Up (A B : World) : Prop := Below A.heap.size A B
instance up_grows : Grows Up where
 refl := fun W => Below.refl _ W
 trans := fun {A B C} (h : Below A.heap.size A B) (k : Below B.heap.size B C) => (show Below A.heap.size A C from h.trans (k.mono h.size))
 below := fun h => h
 size := fun {A B} (h : Below A.heap.size A B) => h.size
/-- A row of the plan: what has been carried out (in increasing order), the quiet operations to be walked, what may come next. -/
abbrev Plan := List (List Nat × List Bool × List Nat)
structure TreeOk (l : List Oper) (es : List Nat) : Prop where
 upE : es.Pairwise (· < ·)
 back : backB l.toArray = true
 nosel : Region.noSelect l.toArray = true
 nodef : noDeferB l = true
 e : ∀ i ∈ es, i < l.length
 own : ∀ i, i < l.length → i ∉ es → ∃ d, dstAt l i = some d ∧ ∀ i', i' < l.length → dstAt l i' = some d → i' = i
 depsE : ∀ i ∈ es, ∀ o, l[i]? = some o → ∀ t ∈ o.looksAt l.toArray, ∀ i', i' < l.length → dstAt l i' = some t → afterB l i i' = true
 chain : ∀ e ∈ es, ∀ e' ∈ es, e' < e → afterB l e e' = true
 late : ∀ i, i < l.length → i ∉ es → ∀ o, l[i]? = some o → lateB o = true ∨ ∀ e ∈ es, afterB l e i = true
 edst : ∀ e ∈ es, dstAt l e = none
/-- What has been carried out, or walked, in an order. -/
structure PathOk (l : List Oper) (es ys : List Nat) : Prop where
 nodup : ys.Nodup
 x : ∀ i ∈ ys, i < l.length ∧ i ∉ es
 deps : ∀ pre i post, ys = pre ++ i :: post → ∀ o, l[i]? = some o → ∀ t ∈ o.looksAt l.toArray, ∀ i', i' < l.length → dstAt l i' = some t → afterB l i i' = true ∧ i' ∈ pre
theorem PathOk.nil {l : List Oper} {es : List Nat} : PathOk l es [] := ⟨List.nodup_nil, (fun i h => by cases h), fun pre i post e => by simp at e⟩
theorem PathOk.snoc {l : List Oper} {es ys : List Nat} (h : PathOk l es ys) {x : Nat} (h1 : x < l.length) (h2 : x ∉ es) (h3 : x ∉ ys) (h4 : readsB l x ys = true) : PathOk l es (ys ++ [x]) := by
 refine ⟨?_, fun i hi => ?_, fun pre i post e => ?_⟩
 ·rw [List.nodup_append]
  exact ⟨h.nodup, by simp, fun a ha b hb e => h3 (by rw [List.mem_singleton.1 hb] at e; rw [← e]; exact ha)⟩
 ·rcases List.mem_append.1 hi with hi | hi
  ·exact h.x i hi
  ·rw [List.mem_singleton.1 hi]; exact ⟨h1, h2⟩
 ·rcases List.append_eq_append_iff.1 e.symm with ⟨a', e1, e2⟩ | ⟨c', e1, e2⟩
  ·cases a' with
   | nil =>
    simp at e2
    obtain ⟨rfl, rfl⟩ := e2
    simp at e1
    subst e1
    exact readsB_spec h4
   | cons q a' =>
    simp at e2
    obtain ⟨rfl, rfl⟩ := e2
    exact h.deps pre i a' e1
  ·cases c' with
   | nil =>
    simp at e1 e2
    obtain ⟨rfl, rfl⟩ := e2
    subst e1
    exact readsB_spec h4
   | cons q c' => simp at e2
theorem PathOk.more {l : List Oper} {es : List Nat} : ∀ {qs ys : List Nat}, PathOk l es ys → depsB l ys qs = true → (∀ i ∈ qs, i < l.length ∧ i ∉ es ∧ i ∉ ys) → qs.Nodup → PathOk l es (ys ++ qs)
 | [], ys, h, _, _, _ => by simpa using h
 | x :: qs, ys, h, hd, hx, hn => by
  simp only [depsB, Bool.and_eq_true] at hd
  rw [List.nodup_cons] at hn
  have h1 := h.snoc (hx x (by simp)).1 (hx x (by simp)).2.1 (hx x (by simp)).2.2 hd.1
  have h2 := PathOk.more (qs := qs) h1 hd.2 (fun i hi => ⟨(hx i (by simp [hi])).1, (hx i (by simp [hi])).2.1, fun hm => by
   rcases List.mem_append.1 hm with hm | hm
   ·exact (hx i (by simp [hi])).2.2 hm
   ·rw [List.mem_singleton.1 hm] at hi; exact hn.1 hi⟩) hn.2
  simpa using h2
section
variable {G : World → World → Prop} [Grows G] {F : Fence} {n : Nat} {P : Program} {l : List Oper}
/-- It may come up, and yields what A says. -/
def AvT (G : World → World → Prop) (F : Fence) (n : Nat) (P : Program) (l : List Oper) (a0 : Act) (ys : List Nat) (V : World) (A : Act) (i : Nat) : Prop :=
 ∀ o, l[i]? = some o → ∃ pre post, ys = pre ++ i :: post ∧ ∀ C, Gr.Good G V C → ∃ LF, Mixed l (· ∈ pre) A a0 LF ∧ YieldsQuiet F n P l.toArray C o (valOf l A i) LF
section
variable {es : List Nat} {a0 : Act} {tail : World → Act → Prop} {tab : Plan}
theorem enter_core (ok : TreeOk l es) (hs : slotsM l a0.tmps.size = true) {ys qs : List Nat} {V : World} {A1 A : Act} (hp : PathOk l es (ys ++ qs)) (hA1 : Mixed l (· ∈ ys) A1 a0 A1) (hq : Gr.Quietly G F n P l V (pick l qs) A1 A) :
  Mixed l (· ∈ ys ++ qs) A a0 A ∧ (∀ i ∈ ys, ∀ t, dstAt l i = some t → A1.tmps.getD t undef = A.tmps.getD t undef) ∧ ∀ i ∈ qs, AvT G F n P l a0 (ys ++ qs) V A i := by
 have hslot : ∀ i, i < l.length → ∀ d, dstAt l i = some d → d < a0.tmps.size := fun i hi d hd => by
  have := List.all_eq_true.1 hs i (List.mem_range.2 hi)
  rw [hd] at this
  simpa using this
 have hnd := hp.nodup
 rw [List.nodup_append] at hnd
 obtain ⟨_, hnq, hdis⟩ := hnd
 have hcond : ∀ i ∈ qs, i < l.length ∧ ∃ d, dstAt l i = some d ∧ d < A1.tmps.size ∧ ∀ i' ∈ qs, dstAt l i' = some d → i' = i := fun i hi => by
  obtain ⟨h1, h3⟩ := hp.x i (by simp [hi])
  obtain ⟨d, h4, h5⟩ := ok.own i h1 h3
  exact ⟨h1, d, h4, by rw [hA1.size]; exact hslot i h1 d h4, fun i' hi' hd' => h5 i' (hp.x i' (by simp [hi'])).1 hd'⟩
 have S := fun (C : World → Prop) (hC : Gr.Good G V C) => quiet_seq (F := F) (n := n) (P := P) (l := l) (C := C) (A := A) qs A1 hcond hnq (hq.cls hC)
 obtain ⟨M, _⟩ := S _ (Gr.Good.above V)
 have same : ∀ i ∈ ys, ∀ t, dstAt l i = some t → A1.tmps.getD t undef = A.tmps.getD t undef := fun i hi t ht => by
  refine (M.out t fun i' hi' hd' => ?_).symm
  obtain ⟨h1, h3⟩ := hp.x i (by simp [hi])
  obtain ⟨d, h4, h5⟩ := ok.own i h1 h3
  rw [ht] at h4
  cases h4
  have := h5 i' (hp.x i' (by simp [hi'])).1 hd'
  subst this
  exact hdis i' hi i' hi' rfl
 have B := hA1.change same
 refine ⟨(M.trans B).congr (fun i => by simp [or_comm]), same, fun i hi o ho => ?_⟩
 obtain ⟨pre, post, e⟩ := List.append_of_mem hi
 refine ⟨ys ++ pre, post, by rw [e]; simp, fun C hC => ?_⟩
 obtain ⟨LF, h1, h2⟩ := (S C hC).2 pre i post e o ho
 exact ⟨LF, (h1.trans B).congr (fun k => by simp [or_comm]), h2⟩
end

end
end Go.Proofs.YtjdgdeiedkickaaDoor.Tr
/- A growth: all old memory stays but one row. -/
namespace Go.Proofs.YtjdgdeiedkickaaDoor
open Go.RowKit

def UpRow (row : Option Nat) (A C : World) : Prop := A.grownBy C row
instance uprow_grows (row : Option Nat) : Gr.Grows (UpRow row) where
 refl := fun W => grown_refl W row
 trans := fun h k => grown_trans h k
 below := fun h => grown_of_below h row
 size := fun h => h.size
end Go.Proofs.YtjdgdeiedkickaaDoor
