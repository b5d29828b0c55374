/- Part 10 of the texts of this claim, joined. -/
import Derived.Test.YtahkjagjcogeiaaGreatDoorZb9
set_option linter.unusedVariables false
/- climb.Quick: the walk that surely takes the shortest time. -/
namespace Go.Proofs.YtahkjagjcogeiaaGreatDoor
open Go.RowKit Go.Shelf

def quickF (t : Town) (s : Gait) (u v : Int) (dk : Bool) : List Int × Span × Int := if or2 (askE t [u, v]) (slowE s) = 0 then (match best t dk (timeP s.pace.hi s.step.hi) u v with
 | none => ([], ⟨0, 0⟩, 6)
 | some q => (q.2, ⟨firstA t (timeP s.pace.lo s.step.lo) u q.2, firstA t (timeP s.pace.hi s.step.hi) u q.2⟩, 0)) else ([], ⟨0, 0⟩, or2 (askE t [u, v]) (slowE s))
def QuickOut (w : World) (r : List Int × Span × Int) (x : Ending) (w' : World) : Prop := ∃ (A : Option Addr) (n c : Nat), x = .returned (.tuple #[.slice A n c, .agg #[.int .i64 r.2.1.lo, .int .i64 r.2.1.hi], .int .i64 r.2.2]) ∧ IntsAt w' w'.heap.size A n r.1 ∧ Below w.heap.size w w'

set_option maxRecDepth 100000 in
set_option maxHeartbeats 16000000 in
theorem quick_in (A : Option Addr) (n c : Nat) (A' : Option Addr) (m d : Nat) (t : Town) (s : Gait) (u v : Int) (dk : Bool) (w : World)
  (hn : n ≤ 1000) (hm : m ≤ 1000) (ht : TownAt w w.heap.size A n A' m t) (hL : Laid w) :
  CallsIn Fence.wide 9 Tryz.prog 38 #[.agg #[.slice A n c, .slice A' m d], .agg #[.int .i64 s.pace.lo, .int .i64 s.pace.hi, .int .i64 s.step.lo, .int .i64 s.step.hi], .int .i64 u, .int .i64 v, .bool dk] w (QuickOut w (quickF t s u v dk)) := by
 have HT := Lib.hid ht
 have HL := Lib.hid hL
 have hl0 := hL.2.2.2
 clear ht hL
 refine callsIn_of_wp Tryz.func38 rfl trivial ?_ rfl
 simp only [Tryz.ntmps38, List.size_toArray, List.length_cons, List.length_nil, Nat.reduceAdd, Nat.reduceSub, Array.replicate_succ, Array.replicate_zero, List.push_toArray, List.append_toArray, List.nil_append, List.cons_append]
 gi_wp2
 have HLay := Lib.hid (Lay.three w 25 #[.slice A n c, .slice A' m d] 73 #[.int .i64 s.pace.lo, .int .i64 s.pace.hi, .int .i64 s.step.lo, .int .i64 s.step.hi] 63 #[.int .i64 0, .int .i64 0])
 generalize (((w.alloc (.cells #[.slice A n c, .slice A' m d] 25)).alloc (.cells #[.int .i64 s.pace.lo, .int .i64 s.pace.hi, .int .i64 s.step.lo, .int .i64 s.step.hi] 73)).alloc (.cells #[.int .i64 0, .int .i64 0] 63)) = w0 at *
 refine wpIn_flow_old [([true, true, true, false, false, true], 3), ([], 4), ([], 6), ([], 7), ([], 8)] [false, false, false, false, false, false, false, false, false, true] [] (by kernel_rfl) (by kernel_rfl) (by kernel_rfl) (below_drewN (Below.refl _ _) 1) ?_
 refine wpFlow_cons (A := ?AF1) rfl ?hq1 ?_
 case hq1 =>
  rintro σ hσ of hof hcl
  have HOF := Lib.hid hof
  have HCL := Lib.hid hcl
  clear hof hcl
  have c0_ : ∀ z, (of z).cell? ⟨w.heap.size, 0, none⟩ = some (.slice A n c) := fun z => ((HLay.out.below (HOF.out z)).blk 0 rfl).cell 0
  have c1_ : ∀ z, (of z).cell? ⟨w.heap.size, 1, none⟩ = some (.slice A' m d) := fun z => ((HLay.out.below (HOF.out z)).blk 0 rfl).cell 1
  have c2_ : ∀ z, (of z).cell? ⟨w.heap.size + 1, 0, none⟩ = some (.int .i64 s.pace.lo) := fun z => ((HLay.out.below (HOF.out z)).blk 1 rfl).cell 0
  have c3_ : ∀ z, (of z).cell? ⟨w.heap.size + 1, 1, none⟩ = some (.int .i64 s.pace.hi) := fun z => ((HLay.out.below (HOF.out z)).blk 1 rfl).cell 1
  have c4_ : ∀ z, (of z).cell? ⟨w.heap.size + 1, 2, none⟩ = some (.int .i64 s.step.lo) := fun z => ((HLay.out.below (HOF.out z)).blk 1 rfl).cell 2
  have c5_ : ∀ z, (of z).cell? ⟨w.heap.size + 1, 3, none⟩ = some (.int .i64 s.step.hi) := fun z => ((HLay.out.below (HOF.out z)).blk 1 rfl).cell 3
  have hfw : ∀ f, Fence.wide.fn f := fun _ => trivial
  simp only [pickB]
  repeat (gi_big_quiet_step (fail))
  refine wpQuietIn_nil ?_
  exact rfl
 intro W1 hW
 replace HLay := Lib.hid (HLay.out.below hW)
 clear hW
 gi_wp2
 refine ⟨trivial, (Below.refl _ _).alloc (Nat.le_refl _) _, ?_⟩
 have hb : Below W1.heap.size W1 (W1.alloc (.cells #[.int .i64 u, .int .i64 v] 3)) := (Below.refl _ _).alloc (Nat.le_refl _) _
 replace HLay := Lib.hid (HLay.out.below hb)
 have HPl := Lib.hid (show IntsAt (W1.alloc (.cells #[.int .i64 u, .int .i64 v] 3)) (W1.alloc (.cells #[.int .i64 u, .int .i64 v] 3)).heap.size (some ⟨W1.heap.size, 0, none⟩) 2 [u, v] from IntsAt.new W1 3 [u, v] _ (by simp))
 obtain ⟨P3, hP⟩ : ∃ P, W1.heap.size = P := ⟨_, rfl⟩
 rw [hP] at HPl ⊢
 generalize (W1.alloc (.cells #[.int .i64 u, .int .i64 v] 3)) = V2 at *
 clear hb hP
 refine wpFlow_cons rfl Quietly.none ?_
 intro W4 hW
 replace HLay := Lib.hid (HLay.out.below hW)
 replace HPl := Lib.hid ((HPl.out.below hW).more hW.size)
 clear hW
 have hlw := (HLay.out.blk 1 rfl).lt
 gi_wp2
 refine ⟨trivial, (callsIn_wide.2 (asked_any A n c A' m d t (some ⟨P3, 0, none⟩) 2 2 [u, v] W4 (by unfold maxLen; omega) (by unfold maxLen; omega) (by decide) ((HT.out.below HLay.out.1).more HLay.out.1.size) HPl.out (HL.out.below HLay.out.1 hl0))).mono ?_⟩
 rintro e W5 ⟨rfl, hb⟩
 replace HLay := Lib.hid (HLay.out.below hb)
 replace HPl := Lib.hid ((HPl.out.below hb).more hb.size)
 gi_wp2
 refine ⟨trivial, hb, ?_⟩
 clear hb
 clear HPl
 refine wpFlow_cons rfl Quietly.none ?_
 intro W6 hW
 replace HLay := Lib.hid (HLay.out.below hW)
 clear hW
 have hlw := (HLay.out.blk 1 rfl).lt
 gi_wp2
 refine ⟨trivial, (callsIn_wide.2 (slow_any s W6)).mono ?_⟩
 rintro e W7 ⟨rfl, hb⟩
 replace HLay := Lib.hid (HLay.out.below hb)
 gi_wp2
 refine ⟨trivial, hb, ?_⟩
 clear hb
 refine wpFlow_cons rfl Quietly.none ?_
 intro W8 hW
 replace HLay := Lib.hid (HLay.out.below hW)
 clear hW
 gi_wp2
 refine ⟨trivial, (Below.refl _ _).alloc (Nat.le_refl _) _, ?_⟩
 have hb : Below W8.heap.size W8 (W8.alloc (.cells #[.int .i64 (askE t [u, v]), .int .i64 (slowE s)] 30)) := (Below.refl _ _).alloc (Nat.le_refl _) _
 replace HLay := Lib.hid (HLay.out.below hb)
 have HOr := Lib.hid (Blk.new W8 30 #[.int .i64 (askE t [u, v]), .int .i64 (slowE s)])
 obtain ⟨P10, hP⟩ : ∃ P, W8.heap.size = P := ⟨_, rfl⟩
 rw [hP] at HOr ⊢
 generalize (W8.alloc (.cells #[.int .i64 (askE t [u, v]), .int .i64 (slowE s)] 30)) = V9 at *
 clear hb hP
 refine wpFlow_cons rfl Quietly.none ?_
 intro W11 hW
 replace HLay := Lib.hid (HLay.out.below hW)
 replace HOr := Lib.hid (HOr.out.below hW HOr.out.lt)
 clear hW
 gi_wp2
 refine ⟨trivial, (callsIn_wide.2 (or_any (askE t [u, v]) (slowE s) P10 W11 HOr.out)).mono ?_⟩
 rintro e W12 ⟨rfl, rfl⟩
 gi_wp2
 refine ⟨trivial, Below.refl _ _, ?_⟩
 clear HOr
 obtain ⟨ee, hee⟩ : ∃ ee, or2 (askE t [u, v]) (slowE s) = ee := ⟨_, rfl⟩
 rw [hee]
 have HEE := Lib.hid hee
 clear hee
 refine wpFlow_nil (A := ?AF2) ?hq2 ?_
 case hq2 =>
  rintro σ hσ of hof hcl
  have HOF := Lib.hid hof
  have HCL := Lib.hid hcl
  clear hof hcl
  have c0_ : ∀ z, (of z).cell? ⟨w.heap.size, 0, none⟩ = some (.slice A n c) := fun z => ((HLay.out.below (HOF.out z)).blk 0 rfl).cell 0
  have c1_ : ∀ z, (of z).cell? ⟨w.heap.size, 1, none⟩ = some (.slice A' m d) := fun z => ((HLay.out.below (HOF.out z)).blk 0 rfl).cell 1
  have c2_ : ∀ z, (of z).cell? ⟨w.heap.size + 1, 0, none⟩ = some (.int .i64 s.pace.lo) := fun z => ((HLay.out.below (HOF.out z)).blk 1 rfl).cell 0
  have c3_ : ∀ z, (of z).cell? ⟨w.heap.size + 1, 1, none⟩ = some (.int .i64 s.pace.hi) := fun z => ((HLay.out.below (HOF.out z)).blk 1 rfl).cell 1
  have c4_ : ∀ z, (of z).cell? ⟨w.heap.size + 1, 2, none⟩ = some (.int .i64 s.step.lo) := fun z => ((HLay.out.below (HOF.out z)).blk 1 rfl).cell 2
  have c5_ : ∀ z, (of z).cell? ⟨w.heap.size + 1, 3, none⟩ = some (.int .i64 s.step.hi) := fun z => ((HLay.out.below (HOF.out z)).blk 1 rfl).cell 3
  have hfw : ∀ f, Fence.wide.fn f := fun _ => trivial
  simp only [pickB]
  repeat (gi_big_quiet_step (fail))
  refine wpQuietIn_nil ?_
  exact rfl
 intro W13 hW
 replace HLay := Lib.hid (HLay.out.below hW)
 clear hW
 simp only [pickB]
 refine wpT_nil ?_
 have x0_0 := (HLay.out.blk 0 rfl).cell 0
 have x0_1 := (HLay.out.blk 0 rfl).cell 1
 have l0_ := HLay.out.lt 0 rfl
 have x1_0 := (HLay.out.blk 1 rfl).cell 0
 have x1_1 := (HLay.out.blk 1 rfl).cell 1
 have x1_2 := (HLay.out.blk 1 rfl).cell 2
 have x1_3 := (HLay.out.blk 1 rfl).cell 3
 have l1_ := HLay.out.lt 1 rfl
 have x2_0 := (HLay.out.blk 2 rfl).cell 0
 have z2_0 := (HLay.out.blk 2 rfl).frozen 0
 have x2_1 := (HLay.out.blk 2 rfl).cell 1
 have z2_1 := (HLay.out.blk 2 rfl).frozen 1
 have l2_ := HLay.out.lt 2 rfl
 by_cases h0 : ee = 0
 ·subst h0
  have HOK := Lib.hid (or2_zero HEE.out)
  obtain ⟨htb, hhas⟩ := askE_zero HOK.out.1
  have HG := Lib.hid (goodT htb)
  have HGS := Lib.hid (goodG (slowE_zero HOK.out.2))
  have HUV := Lib.hid (hasB_mem hhas)
  have hm20 : m ≤ 20 := by have := HG.out.links; have := HT.out.links.len; omega
  clear htb hhas
  have HFP := Lib.hid (timeP_fair (a := s.pace.hi) (b := s.step.hi) (by have := HGS.out.pace; omega) (by have := HGS.out.step; omega))
  gi_wp2
  clear x0_0 x0_1 l0_ x1_0 x1_1 x1_2 x1_3 l1_ x2_0 z2_0 x2_1 z2_1 l2_
  clear hlw
  refine wpIn_flow_old [([true, true, true, true, true, true, true, true], 8)] [false, false, false, false, false, false, false, false, false, true, true, true] [] (by kernel_rfl) (by kernel_rfl) (by kernel_rfl) (below_drewN (Below.refl _ _) 1) ?_
  refine wpFlow_cons (A := ?AF3) rfl ?hq3 ?_
  case hq3 =>
   rintro σ hσ of hof hcl
   have HOF := Lib.hid hof
   have HCL := Lib.hid hcl
   clear hof hcl
   have c0_ : ∀ z, (of z).cell? ⟨w.heap.size, 0, none⟩ = some (.slice A n c) := fun z => ((HLay.out.below (HOF.out z)).blk 0 rfl).cell 0
   have c1_ : ∀ z, (of z).cell? ⟨w.heap.size, 1, none⟩ = some (.slice A' m d) := fun z => ((HLay.out.below (HOF.out z)).blk 0 rfl).cell 1
   have c2_ : ∀ z, (of z).cell? ⟨w.heap.size + 1, 0, none⟩ = some (.int .i64 s.pace.lo) := fun z => ((HLay.out.below (HOF.out z)).blk 1 rfl).cell 0
   have c3_ : ∀ z, (of z).cell? ⟨w.heap.size + 1, 1, none⟩ = some (.int .i64 s.pace.hi) := fun z => ((HLay.out.below (HOF.out z)).blk 1 rfl).cell 1
   have c4_ : ∀ z, (of z).cell? ⟨w.heap.size + 1, 2, none⟩ = some (.int .i64 s.step.lo) := fun z => ((HLay.out.below (HOF.out z)).blk 1 rfl).cell 2
   have c5_ : ∀ z, (of z).cell? ⟨w.heap.size + 1, 3, none⟩ = some (.int .i64 s.step.hi) := fun z => ((HLay.out.below (HOF.out z)).blk 1 rfl).cell 3
   have hfw : ∀ f, Fence.wide.fn f := fun _ => trivial
   simp only [pickB]
   repeat (gi_big_quiet_step (fail))
   refine wpQuietIn_nil ?_
   exact rfl
  intro W14 hW
  replace HLay := Lib.hid (HLay.out.below hW)
  clear hW
  gi_wp2
  refine ⟨trivial, (callsIn_wide.2 (takes_any s.pace.hi s.step.hi W14 (by have := HGS.out.pace; omega) (by have := HGS.out.step; omega))).mono ?_⟩
  rintro e W15 ⟨⟨b1, b2, rfl, hp1⟩, hb⟩
  replace HLay := Lib.hid (HLay.out.below hb)
  have HP1 := Lib.hid hp1
  clear hp1
  gi_wp2
  refine ⟨trivial, hb, ?_⟩
  clear hb
  refine wpFlow_nil (A := ?AF4) ?hq4 ?_
  case hq4 =>
   rintro σ hσ of hof hcl
   have HOF := Lib.hid hof
   have HCL := Lib.hid hcl
   clear hof hcl
   have c0_ : ∀ z, (of z).cell? ⟨w.heap.size, 0, none⟩ = some (.slice A n c) := fun z => ((HLay.out.below (HOF.out z)).blk 0 rfl).cell 0
   have c1_ : ∀ z, (of z).cell? ⟨w.heap.size, 1, none⟩ = some (.slice A' m d) := fun z => ((HLay.out.below (HOF.out z)).blk 0 rfl).cell 1
   have c2_ : ∀ z, (of z).cell? ⟨w.heap.size + 1, 0, none⟩ = some (.int .i64 s.pace.lo) := fun z => ((HLay.out.below (HOF.out z)).blk 1 rfl).cell 0
   have c3_ : ∀ z, (of z).cell? ⟨w.heap.size + 1, 1, none⟩ = some (.int .i64 s.pace.hi) := fun z => ((HLay.out.below (HOF.out z)).blk 1 rfl).cell 1
   have c4_ : ∀ z, (of z).cell? ⟨w.heap.size + 1, 2, none⟩ = some (.int .i64 s.step.lo) := fun z => ((HLay.out.below (HOF.out z)).blk 1 rfl).cell 2
   have c5_ : ∀ z, (of z).cell? ⟨w.heap.size + 1, 3, none⟩ = some (.int .i64 s.step.hi) := fun z => ((HLay.out.below (HOF.out z)).blk 1 rfl).cell 3
   have hfw : ∀ f, Fence.wide.fn f := fun _ => trivial
   simp only [pickB]
   repeat (gi_big_quiet_step (fail))
   refine wpQuietIn_nil ?_
   exact rfl
  intro W16 hW
  replace HLay := Lib.hid (HLay.out.below hW)
  replace HP1 := Lib.hid (HP1.out.below hW)
  clear hW
  simp only [pickB]
  refine wpT_nil ?_
  have x0_0 := (HLay.out.blk 0 rfl).cell 0
  have x0_1 := (HLay.out.blk 0 rfl).cell 1
  have l0_ := HLay.out.lt 0 rfl
  have x1_0 := (HLay.out.blk 1 rfl).cell 0
  have x1_1 := (HLay.out.blk 1 rfl).cell 1
  have x1_2 := (HLay.out.blk 1 rfl).cell 2
  have x1_3 := (HLay.out.blk 1 rfl).cell 3
  have l1_ := HLay.out.lt 1 rfl
  have x2_0 := (HLay.out.blk 2 rfl).cell 0
  have z2_0 := (HLay.out.blk 2 rfl).frozen 0
  have x2_1 := (HLay.out.blk 2 rfl).cell 1
  have z2_1 := (HLay.out.blk 2 rfl).frozen 1
  have l2_ := HLay.out.lt 2 rfl
  gi_wp2
  clear x0_0 x0_1 l0_ x1_0 x1_1 x1_2 x1_3 l1_ x2_0 z2_0 x2_1 z2_1 l2_
  refine ⟨trivial, (callsIn_wide.2 (callsIn_wide.1 (all_in A n c A' m d dk _ _ (timeP s.pace.hi s.step.hi) t u W16 hm20 ((HT.out.links.below HLay.out.1).more HLay.out.1.size) HP1.out HG.out.fine HFP.out (HUV.out u (by simp)) HG.out.ids))).mono ?_⟩
  rintro e W17 ⟨r, ms, rfl, hms, hrr, hoks, hfn, hb⟩
  replace HLay := Lib.hid (HLay.out.below hb)
  replace HP1 := Lib.hid (HP1.out.below hb)
  clear hb
  have HMS := Lib.hid hms
  have HOKS := Lib.hid hoks
  have HFN := Lib.hid hfn
  clear hms hrr hoks hfn
  clear HP1
  have HOV := Lib.hid (show okI v from okI_of (by have := HG.out.ids v (HUV.out v (by simp)); omega) (by have := HG.out.ids v (HUV.out v (by simp)); omega))
  have hlook := HMS.out.lookup wkTy HOV.out true
  cases hlk : look ms v with
  | none =>
   rw [hlk] at hlook
   simp only [if_true] at hlook
   have HLK := Lib.hid hlk
   clear hlk
   have HBE : Hid (best t dk (timeP s.pace.hi s.step.hi) u v = none) := Lib.hid (by rw [← HFN.out v]; unfold fnOf; rw [HLK.out]; rfl)
   have x0_0 := (HLay.out.blk 0 rfl).cell 0
   have x0_1 := (HLay.out.blk 0 rfl).cell 1
   have l0_ := HLay.out.lt 0 rfl
   have x1_0 := (HLay.out.blk 1 rfl).cell 0
   have x1_1 := (HLay.out.blk 1 rfl).cell 1
   have x1_2 := (HLay.out.blk 1 rfl).cell 2
   have x1_3 := (HLay.out.blk 1 rfl).cell 3
   have l1_ := HLay.out.lt 1 rfl
   have x2_0 := (HLay.out.blk 2 rfl).cell 0
   have z2_0 := (HLay.out.blk 2 rfl).frozen 0
   have x2_1 := (HLay.out.blk 2 rfl).cell 1
   have z2_1 := (HLay.out.blk 2 rfl).frozen 1
   have l2_ := HLay.out.lt 2 rfl
   gi_wp2
   have R1 := ret2 ((HLay.out.blk 2 rfl)) HLay.out.1 (by omega) (.int .i64 0) (.int .i64 0)
   have R2 := R1.1.alloc (.cells #[.int .i64 0, .int .i64 0, .int .i64 0, .int .i64 0, .int .i64 0, .slice none 0 0] 99)
   have y0 := R2.cell 0
   have y1 := R2.cell 1
   have hF : quickF t s u v dk = ([], ⟨0, 0⟩, 6) := by unfold quickF; rw [if_pos HEE.out, HBE.out]
   refine bodyPost_ret (v := .tuple #[.slice none 0 0, .agg #[.int .i64 0, .int .i64 0], .int .i64 6]) (by simp [results, Tryz.results38, go_sem, y0, y1]) rfl ?_
   rw [hF]
   exact ⟨none, 0, 0, rfl, Reads.none_, R1.2.alloc R1.2.size _⟩
  | some x =>
   rw [hlk] at hlook
   simp only [if_true] at hlook
   have HLK := Lib.hid hlk
   clear hlk
   have HBE : Hid (best t dk (timeP s.pace.hi s.step.hi) u v = some (x.cost, x.links)) := Lib.hid (by rw [← HFN.out v]; unfold fnOf; rw [HLK.out]; rfl)
   have HXO := Lib.hid (HOKS.out _ (look_mem HLK.out))
   have hx9 : x.n ≤ 9 := HXO.out.short
   have HWL := Lib.hid (show IntsAt W17 W17.heap.size x.A x.n x.links from HXO.out.at_)
   obtain ⟨l, hl⟩ : ∃ l, x.links = l := ⟨_, rfl⟩
   rw [hl] at HBE HWL
   have HLL := Lib.hid hl
   clear hl
   have x0_0 := (HLay.out.blk 0 rfl).cell 0
   have x0_1 := (HLay.out.blk 0 rfl).cell 1
   have l0_ := HLay.out.lt 0 rfl
   have x1_0 := (HLay.out.blk 1 rfl).cell 0
   have x1_1 := (HLay.out.blk 1 rfl).cell 1
   have x1_2 := (HLay.out.blk 1 rfl).cell 2
   have x1_3 := (HLay.out.blk 1 rfl).cell 3
   have l1_ := HLay.out.lt 1 rfl
   have x2_0 := (HLay.out.blk 2 rfl).cell 0
   have z2_0 := (HLay.out.blk 2 rfl).frozen 0
   have x2_1 := (HLay.out.blk 2 rfl).cell 1
   have z2_1 := (HLay.out.blk 2 rfl).frozen 1
   have l2_ := HLay.out.lt 2 rfl
   gi_wp2
   clear x0_0 x0_1 l0_ x1_0 x1_1 x1_2 x1_3 l1_ x2_0 z2_0 x2_1 z2_1 l2_
   clear hlook
   have hb : Below W17.heap.size W17 (W17.alloc (.cells #[.int .i64 x.to, .int .i64 x.cost.a, .int .i64 x.cost.b, .int .i64 x.cost.c, .int .i64 x.cost.d, .slice x.A x.n x.cap] 99)) := (Below.refl _ _).alloc (Nat.le_refl _) _
   have hnew := Blk.new W17 99 #[.int .i64 x.to, .int .i64 x.cost.a, .int .i64 x.cost.b, .int .i64 x.cost.c, .int .i64 x.cost.d, .slice x.A x.n x.cap]
   have hge := HLay.out.bel.size
   replace HLay := Lib.hid (HLay.out.below hb)
   replace HWL := Lib.hid ((HWL.out.below hb).more hb.size)
   replace HXO := Lib.hid (HXO.out.below hb)
   replace HLay := Lib.hid (HLay.out.add hge hnew)
   clear hnew hge hb
   obtain ⟨G39, hG⟩ : ∃ g, W17.heap.size = g := ⟨_, rfl⟩
   rw [hG] at HLay ⊢
   generalize (W17.alloc (.cells #[.int .i64 x.to, .int .i64 x.cost.a, .int .i64 x.cost.b, .int .i64 x.cost.c, .int .i64 x.cost.d, .slice x.A x.n x.cap] 99)) = V38 at *
   clear hG
   replace HLay := Lib.hid (show Lay w V38 [(w.heap.size, 25, #[.slice A n c, .slice A' m d]), (w.heap.size + 1, 73, #[.int .i64 s.pace.lo, .int .i64 s.pace.hi, .int .i64 s.step.lo, .int .i64 s.step.hi]), (w.heap.size + 1 + 1, 63, #[.int .i64 0, .int .i64 0]), (G39, 99, #[.int .i64 x.to, .int .i64 x.cost.a, .int .i64 x.cost.b, .int .i64 x.cost.c, .int .i64 x.cost.d, .slice x.A x.n x.cap])] from HLay.out)
   refine ⟨trivial, (callsIn_wide.2 (seconds_any A n c A' m d t s u x.A x.n x.cap l V38 hn hm (by omega) ((HT.out.below HLay.out.1).more HLay.out.1.size) HWL.out (HL.out.below HLay.out.1 hl0))).mono ?_⟩
   rintro e W40 ⟨rfl, hb⟩
   replace HLay := Lib.hid (HLay.out.below hb)
   replace HWL := Lib.hid ((HWL.out.below hb).more hb.size)
   replace HXO := Lib.hid (HXO.out.below hb)
   clear hb
   have HO1 : or2 (askE t [u]) (slowE s) = 0 := by unfold or2; rw [askE_head HOK.out.1, HOK.out.2]; rfl
   have hse : secE t s u l = 0 := by unfold secE; rw [if_pos HO1]; exact best_bet HG.out.fine HFP.out HBE.out
   have hsv : secV t s u l = ⟨firstA t (timeP s.pace.lo s.step.lo) u l, firstA t (timeP s.pace.hi s.step.hi) u l⟩ := by unfold secV; rw [if_pos HO1]
   rw [hse, hsv]
   clear hse hsv HO1
   obtain ⟨fa, hfa⟩ : ∃ y, firstA t (timeP s.pace.lo s.step.lo) u l = y := ⟨_, rfl⟩
   obtain ⟨fb, hfb⟩ : ∃ y, firstA t (timeP s.pace.hi s.step.hi) u l = y := ⟨_, rfl⟩
   rw [hfa, hfb]
   have HFA := Lib.hid hfa
   have HFB := Lib.hid hfb
   clear hfa hfb
   have x0_0 := (HLay.out.blk 0 rfl).cell 0
   have x0_1 := (HLay.out.blk 0 rfl).cell 1
   have l0_ := HLay.out.lt 0 rfl
   have x1_0 := (HLay.out.blk 1 rfl).cell 0
   have x1_1 := (HLay.out.blk 1 rfl).cell 1
   have x1_2 := (HLay.out.blk 1 rfl).cell 2
   have x1_3 := (HLay.out.blk 1 rfl).cell 3
   have l1_ := HLay.out.lt 1 rfl
   have x2_0 := (HLay.out.blk 2 rfl).cell 0
   have z2_0 := (HLay.out.blk 2 rfl).frozen 0
   have x2_1 := (HLay.out.blk 2 rfl).cell 1
   have z2_1 := (HLay.out.blk 2 rfl).frozen 1
   have l2_ := HLay.out.lt 2 rfl
   have x3_0 := (HLay.out.blk 3 rfl).cell 0
   have x3_1 := (HLay.out.blk 3 rfl).cell 1
   have x3_2 := (HLay.out.blk 3 rfl).cell 2
   have x3_3 := (HLay.out.blk 3 rfl).cell 3
   have x3_4 := (HLay.out.blk 3 rfl).cell 4
   have x3_5 := (HLay.out.blk 3 rfl).cell 5
   have l3_ := HLay.out.lt 3 rfl
   gi_wp2
   clear x0_0 x0_1 l0_ x1_0 x1_1 x1_2 x1_3 l1_ x2_0 z2_0 x2_1 z2_1 l2_ x3_0 x3_1 x3_2 x3_3 x3_4 x3_5 l3_
   have hb : Below W40.heap.size W40 (W40.alloc (.cells #[.int .i64 fa, .int .i64 fb] 63)) := (Below.refl _ _).alloc (Nat.le_refl _) _
   have hnew := Blk.new W40 63 #[.int .i64 fa, .int .i64 fb]
   have hge := HLay.out.bel.size
   replace HLay := Lib.hid (HLay.out.below hb)
   replace HWL := Lib.hid ((HWL.out.below hb).more hb.size)
   replace HXO := Lib.hid (HXO.out.below hb)
   replace HLay := Lib.hid (HLay.out.add hge hnew)
   clear hnew hge hb
   obtain ⟨G42, hG⟩ : ∃ g, W40.heap.size = g := ⟨_, rfl⟩
   rw [hG] at HLay ⊢
   generalize (W40.alloc (.cells #[.int .i64 fa, .int .i64 fb] 63)) = V41 at *
   clear hG
   replace HLay := Lib.hid (show Lay w V41 [(w.heap.size, 25, #[.slice A n c, .slice A' m d]), (w.heap.size + 1, 73, #[.int .i64 s.pace.lo, .int .i64 s.pace.hi, .int .i64 s.step.lo, .int .i64 s.step.hi]), (w.heap.size + 1 + 1, 63, #[.int .i64 0, .int .i64 0]), (G39, 99, #[.int .i64 x.to, .int .i64 x.cost.a, .int .i64 x.cost.b, .int .i64 x.cost.c, .int .i64 x.cost.d, .slice x.A x.n x.cap]), (G42, 63, #[.int .i64 fa, .int .i64 fb])] from HLay.out)
   refine wpIn_flow_old [] [true, true, true, true, true, false, true] [false, false, false, false, false, true] (by kernel_rfl) (by kernel_rfl) (by kernel_rfl) (below_drewN (Below.refl _ _) 1) ?_
   refine wpFlow_nil (A := ?AF5) ?hq5 ?_
   case hq5 =>
    rintro σ hσ of hof hcl
    have HOF := Lib.hid hof
    have HCL := Lib.hid hcl
    clear hof hcl
    have c0_ : ∀ z, (of z).cell? ⟨G39, 5, none⟩ = some (.slice x.A x.n x.cap) := fun z => ((HLay.out.below (HOF.out z)).blk 3 rfl).cell 5
    have c1_ : ∀ z, (of z).cell? ⟨G42, 0, none⟩ = some (.int .i64 fa) := fun z => ((HLay.out.below (HOF.out z)).blk 4 rfl).cell 0
    have c2_ : ∀ z, (of z).cell? ⟨G42, 1, none⟩ = some (.int .i64 fb) := fun z => ((HLay.out.below (HOF.out z)).blk 4 rfl).cell 1
    have hfw : ∀ f, Fence.wide.fn f := fun _ => trivial
    simp only [pickB]
    repeat (gi_big_quiet_step (fail))
    refine wpQuietIn_nil ?_
    exact rfl
   intro W43 hW
   replace HLay := Lib.hid (HLay.out.below hW)
   replace HWL := Lib.hid ((HWL.out.below hW).more hW.size)
   replace HXO := Lib.hid (HXO.out.below hW)
   clear hW
   simp only [pickB]
   have x2_0 := (HLay.out.blk 2 rfl).cell 0
   have z2_0 := (HLay.out.blk 2 rfl).frozen 0
   have x2_1 := (HLay.out.blk 2 rfl).cell 1
   have z2_1 := (HLay.out.blk 2 rfl).frozen 1
   have l2_ := HLay.out.lt 2 rfl
   refine wpT_cons ?_
   gi_wp2
   refine wpT_nil ?_
   clear x2_0 z2_0 x2_1 z2_1 l2_
   have R1 := ret2' (HLay.out.blk 2 rfl) HLay.out.1 (by omega) (.int .i64 fa) (.int .i64 fb)
   have y0 := R1.1.cell 0
   have y1 := R1.1.cell 1
   have hF : quickF t s u v dk = (l, ⟨fa, fb⟩, 0) := by unfold quickF; rw [if_pos HEE.out, HBE.out]; simp only; rw [HFA.out, HFB.out]
   gi_wp2
   refine bodyPost_ret (v := .tuple #[.slice x.A x.n x.cap, .agg #[.int .i64 fa, .int .i64 fb], .int .i64 0]) (by simp [results, Tryz.results38, go_sem, y0, y1]) rfl ?_
   rw [hF]
   exact ⟨x.A, x.n, x.cap, rfl, ints_off HWL.out (fun a ha => by obtain ⟨cs, hc⟩ := HXO.out.typ a ha; exact blk_ne hc (HLay.out.blk 2 rfl) (by decide)) R1.2.2, R1.2.1⟩
 ·have h1 : (ee != 0) = true := by simpa using h0
  have HE0 := Lib.hid h0
  clear h0
  gi_wp2
  have R1 := ret2 (HLay.out.blk 2 rfl) HLay.out.1 (by omega) (.int .i64 0) (.int .i64 0)
  have y0 := R1.1.cell 0
  have y1 := R1.1.cell 1
  have hF : quickF t s u v dk = ([], ⟨0, 0⟩, ee) := by unfold quickF; rw [HEE.out, if_neg HE0.out]
  refine bodyPost_ret (v := .tuple #[.slice none 0 0, .agg #[.int .i64 0, .int .i64 0], .int .i64 ee]) (by simp [results, Tryz.results38, go_sem, y0, y1]) rfl ?_
  rw [hF]
  exact ⟨none, 0, 0, rfl, Reads.none_, R1.2⟩

theorem quick_any (A : Option Addr) (n c : Nat) (A' : Option Addr) (m d : Nat) (t : Town) (s : Gait) (u v : Int) (dk : Bool) (w : World)
  (hn : n ≤ 1000) (hm : m ≤ 1000) (ht : TownAt w w.heap.size A n A' m t) (hL : Laid w) :
  Calls Tryz.prog 38 #[.agg #[.slice A n c, .slice A' m d], .agg #[.int .i64 s.pace.lo, .int .i64 s.pace.hi, .int .i64 s.step.lo, .int .i64 s.step.hi], .int .i64 u, .int .i64 v, .bool dk] w (QuickOut w (quickF t s u v dk)) :=
 callsIn_wide.1 (quick_in A n c A' m d t s u v dk w hn hm ht hL)
end Go.Proofs.YtahkjagjcogeiaaGreatDoor
/- climb.Close. -/
namespace Go.Proofs.YtahkjagjcogeiaaGreatDoor
open Go.RowKit

theorem enters_close1 (args : Array Value) (W : World) : (callFunc 74 args).run Tryz.prog W = .ok (.enter 74 args) W := by
 simp [go_sem]

theorem close1_any (A : Option Addr) (n c : Nat) (l : List Int) (g : Nat) (x : Link) (w : World) (hn : n ≤ maxLen) (hr : IntsAt w w.heap.size A n l) (h0 : w.cell? ⟨g, 0, none⟩ = some (.slice A n c)) :
  Calls Tryz.prog 74 (#[.agg #[.int .i64 x.id, .int .i64 x.fr, .int .i64 x.to, .int .i64 x.steps, .int .i64 x.paces]] ++ #[.pointer (some ⟨g, 0, none⟩)]) w fun e w' => e = .returned (.bool (memI l x.id)) ∧ Below w.heap.size w w' := by
 have hg : g < w.heap.size := World.block_lt_of_cell? w _ h0
 have hb : Below w.heap.size w (w.alloc (.cells #[.int .i64 x.id, .int .i64 x.fr, .int .i64 x.to, .int .i64 x.steps, .int .i64 x.paces] 52)) := (Below.refl _ _).alloc (Nat.le_refl _) _
 have HC := Lib.hid (contains_int A n c l x.id (w.alloc (.cells #[.int .i64 x.id, .int .i64 x.fr, .int .i64 x.to, .int .i64 x.steps, .int .i64 x.paces] 52)) ((hr.below hb).more hb.size) hn)
 have HB := Lib.hid hb
 clear hb
 go_enter Tryz.func74, Tryz.ntmps74
 go_wp2_with fail
 refine HC.out.mono ?_
 rintro e w' ⟨rfl, hb⟩
 go_wp2_with fail
 go_ret
 exact ⟨rfl, HB.out.trans (hb.mono HB.out.size)⟩

theorem pred_close1 (A : Option Addr) (n c : Nat) (l : List Int) (g : Nat) (w : World) (K : Nat) (hn : n ≤ maxLen) (hr : IntsAt w K A n l) (hg : g < K) (hK : K ≤ w.heap.size) (h0 : w.cell? ⟨g, 0, none⟩ = some (.slice A n c)) : PredL w K 74 #[.pointer (some ⟨g, 0, none⟩)] fun x => memI l x.id :=
 ⟨enters_close1, fun x W hb => close1_any A n c l g x W hn ((hr.below hb).more (Nat.le_trans hK hb.size)) ((hb.cell (p := ⟨g, 0, none⟩) hg).trans h0)⟩

/-- Whether these are Ids of links, in increasing order. -/
def closeB (t : Town) : Int → List Int → Bool
 | _, [] => true
 | last, id :: r => decide (last < id) && memI (idsOf t.links) id && closeB t id r
theorem closeB_drop {t : Town} {l : List Int} {k : Nat} {x last : Int} (hx : l[k]? = some x) : closeB t last (l.drop k) = (decide (last < x) && memI (idsOf t.links) x && closeB t x (l.drop (k + 1))) := by
 obtain ⟨hk, rfl⟩ := List.getElem?_eq_some_iff.1 hx
 rw [List.drop_eq_getElem_cons hk]; rfl
def noTown : Town := ⟨[], []⟩
def closeT (t : Town) (l : List Int) : Town := if townB t && closeB t 0 l then lessT t fun x => memI l x.id else noTown
def closeE (t : Town) (l : List Int) : Int := if townB t then (if closeB t 0 l then 0 else 34) else 30

/-- A town and an error. -/
def TownErr (w : World) (e : Ending) (w' : World) (t : Town) (k : Int) : Prop := ∃ A c A' c', e = .returned (.tuple #[.agg #[.slice A t.places.length c, .slice A' t.links.length c'], .int .i64 k]) ∧ Own w' w.heap.size 3 1 A t.places.length c (t.places.map (Value.int .i64)) ∧ Own w' w.heap.size 52 5 A' t.links.length c' (t.links.flatMap Link.vals) ∧ Apart A A' ∧ Below w.heap.size w w'
theorem TownErr.none_ {w w' : World} {k : Int} (hb : Below w.heap.size w w') : TownErr w (.returned (.tuple #[.agg #[.slice none 0 0, .slice none 0 0], .int .i64 k])) w' noTown k :=
 ⟨none, 0, none, 0, rfl, Own.none_ _ _ _ _, Own.none_ _ _ _ _, (fun _ _ h => by cases h), hb⟩

set_option maxRecDepth 100000 in
set_option maxHeartbeats 4000000 in
theorem close_any (A : Option Addr) (n c : Nat) (A' : Option Addr) (m d : Nat) (t : Town) (A2 : Option Addr) (k2 c2 : Nat) (l : List Int) (w : World) (hn : n ≤ 1000) (hm : m ≤ 1000) (hk : k2 ≤ 1000) (ht : TownAt w w.heap.size A n A' m t) (hr : IntsAt w w.heap.size A2 k2 l) (hL : Laid w) :
  Calls Tryz.prog 29 #[.agg #[.slice A n c, .slice A' m d], .slice A2 k2 c2] w fun e w' => TownErr w e w' (closeT t l) (closeE t l) := by
 have HT := Lib.hid ht
 have HR := Lib.hid hr
 have HL := Lib.hid hL
 have hl0 := hL.2.2.2
 have hn1 : n ≤ maxLen := by unfold maxLen; omega
 have hm1 : m ≤ maxLen := by unfold maxLen; omega
 clear ht hr hL
 go_enter Tryz.func29, Tryz.ntmps29
 go_wp2_with fail
 have X0 := ((Blk.new w 25 #[.slice A n c, .slice A' m d]).alloc (.cells #[.slice A2 k2 c2] 22)).alloc (.cells #[.slice none 0 0, .slice none 0 0] 25)
 have Y0 := (Blk.new (w.alloc (.cells #[.slice A n c, .slice A' m d] 25)) 22 #[.slice A2 k2 c2]).alloc (.cells #[.slice none 0 0, .slice none 0 0] 25)
 have Z0 := Blk.new ((w.alloc (.cells #[.slice A n c, .slice A' m d] 25)).alloc (.cells #[.slice A2 k2 c2] 22)) 25 #[.slice none 0 0, .slice none 0 0]
 have B0 : Below w.heap.size w (((w.alloc (.cells #[.slice A n c, .slice A' m d] 25)).alloc (.cells #[.slice A2 k2 c2] 22)).alloc (.cells #[.slice none 0 0, .slice none 0 0] 25)) := (((Below.refl _ _).alloc (Nat.le_refl _) _).alloc (by simp) _).alloc (by simp; omega) _
 rw [World.size_alloc] at Y0
 rw [World.size_alloc, World.size_alloc] at Z0
 generalize (((w.alloc (.cells #[.slice A n c, .slice A' m d] 25)).alloc (.cells #[.slice A2 k2 c2] 22)).alloc (.cells #[.slice none 0 0, .slice none 0 0] 25)) = w0 at *
 have hz := Z0.lt
 with_reducible refine (check_any A n c A' m d t w0 hn1 hm1 ((HT.out.below B0).more B0.size) (HL.out.below B0 hl0)).mono ?_
 rintro e w1 ⟨rfl, hb1⟩
 have X1 := X0.below hb1 X0.lt
 have Y1 := Y0.below hb1 Y0.lt
 have Z1 := Z0.below hb1 Z0.lt
 have B1 := B0.trans (hb1.mono B0.size)
 have x0 := X1.cell 0
 have x1 := X1.cell 1
 have y0 := Y1.cell 0
 have z0 := Z1.cell 0
 have z1 := Z1.cell 1
 have q0 := Z1.frozen 0
 have q1 := Z1.frozen 1
 clear X0 Y0 Z0 B0 hb1
 cases htb : townB t with
 | false =>
  have hc : chk t = 30 := by unfold chk; rw [htb]; rfl
  have HC := Lib.hid htb
  clear htb
  go_wp2_with fail
  have e1 : closeT t l = noTown := by unfold closeT; rw [HC.out]; rfl
  have e2 : closeE t l = 30 := by unfold closeE; rw [HC.out]; rfl
  rw [e1, e2]
  exact bodyPost_ret (v := .tuple #[.agg #[.slice none 0 0, .slice none 0 0], .int .i64 30]) (by simp [results, Tryz.results29, go_sem, z0, z1]) rfl (TownErr.none_ ((B1.setCell (p := ⟨w.heap.size + 1 + 1, 0, none⟩) (by show w.heap.size ≤ w.heap.size + 1 + 1; omega) _).setCell (p := ⟨w.heap.size + 1 + 1, 1, none⟩) (by show w.heap.size ≤ w.heap.size + 1 + 1; omega) _))
 | true =>
  have hc : chk t = 0 := by unfold chk; rw [htb]; rfl
  have HC := Lib.hid htb
  clear htb x0 x1 z0 z1 q0 q1
  go_wp2_with fail
  go_loopw [7, 18] (fun vl vi wr => ∃ (k : Nat) (last : Int), k ≤ k2 ∧ vi = .int .i64 k ∧ vl = .int .i64 last ∧ closeB t 0 l = closeB t last (l.drop k) ∧ Below w1.heap.size w1 wr)
   (fun _ vi _ => k2 - (intOf vi).toNat)
  case atStart => exact ⟨0, 0, by omega, rfl, rfl, by simp, Below.refl _ _⟩
  case round =>
   obtain ⟨k, last, hk', rfl, rfl, hcl, hb⟩ := hrel
   have HCL := Lib.hid hcl
   clear hcl
   have X2 := X1.below hb X1.lt
   have Y2 := Y1.below hb Y1.lt
   have Z2 := Z1.below hb Z1.lt
   have B2 := B1.trans (hb.mono B1.size)
   have x0 := X2.cell 0
   have x1 := X2.cell 1
   by_cases hlt : k < k2
   ·obtain ⟨b, off, x, rfl, hbB, hx, hc0⟩ := (HR.out.below B2).cell hlt
    have HX := Lib.hid hx
    clear hx
    by_cases hle : x ≤ last
    ·have z0 := Z2.cell 0
     have z1 := Z2.cell 1
     have q0 := Z2.frozen 0
     have q1 := Z2.frozen 1
     go_wp2_with fail
     have e0 : closeB t 0 l = false := by rw [HCL.out, closeB_drop HX.out]; simp; omega
     have e1 : closeT t l = noTown := by unfold closeT; rw [e0]; simp
     have e2 : closeE t l = 34 := by unfold closeE; rw [HC.out, e0]; simp
     rw [e1, e2]
     exact bodyPost_ret (v := .tuple #[.agg #[.slice none 0 0, .slice none 0 0], .int .i64 34]) (by simp [results, Tryz.results29, go_sem, z0, z1]) rfl (TownErr.none_ ((B2.setCell (p := ⟨w.heap.size + 1 + 1, 0, none⟩) (by show w.heap.size ≤ w.heap.size + 1 + 1; omega) _).setCell (p := ⟨w.heap.size + 1 + 1, 1, none⟩) (by show w.heap.size ≤ w.heap.size + 1 + 1; omega) _))
    ·have hle' : last < x := by omega
     go_wp2_with fail
     with_reducible refine (ids_any A n c A' m d t _ hm ((HT.out.links.below B2).more B2.size)).mono ?_
     rintro e w3 ⟨Ai, ci, rfl, hOi, hb3⟩
     have hil : (idsOf t.links).length ≤ maxLen := by
      have h1 := HT.out.links.len
      unfold idsOf maxLen
      rw [List.length_map]; omega
     go_wp2_with fail
     with_reducible refine (contains_int Ai _ ci (idsOf t.links) x w3 (ints_of_own hOi (Nat.le_refl _)) hil).mono ?_
     rintro e w4 ⟨rfl, hb4⟩
     have hb5 := (hb.trans (hb3.mono hb.size)).trans (hb4.mono (Nat.le_trans hb.size hb3.size))
     have Z4 := Z1.below hb5 Z1.lt
     have B4 := B1.trans (hb5.mono B1.size)
     clear hOi hb3 hb4 X2 Y2 Z2 x0 x1
     cases hmi : memI (idsOf t.links) x with
     | true =>
      have HM := Lib.hid hmi
      clear hmi
      go_wp2_with fail
      go_roundw
      case rel => exact ⟨k + 1, x, by omega, by go_num, rfl, by rw [HCL.out, closeB_drop HX.out, HM.out]; simp [hle'], hb5⟩
      case measure => simp [intOf]; omega
     | false =>
      have HM := Lib.hid hmi
      clear hmi
      have z0 := Z4.cell 0
      have z1 := Z4.cell 1
      have q0 := Z4.frozen 0
      have q1 := Z4.frozen 1
      go_wp2_with fail
      have e0 : closeB t 0 l = false := by rw [HCL.out, closeB_drop HX.out, HM.out]; simp
      have e1 : closeT t l = noTown := by unfold closeT; rw [e0]; simp
      have e2 : closeE t l = 34 := by unfold closeE; rw [HC.out, e0]; simp
      rw [e1, e2]
      exact bodyPost_ret (v := .tuple #[.agg #[.slice none 0 0, .slice none 0 0], .int .i64 34]) (by simp [results, Tryz.results29, go_sem, z0, z1]) rfl (TownErr.none_ ((B4.setCell (p := ⟨w.heap.size + 1 + 1, 0, none⟩) (by show w.heap.size ≤ w.heap.size + 1 + 1; omega) _).setCell (p := ⟨w.heap.size + 1 + 1, 1, none⟩) (by show w.heap.size ≤ w.heap.size + 1 + 1; omega) _))
   ·obtain rfl : k = k2 := by omega
    have HF : Hid (closeB t 0 l = true) := by
     have h1 := HR.out.len
     show closeB t 0 l = true
     rw [HCL.out, List.drop_eq_nil_of_le (by omega)]; rfl
    have hmf : ∀ (fn : Fn) (first cap : Array Value) (w : World), (Instr.makeFunc fn first cap).run Tryz.prog w = .ok (.func fn first cap) w := fun _ _ _ _ => rfl
    have HY := Lib.hid (show wr.cell? ⟨w.heap.size + 1, 0, none⟩ = some (.slice A2 k c2) from Y2.cell 0)
    go_wp2_with fail
    with_reducible refine (less_any A n c A' m d t _ _ (fun x => memI l x.id) wr hn hm ((HT.out.below B2).more B2.size) (pred_close1 A2 k c2 l (w.heap.size + 1) wr _ (by unfold maxLen; omega) ((HR.out.below B2).more B2.size) Y2.lt (Nat.le_refl _) HY.out)).mono ?_
    rintro e w5 ⟨A5, c5, A6, c6, rfl, hO5, hO6, hap, hb5⟩
    have Z5 := Z2.below hb5 Z2.lt
    have B5 := B2.trans (hb5.mono B2.size)
    have z0 := Z5.cell 0
    have z1 := Z5.cell 1
    have q0 := Z5.frozen 0
    have q1 := Z5.frozen 1
    have h5 := Lib.hid (fun a (h : A5 = some a) => (hO5.lt h).1)
    have h6 := Lib.hid (fun a (h : A6 = some a) => (hO6.lt h).1)
    have hZ2 := Z2.lt
    have H5 := Lib.hid (hO5.mono B2.size)
    have H6 := Lib.hid (hO6.mono B2.size)
    clear hO5 hO6 x0 x1
    go_wp2_with fail
    have e1 : closeT t l = lessT t fun x => memI l x.id := by unfold closeT; rw [HC.out, HF.out]; rfl
    have e2 : closeE t l = 0 := by unfold closeE; rw [HC.out, HF.out]; rfl
    rw [e1, e2]
    refine bodyPost_ret (v := .tuple #[.agg #[.slice A5 (lessT t fun x => memI l x.id).places.length c5, .slice A6 (lessT t fun x => memI l x.id).links.length c6], .int .i64 0]) (by simp [results, Tryz.results29, go_sem, z0, z1]) rfl ?_
    refine ⟨A5, c5, A6, c6, rfl, H5.out.grown (grown_setCell (grown_setCell (grown_refl _ (some (w.heap.size + 1 + 1))) (p := ⟨w.heap.size + 1 + 1, 0, none⟩) (.inl rfl) _) (p := ⟨w.heap.size + 1 + 1, 1, none⟩) (.inl rfl) _) (fun a ha => by have := h5.out a ha; simp; omega),
     H6.out.grown (grown_setCell (grown_setCell (grown_refl _ (some (w.heap.size + 1 + 1))) (p := ⟨w.heap.size + 1 + 1, 0, none⟩) (.inl rfl) _) (p := ⟨w.heap.size + 1 + 1, 1, none⟩) (.inl rfl) _) (fun a ha => by have := h6.out a ha; simp; omega), hap, ?_⟩
    exact (B5.setCell (p := ⟨w.heap.size + 1 + 1, 0, none⟩) (by show w.heap.size ≤ w.heap.size + 1 + 1; omega) _).setCell (p := ⟨w.heap.size + 1 + 1, 1, none⟩) (by show w.heap.size ≤ w.heap.size + 1 + 1; omega) _
end Go.Proofs.YtahkjagjcogeiaaGreatDoor
/- What the functions answer at the example town: plain reckoning by the kernel. -/
namespace Go.Proofs.YtahkjagjcogeiaaGreatDoor
set_option maxRecDepth 1000000
set_option maxHeartbeats 4000000

def exS : Skin := ⟨1000, ⟨1, 2⟩, ⟨0, 3⟩⟩
def exG : Gait := ⟨⟨1, 2⟩, ⟨2, 3⟩⟩
theorem ex_way : wayL exT 1 4 false = [2, 3, 4] ∧ wayE exT 1 4 false = 0 := by decide +kernel
theorem ex_toil : wayT exT 1 4 false = (20, 140) := by decide +kernel
theorem ex_reach : reachR exT 1 true = [1, 3] ∧ askE exT [1] = 0 := by decide +kernel
theorem ex_walk : walkV exT 1 [1, 3] = (3, 50, 50, 0) := by decide +kernel
theorem ex_need : neededR exT 1 4 false (idsOf exT.links) ofOnly = [4] := by decide +kernel
theorem ex_gate : neededR exT 1 4 false (othersL exT 1 4) ofGate = [2] := by decide +kernel
theorem ex_worst : worstV exT 1 4 false = (2, 50, 70, 0) := by decide +kernel
theorem ex_roundE : roundE exT 1 [2, 3] = 0 := by decide +kernel
theorem ex_up : upI [2, 3] = [2, 3] := by
 unfold upI
 exact List.mergeSort_of_pairwise (by decide)
theorem ex_round : roundR exT 1 [2, 3] false = some ([3, 2], (20, 150)) ∧ roundX exT 1 [2, 3] false = 0 := by
 have h : roundR exT 1 [2, 3] false = some ([3, 2], (20, 150)) := by
  unfold roundR
  rw [if_pos ex_roundE, ex_up]
  decide +kernel
 refine ⟨h, ?_⟩
 unfold roundX
 rw [if_pos ex_roundE, h]
 rfl
theorem ex_order : orderR exT 1 [2, 3] false = some (20, 220) ∧ orderE exT 1 [2, 3] false = 0 := by decide +kernel
theorem ex_end : endV exT exS 1 [2, 3, 4] = ⟨660, 860⟩ ∧ endE exT exS 1 [2, 3, 4] = 0 := by decide +kernel
theorem ex_wet : wetF exT exS 1 4 false = ([1, 4], 710, 0) := by decide +kernel
theorem ex_sec : secV exT exG 1 [2, 3, 4] = ⟨180, 340⟩ ∧ secE exT exG 1 [2, 3, 4] = 0 := by decide +kernel
theorem ex_min : minV exT exG 1 4 false = ⟨3, 6⟩ ∧ minE exT exG 1 4 false = 0 := by decide +kernel
theorem ex_quick : quickF exT exG 1 4 false = ([1, 4], ⟨170, 290⟩, 0) := by decide +kernel
theorem ex_close : (closeT exT [2, 3]).links.length = 2 ∧ closeE exT [2, 3] = 0 := by decide +kernel
end Go.Proofs.YtahkjagjcogeiaaGreatDoor
/- climb.Toil: the toil of the way. -/
namespace Go.Proofs.YtahkjagjcogeiaaGreatDoor
open Go.RowKit Go.Shelf

set_option maxRecDepth 100000 in
set_option maxHeartbeats 16000000 in
theorem toilw_in (A : Option Addr) (n c : Nat) (A' : Option Addr) (m d : Nat) (t : Town) (u v : Int) (dk : Bool) (w : World)
  (hn : n ≤ 1000) (hm : m ≤ 1000) (ht : TownAt w w.heap.size A n A' m t) (hL : Laid w) :
  CallsIn Fence.wide 9 Tryz.prog 17 #[.agg #[.slice A n c, .slice A' m d], .int .i64 u, .int .i64 v, .bool dk] w (ToilOut w (wayT t u v dk) (wayE t u v dk)) := by
 have HT := Lib.hid ht
 have HL := Lib.hid hL
 have hl0 := hL.2.2.2
 clear ht hL
 refine callsIn_of_wp Tryz.func17 rfl trivial ?_ rfl
 simp only [Tryz.ntmps17, List.size_toArray, List.length_cons, List.length_nil, Nat.reduceAdd, Nat.reduceSub, Array.replicate_succ, Array.replicate_zero, List.push_toArray, List.append_toArray, List.nil_append, List.cons_append]
 gi_wp2
 have HLay := Lib.hid (Lay.two w 25 #[.slice A n c, .slice A' m d] 34 #[.int .i64 0, .int .i64 0])
 generalize ((w.alloc (.cells #[.slice A n c, .slice A' m d] 25)).alloc (.cells #[.int .i64 0, .int .i64 0] 34)) = w0 at *
 refine ⟨trivial, (callsIn_wide.2 (way_any A n c A' m d t u v dk w0 hn hm ((HT.out.below HLay.out.1).more HLay.out.1.size) (HL.out.below HLay.out.1 hl0))).mono ?_⟩
 rintro e W1 ⟨to, co, AW, nW, cW, rfl, hno, hq, hty, hb⟩
 replace HLay := Lib.hid (HLay.out.below hb)
 clear hb
 have hT : wayT t u v dk = (co.b, co.c) := by
  unfold wayT
  cases hr : wayR t u v dk with
  | none => obtain ⟨_, rfl, _⟩ := hno hr; rfl
  | some q => rw [(hq q hr).1]
 have HWT := Lib.hid hT
 clear hty hno hq hT
 gi_wp2
 have hb : Below W1.heap.size W1 (W1.alloc (.cells #[.int .i64 to, .int .i64 co.a, .int .i64 co.b, .int .i64 co.c, .int .i64 co.d, .slice AW nW cW] 99)) := (Below.refl _ _).alloc (Nat.le_refl _) _
 have hnew := Blk.new W1 99 #[.int .i64 to, .int .i64 co.a, .int .i64 co.b, .int .i64 co.c, .int .i64 co.d, .slice AW nW cW]
 have hge := HLay.out.bel.size
 replace HLay := Lib.hid (HLay.out.below hb)
 replace HLay := Lib.hid (HLay.out.add hge hnew)
 clear hnew hge hb
 obtain ⟨G3, hG⟩ : ∃ g, W1.heap.size = g := ⟨_, rfl⟩
 rw [hG] at HLay ⊢
 generalize (W1.alloc (.cells #[.int .i64 to, .int .i64 co.a, .int .i64 co.b, .int .i64 co.c, .int .i64 co.d, .slice AW nW cW] 99)) = V2 at *
 clear hG
 replace HLay := Lib.hid (show Lay w V2 [(w.heap.size, 25, #[.slice A n c, .slice A' m d]), (w.heap.size + 1, 34, #[.int .i64 0, .int .i64 0]), (G3, 99, #[.int .i64 to, .int .i64 co.a, .int .i64 co.b, .int .i64 co.c, .int .i64 co.d, .slice AW nW cW])] from HLay.out)
 refine ⟨trivial, (callsIn_wide.2 (toil_any co V2)).mono ?_⟩
 rintro e W4 ⟨rfl, hb⟩
 replace HLay := Lib.hid (HLay.out.below hb)
 clear hb
 have x1_0 := (HLay.out.blk 1 rfl).cell 0
 have z1_0 := (HLay.out.blk 1 rfl).frozen 0
 have x1_1 := (HLay.out.blk 1 rfl).cell 1
 have z1_1 := (HLay.out.blk 1 rfl).frozen 1
 have l1_ := HLay.out.lt 1 rfl
 gi_wp2
 have R1 := ret2 (HLay.out.blk 1 rfl) HLay.out.1 (by omega) (.int .i64 (co.b)) (.int .i64 (co.c))
 have y0 := R1.1.cell 0
 have y1 := R1.1.cell 1
 exact bodyPost_ret (v := .tuple #[.agg #[.int .i64 (co.b), .int .i64 (co.c)], .int .i64 (wayE t u v dk)]) (by simp [results, Tryz.results17, go_sem, y0, y1]) rfl ⟨by rw [HWT.out], R1.2⟩

theorem toilw_any (A : Option Addr) (n c : Nat) (A' : Option Addr) (m d : Nat) (t : Town) (u v : Int) (dk : Bool) (w : World)
  (hn : n ≤ 1000) (hm : m ≤ 1000) (ht : TownAt w w.heap.size A n A' m t) (hL : Laid w) :
  Calls Tryz.prog 17 #[.agg #[.slice A n c, .slice A' m d], .int .i64 u, .int .i64 v, .bool dk] w (ToilOut w (wayT t u v dk) (wayE t u v dk)) :=
 callsIn_wide.1 (toilw_in A n c A' m d t u v dk w hn hm ht hL)
end Go.Proofs.YtahkjagjcogeiaaGreatDoor
/- Spans and toils compared. -/
namespace Go.Proofs.YtahkjagjcogeiaaGreatDoor
open Go.RowKit
theorem eqSpan_run (a1 a2 b1 b2 : Int) (w : World) : (Op.equalIn 10000 63 (.agg #[.int .i64 a1, .int .i64 a2]) (.agg #[.int .i64 b1, .int .i64 b2])).run Tryz.prog w = .ok (a1 == b1 && a2 == b2) w := by
 rw [Op.equalIn]
 simp [go_sem, run_underlying Tryz.underlying63, eqi_run', Std.Legacy.Range.forIn_eq_forIn_range', part]
 by_cases h1 : a1 = b1 <;> by_cases h2 : a2 = b2 <;> simp [h1, h2]
theorem eqSpan_same (a b : Int) (w : World) : (Op.equalIn 10000 63 (.agg #[.int .i64 a, .int .i64 b]) (.agg #[.int .i64 a, .int .i64 b])).run Tryz.prog w = .ok true w := by
 rw [eqSpan_run]; simp
theorem eqToil_run (a1 a2 b1 b2 : Int) (w : World) : (Op.equalIn 10000 34 (.agg #[.int .i64 a1, .int .i64 a2]) (.agg #[.int .i64 b1, .int .i64 b2])).run Tryz.prog w = .ok (a1 == b1 && a2 == b2) w := by
 rw [Op.equalIn]
 simp [go_sem, run_underlying Tryz.underlying34, eqi_run', Std.Legacy.Range.forIn_eq_forIn_range', part]
 by_cases h1 : a1 = b1 <;> by_cases h2 : a2 = b2 <;> simp [h1, h2]
theorem eqToil_same (a b : Int) (w : World) : (Op.equalIn 10000 34 (.agg #[.int .i64 a, .int .i64 b]) (.agg #[.int .i64 a, .int .i64 b])).run Tryz.prog w = .ok true w := by
 rw [eqToil_run]; simp
end Go.Proofs.YtahkjagjcogeiaaGreatDoor
/- The law of a drawn region by a plan: quiet operations float; of those that do something, whichever of some comes next; stores last. -/
namespace Go.Proofs.YtahkjagjcogeiaaGreatDoor.Tr
open Go.RowKit Gr
set_option linter.unusedSectionVars false

/-- The plainest growth. -/
def Up (A B : World) : Prop := Below A.heap.size A B
instance up_grows : Grows Up where
 refl := fun W => Below.refl _ W
 trans := fun {A B C} (h : Below A.heap.size A B) (k : Below B.heap.size B C) => (show Below A.heap.size A C from h.trans (k.mono h.size))
 below := fun h => h
 size := fun {A B} (h : Below A.heap.size A B) => h.size
/-- A row of the plan: what has been carried out (in increasing order), the quiet operations to be walked, what may come next. -/
abbrev Plan := List (List Nat × List Bool × List Nat)
def ins (x : Nat) : List Nat → List Nat
 | [] => [x]
 | y :: r => if x < y then x :: y :: r else y :: ins x r
def rowAt (tab : Plan) (p : List Nat) : Option (List Bool × List Nat) := (tab.find? fun r => r.1 == p).map (·.2)
def pathB (l : List Oper) (es : List Nat) (tab : Plan) : Nat → List Nat → List Nat → Bool
 | 0, _, _ => false
 | k + 1, p, ys => match rowAt tab p with
  | none => false
  | some (m, kids) =>
   decide (m.length ≤ l.length) && depsB l ys (idxs 0 m) && ((idxs 0 m).all fun i => decide (i < l.length) && !es.contains i && !ys.contains i) && decide (idxs 0 m).Nodup &&
   (kids.all fun x => decide (x < l.length) && !es.contains x && !(ys ++ idxs 0 m).contains x && readsB l x (ys ++ idxs 0 m) && !((l[x]?).map lateB).getD true && pathB l es tab k (ins x p) (ys ++ idxs 0 m ++ [x])) &&
   (!kids.isEmpty || (List.range l.length).all fun i => (ys ++ idxs 0 m).contains i || es.contains i) &&
   ((List.range l.length).all fun i => (ys ++ idxs 0 m).contains i || es.contains i || kids.contains i || (List.range l.length).any fun k' => !(ys ++ idxs 0 m).contains k' && afterB l i k')
def treeB (l : List Oper) (es : List Nat) : Bool :=
 upS es && backB l.toArray && Region.noSelect l.toArray && noDeferB l && (es.all fun i => decide (i < l.length)) &&
 ((List.range l.length).all fun i => es.contains i || ((dstAt l i).isSome && ((List.range l.length).all fun i' => i == i' || dstAt l i != dstAt l i'))) &&
 (es.all fun e => readsB l e (List.range l.length)) && (es.all fun e => es.all fun e' => decide (e ≤ e') || afterB l e e') &&
 ((List.range l.length).all fun i => es.contains i || ((l[i]?).map lateB).getD false || es.all fun e => afterB l e i) && (es.all fun e => (dstAt l e).isNone)
structure TreeOk (l : List Oper) (es : List Nat) : Prop where
 upE : es.Pairwise (· < ·)
 back : backB l.toArray = true
 nosel : Region.noSelect l.toArray = true
 nodef : noDeferB l = true
 e : ∀ i ∈ es, i < l.length
 own : ∀ i, i < l.length → i ∉ es → ∃ d, dstAt l i = some d ∧ ∀ i', i' < l.length → dstAt l i' = some d → i' = i
 depsE : ∀ i ∈ es, ∀ o, l[i]? = some o → ∀ t ∈ o.looksAt l.toArray, ∀ i', i' < l.length → dstAt l i' = some t → afterB l i i' = true
 chain : ∀ e ∈ es, ∀ e' ∈ es, e' < e → afterB l e e' = true
 late : ∀ i, i < l.length → i ∉ es → ∀ o, l[i]? = some o → lateB o = true ∨ ∀ e ∈ es, afterB l e i = true
 edst : ∀ e ∈ es, dstAt l e = none
theorem treeOk {l : List Oper} {es : List Nat} (h : treeB l es = true) : TreeOk l es := by
 unfold treeB at h
 simp only [Bool.and_eq_true] at h
 obtain ⟨⟨⟨⟨⟨⟨⟨⟨⟨h1, h2⟩, h3⟩, h4⟩, h5⟩, h6⟩, h7⟩, h8⟩, h9⟩, h10⟩ := h
 refine ⟨upS_pair h1, h2, h3, h4, fun i hi => of_decide_eq_true (List.all_eq_true.1 h5 i hi), fun i hi hne => ?_, fun i hi o ho t ht i' hi' hd => (readsB_spec (List.all_eq_true.1 h7 i hi) o ho t ht i' hi' hd).1, fun e he e' he' hlt => ?_, fun i hi hne o ho => ?_, fun e he => by simpa using List.all_eq_true.1 h10 e he⟩
 ·have h := List.all_eq_true.1 h6 i (List.mem_range.2 hi)
  simp only [Bool.or_eq_true, List.contains_eq_mem, decide_eq_true_eq] at h
  rcases h with h | h
  ·exact absurd h hne
  ·simp only [Bool.and_eq_true] at h
   obtain ⟨d, hd⟩ := Option.isSome_iff_exists.1 h.1
   refine ⟨d, hd, fun i' hi' hd' => ?_⟩
   have h' := List.all_eq_true.1 h.2 i' (List.mem_range.2 hi')
   simp only [Bool.or_eq_true, beq_iff_eq, bne_iff_ne] at h'
   rcases h' with h' | h'
   ·exact h'.symm
   ·exact absurd (hd.trans hd'.symm) h'
 ·have := List.all_eq_true.1 (List.all_eq_true.1 h8 e he) e' he'
  simp only [Bool.or_eq_true, decide_eq_true_eq] at this
  exact this.resolve_left (by omega)
 ·have := List.all_eq_true.1 h9 i (List.mem_range.2 hi)
  rw [ho] at this
  simp only [Option.map_some, Option.getD_some, Bool.or_eq_true, List.contains_eq_mem, decide_eq_true_eq] at this
  rcases this with (h | h) | h
  ·exact absurd h hne
  ·exact .inl h
  ·exact .inr fun e he => List.all_eq_true.1 h e he

/-- What has been carried out, or walked, in an order. -/
structure PathOk (l : List Oper) (es ys : List Nat) : Prop where
 nodup : ys.Nodup
 x : ∀ i ∈ ys, i < l.length ∧ i ∉ es
 deps : ∀ pre i post, ys = pre ++ i :: post → ∀ o, l[i]? = some o → ∀ t ∈ o.looksAt l.toArray, ∀ i', i' < l.length → dstAt l i' = some t → afterB l i i' = true ∧ i' ∈ pre
theorem PathOk.nil {l : List Oper} {es : List Nat} : PathOk l es [] := ⟨List.nodup_nil, (fun i h => by cases h), fun pre i post e => by simp at e⟩
theorem PathOk.snoc {l : List Oper} {es ys : List Nat} (h : PathOk l es ys) {x : Nat} (h1 : x < l.length) (h2 : x ∉ es) (h3 : x ∉ ys) (h4 : readsB l x ys = true) : PathOk l es (ys ++ [x]) := by
 refine ⟨?_, fun i hi => ?_, fun pre i post e => ?_⟩
 ·rw [List.nodup_append]
  exact ⟨h.nodup, by simp, fun a ha b hb e => h3 (by rw [List.mem_singleton.1 hb] at e; rw [← e]; exact ha)⟩
 ·rcases List.mem_append.1 hi with hi | hi
  ·exact h.x i hi
  ·rw [List.mem_singleton.1 hi]; exact ⟨h1, h2⟩
 ·rcases List.append_eq_append_iff.1 e.symm with ⟨a', e1, e2⟩ | ⟨c', e1, e2⟩
  ·cases a' with
   | nil =>
    simp at e2
    obtain ⟨rfl, rfl⟩ := e2
    simp at e1
    subst e1
    exact readsB_spec h4
   | cons q a' =>
    simp at e2
    obtain ⟨rfl, rfl⟩ := e2
    exact h.deps pre i a' e1
  ·cases c' with
   | nil =>
    simp at e1 e2
    obtain ⟨rfl, rfl⟩ := e2
    subst e1
    exact readsB_spec h4
   | cons q c' => simp at e2
theorem PathOk.more {l : List Oper} {es : List Nat} : ∀ {qs ys : List Nat}, PathOk l es ys → depsB l ys qs = true → (∀ i ∈ qs, i < l.length ∧ i ∉ es ∧ i ∉ ys) → qs.Nodup → PathOk l es (ys ++ qs)
 | [], ys, h, _, _, _ => by simpa using h
 | x :: qs, ys, h, hd, hx, hn => by
  simp only [depsB, Bool.and_eq_true] at hd
  rw [List.nodup_cons] at hn
  have h1 := h.snoc (hx x (by simp)).1 (hx x (by simp)).2.1 (hx x (by simp)).2.2 hd.1
  have h2 := PathOk.more (qs := qs) h1 hd.2 (fun i hi => ⟨(hx i (by simp [hi])).1, (hx i (by simp [hi])).2.1, fun hm => by
   rcases List.mem_append.1 hm with hm | hm
   ·exact (hx i (by simp [hi])).2.2 hm
   ·rw [List.mem_singleton.1 hm] at hi; exact hn.1 hi⟩) hn.2
  simpa using h2
structure KidsOk (l : List Oper) (es : List Nat) (tab : Plan) (k : Nat) (p ys kids : List Nat) : Prop where
 kid : ∀ x ∈ kids, x < l.length ∧ x ∉ es ∧ x ∉ ys ∧ readsB l x ys = true ∧ (∀ o, l[x]? = some o → lateB o = false) ∧ pathB l es tab k (ins x p) (ys ++ [x]) = true
 all : kids = [] → ∀ i, i < l.length → i ∈ ys ∨ i ∈ es
 wait : ∀ i, i < l.length → i ∉ ys → i ∉ es → i ∉ kids → ∃ k', k' ∉ ys ∧ afterB l i k' = true
theorem pathOk {l : List Oper} {es : List Nat} {tab : Plan} {k : Nat} {p ys : List Nat} (h : pathB l es tab (k + 1) p ys = true) (ho : PathOk l es ys) : ∃ m kids, rowAt tab p = some (m, kids) ∧ m.length ≤ l.length ∧ PathOk l es (ys ++ idxs 0 m) ∧ KidsOk l es tab k p (ys ++ idxs 0 m) kids := by
 unfold pathB at h
 cases hr : rowAt tab p with
 | none => rw [hr] at h; simp at h
 | some q =>
  obtain ⟨m, kids⟩ := q
  rw [hr] at h
  simp only [Bool.and_eq_true, decide_eq_true_eq] at h
  obtain ⟨⟨⟨⟨⟨⟨h1, h2⟩, h3⟩, h4⟩, h5⟩, h6⟩, h7⟩ := h
  refine ⟨m, kids, rfl, h1, ho.more h2 (fun i hi => ?_) h4, ⟨fun x hx => ?_, fun e i hi => ?_, fun i hi hy he hk => ?_⟩⟩
  ·have := List.all_eq_true.1 h3 i hi
   simp only [Bool.and_eq_true, decide_eq_true_eq, Bool.not_eq_true', List.contains_eq_mem, decide_eq_false_iff_not] at this
   exact ⟨this.1.1, this.1.2, this.2⟩
  ·have := List.all_eq_true.1 h5 x hx
   simp only [Bool.and_eq_true, decide_eq_true_eq, Bool.not_eq_true', List.contains_eq_mem, decide_eq_false_iff_not] at this
   obtain ⟨⟨⟨⟨⟨a1, a2⟩, a3⟩, a4⟩, a5⟩, a6⟩ := this
   exact ⟨a1, a2, a3, a4, fun o ho => by rw [ho] at a5; simpa using a5, a6⟩
  ·subst e
   simp only [List.isEmpty_nil, Bool.not_true, Bool.false_or] at h6
   have := List.all_eq_true.1 h6 i (List.mem_range.2 hi)
   simpa using this
  ·have := List.all_eq_true.1 h7 i (List.mem_range.2 hi)
   simp only [Bool.or_eq_true, List.contains_eq_mem, decide_eq_true_eq] at this
   rcases this with ((h | h) | h) | h
   ·exact absurd h hy
   ·exact absurd h he
   ·exact absurd h hk
   ·obtain ⟨k', _, hk'⟩ := List.any_eq_true.1 h
    simp only [Bool.and_eq_true, Bool.not_eq_true'] at hk'
    exact ⟨k', by simpa using hk'.1, hk'.2⟩

section
variable {G : World → World → Prop} [Grows G] {F : Fence} {n : Nat} {P : Program} {l : List Oper}
/-- By the plan. -/
def wpTree (G : World → World → Prop) (F : Fence) (n : Nat) (P : Program) (l : List Oper) (tail : World → Act → Prop) (tab : Plan) : Nat → List Nat → World → Act → Prop
 | 0, _, _, _ => False
 | k + 1, p, V, a => ∃ m kids, rowAt tab p = some (m, kids) ∧ ∃ A, Gr.Quietly G F n P l V (pickB l m) a A ∧ (kids = [] → tail V A) ∧ ∀ x ∈ kids, ∃ o, l[x]? = some o ∧ ∀ W, Below V.heap.size V W →
     wpListIn F n P l.toArray (Exit.then (fun a' W' => a'.defers = A.defers ∧ G W W' ∧ wpTree G F n P l tail tab k (ins x p) W' a') (fun _ _ _ => False)) [o] A W
theorem wpTree_end {tail : World → Act → Prop} {tab : Plan} {k : Nat} {p : List Nat} {V : World} {a A : Act} {m : List Bool} (hr : rowAt tab p = some (m, [])) (hq : Gr.Quietly G F n P l V (pickB l m) a A) (h : tail V A) : wpTree G F n P l tail tab (k + 1) p V a := ⟨m, [], hr, A, hq, fun _ => h, fun x hx => by cases hx⟩
theorem wpTree_one {tail : World → Act → Prop} {tab : Plan} {k x : Nat} {p : List Nat} {V : World} {a A : Act} {m : List Bool} {o : Oper} (hr : rowAt tab p = some (m, [x])) (ho : l[x]? = some o) (hq : Gr.Quietly G F n P l V (pickB l m) a A)
  (h : ∀ W, Below V.heap.size V W → wpListIn F n P l.toArray (Exit.then (fun a' W' => a'.defers = A.defers ∧ G W W' ∧ wpTree G F n P l tail tab k (ins x p) W' a') (fun _ _ _ => False)) [o] A W) : wpTree G F n P l tail tab (k + 1) p V a :=
 ⟨m, [x], hr, A, hq, (fun e => by cases e), fun y hy => by obtain rfl := List.mem_singleton.1 hy; exact ⟨o, ho, h⟩⟩
/-- What is next. -/
def NextT (G : World → World → Prop) (F : Fence) (n : Nat) (P : Program) (l : List Oper) (tail : World → Act → Prop) (tab : Plan) (k : Nat) (p kids : List Nat) (V : World) (A : Act) : Prop :=
 (kids = [] → tail V A) ∧ ∀ x ∈ kids, ∃ o, l[x]? = some o ∧ ∀ W, Below V.heap.size V W →
   wpListIn F n P l.toArray (Exit.then (fun a' W' => a'.defers = A.defers ∧ G W W' ∧ wpTree G F n P l tail tab k (ins x p) W' a') (fun _ _ _ => False)) [o] A W
/-- It may come up, and yields what A says. -/
def AvT (G : World → World → Prop) (F : Fence) (n : Nat) (P : Program) (l : List Oper) (a0 : Act) (ys : List Nat) (V : World) (A : Act) (i : Nat) : Prop :=
 ∀ o, l[i]? = some o → ∃ pre post, ys = pre ++ i :: post ∧ ∀ C, Gr.Good G V C → ∃ LF, Mixed l (· ∈ pre) A a0 LF ∧ YieldsQuiet F n P l.toArray C o (valOf l A i) LF
section
variable {es : List Nat} {a0 : Act} {tail : World → Act → Prop} {tab : Plan}
theorem enter_core (ok : TreeOk l es) (hs : slotsM l a0.tmps.size = true) {ys qs : List Nat} {V : World} {A1 A : Act} (hp : PathOk l es (ys ++ qs)) (hA1 : Mixed l (· ∈ ys) A1 a0 A1) (hq : Gr.Quietly G F n P l V (pick l qs) A1 A) :
  Mixed l (· ∈ ys ++ qs) A a0 A ∧ (∀ i ∈ ys, ∀ t, dstAt l i = some t → A1.tmps.getD t undef = A.tmps.getD t undef) ∧ ∀ i ∈ qs, AvT G F n P l a0 (ys ++ qs) V A i := by
 have hslot : ∀ i, i < l.length → ∀ d, dstAt l i = some d → d < a0.tmps.size := fun i hi d hd => by
  have := List.all_eq_true.1 hs i (List.mem_range.2 hi)
  rw [hd] at this
  simpa using this
 have hnd := hp.nodup
 rw [List.nodup_append] at hnd
 obtain ⟨_, hnq, hdis⟩ := hnd
 have hcond : ∀ i ∈ qs, i < l.length ∧ ∃ d, dstAt l i = some d ∧ d < A1.tmps.size ∧ ∀ i' ∈ qs, dstAt l i' = some d → i' = i := fun i hi => by
  obtain ⟨h1, h3⟩ := hp.x i (by simp [hi])
  obtain ⟨d, h4, h5⟩ := ok.own i h1 h3
  exact ⟨h1, d, h4, by rw [hA1.size]; exact hslot i h1 d h4, fun i' hi' hd' => h5 i' (hp.x i' (by simp [hi'])).1 hd'⟩
 have S := fun (C : World → Prop) (hC : Gr.Good G V C) => quiet_seq (F := F) (n := n) (P := P) (l := l) (C := C) (A := A) qs A1 hcond hnq (hq.cls hC)
 obtain ⟨M, _⟩ := S _ (Gr.Good.above V)
 have same : ∀ i ∈ ys, ∀ t, dstAt l i = some t → A1.tmps.getD t undef = A.tmps.getD t undef := fun i hi t ht => by
  refine (M.out t fun i' hi' hd' => ?_).symm
  obtain ⟨h1, h3⟩ := hp.x i (by simp [hi])
  obtain ⟨d, h4, h5⟩ := ok.own i h1 h3
  rw [ht] at h4
  cases h4
  have := h5 i' (hp.x i' (by simp [hi'])).1 hd'
  subst this
  exact hdis i' hi i' hi' rfl
 have B := hA1.change same
 refine ⟨(M.trans B).congr (fun i => by simp [or_comm]), same, fun i hi o ho => ?_⟩
 obtain ⟨pre, post, e⟩ := List.append_of_mem hi
 refine ⟨ys ++ pre, post, by rw [e]; simp, fun C hC => ?_⟩
 obtain ⟨LF, h1, h2⟩ := (S C hC).2 pre i post e o ho
 exact ⟨LF, (h1.trans B).congr (fun k => by simp [or_comm]), h2⟩
theorem tree_enter (ok : TreeOk l es) (hs : slotsM l a0.tmps.size = true) {k : Nat} {p ys : List Nat} {V : World} {A1 : Act} (h : wpTree G F n P l tail tab k p V A1) (hB : pathB l es tab k p ys = true) (hp : PathOk l es ys) (hA1 : Mixed l (· ∈ ys) A1 a0 A1) :
  ∃ k' qs kids A, PathOk l es (ys ++ qs) ∧ KidsOk l es tab k' p (ys ++ qs) kids ∧ Mixed l (· ∈ ys ++ qs) A a0 A ∧ (∀ i ∈ ys, ∀ t, dstAt l i = some t → A1.tmps.getD t undef = A.tmps.getD t undef) ∧ (∀ i ∈ qs, AvT G F n P l a0 (ys ++ qs) V A i) ∧ NextT G F n P l tail tab k' p kids V A := by
 cases k with
 | zero => exact h.elim
 | succ k =>
  obtain ⟨m, kids, hr, A, hq, h1, h2⟩ := h
  obtain ⟨m', kids', hr', hm, hp', hk⟩ := pathOk hB hp
  rw [hr] at hr'
  cases hr'
  rw [pickB_all l m hm] at hq
  obtain ⟨a1, a2, a3⟩ := enter_core ok hs hp' hA1 hq
  exact ⟨k, idxs 0 m, kids, A, hp', hk, a1, a2, a3, h1, h2⟩
end

theorem wpIn_region_tree {Q : Exit → Act → World → Prop} {id : Nat} {a0 : Act} {w V0 : World} (tab : Plan) (fuel : Nat) (em : List Bool)
  (hm : P.follows .mixedOrders = true) (hB : (treeB l (idxs 0 em) && pathB l (idxs 0 em) tab fuel [] [] && decide (em.length ≤ l.length)) = true)
  (hs : slotsM l a0.tmps.size = true) (hV : Below V0.heap.size V0 w.drew)
  (h : wpTree G F n P l (fun V A => ∀ W, Below V.heap.size V W → wpT F n P l.toArray (Q .normal) (pickB l em) A W) tab fuel [] V0 a0) : (Code.region id l.toArray true).wpIn F n P Q a0 w := by
 simp only [Bool.and_eq_true, decide_eq_true_eq] at hB
 obtain ⟨⟨hB, hpb⟩, hem⟩ := hB
 have ok := treeOk hB
 obtain ⟨es, hes⟩ : ∃ es, idxs 0 em = es := ⟨_, rfl⟩
 rw [hes] at ok hpb
 have hpe : pickB l em = pick l es := by rw [← hes]; exact pickB_all l em hem
 have hnd : noDefer l.toArray := noDefer_of ok.nodef
 have hslot : ∀ i, i < l.length → ∀ d, dstAt l i = some d → d < a0.tmps.size := fun i hi d hd => by
  have := List.all_eq_true.1 hs i (List.mem_range.2 hi)
  rw [hd] at this
  simpa using this
 let tail : World → Act → Prop := fun V A => ∀ W, Below V.heap.size V W → wpT F n P l.toArray (Q .normal) (pickB l em) A W
 let StA : Array Bool → Act → World → Prop := fun listed a W => listed.size = l.length ∧ (∀ e ∈ es, listed.getD e false = false) ∧ ∃ (k : Nat) (p ys kids : List Nat) (A : Act) (V : World), PathOk l es ys ∧ KidsOk l es tab k p ys kids ∧ (∀ i, i < l.length → i ∉ ys → listed.getD i false = false) ∧ Mixed l (· ∈ ys) A a0 A ∧
  Mixed l (fun i => i ∈ ys ∧ listed.getD i false = true) A a0 a ∧ (∀ i ∈ ys, listed.getD i false = false → AvT G F n P l a0 ys V A i) ∧ Below V.heap.size V W ∧ NextT G F n P l tail tab k p kids V A
 let Miss : Array Bool → Tmp → Prop := fun listed t => ∃ i, i < l.length ∧ i ∉ es ∧ listed.getD i false = false ∧ dstAt l i = some t
 let StB : Array Bool → Act → World → Prop := fun listed a W => listed.size = l.length ∧ ∃ (A Ac : Act) (m : Nat) (ys : List Nat), PathOk l es ys ∧ (∀ i, i < l.length → i ∈ ys ∨ i ∈ es) ∧ m ≤ es.length ∧ (∀ e ∈ es.take m, listed.getD e false = true) ∧ (∀ e ∈ es.drop m, listed.getD e false = false) ∧ Rel (Miss listed) a Ac ∧ Ac.tmps.size = a0.tmps.size ∧
  (∀ i ∈ ys, ∀ t, dstAt l i = some t → Ac.tmps.getD t undef = A.tmps.getD t undef) ∧ (∀ t, (∀ i, i < l.length → dstAt l i ≠ some t) → Ac.tmps.getD t undef = a0.tmps.getD t undef) ∧
  (∀ i ∈ ys, listed.getD i false = false → ∀ o, l[i]? = some o → ∃ pre post LF, ys = pre ++ i :: post ∧ Mixed l (· ∈ pre) A a0 LF ∧ YieldsAll F P l.toArray o (valOf l A i) LF) ∧ wpT F n P l.toArray (Q .normal) (pick l (es.drop m)) Ac W
 have setD : ∀ (listed : Array Bool) (i i' : Nat), listed.size = l.length → i < l.length → (listed.setIfInBounds i true).getD i' false = done (fun i => listed.getD i false) i i' := fun listed i i' hsz hi => by
  unfold done
  by_cases e : i' = i
  ·subst e
   rw [if_pos rfl, Array.getD_eq_getD_getElem?, Array.getElem?_setIfInBounds]
   have : i' < listed.size := by omega
   simp [this]
  ·rw [if_neg e, getD_set_ne false (Ne.symm e)]
 have mixS : ∀ (listed : Array Bool) (i : Nat) (ys : List Nat), listed.size = l.length → i < l.length → i ∈ ys → ∀ k, ((k ∈ ys ∧ listed.getD k false = true) ∨ k = i) ↔ (k ∈ ys ∧ (listed.setIfInBounds i true).getD k false = true) := fun listed i ys hsz hi hix k => by
  rw [setD listed i k hsz hi]
  unfold done
  by_cases e : k = i
  ·subst e; simp [hix]
  ·simp [e]
 -- what an operation reads
 have agreeA : ∀ {listed : Array Bool} {A LF a1 : Act} {ys pre post : List Nat} {i : Nat} {o : Oper}, PathOk l es ys → l[i]? = some o → ys = pre ++ i :: post → (∀ i', afterB l i i' = true → listed.getD i' false = true) →
   Mixed l (· ∈ pre) A a0 LF → Mixed l (fun i => i ∈ ys ∧ listed.getD i false = true) A a0 a1 → ∀ t ∈ o.looksAt l.toArray, LF.tmps.getD t undef = a1.tmps.getD t undef := by
  intro listed A LF a1 ys pre post i o hp hol hx hwait hLF hM t ht
  by_cases hex : ∃ i', i' < l.length ∧ dstAt l i' = some t
  ·obtain ⟨i', hi', hd⟩ := hex
   obtain ⟨h1, h2⟩ := hp.deps pre i post hx o hol t ht i' hi' hd
   have hix : i' ∈ ys := by rw [hx]; simp [h2]
   rw [hLF.in_ i' h2 t hd, hM.in_ i' ⟨hix, hwait i' h1⟩ t hd]
  ·have hno : ∀ i', i' < l.length → dstAt l i' ≠ some t := fun i' hi' hd => hex ⟨i', hi', hd⟩
   rw [hLF.out t (fun i' hi' => hno i' (hp.x i' (by rw [hx]; simp [hi'])).1), hM.out t (fun i' hi' => hno i' (hp.x i' hi'.1).1)]
 have toB : ∀ listed a W, StA listed a W → (∀ i, i < l.length → i ∉ es → listed.getD i false = false → ∀ o, l[i]? = some o → lateB o = true) → StB listed a W := by
  rintro listed a W ⟨hsz, hesl, k, p, ys, kids, A, V, hp, hk, hlater, hA, hM, hav, hc, hnext⟩ hfl
  have hnil : kids = [] := by
   cases hkk : kids with
   | nil => rfl
   | cons x r =>
    obtain ⟨h1, h2, h3, _, h4, _⟩ := hk.kid x (by rw [hkk]; simp)
    have ho : l[x]? = some l[x] := List.getElem?_eq_getElem h1
    have := hfl x h1 h2 (hlater x h1 h3) _ ho
    rw [h4 _ ho] at this
    cases this
  have hall := hk.all hnil
  have hw := hnext.1 hnil W hc
  rw [hpe] at hw
  refine ⟨hsz, A, A, 0, ys, hp, hall, Nat.zero_le _, (fun e he => by simp at he), (fun e he => hesl e (by simpa using he)), ⟨?_, ?_, fun t ht' => ?_⟩, hA.size, fun i hi t hd => rfl, fun t hno => hA.out t fun i hi => hno i (hp.x i hi).1, fun i hi hf o ho => ?_, by simpa using hw⟩
  ·rw [hM.defers, hA.defers]
  ·rw [hM.size, hA.size]
  ·by_cases hex : ∃ i ∈ ys, dstAt l i = some t
   ·obtain ⟨i, hi, hd⟩ := hex
    have hl : listed.getD i false = true := by
     cases hc' : listed.getD i false with
     | true => rfl
     | false => exact absurd ⟨i, (hp.x i hi).1, (hp.x i hi).2, hc', hd⟩ ht'
    exact hM.in_ i ⟨hi, hl⟩ t hd
   ·rw [hM.out t (fun i hi hd => hex ⟨i, hi.1, hd⟩), hA.out t (fun i hi hd => hex ⟨i, hi, hd⟩)]
  ·obtain ⟨pre, post, e1, e3⟩ := hav i hi hf o ho
   obtain ⟨LF, h3, h4⟩ := e3 _ (Gr.Good.above V)
   exact ⟨pre, post, LF, e1, h3, late_yields (hfl i (hp.x i hi).1 (hp.x i hi).2 hf o ho) ⟨V, Grows.refl _⟩ h4⟩
 let St : Array Bool → Act → World → Prop := fun listed a W => StA listed a W ∨ StB listed a W
 have stepB : ∀ listed a W i o, l[i]? = some o → listed.getD i true = false → (∀ i', afterB l i i' = true → listed.getD i' false = true) → StB listed a W → wpListIn F n P l.toArray (Exit.then (St (listed.setIfInBounds i true)) Q) [o] a W := by
  rintro listed a W i o hol hu hwait ⟨hsz, A, Ac, m, ys, hp, hall, hm', ht, hdp, hR, hAcs, hAcx, hAco, hfl, hwp⟩
  have hi : i < l.length := (List.getElem?_eq_some_iff.1 hol).1
  have hfalse : listed.getD i false = false := getD_both hu
  have hsel : ∀ cs b, o.op ≠ .select cs b := fun cs b => Region.noSelect_spec ok.nosel i o cs b (by simpa using hol)
  by_cases hie : i ∈ es
  ·have hmem : i ∈ es.drop m := by
    rcases (List.mem_append.1 (by rw [List.take_append_drop]; exact hie : i ∈ es.take m ++ es.drop m)) with h | h
    ·rw [ht i h] at hfalse; cases hfalse
    ·exact h
   have hml : m < es.length := by
    rcases Nat.lt_or_ge m es.length with h | h
    ·exact h
    ·rw [List.drop_of_length_le h] at hmem; cases hmem
   have hdrop : es.drop m = es[m] :: es.drop (m + 1) := List.drop_eq_getElem_cons hml
   have hie' : i = es[m] := by
    rw [hdrop] at hmem
    rcases List.mem_cons.1 hmem with h | h
    ·exact h
    ·exfalso
     have hlt : es[m] < i := by
      have hp := ok.upE.sublist (List.drop_sublist m es)
      rw [hdrop, List.pairwise_cons] at hp
      exact hp.1 i h
     have h1 := hwait _ (ok.chain i hie es[m] (List.getElem_mem _) hlt)
     rw [hdp es[m] (by rw [hdrop]; exact List.mem_cons_self)] at h1
     cases h1
   rw [hdrop, ← hie', pick_cons hol] at hwp
   have hdn : o.dst = none := by
    have := ok.edst i hie
    unfold dstAt at this
    rw [hol] at this
    exact this
   refine wpListIn_rel hsel (hnd i o (by simpa using hol)) hdn hR (fun t ht' => ?_) hwp ?_
   ·rintro ⟨i2, h5, _, h6, h7⟩
    rw [hwait _ (ok.depsE i hie o hol t ht' i2 h5 h7)] at h6
    cases h6
   ·rintro A' a' W' eA ea ed hwp'
    refine .inr ⟨by simpa using hsz, A, A', m + 1, ys, hp, hall, hml, fun e he => ?_, fun e he => ?_, ?_, by rw [eA]; exact hAcs, by rw [eA]; exact hAcx, by rw [eA]; exact hAco, fun i' hi' hf => ?_, hwp'⟩
    ·rw [setD _ _ _ hsz hi]; unfold done; split
     ·rfl
     ·rename_i hne
      rw [List.take_succ_eq_append_getElem hml] at he
      rcases List.mem_append.1 he with h | h
      ·exact ht e h
      ·exact absurd ((List.mem_singleton.1 h).trans hie'.symm) hne
    ·rw [setD _ _ _ hsz hi]; unfold done
     have hne : e ≠ i := fun e' => by
      have hp := ok.upE.sublist (List.drop_sublist m es)
      rw [hdrop, List.pairwise_cons] at hp
      have := hp.1 e he
      omega
     rw [if_neg hne]
     exact hdp e (by rw [hdrop]; exact List.mem_cons_of_mem _ he)
    ·refine ⟨ed, by rw [ea, eA]; exact hR.size, fun t ht' => ?_⟩
     rw [ea, eA]
     refine hR.same t fun ⟨i2, h5, h5', h6, h7⟩ => ht' ⟨i2, h5, h5', ?_, h7⟩
     rw [setD _ _ _ hsz hi]; unfold done
     rw [if_neg (fun e' => by subst e'; exact h5' hie)]
     exact h6
    ·rw [setD _ _ _ hsz hi] at hf
     unfold done at hf
     split at hf
     ·cases hf
     ·exact hfl i' hi' hf
  ·have hix : i ∈ ys := (hall i hi).resolve_right hie
   obtain ⟨pre, post, LF, hx, hLF, hy⟩ := hfl i hix hfalse o hol
   have hag : ∀ t ∈ o.looksAt l.toArray, LF.tmps.getD t undef = a.tmps.getD t undef := fun t ht' => by
    by_cases hex : ∃ i', i' < l.length ∧ dstAt l i' = some t
    ·obtain ⟨i', hi', hd⟩ := hex
     obtain ⟨h1, h2⟩ := hp.deps pre i post hx o hol t ht' i' hi' hd
     have hix' : i' ∈ ys := by rw [hx]; simp [h2]
     rw [hLF.in_ i' h2 t hd, hR.same t (fun ⟨i2, h5, h5', h6, h7⟩ => by
      obtain ⟨d, h8, h9⟩ := ok.own i' hi' (hp.x i' hix').2
      rw [hd] at h8
      cases h8
      have := h9 i2 h5 h7
      subst this
      rw [hwait _ h1] at h6
      cases h6), hAcx i' hix' t hd]
    ·have hno : ∀ i', i' < l.length → dstAt l i' ≠ some t := fun i' hi' hd => hex ⟨i', hi', hd⟩
     rw [hLF.out t (fun i' hi' => hno i' (hp.x i' (by rw [hx]; simp [hi'])).1), hR.same t (fun ⟨i2, h5, _, _, h7⟩ => hno i2 h5 h7), hAco t hno]
   have hya := hy.agree hsel (hLF.size.trans (hAcs.symm.trans hR.size.symm)) hag
   obtain ⟨d, hdi, huniq⟩ := ok.own i hi hie
   have hdo : o.dst = some d := by unfold dstAt at hdi; rw [hol] at hdi; exact hdi
   have hnext : St (listed.setIfInBounds i true) (a.put o.dst (valOf l A i)) W := by
    refine .inr ⟨by simpa using hsz, A, Ac, m, ys, hp, hall, hm', fun e he => ?_, fun e he => ?_, ?_, hAcs, hAcx, hAco, fun i' hi' hf => ?_, hwp⟩
    ·rw [setD _ _ _ hsz hi]; unfold done; split
     ·rfl
     ·exact ht e he
    ·rw [setD _ _ _ hsz hi]; unfold done; rw [if_neg (fun e' => by subst e'; exact hie (List.mem_of_mem_drop he))]; exact hdp e he
    ·rw [hdo]
     refine ⟨hR.defers, by rw [← hR.size]; simp [Act.put], fun t ht' => ?_⟩
     by_cases e : t = d
     ·subst e
      rw [show (a.put (some t) (valOf l A i)).tmps = a.tmps.setIfInBounds t (valOf l A i) from rfl, getD_set_same _ _ _ (by rw [hR.size, hAcs]; exact hslot i hi t hdi), hAcx i hix t hdi]
      unfold valOf; rw [hdi]; rfl
     ·rw [show (a.put (some d) (valOf l A i)).tmps = a.tmps.setIfInBounds d (valOf l A i) from rfl, getD_set_other _ _ (Ne.symm e)]
      refine hR.same t fun ⟨i2, h5, h5', h6, h7⟩ => ht' ⟨i2, h5, h5', ?_, h7⟩
      rw [setD _ _ _ hsz hi]; unfold done
      rw [if_neg (fun e' => by subst e'; rw [hdi] at h7; exact e (Option.some.inj h7).symm)]
      exact h6
    ·rw [setD _ _ _ hsz hi] at hf
     unfold done at hf
     split at hf
     ·cases hf
     ·exact hfl i' hi' hf
   simp only [wpListIn]
   rcases hya.2 with ⟨hw, hv⟩ | ⟨hw, hv⟩
   ·rw [if_pos hw]
    unfold Oper.wpIn
    refine ⟨hya.1 W, ?_⟩
    rw [Oper.semAt_eq _ _ _ (hnd i o (by simpa using hol)), hv W]
    exact hnext
   ·rw [if_neg (by rw [hw]; simp)]
    refine ⟨hya.1 W, ?_⟩
    rw [hv] at hnext
    exact hnext
 refine wpIn_region_inv hm St ?_ ?_ ?_ ?_
 ·rintro listed a W (⟨h, _⟩ | ⟨h, _⟩) <;> simpa using h
 ·obtain ⟨k', qs, kids, A, hp, hk, hA, _, hav, hnext⟩ := tree_enter (G := G) (F := F) (n := n) (P := P) (tail := tail) (a0 := a0) ok hs h hpb PathOk.nil (Mixed.nil (by simp))
  have hrep : ∀ i, (Array.replicate l.toArray.size false).getD i false = false := fun i => getD_replicate_false _ _
  exact .inl ⟨by simp, fun e _ => hrep e, k', [], qs, kids, A, V0, by simpa using hp, by simpa using hk, fun i _ _ => hrep i, by simpa using hA, Mixed.nil (fun i hi => by rw [hrep i] at hi; cases hi.2), fun i hi _ => by simpa using hav i hi, hV, hnext⟩
 ·rintro listed a W i o ho hu hd hst
  have hol : l[i]? = some o := by simpa using ho
  have hi : i < l.length := (List.getElem?_eq_some_iff.1 hol).1
  have hwait : ∀ i', afterB l i i' = true → listed.getD i' false = true := fun i' h => by
   unfold afterB at h
   rw [hol] at h
   obtain ⟨e, he, h2⟩ := List.any_eq_true.1 h
   simp only [Bool.and_eq_true, beq_iff_eq] at h2
   rw [← h2.1]
   exact hd e (by simpa using he) h2.2
  rcases hst with hA0 | hBB
  ·obtain ⟨hsz, hesl, k, p, ys, kids, A, V, hp, hk, hlater, hA, hM, hav, hc, hnext⟩ := hA0
   have hfalse : listed.getD i false = false := getD_both hu
   have hsel : ∀ cs b, o.op ≠ .select cs b := fun cs b => Region.noSelect_spec ok.nosel i o cs b ho
   by_cases hie : i ∈ es
   ·refine stepB listed _ W i o hol hu hwait (toB listed _ W ⟨hsz, hesl, k, p, ys, kids, A, V, hp, hk, hlater, hA, hM, hav, hc, hnext⟩ fun i' hi' hne' hf o' ho' => ?_)
    rcases ok.late i' hi' hne' o' ho' with h | h
    ·exact h
    ·rw [hwait i' (h i hie)] at hf
     cases hf
   ·obtain ⟨d, hdi, hun⟩ := ok.own i hi hie
    have hdo : o.dst = some d := by unfold dstAt at hdi; rw [hol] at hdi; exact hdi
    have e1 : ∀ e ∈ es, (listed.setIfInBounds i true).getD e false = false := fun e he => by
     rw [setD _ _ _ hsz hi]; unfold done
     rw [if_neg (fun e' => by subst e'; exact hie he)]
     exact hesl e he
    by_cases hy : i ∈ ys
    ·-- quiet
     obtain ⟨pre, post, hp1, hp3⟩ := hav i hy hfalse o hol
     obtain ⟨LF, hLF, hyq⟩ := hp3 (fun W => Below V.heap.size V W) ⟨⟨W, hc⟩, fun _ h => Grows.below h, fun W W' h k => h.trans (k.mono h.size)⟩
     have hag := agreeA hp hol hp1 hwait hLF hM
     have hya := yields_agree hsel (hLF.size.trans hM.size.symm) hag hyq
     have hval : valOf l A i = A.tmps.getD d undef := by unfold valOf; rw [hdi]; rfl
     have hnx : ∀ W', Below V.heap.size V W' → St (listed.setIfInBounds i true) (a.put o.dst (valOf l A i)) W' := fun W' hW' => by
      refine .inl ⟨by simpa using hsz, e1, k, p, ys, kids, A, V, hp, hk, fun q hq hqy => ?_, hA, by rw [hdo, hval]; exact (hM.step hdi (fun i' hi' hd' => hun i' (hp.x i' hi'.1).1 hd') (hslot i hi d hdi)).congr (mixS listed i ys hsz hi hy), fun q hq hf => ?_, hW', hnext⟩
      ·rw [setD _ _ _ hsz hi]; unfold done
       rw [if_neg (fun e' => by subst e'; exact hqy hy)]
       exact hlater q hq hqy
      ·rw [setD _ _ _ hsz hi] at hf
       unfold done at hf
       split at hf
       ·cases hf
       ·exact hav q hq hf
     simp only [wpListIn]
     rcases hya.2 with ⟨hw, hv⟩ | ⟨hw, hv⟩
     ·rw [if_pos hw]
      exact wpIn_of_quiet' (K := fun a' => a' = a.put o.dst (valOf l A i)) (hnd i o ho) hc (fun a' W' hW' ha' => by subst ha'; exact hnx W' hW') hya.1 ⟨_, hv, rfl⟩
     ·rw [if_neg (by rw [hw]; simp)]
      refine ⟨hya.1 W hc, ?_⟩
      have := hnx W hc
      rw [hv] at this
      exact this
    ·-- the next one
     have hik : i ∈ kids := by
      refine Classical.byContradiction fun hno => ?_
      obtain ⟨k', h1, h2⟩ := hk.wait i hi hy hie hno
      have h3 := hwait k' h2
      rcases Nat.lt_or_ge k' l.length with h4 | h4
      ·rw [hlater k' h4 h1] at h3; cases h3
      ·rw [Array.getD_eq_getD_getElem?, Array.getElem?_eq_none (by omega)] at h3; cases h3
     obtain ⟨_, _, _, hrd, hlt, hpb'⟩ := hk.kid i hik
     obtain ⟨ox, hox, hwx⟩ := hnext.2 i hik
     obtain rfl : ox = o := Option.some.inj (hox.symm.trans hol)
     have hp' : PathOk l es (ys ++ [i]) := hp.snoc hi hie hy hrd
     have hM' : Mixed l (fun q => q ∈ ys ++ [i] ∧ listed.getD q false = true) A a0 a := hM.congr (fun q => by
      constructor
      ·rintro ⟨h1, h2⟩; exact ⟨by simp [h1], h2⟩
      ·rintro ⟨h1, h2⟩
       rcases List.mem_append.1 h1 with h1 | h1
       ·exact ⟨h1, h2⟩
       ·rw [List.mem_singleton.1 h1, hfalse] at h2; cases h2)
     have hag := agreeA hp' hol (show ys ++ [i] = ys ++ i :: [] from rfl) hwait hA hM'
     refine wpListIn_relD hsel (hnd i ox ho) (by rw [hM.size, hA.size]) hag (hwx W hc) ?_
     rintro A' a' W' v eA ea ed ⟨hdf, hbW, hfl⟩
     have eA' : A' = A.put (some d) v := by
      obtain ⟨t1, d1⟩ := A'
      rw [hdo] at eA
      simp only at eA hdf
      subst eA hdf
      rfl
     have ea' : a' = a.put (some d) v := by
      obtain ⟨t1, d1⟩ := a'
      rw [hdo] at ea
      have h5 := ed hdf
      simp only at ea h5
      subst ea h5
      rfl
     rw [eA'] at hfl
     have hA1 : Mixed l (· ∈ ys ++ [i]) (A.put (some d) v) a0 (A.put (some d) v) := by
      have hpt : (A.put (some d) v).tmps = A.tmps.setIfInBounds d v := rfl
      refine ⟨hA.defers, by rw [hpt]; simpa using hA.size, fun _ _ _ _ => rfl, fun t ht => ?_⟩
      rw [hpt, getD_set_other _ _ (fun e => ht i (by simp) (by rw [hdi, e]))]
      exact hA.out t fun k hk => ht k (by simp [hk])
     obtain ⟨k2, qs, kids2, A2, hp2, hk2, hA2, hsame, hav2, hnext2⟩ := tree_enter (G := G) (F := F) (n := n) (P := P) (tail := tail) (a0 := a0) ok hs hfl hpb' hp' hA1
     have hbV : G V W' := Grows.trans (Grows.below hc) hbW
     have hdv : (A.put (some d) v).tmps.getD d undef = v := getD_set_same _ _ _ (by rw [hA.size]; exact hslot i hi d hdi)
     have hold : ∀ k ∈ ys, ∀ t, dstAt l k = some t → A.tmps.getD t undef = A2.tmps.getD t undef := fun k hk t hd => by
      rw [← hsame k (by simp [hk]) t hd]
      refine (getD_set_other _ _ (fun e => ?_)).symm
      subst e
      have := hun k (hp.x k hk).1 hd
      subst this
      exact hy hk
     have hM2 : Mixed l (fun q => q ∈ ys ++ [i] ++ qs ∧ (listed.setIfInBounds i true).getD q false = true) A2 a0 (a.put (some d) v) := by
      have h6 := (hM.change (A' := A2) (fun k hk t hd => hold k hk.1 t hd)).step hdi (fun i' hi' hd' => hun i' (hp.x i' hi'.1).1 hd') (hslot i hi d hdi)
      have h7 : A2.tmps.getD d undef = v := by rw [← hsame i (by simp) d hdi]; exact hdv
      rw [h7] at h6
      refine h6.congr (fun q => ?_)
      rw [setD listed i q hsz hi]
      unfold done
      by_cases e : q = i
      ·subst e; simp
      ·simp only [e, if_false, or_false]
       constructor
       ·rintro ⟨h8, h9⟩; exact ⟨by simp [h8], h9⟩
       ·rintro ⟨h8, h9⟩
        refine ⟨?_, h9⟩
        refine Classical.byContradiction fun hno => ?_
        have hql := (hp2.x q h8).1
        rw [hlater q hql hno] at h9
        cases h9
     refine .inl ⟨by simpa using hsz, e1, k2, ins i p, ys ++ [i] ++ qs, kids2, A2, W', hp2, hk2, fun q hq hqy => ?_, hA2, by rw [ea']; exact hM2, fun q hq hf => ?_, Below.refl _ _, hnext2⟩
     ·rw [setD _ _ _ hsz hi]; unfold done
      rw [if_neg (fun e' => by subst e'; exact hqy (by simp))]
      exact hlater q hq (fun h => hqy (by simp [h]))
     ·rw [setD _ _ _ hsz hi] at hf
      unfold done at hf
      split at hf
      ·cases hf
      ·rename_i hki
       rcases List.mem_append.1 hq with hq | hq
       ·have hq' : q ∈ ys := by
         rcases List.mem_append.1 hq with h | h
         ·exact h
         ·exact absurd (List.mem_singleton.1 h) hki
        intro o' ho'
        obtain ⟨pre, post, q1, q3⟩ := hav q hq' hf o' ho'
        refine ⟨pre, post ++ [i] ++ qs, by rw [q1]; simp, fun C hC => ?_⟩
        obtain ⟨LF, q4, q5⟩ := q3 C (hC.up hbV)
        have hkv : valOf l A q = valOf l A2 q := by
         obtain ⟨dk, g1, _⟩ := ok.own q (hp.x q hq').1 (hp.x q hq').2
         unfold valOf
         rw [g1]
         exact hold q hq' dk g1
        exact ⟨LF, q4.change (fun k2 hk2 t hd => hold k2 (by rw [q1]; simp [hk2]) t hd), by rw [← hkv]; exact q5⟩
       ·exact hav2 q hq
  ·exact stepB listed a W i o hol hu hwait hBB
 ·rintro listed a W hr hst
  have hal : ∀ i, i < l.length → listed.getD i false = true := by
   rcases hst with ⟨h, _⟩ | ⟨h, _⟩ <;> exact fun i hi => ready_nil_all ok.back (by simpa using h) hr i (by simpa using hi)
  have hBB : StB listed a W := by
   rcases hst with h | h
   ·exact toB listed a W h (fun i hi _ hf => by rw [hal i hi] at hf; cases hf)
   ·exact h
  obtain ⟨hsz, A, Ac, m, ys, hp, hall, hm', ht, hdp, hR, hAcs, hAcx, hAco, hfl, hwp⟩ := hBB
  have hnil : es.drop m = [] := by
   cases h : es.drop m with
   | nil => rfl
   | cons e r =>
    have h1 := hdp e (by rw [h]; simp)
    rw [hal e (ok.e e (List.mem_of_mem_drop (by rw [h]; simp)))] at h1
    cases h1
  rw [hnil] at hwp
  have hEq : a = Ac := by
   obtain ⟨t, d⟩ := a
   obtain ⟨t', d'⟩ := Ac
   have e1 : d = d' := hR.defers
   have s1 : t.size = t'.size := hR.size
   have e2 : t = t' := by
    apply Array.ext s1
    intro i h1 h2
    have := hR.same i (fun ⟨i2, h5, _, h6, _⟩ => by rw [hal i2 h5] at h6; cases h6)
    simpa [h1, h2] using this
   rw [e1, e2]
  subst hEq
  exact hwp
end
end Go.Proofs.YtahkjagjcogeiaaGreatDoor.Tr
