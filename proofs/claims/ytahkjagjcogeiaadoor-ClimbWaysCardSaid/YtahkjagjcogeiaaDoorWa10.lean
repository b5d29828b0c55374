/- ClimbWays: whatever the arguments, the law answers true. The row, and the card. -/
import Derived.Laws.StructEq
import Derived.Test.YtahkjagjcogeiaaDoorRows
import Derived.ProofKit
import Derived.LaidMore
import Derived.LaidHandle
import Derived.Stop.Joined
import Derived.ChangeSame
import Derived.OpenShut
import Derived.Lib.SmallJoins
import Derived.ChangeArms
import Derived.SevenTiedAt
import Derived.Test.YtahkjagjcogeiaaDoorCards
import Derived.Test.YtahkjagjcogeiaaDoorTie
import Derived.Test.YtahkjagjcogeiaaDoorWa9
/- climb.Walk: where a walk leads, and its toil. -/
namespace Go.Proofs.YtahkjagjcogeiaaDoor
open Go.RowKit Go.Shelf
set_option linter.unusedVariables false

def walkV (t : Town) (u : Int) (l : List Int) : Int × Int × Int × Int := if askE t [u] = 0 then (match walkedF t freeP u l with
  | some q => (q.1, q.2.b, q.2.c, 0)
  | none => (0, 0, 0, 32)) else (0, 0, 0, askE t [u])
def WalkOut (w : World) (r : Int × Int × Int × Int) (x : Ending) (w' : World) : Prop := x = .returned (.tuple #[.int .i64 r.1, .agg #[.int .i64 r.2.1, .int .i64 r.2.2.1], .int .i64 r.2.2.2]) ∧ Below w.heap.size w w'

set_option maxRecDepth 100000 in
set_option maxHeartbeats 16000000 in
theorem walkx_in (A : Option Addr) (n c : Nat) (A' : Option Addr) (m d : Nat) (t : Town) (u : Int) (A2 : Option Addr) (k2 c2 : Nat) (l : List Int) (w : World)
    (hn : n ≤ 1000) (hm : m ≤ 1000) (hk2 : k2 ≤ 1000) (ht : TownAt w w.heap.size A n A' m t) (hr : IntsAt w w.heap.size A2 k2 l) (hL : Laid w) :
    CallsIn Fence.wide 9 Tryd.prog 39 #[.agg #[.slice A n c, .slice A' m d], .int .i64 u, .slice A2 k2 c2] w (WalkOut w (walkV t u l)) := by
  have HT := Lib.hid ht
  have HL := Lib.hid hL
  have hl0 := hL.2.2.2
  clear ht hL
  have HR := Lib.hid hr
  clear hr
  refine callsIn_of_wp Tryd.func39 rfl trivial ?_ rfl
  simp only [Tryd.ntmps39, List.size_toArray, List.length_cons, List.length_nil, Nat.reduceAdd, Nat.reduceSub, Array.replicate_succ, Array.replicate_zero, List.push_toArray, List.append_toArray, List.nil_append, List.cons_append]
  gi_wp2
  have HLay := Lib.hid (Lay.three w 25 #[.slice A n c, .slice A' m d] 59 #[.int .i64 0, .int .i64 0] 3 #[.int .i64 u])
  generalize (((w.alloc (.cells #[.slice A n c, .slice A' m d] 25)).alloc (.cells #[.int .i64 0, .int .i64 0] 59)).alloc (.cells #[.int .i64 u] 3)) = w0 at *
  have HUV0 := Lib.hid (show IntsAt w0 w0.heap.size (some ⟨w.heap.size + 1 + 1, 0, none⟩) 1 [u] from one_int (HLay.out.blk 2 rfl).lt ((HLay.out.blk 2 rfl).cell 0))
  refine ⟨trivial, (callsIn_wide.2 (asked_any A n c A' m d t (some ⟨w.heap.size + 1 + 1, 0, none⟩) 1 1 [u] w0 (by unfold maxLen; omega) (by unfold maxLen; omega) (by decide) ((HT.out.below HLay.out.1).more HLay.out.1.size) HUV0.out (HL.out.below HLay.out.1 hl0))).mono ?_⟩
  rintro e W1 ⟨rfl, hb⟩
  replace HLay := Lib.hid (HLay.out.below hb)
  clear hb
  obtain ⟨ee, hee⟩ : ∃ ee, askE t [u] = ee := ⟨_, rfl⟩
  rw [hee]
  have HEE := Lib.hid hee
  clear hee
  have x0_0 := (HLay.out.blk 0 rfl).cell 0
  have x0_1 := (HLay.out.blk 0 rfl).cell 1
  have l0_ := HLay.out.lt 0 rfl
  have x1_0 := (HLay.out.blk 1 rfl).cell 0
  have z1_0 := (HLay.out.blk 1 rfl).frozen 0
  have x1_1 := (HLay.out.blk 1 rfl).cell 1
  have z1_1 := (HLay.out.blk 1 rfl).frozen 1
  have l1_ := HLay.out.lt 1 rfl
  by_cases h0 : ee = 0
  · subst h0
    obtain ⟨htb, hhas⟩ := askE_zero HEE.out
    have HG := Lib.hid (goodT htb)
    have hm20 : m ≤ 20 := by have := HG.out.links; have := HT.out.links.len; omega
    clear htb hhas
    gi_wp2
    clear x0_0 x0_1 l0_ x1_0 z1_0 x1_1 z1_1 l1_
    refine ⟨trivial, (callsIn_wide.2 (walked_all A n c A' m d _ _ freeP t u A2 k2 c2 l W1 hm20 hk2 ((HT.out.links.below HLay.out.1).more HLay.out.1.size) (free_price W1) HG.out.fine freeP_fair ((HR.out.below HLay.out.1).more HLay.out.1.size))).mono ?_⟩
    rintro e W2 ⟨to, co, rfl, hq, hb⟩
    replace HLay := Lib.hid (HLay.out.below hb)
    clear hb
    obtain ⟨rr, hrr⟩ : ∃ r, walkedF t freeP u l = r := ⟨_, rfl⟩
    rw [hrr] at hq ⊢
    have HRR := Lib.hid hrr
    have HQ := Lib.hid hq
    clear hrr hq
    cases rr with
    | none =>
      have x0_0 := (HLay.out.blk 0 rfl).cell 0
      have x0_1 := (HLay.out.blk 0 rfl).cell 1
      have l0_ := HLay.out.lt 0 rfl
      have x1_0 := (HLay.out.blk 1 rfl).cell 0
      have z1_0 := (HLay.out.blk 1 rfl).frozen 0
      have x1_1 := (HLay.out.blk 1 rfl).cell 1
      have z1_1 := (HLay.out.blk 1 rfl).frozen 1
      have l1_ := HLay.out.lt 1 rfl
      gi_wp2
      clear x0_0 x0_1 l0_ x1_0 z1_0 x1_1 z1_1 l1_
      have hb : Below W2.heap.size W2 (W2.alloc (.cells #[.int .i64 to, .int .i64 co.a, .int .i64 co.b, .int .i64 co.c, .int .i64 co.d, .slice none 0 0] 111)) := (Below.refl _ _).alloc (Nat.le_refl _) _
      have hnew := Blk.new W2 111 #[.int .i64 to, .int .i64 co.a, .int .i64 co.b, .int .i64 co.c, .int .i64 co.d, .slice none 0 0]
      have hge := HLay.out.bel.size
      replace HLay := Lib.hid (HLay.out.below hb)
      replace HLay := Lib.hid (HLay.out.add hge hnew)
      clear hnew hge hb
      obtain ⟨G4, hG⟩ : ∃ g, W2.heap.size = g := ⟨_, rfl⟩
      rw [hG] at HLay ⊢
      generalize (W2.alloc (.cells #[.int .i64 to, .int .i64 co.a, .int .i64 co.b, .int .i64 co.c, .int .i64 co.d, .slice none 0 0] 111)) = V3 at *
      clear hG
      replace HLay := Lib.hid (show Lay w V3 [(w.heap.size, 25, #[.slice A n c, .slice A' m d]), (w.heap.size + 1, 59, #[.int .i64 0, .int .i64 0]), (w.heap.size + 1 + 1, 3, #[.int .i64 u]), (G4, 111, #[.int .i64 to, .int .i64 co.a, .int .i64 co.b, .int .i64 co.c, .int .i64 co.d, .slice none 0 0])] from HLay.out)
      refine wpIn_flow_old [] [true, true, false, true] [false, false, true] (by kernel_rfl) (by kernel_rfl) (by kernel_rfl) (below_drewN (Below.refl _ _) 1) ?_
      refine wpFlow_nil (A := ?AF1) ?hq1 ?_
      case hq1 =>
        rintro σ hσ of hof hcl
        have HOF := Lib.hid hof
        have HCL := Lib.hid hcl
        clear hof hcl
        have c0_ : ∀ z, (of z).cell? ⟨w.heap.size + 1, 0, none⟩ = some (.int .i64 0) := fun z => ((HLay.out.below (HOF.out z)).blk 1 rfl).cell 0
        have c1_ : ∀ z, (of z).cell? ⟨w.heap.size + 1, 1, none⟩ = some (.int .i64 0) := fun z => ((HLay.out.below (HOF.out z)).blk 1 rfl).cell 1
        have hfw : ∀ f, Fence.wide.fn f := fun _ => trivial
        simp only [pickB]
        repeat (gi_big_quiet_step (fail))
        refine wpQuietIn_nil ?_
        exact rfl
      intro W5 hW
      replace HLay := Lib.hid (HLay.out.below hW)
      clear hW
      simp only [pickB]
      have x1_0 := (HLay.out.blk 1 rfl).cell 0
      have z1_0 := (HLay.out.blk 1 rfl).frozen 0
      have x1_1 := (HLay.out.blk 1 rfl).cell 1
      have z1_1 := (HLay.out.blk 1 rfl).frozen 1
      have l1_ := HLay.out.lt 1 rfl
      refine wpT_cons ?_
      gi_wp2
      refine wpT_nil ?_
      clear x1_0 z1_0 x1_1 z1_1 l1_
      gi_wp2
      have R1 := ret2 (HLay.out.blk 1 rfl) HLay.out.1 (by omega) (.int .i64 (0)) (.int .i64 (0))
      have y0 := R1.1.cell 0
      have y1 := R1.1.cell 1
      have hV : walkV t u l = (0, 0, 0, 32) := by unfold walkV; rw [if_pos HEE.out, HRR.out]
      exact bodyPost_ret (v := .tuple #[.int .i64 0, .agg #[.int .i64 (0), .int .i64 (0)], .int .i64 32]) (by simp [results, Tryd.results39, go_sem, y0, y1]) rfl ⟨by rw [hV], R1.2⟩
    | some q0 =>
      obtain rfl : q0 = (to, co) := HQ.out q0 rfl
      have x0_0 := (HLay.out.blk 0 rfl).cell 0
      have x0_1 := (HLay.out.blk 0 rfl).cell 1
      have l0_ := HLay.out.lt 0 rfl
      have x1_0 := (HLay.out.blk 1 rfl).cell 0
      have z1_0 := (HLay.out.blk 1 rfl).frozen 0
      have x1_1 := (HLay.out.blk 1 rfl).cell 1
      have z1_1 := (HLay.out.blk 1 rfl).frozen 1
      have l1_ := HLay.out.lt 1 rfl
      gi_wp2
      clear x0_0 x0_1 l0_ x1_0 z1_0 x1_1 z1_1 l1_
      have hb : Below W2.heap.size W2 (W2.alloc (.cells #[.int .i64 to, .int .i64 co.a, .int .i64 co.b, .int .i64 co.c, .int .i64 co.d, .slice none 0 0] 111)) := (Below.refl _ _).alloc (Nat.le_refl _) _
      have hnew := Blk.new W2 111 #[.int .i64 to, .int .i64 co.a, .int .i64 co.b, .int .i64 co.c, .int .i64 co.d, .slice none 0 0]
      have hge := HLay.out.bel.size
      replace HLay := Lib.hid (HLay.out.below hb)
      replace HLay := Lib.hid (HLay.out.add hge hnew)
      clear hnew hge hb
      obtain ⟨G24, hG⟩ : ∃ g, W2.heap.size = g := ⟨_, rfl⟩
      rw [hG] at HLay ⊢
      generalize (W2.alloc (.cells #[.int .i64 to, .int .i64 co.a, .int .i64 co.b, .int .i64 co.c, .int .i64 co.d, .slice none 0 0] 111)) = V23 at *
      clear hG
      replace HLay := Lib.hid (show Lay w V23 [(w.heap.size, 25, #[.slice A n c, .slice A' m d]), (w.heap.size + 1, 59, #[.int .i64 0, .int .i64 0]), (w.heap.size + 1 + 1, 3, #[.int .i64 u]), (G24, 111, #[.int .i64 to, .int .i64 co.a, .int .i64 co.b, .int .i64 co.c, .int .i64 co.d, .slice none 0 0])] from HLay.out)
      refine wpIn_flow_old [([true, true, true, true], 4)] [false, false, false, false, false, true, false, true] [false, false, false, false, false, false, true] (by kernel_rfl) (by kernel_rfl) (by kernel_rfl) (below_drewN (Below.refl _ _) 1) ?_
      refine wpFlow_cons (A := ?AF2) rfl ?hq2 ?_
      case hq2 =>
        rintro σ hσ of hof hcl
        have HOF := Lib.hid hof
        have HCL := Lib.hid hcl
        clear hof hcl
        have c0_ : ∀ z, (of z).cell? ⟨G24, 0, none⟩ = some (.int .i64 to) := fun z => ((HLay.out.below (HOF.out z)).blk 3 rfl).cell 0
        have c1_ : ∀ z, (of z).cell? ⟨G24, 1, none⟩ = some (.int .i64 co.a) := fun z => ((HLay.out.below (HOF.out z)).blk 3 rfl).cell 1
        have c2_ : ∀ z, (of z).cell? ⟨G24, 2, none⟩ = some (.int .i64 co.b) := fun z => ((HLay.out.below (HOF.out z)).blk 3 rfl).cell 2
        have c3_ : ∀ z, (of z).cell? ⟨G24, 3, none⟩ = some (.int .i64 co.c) := fun z => ((HLay.out.below (HOF.out z)).blk 3 rfl).cell 3
        have c4_ : ∀ z, (of z).cell? ⟨G24, 4, none⟩ = some (.int .i64 co.d) := fun z => ((HLay.out.below (HOF.out z)).blk 3 rfl).cell 4
        have c5_ : ∀ z, (of z).cell? ⟨G24, 5, none⟩ = some (.slice none 0 0) := fun z => ((HLay.out.below (HOF.out z)).blk 3 rfl).cell 5
        have hfw : ∀ f, Fence.wide.fn f := fun _ => trivial
        simp only [pickB]
        repeat (gi_big_quiet_step (fail))
        refine wpQuietIn_nil ?_
        exact rfl
      intro W25 hW
      replace HLay := Lib.hid (HLay.out.below hW)
      clear hW
      gi_wp2
      refine ⟨trivial, (callsIn_wide.2 (toil_any co W25)).mono ?_⟩
      rintro e W26 ⟨rfl, hb⟩
      replace HLay := Lib.hid (HLay.out.below hb)
      gi_wp2
      refine ⟨trivial, hb, ?_⟩
      clear hb
      refine wpFlow_nil (A := ?AF3) ?hq3 ?_
      case hq3 =>
        rintro σ hσ of hof hcl
        have HOF := Lib.hid hof
        have HCL := Lib.hid hcl
        clear hof hcl
        have c0_ : ∀ z, (of z).cell? ⟨G24, 0, none⟩ = some (.int .i64 to) := fun z => ((HLay.out.below (HOF.out z)).blk 3 rfl).cell 0
        have c1_ : ∀ z, (of z).cell? ⟨G24, 1, none⟩ = some (.int .i64 co.a) := fun z => ((HLay.out.below (HOF.out z)).blk 3 rfl).cell 1
        have c2_ : ∀ z, (of z).cell? ⟨G24, 2, none⟩ = some (.int .i64 co.b) := fun z => ((HLay.out.below (HOF.out z)).blk 3 rfl).cell 2
        have c3_ : ∀ z, (of z).cell? ⟨G24, 3, none⟩ = some (.int .i64 co.c) := fun z => ((HLay.out.below (HOF.out z)).blk 3 rfl).cell 3
        have c4_ : ∀ z, (of z).cell? ⟨G24, 4, none⟩ = some (.int .i64 co.d) := fun z => ((HLay.out.below (HOF.out z)).blk 3 rfl).cell 4
        have c5_ : ∀ z, (of z).cell? ⟨G24, 5, none⟩ = some (.slice none 0 0) := fun z => ((HLay.out.below (HOF.out z)).blk 3 rfl).cell 5
        have hfw : ∀ f, Fence.wide.fn f := fun _ => trivial
        simp only [pickB]
        repeat (gi_big_quiet_step (fail))
        refine wpQuietIn_nil ?_
        exact rfl
      intro W27 hW
      replace HLay := Lib.hid (HLay.out.below hW)
      clear hW
      simp only [pickB]
      have x1_0 := (HLay.out.blk 1 rfl).cell 0
      have z1_0 := (HLay.out.blk 1 rfl).frozen 0
      have x1_1 := (HLay.out.blk 1 rfl).cell 1
      have z1_1 := (HLay.out.blk 1 rfl).frozen 1
      have l1_ := HLay.out.lt 1 rfl
      refine wpT_cons ?_
      gi_wp2
      refine wpT_nil ?_
      clear x1_0 z1_0 x1_1 z1_1 l1_
      gi_wp2
      have R1 := ret2 (HLay.out.blk 1 rfl) HLay.out.1 (by omega) (.int .i64 (co.b)) (.int .i64 (co.c))
      have y0 := R1.1.cell 0
      have y1 := R1.1.cell 1
      have hV : walkV t u l = (to, co.b, co.c, 0) := by unfold walkV; rw [if_pos HEE.out, HRR.out]
      exact bodyPost_ret (v := .tuple #[.int .i64 to, .agg #[.int .i64 (co.b), .int .i64 (co.c)], .int .i64 0]) (by simp [results, Tryd.results39, go_sem, y0, y1]) rfl ⟨by rw [hV], R1.2⟩
  · have h1 : (ee != 0) = true := by simpa using h0
    have HE0 := Lib.hid h0
    clear h0
    gi_wp2
    clear x0_0 x0_1 l0_ x1_0 z1_0 x1_1 z1_1 l1_
    refine wpIn_flow_old [] [true, true, true, false, true] [false, false, false, true] (by kernel_rfl) (by kernel_rfl) (by kernel_rfl) (below_drewN (Below.refl _ _) 1) ?_
    refine wpFlow_nil (A := ?AF4) ?hq4 ?_
    case hq4 =>
      rintro σ hσ of hof hcl
      have HOF := Lib.hid hof
      have HCL := Lib.hid hcl
      clear hof hcl
      have c0_ : ∀ z, (of z).cell? ⟨w.heap.size + 1, 0, none⟩ = some (.int .i64 0) := fun z => ((HLay.out.below (HOF.out z)).blk 1 rfl).cell 0
      have c1_ : ∀ z, (of z).cell? ⟨w.heap.size + 1, 1, none⟩ = some (.int .i64 0) := fun z => ((HLay.out.below (HOF.out z)).blk 1 rfl).cell 1
      have hfw : ∀ f, Fence.wide.fn f := fun _ => trivial
      simp only [pickB]
      repeat (gi_big_quiet_step (fail))
      refine wpQuietIn_nil ?_
      exact rfl
    intro W43 hW
    replace HLay := Lib.hid (HLay.out.below hW)
    clear hW
    simp only [pickB]
    have x1_0 := (HLay.out.blk 1 rfl).cell 0
    have z1_0 := (HLay.out.blk 1 rfl).frozen 0
    have x1_1 := (HLay.out.blk 1 rfl).cell 1
    have z1_1 := (HLay.out.blk 1 rfl).frozen 1
    have l1_ := HLay.out.lt 1 rfl
    refine wpT_cons ?_
    gi_wp2
    refine wpT_nil ?_
    clear x1_0 z1_0 x1_1 z1_1 l1_
    gi_wp2
    have R1 := ret2 (HLay.out.blk 1 rfl) HLay.out.1 (by omega) (.int .i64 (0)) (.int .i64 (0))
    have y0 := R1.1.cell 0
    have y1 := R1.1.cell 1
    have hV : walkV t u l = (0, 0, 0, ee) := by unfold walkV; rw [if_neg (by rw [HEE.out]; exact HE0.out), HEE.out]
    exact bodyPost_ret (v := .tuple #[.int .i64 0, .agg #[.int .i64 (0), .int .i64 (0)], .int .i64 ee]) (by simp [results, Tryd.results39, go_sem, y0, y1]) rfl ⟨by rw [hV], R1.2⟩

theorem walk_any (A : Option Addr) (n c : Nat) (A' : Option Addr) (m d : Nat) (t : Town) (u : Int) (A2 : Option Addr) (k2 c2 : Nat) (l : List Int) (w : World)
    (hn : n ≤ 1000) (hm : m ≤ 1000) (hk2 : k2 ≤ 1000) (ht : TownAt w w.heap.size A n A' m t) (hr : IntsAt w w.heap.size A2 k2 l) (hL : Laid w) :
    Calls Tryd.prog 39 #[.agg #[.slice A n c, .slice A' m d], .int .i64 u, .slice A2 k2 c2] w (WalkOut w (walkV t u l)) :=
  callsIn_wide.1 (walkx_in A n c A' m d t u A2 k2 c2 l w hn hm hk2 ht hr hL)
end Go.Proofs.YtahkjagjcogeiaaDoor
/- The answer's Walk. -/
namespace Go.Proofs.YtahkjagjcogeiaaDoor
open Go.RowKit Go.Shelf
set_option linter.unusedVariables false

set_option maxRecDepth 100000 in
set_option maxHeartbeats 16000000 in
theorem rwalk_in (A : Option Addr) (n c : Nat) (A' : Option Addr) (m d : Nat) (t : Town) (u : Int) (A2 : Option Addr) (k2 c2 : Nat) (l : List Int) (w : World)
    (hn : n ≤ 1000) (hm : m ≤ 1000) (hk2 : k2 ≤ 1000) (ht : TownAt w w.heap.size A n A' m t) (hr : IntsAt w w.heap.size A2 k2 l) :
    CallsIn Fence.wide 9 Tryd.prog 40 #[.agg #[.slice A n c, .slice A' m d], .int .i64 u, .slice A2 k2 c2] w (WalkOut w (walkV t u l)) := by
  have HT := Lib.hid ht
  have HR := Lib.hid hr
  clear ht hr
  refine callsIn_of_wp Tryd.func40 rfl trivial ?_ rfl
  simp only [Tryd.ntmps40, List.size_toArray, List.length_cons, List.length_nil, Nat.reduceAdd, Nat.reduceSub, Array.replicate_succ, Array.replicate_zero, List.push_toArray, List.append_toArray, List.nil_append, List.cons_append]
  gi_wp2
  have HLay := Lib.hid (Lay.two w 25 #[.slice A n c, .slice A' m d] 59 #[.int .i64 0, .int .i64 0])
  generalize ((w.alloc (.cells #[.slice A n c, .slice A' m d] 25)).alloc (.cells #[.int .i64 0, .int .i64 0] 59)) = w0 at *
  refine ⟨trivial, (callsIn_wide.2 (rasked_any A n c A' m d t u u w0 hn hm ((HT.out.below HLay.out.1).more HLay.out.1.size))).mono ?_⟩
  rintro e W1 ⟨rfl, hb⟩
  replace HLay := Lib.hid (HLay.out.below hb)
  clear hb
  rw [askE_same]
  obtain ⟨ea, hea⟩ : ∃ ea, askE t [u] = ea := ⟨_, rfl⟩
  rw [hea]
  have HEA := Lib.hid hea
  clear hea
  have x0_0 := (HLay.out.blk 0 rfl).cell 0
  have x0_1 := (HLay.out.blk 0 rfl).cell 1
  have l0_ := HLay.out.lt 0 rfl
  have x1_0 := (HLay.out.blk 1 rfl).cell 0
  have z1_0 := (HLay.out.blk 1 rfl).frozen 0
  have x1_1 := (HLay.out.blk 1 rfl).cell 1
  have z1_1 := (HLay.out.blk 1 rfl).frozen 1
  have l1_ := HLay.out.lt 1 rfl
  by_cases h0 : ea = 0
  · subst h0
    obtain ⟨htb, hhas⟩ := askE_zero HEA.out
    have HG := Lib.hid (goodT htb)
    have HUV := Lib.hid (hasB_mem hhas)
    have hm20 : m ≤ 20 := by have := HG.out.links; have := HT.out.links.len; omega
    clear htb hhas
    gi_wp2
    clear x0_0 x0_1 l0_ x1_0 z1_0 x1_1 z1_1 l1_
    refine ⟨trivial, (callsIn_wide.2 (rwalked_any A n c A' m d freeP t u A2 k2 c2 l W1 hm hk2 ((HT.out.links.below HLay.out.1).more HLay.out.1.size) freeP_cheap HG.out.fine freeP_fair ((HR.out.below HLay.out.1).more HLay.out.1.size))).mono ?_⟩
    rintro e W2 ⟨to, co, rfl, hq, hb, hco, hno⟩
    replace HLay := Lib.hid (HLay.out.below hb)
    clear hb
    simp only at hq hno
    obtain ⟨rr, hrr⟩ : ∃ r, walkedF t freeP u l = r := ⟨_, rfl⟩
    rw [hrr] at hq hno ⊢
    have HRR := Lib.hid hrr
    have HQ := Lib.hid hq
    have HNO := Lib.hid hno
    clear hrr hq hco hno
    cases rr with
    | none =>
      obtain rfl := HNO.out rfl
      have x0_0 := (HLay.out.blk 0 rfl).cell 0
      have x0_1 := (HLay.out.blk 0 rfl).cell 1
      have l0_ := HLay.out.lt 0 rfl
      have x1_0 := (HLay.out.blk 1 rfl).cell 0
      have z1_0 := (HLay.out.blk 1 rfl).frozen 0
      have x1_1 := (HLay.out.blk 1 rfl).cell 1
      have z1_1 := (HLay.out.blk 1 rfl).frozen 1
      have l1_ := HLay.out.lt 1 rfl
      gi_wp2
      clear x0_0 x0_1 l0_ x1_0 z1_0 x1_1 z1_1 l1_
      have R1 := ret2 (HLay.out.blk 1 rfl) HLay.out.1 (by omega) (.int .i64 (0)) (.int .i64 (0))
      have R2 := R1.1.alloc (.cells #[.int .i64 co.a, .int .i64 co.b, .int .i64 co.c, .int .i64 co.d] 103)
      have y0 := R2.cell 0
      have y1 := R2.cell 1
      have hV : walkV t u l = (0, 0, 0, 32) := by unfold walkV; rw [if_pos HEA.out, HRR.out]
      exact bodyPost_ret (v := .tuple #[.int .i64 0, .agg #[.int .i64 (0), .int .i64 (0)], .int .i64 32]) (by simp [results, Tryd.results40, go_sem, y0, y1]) rfl ⟨by rw [hV], R1.2.alloc R1.2.size _⟩
    | some q0 =>
      obtain rfl : q0 = (to, co) := HQ.out q0 rfl
      have x0_0 := (HLay.out.blk 0 rfl).cell 0
      have x0_1 := (HLay.out.blk 0 rfl).cell 1
      have l0_ := HLay.out.lt 0 rfl
      have x1_0 := (HLay.out.blk 1 rfl).cell 0
      have z1_0 := (HLay.out.blk 1 rfl).frozen 0
      have x1_1 := (HLay.out.blk 1 rfl).cell 1
      have z1_1 := (HLay.out.blk 1 rfl).frozen 1
      have l1_ := HLay.out.lt 1 rfl
      gi_wp2
      clear x0_0 x0_1 l0_ x1_0 z1_0 x1_1 z1_1 l1_
      have hb : Below W2.heap.size W2 (W2.alloc (.cells #[.int .i64 co.a, .int .i64 co.b, .int .i64 co.c, .int .i64 co.d] 103)) := (Below.refl _ _).alloc (Nat.le_refl _) _
      have hnew := Blk.new W2 103 #[.int .i64 co.a, .int .i64 co.b, .int .i64 co.c, .int .i64 co.d]
      have hge := HLay.out.bel.size
      replace HLay := Lib.hid (HLay.out.below hb)
      replace HLay := Lib.hid (HLay.out.add hge hnew)
      clear hnew hge hb
      obtain ⟨G24, hG⟩ : ∃ g, W2.heap.size = g := ⟨_, rfl⟩
      rw [hG] at HLay ⊢
      generalize (W2.alloc (.cells #[.int .i64 co.a, .int .i64 co.b, .int .i64 co.c, .int .i64 co.d] 103)) = V23 at *
      clear hG
      replace HLay := Lib.hid (show Lay w V23 [(w.heap.size, 25, #[.slice A n c, .slice A' m d]), (w.heap.size + 1, 59, #[.int .i64 0, .int .i64 0]), (G24, 103, #[.int .i64 co.a, .int .i64 co.b, .int .i64 co.c, .int .i64 co.d])] from HLay.out)
      refine wpIn_flow_old [] [true, true, true, true, true, true, true, false, true] [false, false, false, false, false, false, false, true] (by kernel_rfl) (by kernel_rfl) (by kernel_rfl) (below_drewN (Below.refl _ _) 1) ?_
      refine wpFlow_nil (A := ?AF1) ?hq1 ?_
      case hq1 =>
        rintro σ hσ of hof hcl
        have HOF := Lib.hid hof
        have HCL := Lib.hid hcl
        clear hof hcl
        have c0_ : ∀ z, (of z).cell? ⟨G24, 0, none⟩ = some (.int .i64 co.a) := fun z => ((HLay.out.below (HOF.out z)).blk 2 rfl).cell 0
        have c1_ : ∀ z, (of z).cell? ⟨G24, 1, none⟩ = some (.int .i64 co.b) := fun z => ((HLay.out.below (HOF.out z)).blk 2 rfl).cell 1
        have c2_ : ∀ z, (of z).cell? ⟨G24, 2, none⟩ = some (.int .i64 co.c) := fun z => ((HLay.out.below (HOF.out z)).blk 2 rfl).cell 2
        have c3_ : ∀ z, (of z).cell? ⟨G24, 3, none⟩ = some (.int .i64 co.d) := fun z => ((HLay.out.below (HOF.out z)).blk 2 rfl).cell 3
        have hfw : ∀ f, Fence.wide.fn f := fun _ => trivial
        simp only [pickB]
        repeat (gi_big_quiet_step (fail))
        refine wpQuietIn_nil ?_
        exact rfl
      intro W25 hW
      replace HLay := Lib.hid (HLay.out.below hW)
      clear hW
      simp only [pickB]
      have x1_0 := (HLay.out.blk 1 rfl).cell 0
      have z1_0 := (HLay.out.blk 1 rfl).frozen 0
      have x1_1 := (HLay.out.blk 1 rfl).cell 1
      have z1_1 := (HLay.out.blk 1 rfl).frozen 1
      have l1_ := HLay.out.lt 1 rfl
      refine wpT_cons ?_
      gi_wp2
      refine wpT_nil ?_
      clear x1_0 z1_0 x1_1 z1_1 l1_
      gi_wp2
      have R1 := ret2 (HLay.out.blk 1 rfl) HLay.out.1 (by omega) (.int .i64 (co.b)) (.int .i64 (co.c))
      have y0 := R1.1.cell 0
      have y1 := R1.1.cell 1
      have hV : walkV t u l = (to, co.b, co.c, 0) := by unfold walkV; rw [if_pos HEA.out, HRR.out]
      exact bodyPost_ret (v := .tuple #[.int .i64 to, .agg #[.int .i64 (co.b), .int .i64 (co.c)], .int .i64 0]) (by simp [results, Tryd.results40, go_sem, y0, y1]) rfl ⟨by rw [hV], R1.2⟩
  · have h1 : (ea != 0) = true := by simpa using h0
    have HE0 := Lib.hid h0
    clear h0
    gi_wp2
    clear x0_0 x0_1 l0_ x1_0 z1_0 x1_1 z1_1 l1_
    have R1 := ret2 (HLay.out.blk 1 rfl) HLay.out.1 (by omega) (.int .i64 (0)) (.int .i64 (0))
    have y0 := R1.1.cell 0
    have y1 := R1.1.cell 1
    have hV : walkV t u l = (0, 0, 0, ea) := by unfold walkV; rw [if_neg (by rw [HEA.out]; exact HE0.out), HEA.out]
    exact bodyPost_ret (v := .tuple #[.int .i64 0, .agg #[.int .i64 (0), .int .i64 (0)], .int .i64 ea]) (by simp [results, Tryd.results40, go_sem, y0, y1]) rfl ⟨by rw [hV], R1.2⟩

theorem rwalk_any (A : Option Addr) (n c : Nat) (A' : Option Addr) (m d : Nat) (t : Town) (u : Int) (A2 : Option Addr) (k2 c2 : Nat) (l : List Int) (w : World)
    (hn : n ≤ 1000) (hm : m ≤ 1000) (hk2 : k2 ≤ 1000) (ht : TownAt w w.heap.size A n A' m t) (hr : IntsAt w w.heap.size A2 k2 l) :
    Calls Tryd.prog 40 #[.agg #[.slice A n c, .slice A' m d], .int .i64 u, .slice A2 k2 c2] w (WalkOut w (walkV t u l)) :=
  callsIn_wide.1 (rwalk_in A n c A' m d t u A2 k2 c2 l w hn hm hk2 ht hr)
end Go.Proofs.YtahkjagjcogeiaaDoor
/- The answer's Check. -/
namespace Go.Proofs.YtahkjagjcogeiaaDoor
open Go.RowKit
set_option linter.unusedVariables false

set_option maxRecDepth 100000 in
set_option maxHeartbeats 2000000 in
theorem rcheck_any (A : Option Addr) (n c : Nat) (A' : Option Addr) (m d : Nat) (t : Town) (w : World) (hn : n ≤ 1000) (hm : m ≤ 1000) (ht : TownAt w w.heap.size A n A' m t) :
    Calls Tryd.prog 42 #[.agg #[.slice A n c, .slice A' m d]] w fun e w' => e = .returned (.int .i64 (chk t)) ∧ Below w.heap.size w w' := by
  go_enter Tryd.func42, Tryd.ntmps42
  go_wp2_with fail
  have hb0 := (Below.refl w.heap.size w).alloc (Nat.le_refl _) (.cells #[.slice A n c, .slice A' m d] 25)
  generalize (w.alloc (.cells #[.slice A n c, .slice A' m d] 25)) = w0 at *
  refine (rtown_any A n c A' m d t w0 hn hm ((ht.below hb0).more hb0.size)).mono ?_
  rintro e w1 ⟨rfl, hb⟩
  have hb1 : Below w.heap.size w w1 := hb0.trans (hb.mono hb0.size)
  cases ht : townB t with
  | true =>
    have hc : chk t = 0 := by unfold chk; rw [ht]; rfl
    clear ht
    go_wp2_with fail
    go_ret
    rw [hc]
    exact ⟨rfl, hb1⟩
  | false =>
    have hc : chk t = 30 := by unfold chk; rw [ht]; rfl
    clear ht
    go_wp2_with fail
    go_ret
    rw [hc]
    exact ⟨rfl, hb1⟩
end Go.Proofs.YtahkjagjcogeiaaDoor
/- climb.Toil: the toil of the way. -/
namespace Go.Proofs.YtahkjagjcogeiaaDoor
open Go.RowKit Go.Shelf
set_option linter.unusedVariables false

set_option maxRecDepth 100000 in
set_option maxHeartbeats 16000000 in
theorem toilw_in (A : Option Addr) (n c : Nat) (A' : Option Addr) (m d : Nat) (t : Town) (u v : Int) (dk : Bool) (w : World)
    (hn : n ≤ 1000) (hm : m ≤ 1000) (ht : TownAt w w.heap.size A n A' m t) (hL : Laid w) :
    CallsIn Fence.wide 9 Tryd.prog 35 #[.agg #[.slice A n c, .slice A' m d], .int .i64 u, .int .i64 v, .bool dk] w (ToilOut w (wayT t u v dk) (wayE t u v dk)) := by
  have HT := Lib.hid ht
  have HL := Lib.hid hL
  have hl0 := hL.2.2.2
  clear ht hL
  refine callsIn_of_wp Tryd.func35 rfl trivial ?_ rfl
  simp only [Tryd.ntmps35, List.size_toArray, List.length_cons, List.length_nil, Nat.reduceAdd, Nat.reduceSub, Array.replicate_succ, Array.replicate_zero, List.push_toArray, List.append_toArray, List.nil_append, List.cons_append]
  gi_wp2
  have HLay := Lib.hid (Lay.two w 25 #[.slice A n c, .slice A' m d] 59 #[.int .i64 0, .int .i64 0])
  generalize ((w.alloc (.cells #[.slice A n c, .slice A' m d] 25)).alloc (.cells #[.int .i64 0, .int .i64 0] 59)) = w0 at *
  refine ⟨trivial, (callsIn_wide.2 (way_any A n c A' m d t u v dk w0 hn hm ((HT.out.below HLay.out.1).more HLay.out.1.size) (HL.out.below HLay.out.1 hl0))).mono ?_⟩
  rintro e W1 ⟨to, co, AW, nW, cW, rfl, hno, hq, hty, hb⟩
  replace HLay := Lib.hid (HLay.out.below hb)
  clear hb
  have hT : wayT t u v dk = (co.b, co.c) := by
    unfold wayT
    cases hr : wayR t u v dk with
    | none => obtain ⟨_, rfl, _⟩ := hno hr; rfl
    | some q => rw [(hq q hr).1]
  have HWT := Lib.hid hT
  clear hty hno hq hT
  gi_wp2
  have hb : Below W1.heap.size W1 (W1.alloc (.cells #[.int .i64 to, .int .i64 co.a, .int .i64 co.b, .int .i64 co.c, .int .i64 co.d, .slice AW nW cW] 111)) := (Below.refl _ _).alloc (Nat.le_refl _) _
  have hnew := Blk.new W1 111 #[.int .i64 to, .int .i64 co.a, .int .i64 co.b, .int .i64 co.c, .int .i64 co.d, .slice AW nW cW]
  have hge := HLay.out.bel.size
  replace HLay := Lib.hid (HLay.out.below hb)
  replace HLay := Lib.hid (HLay.out.add hge hnew)
  clear hnew hge hb
  obtain ⟨G3, hG⟩ : ∃ g, W1.heap.size = g := ⟨_, rfl⟩
  rw [hG] at HLay ⊢
  generalize (W1.alloc (.cells #[.int .i64 to, .int .i64 co.a, .int .i64 co.b, .int .i64 co.c, .int .i64 co.d, .slice AW nW cW] 111)) = V2 at *
  clear hG
  replace HLay := Lib.hid (show Lay w V2 [(w.heap.size, 25, #[.slice A n c, .slice A' m d]), (w.heap.size + 1, 59, #[.int .i64 0, .int .i64 0]), (G3, 111, #[.int .i64 to, .int .i64 co.a, .int .i64 co.b, .int .i64 co.c, .int .i64 co.d, .slice AW nW cW])] from HLay.out)
  refine ⟨trivial, (callsIn_wide.2 (toil_any co V2)).mono ?_⟩
  rintro e W4 ⟨rfl, hb⟩
  replace HLay := Lib.hid (HLay.out.below hb)
  clear hb
  have x1_0 := (HLay.out.blk 1 rfl).cell 0
  have z1_0 := (HLay.out.blk 1 rfl).frozen 0
  have x1_1 := (HLay.out.blk 1 rfl).cell 1
  have z1_1 := (HLay.out.blk 1 rfl).frozen 1
  have l1_ := HLay.out.lt 1 rfl
  gi_wp2
  have R1 := ret2 (HLay.out.blk 1 rfl) HLay.out.1 (by omega) (.int .i64 (co.b)) (.int .i64 (co.c))
  have y0 := R1.1.cell 0
  have y1 := R1.1.cell 1
  exact bodyPost_ret (v := .tuple #[.agg #[.int .i64 (co.b), .int .i64 (co.c)], .int .i64 (wayE t u v dk)]) (by simp [results, Tryd.results35, go_sem, y0, y1]) rfl ⟨by rw [HWT.out], R1.2⟩

theorem toilw_any (A : Option Addr) (n c : Nat) (A' : Option Addr) (m d : Nat) (t : Town) (u v : Int) (dk : Bool) (w : World)
    (hn : n ≤ 1000) (hm : m ≤ 1000) (ht : TownAt w w.heap.size A n A' m t) (hL : Laid w) :
    Calls Tryd.prog 35 #[.agg #[.slice A n c, .slice A' m d], .int .i64 u, .int .i64 v, .bool dk] w (ToilOut w (wayT t u v dk) (wayE t u v dk)) :=
  callsIn_wide.1 (toilw_in A n c A' m d t u v dk w hn hm ht hL)
end Go.Proofs.YtahkjagjcogeiaaDoor
/- The answer's SameInts, Same, Great. -/
namespace Go.Proofs.YtahkjagjcogeiaaDoor
open Go.RowKit
set_option linter.unusedVariables false

def sameI (a b : List Int) : Bool := decide (a = b)
theorem sameI_len {a b : List Int} (h : a.length ≠ b.length) : sameI a b = false := by unfold sameI; simp; intro e; exact h (by rw [e])
theorem sameI_ne {a b : List Int} {k : Nat} {x y : Int} (hx : a[k]? = some x) (hy : b[k]? = some y) (h : x ≠ y) : sameI a b = false := by
  unfold sameI; simp; intro e; subst e; rw [hx] at hy; cases hy; exact h rfl
theorem sameI_eq {a b : List Int} (hl : a.length = b.length) (h : ∀ (k : Nat) x y, k < a.length → a[k]? = some x → b[k]? = some y → x = y) : sameI a b = true := by
  unfold sameI; simp
  apply List.ext_getElem?
  intro k
  by_cases hk : k < a.length
  · have h1 : a[k]? = some a[k] := List.getElem?_eq_getElem hk
    have h2 : b[k]? = some (b[k]'(by omega)) := List.getElem?_eq_getElem _
    rw [h1, h2, h k _ _ hk h1 h2]
  · rw [List.getElem?_eq_none (by omega), List.getElem?_eq_none (by omega)]

set_option maxRecDepth 100000 in
set_option maxHeartbeats 2000000 in
theorem sameInts_any (A : Option Addr) (n c : Nat) (a : List Int) (B : Option Addr) (m d : Nat) (b : List Int) (w : World) (hn : n ≤ maxLen) (hm : m ≤ maxLen) (ha : IntsAt w w.heap.size A n a) (hb : IntsAt w w.heap.size B m b) :
    Calls Tryd.prog 15 #[.slice A n c, .slice B m d] w fun e w' => e = .returned (.bool (sameI a b)) ∧ Below w.heap.size w w' := by
  unfold maxLen at hn hm
  have HA := Lib.hid ha.len
  have HB := Lib.hid hb.len
  by_cases hnm : n = m
  · subst hnm
    have hnn : ((n : Int) == (n : Int)) = true := by simp
    go_enter Tryd.func15, Tryd.ntmps15
    go_wp2_with fail
    go_loopw [5] (fun i wr => ∃ k : Nat, k ≤ n ∧ i = .int .i64 k ∧ (∀ (j : Nat) x y, j < k → a[j]? = some x → b[j]? = some y → x = y) ∧ Below w.heap.size w wr)
      (fun i _ => n - (intOf i).toNat)
    case atStart => exact ⟨0, by omega, rfl, fun _ _ _ h => absurd h (by omega), Below.refl _ _⟩
    case round =>
      obtain ⟨k, hk, rfl, hall, hbel⟩ := hrel
      have HAll := Lib.hid hall
      clear hall
      by_cases hlt : k < n
      · obtain ⟨b1, o1, x, rfl, hb1, hx, cx⟩ := (ha.below hbel).cell hlt
        obtain ⟨b2, o2, y, rfl, hb2, hy, cy⟩ := (hb.below hbel).cell hlt
        have HX := Lib.hid hx
        have HY := Lib.hid hy
        have kI : (k : Int) < (n : Int) := by omega
        have k0 : (0 : Int) ≤ (k : Int) := by omega
        clear hx hy
        by_cases hxy : x = y
        · have hxy' : (x == y) = true := by simpa using hxy
          have HXY := Lib.hid hxy
          clear hxy
          go_wp2_with fail
          go_quiet (fail)
          go_wp2_with fail
          go_roundw
          case rel => exact ⟨k + 1, by omega, by go_num, fun j u v hj hu hv => by
            rcases Nat.lt_or_ge j k with h | h
            · exact HAll.out j u v h hu hv
            · obtain rfl : j = k := by omega
              rw [HX.out] at hu; rw [HY.out] at hv
              cases hu; cases hv; exact HXY.out, below_drewN hbel _⟩
          case measure => simp [intOf]; omega
        · have hxy' : (x == y) = false := by simpa using hxy
          have HXY := Lib.hid hxy
          clear hxy
          go_wp2_with fail
          go_quiet (fail)
          go_wp2_with fail
          go_ret
          exact ⟨ret_bool (sameI_ne HX.out HY.out HXY.out).symm, below_drewN hbel _⟩
      · go_wp2_with fail
        go_ret
        exact ⟨ret_bool (sameI_eq (by rw [HA.out, HB.out]) (fun j x y hj hx hy => HAll.out j x y (by have := HA.out; omega) hx hy)).symm, hbel⟩
  · have hnn : ((n : Int) == (m : Int)) = false := by simp; omega
    have HF : Hid (sameI a b = false) := sameI_len (by rw [HA.out, HB.out]; exact hnm)
    go_enter Tryd.func15, Tryd.ntmps15
    go_wp2_with fail
    go_ret
    exact ⟨ret_bool HF.out.symm, Below.refl _ _⟩

def eqK (x y : Link) : Bool := x.id == y.id && x.fr == y.fr && x.to == y.to && x.steps == y.steps && x.paces == y.paces
theorem eqK_iff {x y : Link} : eqK x y = true ↔ x = y := by
  obtain ⟨a1, a2, a3, a4, a5⟩ := x
  obtain ⟨b1, b2, b3, b4, b5⟩ := y
  unfold eqK
  simp
  constructor
  · rintro ⟨⟨⟨⟨h1, h2⟩, h3⟩, h4⟩, h5⟩; exact ⟨h1, h2, h3, h4, h5⟩
  · rintro ⟨h1, h2, h3, h4, h5⟩; exact ⟨⟨⟨⟨h1, h2⟩, h3⟩, h4⟩, h5⟩
theorem eqi_run' (d : Nat) (a b : Int) (w : World) : (Op.equalIn (d+1) 3 (.int .i64 a) (.int .i64 b)).run Tryd.prog w = .ok (a == b) w := by
  simp [Op.equalIn, run_underlying Tryd.underlying3]
theorem eqK_run (a1 a2 a3 a4 a5 b1 b2 b3 b4 b5 : Int) (w : World) : (Op.equalIn 10000 45 (.agg #[.int .i64 a1, .int .i64 a2, .int .i64 a3, .int .i64 a4, .int .i64 a5]) (.agg #[.int .i64 b1, .int .i64 b2, .int .i64 b3, .int .i64 b4, .int .i64 b5])).run Tryd.prog w = .ok (eqK ⟨a1, a2, a3, a4, a5⟩ ⟨b1, b2, b3, b4, b5⟩) w := by
  rw [Op.equalIn]
  simp [go_sem, run_underlying Tryd.underlying45, eqi_run', Std.Legacy.Range.forIn_eq_forIn_range', part, eqK]
  by_cases h1 : a1 = b1 <;> by_cases h2 : a2 = b2 <;> by_cases h3 : a3 = b3 <;> by_cases h4 : a4 = b4 <;> by_cases h5 : a5 = b5 <;> simp [h1, h2, h3, h4, h5]

def sameT (t u : Town) : Bool := decide (t = u)
theorem sameT_places {t u : Town} (h : sameI t.places u.places = false) : sameT t u = false := by
  unfold sameT; unfold sameI at h; simp at h ⊢; intro e; subst e; exact h rfl
theorem sameT_len {t u : Town} (h : t.links.length ≠ u.links.length) : sameT t u = false := by
  unfold sameT; simp; intro e; subst e; exact h rfl
theorem sameT_ne {t u : Town} {k : Nat} {x y : Link} (hx : t.links[k]? = some x) (hy : u.links[k]? = some y) (h : x ≠ y) : sameT t u = false := by
  unfold sameT; simp; intro e; subst e; rw [hx] at hy; cases hy; exact h rfl
theorem sameT_eq {t u : Town} (hp : sameI t.places u.places = true) (hl : t.links.length = u.links.length) (h : ∀ (k : Nat) x y, k < t.links.length → t.links[k]? = some x → u.links[k]? = some y → x = y) : sameT t u = true := by
  obtain ⟨tp, tl⟩ := t
  obtain ⟨up, ul⟩ := u
  unfold sameI at hp
  simp only [decide_eq_true_eq] at hp hl h
  unfold sameT; simp
  refine ⟨hp, List.ext_getElem? fun k => ?_⟩
  by_cases hk : k < tl.length
  · have h1 : tl[k]? = some tl[k] := List.getElem?_eq_getElem hk
    have h2 : ul[k]? = some (ul[k]'(by omega)) := List.getElem?_eq_getElem _
    rw [h1, h2, h k _ _ hk h1 h2]
  · rw [List.getElem?_eq_none (by omega), List.getElem?_eq_none (by omega)]

set_option maxRecDepth 100000 in
set_option maxHeartbeats 4000000 in
theorem same_any (A : Option Addr) (n c : Nat) (A' : Option Addr) (m d : Nat) (t : Town) (C : Option Addr) (p q : Nat) (C' : Option Addr) (r s : Nat) (u : Town) (w : World) (hn : n ≤ maxLen) (hm : m ≤ maxLen) (hp : p ≤ maxLen) (hr : r ≤ maxLen) (ht : TownAt w w.heap.size A n A' m t) (hu : TownAt w w.heap.size C p C' r u) :
    Calls Tryd.prog 16 #[.agg #[.slice A n c, .slice A' m d], .agg #[.slice C p q, .slice C' r s]] w fun e w' => e = .returned (.bool (sameT t u)) ∧ Below w.heap.size w w' := by
  have HT := Lib.hid ht
  have HU := Lib.hid hu
  have HA := Lib.hid ht.links.len
  have HB := Lib.hid hu.links.len
  have HM := Lib.hid hm
  have HR := Lib.hid hr
  clear ht hu
  go_enter Tryd.func16, Tryd.ntmps16
  go_wp2_with fail
  have X0 := (Blk.new w 25 #[.slice A n c, .slice A' m d]).alloc (.cells #[.slice C p q, .slice C' r s] 25)
  have Y0 := Blk.new (w.alloc (.cells #[.slice A n c, .slice A' m d] 25)) 25 #[.slice C p q, .slice C' r s]
  have B0 : Below w.heap.size w ((w.alloc (.cells #[.slice A n c, .slice A' m d] 25)).alloc (.cells #[.slice C p q, .slice C' r s] 25)) := ((Below.refl _ _).alloc (Nat.le_refl _) _).alloc (by simp) _
  rw [World.size_alloc] at Y0
  generalize ((w.alloc (.cells #[.slice A n c, .slice A' m d] 25)).alloc (.cells #[.slice C p q, .slice C' r s] 25)) = w0 at *
  with_reducible refine (sameInts_any A n c t.places C p q u.places w0 hn hp ((HT.out.places.below B0).more B0.size) ((HU.out.places.below B0).more B0.size)).mono ?_
  rintro e w1 ⟨rfl, hb1⟩
  replace X0 := X0.below hb1 X0.lt
  replace Y0 := Y0.below hb1 Y0.lt
  replace B0 := B0.trans (hb1.mono B0.size)
  have x0 := X0.cell 0
  have x1 := X0.cell 1
  have y0 := Y0.cell 0
  have y1 := Y0.cell 1
  clear hb1
  cases hs : sameI t.places u.places with
  | false =>
    have HF := Lib.hid (sameT_places hs)
    clear hs
    go_wp2_with fail
    go_ret
    exact ⟨ret_bool HF.out.symm, B0⟩
  | true =>
  have HS := Lib.hid hs
  clear hs
  by_cases hmr : m = r
  · subst hmr
    have hnn : ((m : Int) == (m : Int)) = true := by simp
    have hrun := eqK_run
    unfold maxLen at hm
    clear x0 x1 y0 y1
    have x1 := X0.cell 1
    have y1 := Y0.cell 1
    go_wp2_with fail
    go_loopw [5] (fun i wr => ∃ k : Nat, k ≤ m ∧ i = .int .i64 k ∧ (∀ (j : Nat) x y, j < k → t.links[j]? = some x → u.links[j]? = some y → x = y) ∧ Below w1.heap.size w1 wr)
      (fun i _ => m - (intOf i).toNat)
    case atStart => exact ⟨0, by omega, rfl, fun _ _ _ h => absurd h (by omega), Below.refl _ _⟩
    case round =>
      obtain ⟨k, hk, rfl, hall, hbel⟩ := hrel
      have HAll := Lib.hid hall
      clear hall x1 y1
      have x1 := (X0.below hbel X0.lt).cell 1
      have y1 := (Y0.below hbel Y0.lt).cell 1
      have BR := B0.trans (hbel.mono B0.size)
      by_cases hlt : k < m
      · obtain ⟨b1, o1, x, rfl, hb1, hx, cx0, cx1, cx2, cx3, cx4⟩ := (HT.out.links.below BR).cell hlt
        obtain ⟨b2, o2, y, rfl, hb2, hy, cy0, cy1, cy2, cy3, cy4⟩ := (HU.out.links.below BR).cell hlt
        have HX := Lib.hid hx
        have HY := Lib.hid hy
        have kI : (k : Int) < (m : Int) := by omega
        have k0 : (0 : Int) ≤ (k : Int) := by omega
        clear hx hy
        cases hxy : eqK ⟨x.id, x.fr, x.to, x.steps, x.paces⟩ ⟨y.id, y.fr, y.to, y.steps, y.paces⟩ with
        | true =>
          have HXY : Hid (x = y) := eqK_iff.1 hxy
          go_wp2_with fail
          go_quiet (fail)
          go_wp2_with fail
          go_roundw
          case rel => exact ⟨k + 1, by omega, by go_num, fun j u' v hj hu hv => by
            rcases Nat.lt_or_ge j k with h | h
            · exact HAll.out j u' v h hu hv
            · obtain rfl : j = k := by omega
              rw [HX.out] at hu; rw [HY.out] at hv
              cases hu; cases hv; exact HXY.out, below_drewN hbel _⟩
          case measure => simp [intOf]; omega
        | false =>
          have HXY : Hid (x ≠ y) := fun e => by
            have h1 : eqK x y = false := hxy
            rw [eqK_iff.2 e] at h1; cases h1
          go_wp2_with fail
          go_quiet (fail)
          go_wp2_with fail
          go_ret
          exact ⟨ret_bool (sameT_ne HX.out HY.out HXY.out).symm, below_drewN BR _⟩
      · go_wp2_with fail
        go_ret
        exact ⟨ret_bool (sameT_eq HS.out (by rw [HA.out, HB.out]) (fun j x y hj hx hy => HAll.out j x y (by have := HA.out; omega) hx hy)).symm, BR⟩
  · have hnn : ((m : Int) == (r : Int)) = false := by simp; omega
    have HF : Hid (sameT t u = false) := sameT_len (by rw [HA.out, HB.out]; exact hmr)
    go_wp2_with fail
    go_ret
    exact ⟨ret_bool HF.out.symm, B0⟩

def greatB (n m : Nat) : Bool := decide (20 < n) || decide (40 < m)
set_option maxHeartbeats 1000000 in
theorem great_any (A : Option Addr) (n c : Nat) (A' : Option Addr) (m d : Nat) (w : World) :
    Calls Tryd.prog 9 #[.agg #[.slice A n c, .slice A' m d]] w fun e w' => e = .returned (.bool (greatB n m)) ∧ Below w.heap.size w w' := by
  by_cases h1 : 20 < n
  · have HG : Hid (greatB n m = true) := by show _ = _; unfold greatB; simp [h1]
    have h1' : (20 : Int) < (n : Int) := by omega
    clear h1
    go_enter Tryd.func9, Tryd.ntmps9
    go_wp2_with fail
    go_ret
    exact ⟨ret_bool HG.out.symm, (Below.refl _ _).alloc (Nat.le_refl _) _⟩
  · have h1' : decide ((20 : Int) < (n : Int)) = false := by simp; omega
    by_cases h2 : 40 < m
    · have HG : Hid (greatB n m = true) := by show _ = _; unfold greatB; simp [h2]
      have h2' : (40 : Int) < (m : Int) := by omega
      clear h1 h2
      go_enter Tryd.func9, Tryd.ntmps9
      go_wp2_with fail
      go_ret
      exact ⟨ret_bool HG.out.symm, (Below.refl _ _).alloc (Nat.le_refl _) _⟩
    · have HG : Hid (greatB n m = false) := by show _ = _; unfold greatB; simp [h1, h2]
      have h2' : ¬ (40 : Int) < (m : Int) := by omega
      clear h1 h2
      go_enter Tryd.func9, Tryd.ntmps9
      go_wp2_with fail
      go_ret
      exact ⟨ret_bool HG.out.symm, (Below.refl _ _).alloc (Nat.le_refl _) _⟩
end Go.Proofs.YtahkjagjcogeiaaDoor
/- Spans and toils compared. -/
namespace Go.Proofs.YtahkjagjcogeiaaDoor
open Go.RowKit
set_option linter.unusedVariables false
theorem sameT_refl' (t : Town) : sameT t t = true := by simp [sameT]
theorem sameI_refl' (l : List Int) : sameI l l = true := by simp [sameI]
theorem eqSpan_run (a1 a2 b1 b2 : Int) (w : World) : (Op.equalIn 10000 27 (.agg #[.int .i64 a1, .int .i64 a2]) (.agg #[.int .i64 b1, .int .i64 b2])).run Tryd.prog w = .ok (a1 == b1 && a2 == b2) w := by
  rw [Op.equalIn]
  simp [go_sem, run_underlying Tryd.underlying27, eqi_run', Std.Legacy.Range.forIn_eq_forIn_range', part]
  by_cases h1 : a1 = b1 <;> by_cases h2 : a2 = b2 <;> simp [h1, h2]
theorem eqSpan_same (a b : Int) (w : World) : (Op.equalIn 10000 27 (.agg #[.int .i64 a, .int .i64 b]) (.agg #[.int .i64 a, .int .i64 b])).run Tryd.prog w = .ok true w := by
  rw [eqSpan_run]; simp
theorem eqToil_run (a1 a2 b1 b2 : Int) (w : World) : (Op.equalIn 10000 59 (.agg #[.int .i64 a1, .int .i64 a2]) (.agg #[.int .i64 b1, .int .i64 b2])).run Tryd.prog w = .ok (a1 == b1 && a2 == b2) w := by
  rw [Op.equalIn]
  simp [go_sem, run_underlying Tryd.underlying59, eqi_run', Std.Legacy.Range.forIn_eq_forIn_range', part]
  by_cases h1 : a1 = b1 <;> by_cases h2 : a2 = b2 <;> simp [h1, h2]
theorem eqToil_same (a b : Int) (w : World) : (Op.equalIn 10000 59 (.agg #[.int .i64 a, .int .i64 b]) (.agg #[.int .i64 a, .int .i64 b])).run Tryd.prog w = .ok true w := by
  rw [eqToil_run]; simp
end Go.Proofs.YtahkjagjcogeiaaDoor
/- The law ClimbWays, walked. -/
namespace Go.Proofs.YtahkjagjcogeiaaDoor
open Go.RowKit Go.Shelf
set_option linter.unusedVariables false

theorem wayL_len (t : Town) (u v : Int) (dk : Bool) : (wayL t u v dk).length ≤ 9 := by
  unfold wayL wayR
  by_cases h : askE t [u, v] = 0
  · rw [if_pos h]
    cases hb : best t dk freeP u v with
    | none => simp
    | some q => exact best_len (goodT (askE_zero h).1).fine freeP_fair (c := q.1) (l := q.2) hb
  · rw [if_neg h]
    simp
theorem reachR_len (t : Town) (u : Int) (dk : Bool) : (reachR t u dk).length ≤ 9 := by
  unfold reachR
  by_cases h : askE t [u] = 0
  · rw [if_pos h]
    exact Nat.le_trans (List.length_filter_le _ _) (goodT (askE_zero h).1).fine.size
  · rw [if_neg h]
    simp

set_option maxRecDepth 100000 in
set_option maxHeartbeats 16000000 in
theorem ways_walk_in (A : Option Addr) (n c : Nat) (A' : Option Addr) (m d : Nat) (t : Town) (u v : Int) (dk : Bool) (A2 : Option Addr) (k2 c2 : Nat) (l : List Int) (w : World) (hn : n ≤ maxLen) (hm : m ≤ maxLen) (hk : k2 ≤ maxLen) (ht : TownAt w w.heap.size A n A' m t) (hr : IntsAt w w.heap.size A2 k2 l) (hL : Laid w) :
    CallsIn Fence.wide 9 Tryd.prog 7 #[.agg #[.slice A n c, .slice A' m d], .int .i64 u, .int .i64 v, .bool dk, .slice A2 k2 c2] w fun e w' => e = .returned (.bool true) ∧ Below w.heap.size w w' := by
  have HT := Lib.hid ht
  have HL := Lib.hid hL
  have hl0 := hL.2.2.2
  have HLn := Lib.hid ht.places.len
  have HLm := Lib.hid ht.links.len
  clear ht hL
  unfold maxLen at hn hm
  have HR := Lib.hid hr
  have HLk := Lib.hid hr.len
  clear hr
  unfold maxLen at hk
  refine callsIn_of_wp Tryd.func7 rfl trivial ?_ rfl
  simp only [Tryd.ntmps7, List.size_toArray, List.length_cons, List.length_nil, Nat.reduceAdd, Nat.reduceSub, Array.replicate_succ, Array.replicate_zero, List.push_toArray, List.append_toArray, List.nil_append, List.cons_append]
  gi_wp2
  have HLay := Lib.hid (Lay.one w 25 #[.slice A n c, .slice A' m d])
  generalize (w.alloc (.cells #[.slice A n c, .slice A' m d] 25)) = w0 at *
  refine ⟨trivial, (callsIn_wide.2 (great_any A n c A' m d w0)).mono ?_⟩
  rintro e W1 ⟨rfl, hb⟩
  replace HLay := Lib.hid (HLay.out.below hb)
  clear hb
  cases hgr : greatB n m with
  | true =>
    clear hgr
    gi_wp2
    exact bodyPost_ret (v := .bool true) (by simp [results, Tryd.results7, go_sem]) rfl ⟨rfl, HLay.out.bel⟩
  | false =>
  have hsz : n ≤ 20 ∧ m ≤ 40 := by unfold greatB at hgr; simp at hgr; omega
  clear hgr
  obtain ⟨hn20, hm40⟩ := hsz
  by_cases hk60 : (60 : Int) < (k2 : Int)
  · gi_wp2
    exact bodyPost_ret (v := .bool true) (by simp [results, Tryd.results7, go_sem]) rfl ⟨rfl, HLay.out.bel⟩
  have hk60' : k2 ≤ 60 := by omega
  have hk60d : decide ((60 : Int) < (k2 : Int)) = false := by simp; omega
  clear hk60
  have hk1 : k2 ≤ 1000 := by omega
  have hn1 : n ≤ 1000 := by omega
  have hm1 : m ≤ 1000 := by omega
  have x0_0 := (HLay.out.blk 0 rfl).cell 0
  have x0_1 := (HLay.out.blk 0 rfl).cell 1
  have l0_ := HLay.out.lt 0 rfl
  gi_wp2
  clear x0_0 x0_1 l0_
  have HLW := Lib.hid (HLay.out.bel.size)
  refine ⟨trivial, (callsIn_wide.2 (twin_any A n c A' m d t W1 hn1 hm1 ((HT.out.below HLay.out.bel).more HLay.out.bel.size))).mono ?_⟩
  rintro e W2 ⟨A1, c1, A1', c1', rfl, hO1, hO2, _, hb⟩
  replace HLay := Lib.hid (HLay.out.below hb)
  clear hb
  have HO1 := Lib.hid (hO1.mono (HLW.out))
  have HO2 := Lib.hid (hO2.mono (HLW.out))
  rw [HLn.out] at HO1
  rw [HLm.out] at HO2
  rw [HLn.out, HLm.out]
  clear hO1 hO2 HLW
  have HE : Hid (Own (W2.alloc (.cells #[] 3)) w.heap.size 3 1 (some ⟨W2.heap.size, 0, none⟩) 0 0 []) := Own.mk_ HLay.out.bel.size (Blk.new W2 _ _) (Nat.le_refl _) (Nat.zero_le _) rfl rfl (fun k hk => by omega)
  have HI : Hid (IntsAt (W2.alloc (.cells #[] 3)) (W2.alloc (.cells #[] 3)).heap.size A2 k2 l) := (HR.out.below (HLay.out.bel.alloc HLay.out.bel.size _)).more (HLay.out.bel.alloc HLay.out.bel.size _).size
  have HSZ : Hid (w.heap.size ≤ (W2.alloc (.cells #[] 3)).heap.size) := Lib.hid (by rw [World.size_alloc]; have := HLay.out.bel.size; omega)
  gi_wp2_with (first | (gi_at_builtin; refine wpListIn_append_any rfl (.tmp 40) (.tmp 41) (by rfl) elem_int rfl HE.out rfl HI.out (ints_one _) (by unfold maxLen; omega) (by omega) HSZ.out ?_) | fail)
  rintro A3 c3 W3 hown hg hA
  have HMi : Hid (Own W3 w.heap.size 3 1 A3 k2 c3 (l.map (Value.int .i64))) := Lib.hid (by
    have h := hown
    simpa using h)
  have hg' : W2.grownBy W3 (some W2.heap.size) := grown_trans (grown_of_below ((Below.refl W2.heap.size W2).alloc (Nat.le_refl _) (.cells #[] 3)) _) hg
  have hb : Below W2.heap.size W2 W3 := below_of_grown hg' (fun k hk => by cases hk; exact Nat.le_refl _) (Nat.le_refl _)
  replace HLay := Lib.hid (HLay.out.below hb)
  replace HO1 := Lib.hid (HO1.out.below hb (Nat.le_refl _))
  replace HO2 := Lib.hid (HO2.out.below hb (Nat.le_refl _))
  clear hown hg hg' hb HE HI HSZ hA
  have x0_0 := (HLay.out.blk 0 rfl).cell 0
  have x0_1 := (HLay.out.blk 0 rfl).cell 1
  have l0_ := HLay.out.lt 0 rfl
  gi_wp2
  clear x0_0 x0_1 l0_
  have hb : Below W3.heap.size W3 (W3.alloc (.cells #[.slice A1 n c1, .slice A1' m c1'] 25)) := (Below.refl _ _).alloc (Nat.le_refl _) _
  have hnew := Blk.new W3 25 #[.slice A1 n c1, .slice A1' m c1']
  have hge := HLay.out.bel.size
  replace HLay := Lib.hid (HLay.out.below hb)
  replace HO1 := Lib.hid (HO1.out.below hb (Nat.le_refl _))
  replace HO2 := Lib.hid (HO2.out.below hb (Nat.le_refl _))
  replace HMi := Lib.hid (HMi.out.below hb (Nat.le_refl _))
  replace HLay := Lib.hid (HLay.out.add hge hnew)
  clear hnew hge hb
  obtain ⟨G5, hG⟩ : ∃ g, W3.heap.size = g := ⟨_, rfl⟩
  rw [hG] at HLay ⊢
  generalize (W3.alloc (.cells #[.slice A1 n c1, .slice A1' m c1'] 25)) = V4 at *
  clear hG
  replace HLay := Lib.hid (show Lay w V4 [(w.heap.size, 25, #[.slice A n c, .slice A' m d]), (G5, 25, #[.slice A1 n c1, .slice A1' m c1'])] from HLay.out)
  refine ⟨trivial, (callsIn_wide.2 (wayl_any A1 n c1 A1' m c1' t u v dk V4 hn1 hm1 ⟨ints_of_own HO1.out (Nat.le_refl _), links_of_own HO2.out (Nat.le_refl _)⟩ (HL.out.below HLay.out.bel hl0))).mono ?_⟩
  rintro e W6 ⟨AW, nW, cW, rfl, hi, hb⟩
  replace HLay := Lib.hid (HLay.out.below hb)
  replace HO1 := Lib.hid (HO1.out.below hb (Nat.le_refl _))
  replace HO2 := Lib.hid (HO2.out.below hb (Nat.le_refl _))
  replace HMi := Lib.hid (HMi.out.below hb (Nat.le_refl _))
  clear hb
  have hlen := wayL_len t u v dk
  obtain ⟨l1, hl1⟩ : ∃ y, wayL t u v dk = y := ⟨_, rfl⟩
  rw [hl1] at hi hlen
  have Hl1 := Lib.hid hl1
  clear hl1
  obtain ⟨e1, he1⟩ : ∃ y, wayE t u v dk = y := ⟨_, rfl⟩
  rw [he1]
  have He1 := Lib.hid he1
  clear he1
  have HW := Lib.hid hi
  clear hi
  have hnW : nW ≤ maxLen := by have := HW.out.len; unfold maxLen; omega
  have x0_0 := (HLay.out.blk 0 rfl).cell 0
  have x0_1 := (HLay.out.blk 0 rfl).cell 1
  have l0_ := HLay.out.lt 0 rfl
  have x1_0 := (HLay.out.blk 1 rfl).cell 0
  have x1_1 := (HLay.out.blk 1 rfl).cell 1
  have l1_ := HLay.out.lt 1 rfl
  gi_wp2
  clear x0_0 x0_1 l0_ x1_0 x1_1 l1_
  refine ⟨trivial, (callsIn_wide.2 (rwayl_any A n c A' m d t u v dk W6 hn1 hm1 ((HT.out.below HLay.out.bel).more HLay.out.bel.size))).mono ?_⟩
  rintro e W7 ⟨AX, nX, cX, rfl, hi, hb⟩
  replace HLay := Lib.hid (HLay.out.below hb)
  replace HO1 := Lib.hid (HO1.out.below hb (Nat.le_refl _))
  replace HO2 := Lib.hid (HO2.out.below hb (Nat.le_refl _))
  replace HMi := Lib.hid (HMi.out.below hb (Nat.le_refl _))
  replace HW := Lib.hid ((HW.out.below hb).more hb.size)
  clear hb
  rw [Hl1.out] at hi
  rw [He1.out]
  have HX := Lib.hid hi
  clear hi
  have hnX : nX ≤ maxLen := by have := HX.out.len; unfold maxLen; omega
  have x0_0 := (HLay.out.blk 0 rfl).cell 0
  have x0_1 := (HLay.out.blk 0 rfl).cell 1
  have l0_ := HLay.out.lt 0 rfl
  have x1_0 := (HLay.out.blk 1 rfl).cell 0
  have x1_1 := (HLay.out.blk 1 rfl).cell 1
  have l1_ := HLay.out.lt 1 rfl
  gi_wp2
  clear x0_0 x0_1 l0_ x1_0 x1_1 l1_
  refine ⟨trivial, (callsIn_wide.2 (toilw_any A1 n c1 A1' m c1' t u v dk W7 hn1 hm1 ⟨ints_of_own HO1.out (Nat.le_refl _), links_of_own HO2.out (Nat.le_refl _)⟩ (HL.out.below HLay.out.bel hl0))).mono ?_⟩
  rintro e W8 ⟨rfl, hb⟩
  replace HLay := Lib.hid (HLay.out.below hb)
  replace HO1 := Lib.hid (HO1.out.below hb (Nat.le_refl _))
  replace HO2 := Lib.hid (HO2.out.below hb (Nat.le_refl _))
  replace HMi := Lib.hid (HMi.out.below hb (Nat.le_refl _))
  replace HW := Lib.hid ((HW.out.below hb).more hb.size)
  replace HX := Lib.hid ((HX.out.below hb).more hb.size)
  clear hb
  rw [He1.out]
  obtain ⟨q1, hq1⟩ : ∃ y, wayT t u v dk = y := ⟨_, rfl⟩
  rw [hq1]
  have Hq1 := Lib.hid hq1
  clear hq1
  have x0_0 := (HLay.out.blk 0 rfl).cell 0
  have x0_1 := (HLay.out.blk 0 rfl).cell 1
  have l0_ := HLay.out.lt 0 rfl
  have x1_0 := (HLay.out.blk 1 rfl).cell 0
  have x1_1 := (HLay.out.blk 1 rfl).cell 1
  have l1_ := HLay.out.lt 1 rfl
  gi_wp2
  clear x0_0 x0_1 l0_ x1_0 x1_1 l1_
  have hb : Below W8.heap.size W8 (W8.alloc (.cells #[.int .i64 q1.1, .int .i64 q1.2] 59)) := (Below.refl _ _).alloc (Nat.le_refl _) _
  have hnew := Blk.new W8 59 #[.int .i64 q1.1, .int .i64 q1.2]
  have hge := HLay.out.bel.size
  replace HLay := Lib.hid (HLay.out.below hb)
  replace HO1 := Lib.hid (HO1.out.below hb (Nat.le_refl _))
  replace HO2 := Lib.hid (HO2.out.below hb (Nat.le_refl _))
  replace HMi := Lib.hid (HMi.out.below hb (Nat.le_refl _))
  replace HW := Lib.hid ((HW.out.below hb).more hb.size)
  replace HX := Lib.hid ((HX.out.below hb).more hb.size)
  replace HLay := Lib.hid (HLay.out.add hge hnew)
  clear hnew hge hb
  obtain ⟨G10, hG⟩ : ∃ g, W8.heap.size = g := ⟨_, rfl⟩
  rw [hG] at HLay ⊢
  generalize (W8.alloc (.cells #[.int .i64 q1.1, .int .i64 q1.2] 59)) = V9 at *
  clear hG
  replace HLay := Lib.hid (show Lay w V9 [(w.heap.size, 25, #[.slice A n c, .slice A' m d]), (G5, 25, #[.slice A1 n c1, .slice A1' m c1']), (G10, 59, #[.int .i64 q1.1, .int .i64 q1.2])] from HLay.out)
  refine ⟨trivial, (callsIn_wide.2 (rtoil_any A n c A' m d t u v dk V9 hn1 hm1 ((HT.out.below HLay.out.bel).more HLay.out.bel.size))).mono ?_⟩
  rintro e W11 ⟨rfl, hb⟩
  replace HLay := Lib.hid (HLay.out.below hb)
  replace HO1 := Lib.hid (HO1.out.below hb (Nat.le_refl _))
  replace HO2 := Lib.hid (HO2.out.below hb (Nat.le_refl _))
  replace HMi := Lib.hid (HMi.out.below hb (Nat.le_refl _))
  replace HW := Lib.hid ((HW.out.below hb).more hb.size)
  replace HX := Lib.hid ((HX.out.below hb).more hb.size)
  clear hb
  rw [He1.out, Hq1.out]
  have x0_0 := (HLay.out.blk 0 rfl).cell 0
  have x0_1 := (HLay.out.blk 0 rfl).cell 1
  have l0_ := HLay.out.lt 0 rfl
  have x1_0 := (HLay.out.blk 1 rfl).cell 0
  have x1_1 := (HLay.out.blk 1 rfl).cell 1
  have l1_ := HLay.out.lt 1 rfl
  gi_wp2
  clear x0_0 x0_1 l0_ x1_0 x1_1 l1_
  have hb : Below W11.heap.size W11 (W11.alloc (.cells #[.int .i64 q1.1, .int .i64 q1.2] 59)) := (Below.refl _ _).alloc (Nat.le_refl _) _
  have hnew := Blk.new W11 59 #[.int .i64 q1.1, .int .i64 q1.2]
  have hge := HLay.out.bel.size
  replace HLay := Lib.hid (HLay.out.below hb)
  replace HO1 := Lib.hid (HO1.out.below hb (Nat.le_refl _))
  replace HO2 := Lib.hid (HO2.out.below hb (Nat.le_refl _))
  replace HMi := Lib.hid (HMi.out.below hb (Nat.le_refl _))
  replace HW := Lib.hid ((HW.out.below hb).more hb.size)
  replace HX := Lib.hid ((HX.out.below hb).more hb.size)
  replace HLay := Lib.hid (HLay.out.add hge hnew)
  clear hnew hge hb
  obtain ⟨G13, hG⟩ : ∃ g, W11.heap.size = g := ⟨_, rfl⟩
  rw [hG] at HLay ⊢
  generalize (W11.alloc (.cells #[.int .i64 q1.1, .int .i64 q1.2] 59)) = V12 at *
  clear hG
  replace HLay := Lib.hid (show Lay w V12 [(w.heap.size, 25, #[.slice A n c, .slice A' m d]), (G5, 25, #[.slice A1 n c1, .slice A1' m c1']), (G10, 59, #[.int .i64 q1.1, .int .i64 q1.2]), (G13, 59, #[.int .i64 q1.1, .int .i64 q1.2])] from HLay.out)
  refine ⟨trivial, (callsIn_wide.2 (reach_any A1 n c1 A1' m c1' t u dk V12 hn1 hm1 ⟨ints_of_own HO1.out (Nat.le_refl _), links_of_own HO2.out (Nat.le_refl _)⟩ (HL.out.below HLay.out.bel hl0))).mono ?_⟩
  rintro e W14 ⟨AY, nY, cY, rfl, hi, hb⟩
  replace HLay := Lib.hid (HLay.out.below hb)
  replace HO1 := Lib.hid (HO1.out.below hb (Nat.le_refl _))
  replace HO2 := Lib.hid (HO2.out.below hb (Nat.le_refl _))
  replace HMi := Lib.hid (HMi.out.below hb (Nat.le_refl _))
  replace HW := Lib.hid ((HW.out.below hb).more hb.size)
  replace HX := Lib.hid ((HX.out.below hb).more hb.size)
  clear hb
  have hlen2 := reachR_len t u dk
  obtain ⟨l2, hl2⟩ : ∃ y, reachR t u dk = y := ⟨_, rfl⟩
  rw [hl2] at hi hlen2
  have Hl2 := Lib.hid hl2
  clear hl2
  obtain ⟨e2, he2⟩ : ∃ y, askE t [u] = y := ⟨_, rfl⟩
  rw [he2]
  have He2 := Lib.hid he2
  clear he2
  have HY := Lib.hid hi
  clear hi
  have hnY : nY ≤ maxLen := by have := HY.out.len; unfold maxLen; omega
  have x0_0 := (HLay.out.blk 0 rfl).cell 0
  have x0_1 := (HLay.out.blk 0 rfl).cell 1
  have l0_ := HLay.out.lt 0 rfl
  have x1_0 := (HLay.out.blk 1 rfl).cell 0
  have x1_1 := (HLay.out.blk 1 rfl).cell 1
  have l1_ := HLay.out.lt 1 rfl
  gi_wp2
  clear x0_0 x0_1 l0_ x1_0 x1_1 l1_
  refine ⟨trivial, (callsIn_wide.2 (rreach_any A n c A' m d t u dk W14 hn1 hm1 ((HT.out.below HLay.out.bel).more HLay.out.bel.size))).mono ?_⟩
  rintro e W15 ⟨AZ, nZ, cZ, rfl, hi, hb⟩
  replace HLay := Lib.hid (HLay.out.below hb)
  replace HO1 := Lib.hid (HO1.out.below hb (Nat.le_refl _))
  replace HO2 := Lib.hid (HO2.out.below hb (Nat.le_refl _))
  replace HMi := Lib.hid (HMi.out.below hb (Nat.le_refl _))
  replace HW := Lib.hid ((HW.out.below hb).more hb.size)
  replace HX := Lib.hid ((HX.out.below hb).more hb.size)
  replace HY := Lib.hid ((HY.out.below hb).more hb.size)
  clear hb
  rw [Hl2.out] at hi
  rw [He2.out]
  have HZ := Lib.hid hi
  clear hi
  have hnZ : nZ ≤ maxLen := by have := HZ.out.len; unfold maxLen; omega
  have x0_0 := (HLay.out.blk 0 rfl).cell 0
  have x0_1 := (HLay.out.blk 0 rfl).cell 1
  have l0_ := HLay.out.lt 0 rfl
  have x1_0 := (HLay.out.blk 1 rfl).cell 0
  have x1_1 := (HLay.out.blk 1 rfl).cell 1
  have l1_ := HLay.out.lt 1 rfl
  gi_wp2
  clear x0_0 x0_1 l0_ x1_0 x1_1 l1_
  refine ⟨trivial, (callsIn_wide.2 (walk_any A1 n c1 A1' m c1' t u A3 k2 c3 l W15 hn1 hm1 hk1 ⟨ints_of_own HO1.out (Nat.le_refl _), links_of_own HO2.out (Nat.le_refl _)⟩ (ints_of_own HMi.out (Nat.le_refl _)) (HL.out.below HLay.out.bel hl0))).mono ?_⟩
  rintro e W16 ⟨rfl, hb⟩
  replace HLay := Lib.hid (HLay.out.below hb)
  replace HO1 := Lib.hid (HO1.out.below hb (Nat.le_refl _))
  replace HO2 := Lib.hid (HO2.out.below hb (Nat.le_refl _))
  replace HMi := Lib.hid (HMi.out.below hb (Nat.le_refl _))
  replace HW := Lib.hid ((HW.out.below hb).more hb.size)
  replace HX := Lib.hid ((HX.out.below hb).more hb.size)
  replace HY := Lib.hid ((HY.out.below hb).more hb.size)
  replace HZ := Lib.hid ((HZ.out.below hb).more hb.size)
  clear hb
  obtain ⟨q2, hq2⟩ : ∃ y, walkV t u l = y := ⟨_, rfl⟩
  rw [hq2]
  have Hq2 := Lib.hid hq2
  clear hq2
  have x0_0 := (HLay.out.blk 0 rfl).cell 0
  have x0_1 := (HLay.out.blk 0 rfl).cell 1
  have l0_ := HLay.out.lt 0 rfl
  have x1_0 := (HLay.out.blk 1 rfl).cell 0
  have x1_1 := (HLay.out.blk 1 rfl).cell 1
  have l1_ := HLay.out.lt 1 rfl
  gi_wp2
  clear x0_0 x0_1 l0_ x1_0 x1_1 l1_
  have hb : Below W16.heap.size W16 (W16.alloc (.cells #[.int .i64 q2.2.1, .int .i64 q2.2.2.1] 59)) := (Below.refl _ _).alloc (Nat.le_refl _) _
  have hnew := Blk.new W16 59 #[.int .i64 q2.2.1, .int .i64 q2.2.2.1]
  have hge := HLay.out.bel.size
  replace HLay := Lib.hid (HLay.out.below hb)
  replace HO1 := Lib.hid (HO1.out.below hb (Nat.le_refl _))
  replace HO2 := Lib.hid (HO2.out.below hb (Nat.le_refl _))
  replace HMi := Lib.hid (HMi.out.below hb (Nat.le_refl _))
  replace HW := Lib.hid ((HW.out.below hb).more hb.size)
  replace HX := Lib.hid ((HX.out.below hb).more hb.size)
  replace HY := Lib.hid ((HY.out.below hb).more hb.size)
  replace HZ := Lib.hid ((HZ.out.below hb).more hb.size)
  replace HLay := Lib.hid (HLay.out.add hge hnew)
  clear hnew hge hb
  obtain ⟨G18, hG⟩ : ∃ g, W16.heap.size = g := ⟨_, rfl⟩
  rw [hG] at HLay ⊢
  generalize (W16.alloc (.cells #[.int .i64 q2.2.1, .int .i64 q2.2.2.1] 59)) = V17 at *
  clear hG
  replace HLay := Lib.hid (show Lay w V17 [(w.heap.size, 25, #[.slice A n c, .slice A' m d]), (G5, 25, #[.slice A1 n c1, .slice A1' m c1']), (G10, 59, #[.int .i64 q1.1, .int .i64 q1.2]), (G13, 59, #[.int .i64 q1.1, .int .i64 q1.2]), (G18, 59, #[.int .i64 q2.2.1, .int .i64 q2.2.2.1])] from HLay.out)
  refine ⟨trivial, (callsIn_wide.2 (rwalk_any A n c A' m d t u A2 k2 c2 l V17 hn1 hm1 hk1 ((HT.out.below HLay.out.bel).more HLay.out.bel.size) ((HR.out.below HLay.out.bel).more HLay.out.bel.size))).mono ?_⟩
  rintro e W19 ⟨rfl, hb⟩
  replace HLay := Lib.hid (HLay.out.below hb)
  replace HO1 := Lib.hid (HO1.out.below hb (Nat.le_refl _))
  replace HO2 := Lib.hid (HO2.out.below hb (Nat.le_refl _))
  replace HMi := Lib.hid (HMi.out.below hb (Nat.le_refl _))
  replace HW := Lib.hid ((HW.out.below hb).more hb.size)
  replace HX := Lib.hid ((HX.out.below hb).more hb.size)
  replace HY := Lib.hid ((HY.out.below hb).more hb.size)
  replace HZ := Lib.hid ((HZ.out.below hb).more hb.size)
  clear hb
  rw [Hq2.out]
  have x0_0 := (HLay.out.blk 0 rfl).cell 0
  have x0_1 := (HLay.out.blk 0 rfl).cell 1
  have l0_ := HLay.out.lt 0 rfl
  have x1_0 := (HLay.out.blk 1 rfl).cell 0
  have x1_1 := (HLay.out.blk 1 rfl).cell 1
  have l1_ := HLay.out.lt 1 rfl
  gi_wp2
  clear x0_0 x0_1 l0_ x1_0 x1_1 l1_
  have hb : Below W19.heap.size W19 (W19.alloc (.cells #[.int .i64 q2.2.1, .int .i64 q2.2.2.1] 59)) := (Below.refl _ _).alloc (Nat.le_refl _) _
  have hnew := Blk.new W19 59 #[.int .i64 q2.2.1, .int .i64 q2.2.2.1]
  have hge := HLay.out.bel.size
  replace HLay := Lib.hid (HLay.out.below hb)
  replace HO1 := Lib.hid (HO1.out.below hb (Nat.le_refl _))
  replace HO2 := Lib.hid (HO2.out.below hb (Nat.le_refl _))
  replace HMi := Lib.hid (HMi.out.below hb (Nat.le_refl _))
  replace HW := Lib.hid ((HW.out.below hb).more hb.size)
  replace HX := Lib.hid ((HX.out.below hb).more hb.size)
  replace HY := Lib.hid ((HY.out.below hb).more hb.size)
  replace HZ := Lib.hid ((HZ.out.below hb).more hb.size)
  replace HLay := Lib.hid (HLay.out.add hge hnew)
  clear hnew hge hb
  obtain ⟨G21, hG⟩ : ∃ g, W19.heap.size = g := ⟨_, rfl⟩
  rw [hG] at HLay ⊢
  generalize (W19.alloc (.cells #[.int .i64 q2.2.1, .int .i64 q2.2.2.1] 59)) = V20 at *
  clear hG
  replace HLay := Lib.hid (show Lay w V20 [(w.heap.size, 25, #[.slice A n c, .slice A' m d]), (G5, 25, #[.slice A1 n c1, .slice A1' m c1']), (G10, 59, #[.int .i64 q1.1, .int .i64 q1.2]), (G13, 59, #[.int .i64 q1.1, .int .i64 q1.2]), (G18, 59, #[.int .i64 q2.2.1, .int .i64 q2.2.2.1]), (G21, 59, #[.int .i64 q2.2.1, .int .i64 q2.2.2.1])] from HLay.out)
  have hs1 := eqToil_same q1.1 q1.2
  have hs2 := eqToil_same q2.2.1 q2.2.2.1
  have he0 : (chk t == chk t) = true := by simp
  have he1 : (e1 == e1) = true := by simp
  have he2 : (e2 == e2) = true := by simp
  have he3 : (q2.1 == q2.1) = true := by simp
  have he4 : (q2.2.2.2 == q2.2.2.2) = true := by simp
  refine wpIn_flow_old [([true, false, true], 1), ([], 3), ([false, false, false, false, true, true, true, true], 8), ([false, false, false, false, false, false, false, false, false, true, true, true, true, true, true, true, true, true, true, true, true, true, true, true, true, true, true, true], 28), ([false, false, false, false, false, false, false, false, false, false, false, false, false, false, false, false, false, false, false, false, false, false, false, false, false, false, false, false, false, true, true, true, true, true, true, true, true, true, true, true, true, true, true, true, true, true, true, true, true, true, true, true, true], 53), ([false, false, false, false, false, false, false, false, false, false, false, false, false, false, false, false, false, false, false, false, false, false, false, false, false, false, false, false, false, false, false, false, false, false, false, false, false, false, false, false, false, false, false, false, false, false, false, false, false, false, false, false, false, false, true, true, true, true], 58)] [false, false, false, false, false, false, false, false, false, false, false, false, false, false, false, false, false, false, false, false, false, false, false, false, false, false, false, false, false, false, false, false, false, false, false, false, false, false, false, false, false, false, false, false, false, false, false, false, false, false, false, false, false, false, false, false, false, false, false, true, true] [] (by kernel_rfl) (by kernel_rfl) (by kernel_rfl) (below_drewN (Below.refl _ _) 1) ?_
  refine wpFlow_cons (A := ?AF1) rfl ?hq1 ?_
  case hq1 =>
    rintro σ hσ of hof hcl
    have HOF := Lib.hid hof
    have HCL := Lib.hid hcl
    clear hof hcl
    have c0_ : ∀ z, (of z).cell? ⟨w.heap.size, 0, none⟩ = some (.slice A n c) := fun z => ((HLay.out.below (HOF.out z)).blk 0 rfl).cell 0
    have c1_ : ∀ z, (of z).cell? ⟨w.heap.size, 1, none⟩ = some (.slice A' m d) := fun z => ((HLay.out.below (HOF.out z)).blk 0 rfl).cell 1
    have c2_ : ∀ z, (of z).cell? ⟨G5, 0, none⟩ = some (.slice A1 n c1) := fun z => ((HLay.out.below (HOF.out z)).blk 1 rfl).cell 0
    have c3_ : ∀ z, (of z).cell? ⟨G5, 1, none⟩ = some (.slice A1' m c1') := fun z => ((HLay.out.below (HOF.out z)).blk 1 rfl).cell 1
    have c4_ : ∀ z, (of z).cell? ⟨G10, 0, none⟩ = some (.int .i64 q1.1) := fun z => ((HLay.out.below (HOF.out z)).blk 2 rfl).cell 0
    have c5_ : ∀ z, (of z).cell? ⟨G10, 1, none⟩ = some (.int .i64 q1.2) := fun z => ((HLay.out.below (HOF.out z)).blk 2 rfl).cell 1
    have c6_ : ∀ z, (of z).cell? ⟨G13, 0, none⟩ = some (.int .i64 q1.1) := fun z => ((HLay.out.below (HOF.out z)).blk 3 rfl).cell 0
    have c7_ : ∀ z, (of z).cell? ⟨G13, 1, none⟩ = some (.int .i64 q1.2) := fun z => ((HLay.out.below (HOF.out z)).blk 3 rfl).cell 1
    have c8_ : ∀ z, (of z).cell? ⟨G18, 0, none⟩ = some (.int .i64 q2.2.1) := fun z => ((HLay.out.below (HOF.out z)).blk 4 rfl).cell 0
    have c9_ : ∀ z, (of z).cell? ⟨G18, 1, none⟩ = some (.int .i64 q2.2.2.1) := fun z => ((HLay.out.below (HOF.out z)).blk 4 rfl).cell 1
    have c10_ : ∀ z, (of z).cell? ⟨G21, 0, none⟩ = some (.int .i64 q2.2.1) := fun z => ((HLay.out.below (HOF.out z)).blk 5 rfl).cell 0
    have c11_ : ∀ z, (of z).cell? ⟨G21, 1, none⟩ = some (.int .i64 q2.2.2.1) := fun z => ((HLay.out.below (HOF.out z)).blk 5 rfl).cell 1
    have hfw : ∀ f, Fence.wide.fn f := fun _ => trivial
    simp only [pickB]
    repeat (gi_big_quiet_step (fail))
    refine wpQuietIn_nil ?_
    exact rfl
  intro W22 hW
  replace HLay := Lib.hid (HLay.out.below hW)
  replace HO1 := Lib.hid (HO1.out.below hW (Nat.le_refl _))
  replace HO2 := Lib.hid (HO2.out.below hW (Nat.le_refl _))
  replace HMi := Lib.hid (HMi.out.below hW (Nat.le_refl _))
  replace HW := Lib.hid ((HW.out.below hW).more hW.size)
  replace HX := Lib.hid ((HX.out.below hW).more hW.size)
  replace HY := Lib.hid ((HY.out.below hW).more hW.size)
  replace HZ := Lib.hid ((HZ.out.below hW).more hW.size)
  clear hW
  gi_wp2
  refine ⟨trivial, (callsIn_wide.2 (check_any A1 n c1 A1' m c1' t W22 (by unfold maxLen; omega) (by unfold maxLen; omega) ⟨ints_of_own HO1.out (Nat.le_refl _), links_of_own HO2.out (Nat.le_refl _)⟩ (HL.out.below HLay.out.bel hl0))).mono ?_⟩
  rintro e W23 ⟨rfl, hb⟩
  replace HLay := Lib.hid (HLay.out.below hb)
  replace HO1 := Lib.hid (HO1.out.below hb (Nat.le_refl _))
  replace HO2 := Lib.hid (HO2.out.below hb (Nat.le_refl _))
  replace HMi := Lib.hid (HMi.out.below hb (Nat.le_refl _))
  replace HW := Lib.hid ((HW.out.below hb).more hb.size)
  replace HX := Lib.hid ((HX.out.below hb).more hb.size)
  replace HY := Lib.hid ((HY.out.below hb).more hb.size)
  replace HZ := Lib.hid ((HZ.out.below hb).more hb.size)
  gi_wp2
  refine ⟨trivial, hb, ?_⟩
  clear hb
  refine wpFlow_cons rfl Quietly.none ?_
  intro W24 hW
  replace HLay := Lib.hid (HLay.out.below hW)
  replace HO1 := Lib.hid (HO1.out.below hW (Nat.le_refl _))
  replace HO2 := Lib.hid (HO2.out.below hW (Nat.le_refl _))
  replace HMi := Lib.hid (HMi.out.below hW (Nat.le_refl _))
  replace HW := Lib.hid ((HW.out.below hW).more hW.size)
  replace HX := Lib.hid ((HX.out.below hW).more hW.size)
  replace HY := Lib.hid ((HY.out.below hW).more hW.size)
  replace HZ := Lib.hid ((HZ.out.below hW).more hW.size)
  clear hW
  gi_wp2
  refine ⟨trivial, (callsIn_wide.2 (rcheck_any A n c A' m d t W24 hn1 hm1 ((HT.out.below HLay.out.bel).more HLay.out.bel.size))).mono ?_⟩
  rintro e W25 ⟨rfl, hb⟩
  replace HLay := Lib.hid (HLay.out.below hb)
  replace HO1 := Lib.hid (HO1.out.below hb (Nat.le_refl _))
  replace HO2 := Lib.hid (HO2.out.below hb (Nat.le_refl _))
  replace HMi := Lib.hid (HMi.out.below hb (Nat.le_refl _))
  replace HW := Lib.hid ((HW.out.below hb).more hb.size)
  replace HX := Lib.hid ((HX.out.below hb).more hb.size)
  replace HY := Lib.hid ((HY.out.below hb).more hb.size)
  replace HZ := Lib.hid ((HZ.out.below hb).more hb.size)
  gi_wp2
  refine ⟨trivial, hb, ?_⟩
  clear hb
  refine wpFlow_cons (A := ?AF2) rfl ?hq2 ?_
  case hq2 =>
    rintro σ hσ of hof hcl
    have HOF := Lib.hid hof
    have HCL := Lib.hid hcl
    clear hof hcl
    have c0_ : ∀ z, (of z).cell? ⟨w.heap.size, 0, none⟩ = some (.slice A n c) := fun z => ((HLay.out.below (HOF.out z)).blk 0 rfl).cell 0
    have c1_ : ∀ z, (of z).cell? ⟨w.heap.size, 1, none⟩ = some (.slice A' m d) := fun z => ((HLay.out.below (HOF.out z)).blk 0 rfl).cell 1
    have c2_ : ∀ z, (of z).cell? ⟨G5, 0, none⟩ = some (.slice A1 n c1) := fun z => ((HLay.out.below (HOF.out z)).blk 1 rfl).cell 0
    have c3_ : ∀ z, (of z).cell? ⟨G5, 1, none⟩ = some (.slice A1' m c1') := fun z => ((HLay.out.below (HOF.out z)).blk 1 rfl).cell 1
    have c4_ : ∀ z, (of z).cell? ⟨G10, 0, none⟩ = some (.int .i64 q1.1) := fun z => ((HLay.out.below (HOF.out z)).blk 2 rfl).cell 0
    have c5_ : ∀ z, (of z).cell? ⟨G10, 1, none⟩ = some (.int .i64 q1.2) := fun z => ((HLay.out.below (HOF.out z)).blk 2 rfl).cell 1
    have c6_ : ∀ z, (of z).cell? ⟨G13, 0, none⟩ = some (.int .i64 q1.1) := fun z => ((HLay.out.below (HOF.out z)).blk 3 rfl).cell 0
    have c7_ : ∀ z, (of z).cell? ⟨G13, 1, none⟩ = some (.int .i64 q1.2) := fun z => ((HLay.out.below (HOF.out z)).blk 3 rfl).cell 1
    have c8_ : ∀ z, (of z).cell? ⟨G18, 0, none⟩ = some (.int .i64 q2.2.1) := fun z => ((HLay.out.below (HOF.out z)).blk 4 rfl).cell 0
    have c9_ : ∀ z, (of z).cell? ⟨G18, 1, none⟩ = some (.int .i64 q2.2.2.1) := fun z => ((HLay.out.below (HOF.out z)).blk 4 rfl).cell 1
    have c10_ : ∀ z, (of z).cell? ⟨G21, 0, none⟩ = some (.int .i64 q2.2.1) := fun z => ((HLay.out.below (HOF.out z)).blk 5 rfl).cell 0
    have c11_ : ∀ z, (of z).cell? ⟨G21, 1, none⟩ = some (.int .i64 q2.2.2.1) := fun z => ((HLay.out.below (HOF.out z)).blk 5 rfl).cell 1
    have hfw : ∀ f, Fence.wide.fn f := fun _ => trivial
    simp only [pickB]
    repeat (gi_big_quiet_step (fail))
    refine wpQuietIn_nil ?_
    exact rfl
  intro W26 hW
  replace HLay := Lib.hid (HLay.out.below hW)
  replace HO1 := Lib.hid (HO1.out.below hW (Nat.le_refl _))
  replace HO2 := Lib.hid (HO2.out.below hW (Nat.le_refl _))
  replace HMi := Lib.hid (HMi.out.below hW (Nat.le_refl _))
  replace HW := Lib.hid ((HW.out.below hW).more hW.size)
  replace HX := Lib.hid ((HX.out.below hW).more hW.size)
  replace HY := Lib.hid ((HY.out.below hW).more hW.size)
  replace HZ := Lib.hid ((HZ.out.below hW).more hW.size)
  clear hW
  gi_wp2
  refine ⟨trivial, (callsIn_wide.2 (sameInts_any AW nW cW l1 AX nX cX l1 W26 hnW hnX HW.out HX.out)).mono ?_⟩
  rintro e W27 ⟨rfl, hb⟩
  replace HLay := Lib.hid (HLay.out.below hb)
  replace HO1 := Lib.hid (HO1.out.below hb (Nat.le_refl _))
  replace HO2 := Lib.hid (HO2.out.below hb (Nat.le_refl _))
  replace HMi := Lib.hid (HMi.out.below hb (Nat.le_refl _))
  replace HW := Lib.hid ((HW.out.below hb).more hb.size)
  replace HX := Lib.hid ((HX.out.below hb).more hb.size)
  replace HY := Lib.hid ((HY.out.below hb).more hb.size)
  replace HZ := Lib.hid ((HZ.out.below hb).more hb.size)
  rw [sameI_refl']
  gi_wp2
  refine ⟨trivial, hb, ?_⟩
  clear hb
  refine wpFlow_cons (A := ?AF3) rfl ?hq3 ?_
  case hq3 =>
    rintro σ hσ of hof hcl
    have HOF := Lib.hid hof
    have HCL := Lib.hid hcl
    clear hof hcl
    have c0_ : ∀ z, (of z).cell? ⟨w.heap.size, 0, none⟩ = some (.slice A n c) := fun z => ((HLay.out.below (HOF.out z)).blk 0 rfl).cell 0
    have c1_ : ∀ z, (of z).cell? ⟨w.heap.size, 1, none⟩ = some (.slice A' m d) := fun z => ((HLay.out.below (HOF.out z)).blk 0 rfl).cell 1
    have c2_ : ∀ z, (of z).cell? ⟨G5, 0, none⟩ = some (.slice A1 n c1) := fun z => ((HLay.out.below (HOF.out z)).blk 1 rfl).cell 0
    have c3_ : ∀ z, (of z).cell? ⟨G5, 1, none⟩ = some (.slice A1' m c1') := fun z => ((HLay.out.below (HOF.out z)).blk 1 rfl).cell 1
    have c4_ : ∀ z, (of z).cell? ⟨G10, 0, none⟩ = some (.int .i64 q1.1) := fun z => ((HLay.out.below (HOF.out z)).blk 2 rfl).cell 0
    have c5_ : ∀ z, (of z).cell? ⟨G10, 1, none⟩ = some (.int .i64 q1.2) := fun z => ((HLay.out.below (HOF.out z)).blk 2 rfl).cell 1
    have c6_ : ∀ z, (of z).cell? ⟨G13, 0, none⟩ = some (.int .i64 q1.1) := fun z => ((HLay.out.below (HOF.out z)).blk 3 rfl).cell 0
    have c7_ : ∀ z, (of z).cell? ⟨G13, 1, none⟩ = some (.int .i64 q1.2) := fun z => ((HLay.out.below (HOF.out z)).blk 3 rfl).cell 1
    have c8_ : ∀ z, (of z).cell? ⟨G18, 0, none⟩ = some (.int .i64 q2.2.1) := fun z => ((HLay.out.below (HOF.out z)).blk 4 rfl).cell 0
    have c9_ : ∀ z, (of z).cell? ⟨G18, 1, none⟩ = some (.int .i64 q2.2.2.1) := fun z => ((HLay.out.below (HOF.out z)).blk 4 rfl).cell 1
    have c10_ : ∀ z, (of z).cell? ⟨G21, 0, none⟩ = some (.int .i64 q2.2.1) := fun z => ((HLay.out.below (HOF.out z)).blk 5 rfl).cell 0
    have c11_ : ∀ z, (of z).cell? ⟨G21, 1, none⟩ = some (.int .i64 q2.2.2.1) := fun z => ((HLay.out.below (HOF.out z)).blk 5 rfl).cell 1
    have hfw : ∀ f, Fence.wide.fn f := fun _ => trivial
    simp only [pickB]
    repeat (gi_big_quiet_step (fail))
    refine wpQuietIn_nil ?_
    exact rfl
  intro W28 hW
  replace HLay := Lib.hid (HLay.out.below hW)
  replace HO1 := Lib.hid (HO1.out.below hW (Nat.le_refl _))
  replace HO2 := Lib.hid (HO2.out.below hW (Nat.le_refl _))
  replace HMi := Lib.hid (HMi.out.below hW (Nat.le_refl _))
  replace HW := Lib.hid ((HW.out.below hW).more hW.size)
  replace HX := Lib.hid ((HX.out.below hW).more hW.size)
  replace HY := Lib.hid ((HY.out.below hW).more hW.size)
  replace HZ := Lib.hid ((HZ.out.below hW).more hW.size)
  clear hW
  gi_wp2
  refine ⟨trivial, (callsIn_wide.2 (sameInts_any AY nY cY l2 AZ nZ cZ l2 W28 hnY hnZ HY.out HZ.out)).mono ?_⟩
  rintro e W29 ⟨rfl, hb⟩
  replace HLay := Lib.hid (HLay.out.below hb)
  replace HO1 := Lib.hid (HO1.out.below hb (Nat.le_refl _))
  replace HO2 := Lib.hid (HO2.out.below hb (Nat.le_refl _))
  replace HMi := Lib.hid (HMi.out.below hb (Nat.le_refl _))
  replace HW := Lib.hid ((HW.out.below hb).more hb.size)
  replace HX := Lib.hid ((HX.out.below hb).more hb.size)
  replace HY := Lib.hid ((HY.out.below hb).more hb.size)
  replace HZ := Lib.hid ((HZ.out.below hb).more hb.size)
  rw [sameI_refl']
  gi_wp2
  refine ⟨trivial, hb, ?_⟩
  clear hb
  refine wpFlow_cons (A := ?AF4) rfl ?hq4 ?_
  case hq4 =>
    rintro σ hσ of hof hcl
    have HOF := Lib.hid hof
    have HCL := Lib.hid hcl
    clear hof hcl
    have c0_ : ∀ z, (of z).cell? ⟨w.heap.size, 0, none⟩ = some (.slice A n c) := fun z => ((HLay.out.below (HOF.out z)).blk 0 rfl).cell 0
    have c1_ : ∀ z, (of z).cell? ⟨w.heap.size, 1, none⟩ = some (.slice A' m d) := fun z => ((HLay.out.below (HOF.out z)).blk 0 rfl).cell 1
    have c2_ : ∀ z, (of z).cell? ⟨G5, 0, none⟩ = some (.slice A1 n c1) := fun z => ((HLay.out.below (HOF.out z)).blk 1 rfl).cell 0
    have c3_ : ∀ z, (of z).cell? ⟨G5, 1, none⟩ = some (.slice A1' m c1') := fun z => ((HLay.out.below (HOF.out z)).blk 1 rfl).cell 1
    have c4_ : ∀ z, (of z).cell? ⟨G10, 0, none⟩ = some (.int .i64 q1.1) := fun z => ((HLay.out.below (HOF.out z)).blk 2 rfl).cell 0
    have c5_ : ∀ z, (of z).cell? ⟨G10, 1, none⟩ = some (.int .i64 q1.2) := fun z => ((HLay.out.below (HOF.out z)).blk 2 rfl).cell 1
    have c6_ : ∀ z, (of z).cell? ⟨G13, 0, none⟩ = some (.int .i64 q1.1) := fun z => ((HLay.out.below (HOF.out z)).blk 3 rfl).cell 0
    have c7_ : ∀ z, (of z).cell? ⟨G13, 1, none⟩ = some (.int .i64 q1.2) := fun z => ((HLay.out.below (HOF.out z)).blk 3 rfl).cell 1
    have c8_ : ∀ z, (of z).cell? ⟨G18, 0, none⟩ = some (.int .i64 q2.2.1) := fun z => ((HLay.out.below (HOF.out z)).blk 4 rfl).cell 0
    have c9_ : ∀ z, (of z).cell? ⟨G18, 1, none⟩ = some (.int .i64 q2.2.2.1) := fun z => ((HLay.out.below (HOF.out z)).blk 4 rfl).cell 1
    have c10_ : ∀ z, (of z).cell? ⟨G21, 0, none⟩ = some (.int .i64 q2.2.1) := fun z => ((HLay.out.below (HOF.out z)).blk 5 rfl).cell 0
    have c11_ : ∀ z, (of z).cell? ⟨G21, 1, none⟩ = some (.int .i64 q2.2.2.1) := fun z => ((HLay.out.below (HOF.out z)).blk 5 rfl).cell 1
    have hfw : ∀ f, Fence.wide.fn f := fun _ => trivial
    simp only [pickB]
    repeat (gi_big_quiet_step (fail))
    refine wpQuietIn_nil ?_
    exact rfl
  intro W30 hW
  replace HLay := Lib.hid (HLay.out.below hW)
  replace HO1 := Lib.hid (HO1.out.below hW (Nat.le_refl _))
  replace HO2 := Lib.hid (HO2.out.below hW (Nat.le_refl _))
  replace HMi := Lib.hid (HMi.out.below hW (Nat.le_refl _))
  replace HW := Lib.hid ((HW.out.below hW).more hW.size)
  replace HX := Lib.hid ((HX.out.below hW).more hW.size)
  replace HY := Lib.hid ((HY.out.below hW).more hW.size)
  replace HZ := Lib.hid ((HZ.out.below hW).more hW.size)
  clear hW
  gi_wp2
  refine ⟨trivial, (callsIn_wide.2 (same_any A1 n c1 A1' m c1' t A n c A' m d t W30 (by unfold maxLen; omega) (by unfold maxLen; omega) (by unfold maxLen; omega) (by unfold maxLen; omega) ⟨ints_of_own HO1.out (Nat.le_refl _), links_of_own HO2.out (Nat.le_refl _)⟩ ((HT.out.below HLay.out.bel).more HLay.out.bel.size))).mono ?_⟩
  rintro e W31 ⟨rfl, hb⟩
  replace HLay := Lib.hid (HLay.out.below hb)
  replace HO1 := Lib.hid (HO1.out.below hb (Nat.le_refl _))
  replace HO2 := Lib.hid (HO2.out.below hb (Nat.le_refl _))
  replace HMi := Lib.hid (HMi.out.below hb (Nat.le_refl _))
  replace HW := Lib.hid ((HW.out.below hb).more hb.size)
  replace HX := Lib.hid ((HX.out.below hb).more hb.size)
  replace HY := Lib.hid ((HY.out.below hb).more hb.size)
  replace HZ := Lib.hid ((HZ.out.below hb).more hb.size)
  rw [sameT_refl']
  gi_wp2
  refine ⟨trivial, hb, ?_⟩
  clear hb
  refine wpFlow_cons (A := ?AF5) rfl ?hq5 ?_
  case hq5 =>
    rintro σ hσ of hof hcl
    have HOF := Lib.hid hof
    have HCL := Lib.hid hcl
    clear hof hcl
    have c0_ : ∀ z, (of z).cell? ⟨w.heap.size, 0, none⟩ = some (.slice A n c) := fun z => ((HLay.out.below (HOF.out z)).blk 0 rfl).cell 0
    have c1_ : ∀ z, (of z).cell? ⟨w.heap.size, 1, none⟩ = some (.slice A' m d) := fun z => ((HLay.out.below (HOF.out z)).blk 0 rfl).cell 1
    have c2_ : ∀ z, (of z).cell? ⟨G5, 0, none⟩ = some (.slice A1 n c1) := fun z => ((HLay.out.below (HOF.out z)).blk 1 rfl).cell 0
    have c3_ : ∀ z, (of z).cell? ⟨G5, 1, none⟩ = some (.slice A1' m c1') := fun z => ((HLay.out.below (HOF.out z)).blk 1 rfl).cell 1
    have c4_ : ∀ z, (of z).cell? ⟨G10, 0, none⟩ = some (.int .i64 q1.1) := fun z => ((HLay.out.below (HOF.out z)).blk 2 rfl).cell 0
    have c5_ : ∀ z, (of z).cell? ⟨G10, 1, none⟩ = some (.int .i64 q1.2) := fun z => ((HLay.out.below (HOF.out z)).blk 2 rfl).cell 1
    have c6_ : ∀ z, (of z).cell? ⟨G13, 0, none⟩ = some (.int .i64 q1.1) := fun z => ((HLay.out.below (HOF.out z)).blk 3 rfl).cell 0
    have c7_ : ∀ z, (of z).cell? ⟨G13, 1, none⟩ = some (.int .i64 q1.2) := fun z => ((HLay.out.below (HOF.out z)).blk 3 rfl).cell 1
    have c8_ : ∀ z, (of z).cell? ⟨G18, 0, none⟩ = some (.int .i64 q2.2.1) := fun z => ((HLay.out.below (HOF.out z)).blk 4 rfl).cell 0
    have c9_ : ∀ z, (of z).cell? ⟨G18, 1, none⟩ = some (.int .i64 q2.2.2.1) := fun z => ((HLay.out.below (HOF.out z)).blk 4 rfl).cell 1
    have c10_ : ∀ z, (of z).cell? ⟨G21, 0, none⟩ = some (.int .i64 q2.2.1) := fun z => ((HLay.out.below (HOF.out z)).blk 5 rfl).cell 0
    have c11_ : ∀ z, (of z).cell? ⟨G21, 1, none⟩ = some (.int .i64 q2.2.2.1) := fun z => ((HLay.out.below (HOF.out z)).blk 5 rfl).cell 1
    have hfw : ∀ f, Fence.wide.fn f := fun _ => trivial
    simp only [pickB]
    repeat (gi_big_quiet_step (fail))
    refine wpQuietIn_nil ?_
    exact rfl
  intro W32 hW
  replace HLay := Lib.hid (HLay.out.below hW)
  replace HO1 := Lib.hid (HO1.out.below hW (Nat.le_refl _))
  replace HO2 := Lib.hid (HO2.out.below hW (Nat.le_refl _))
  replace HMi := Lib.hid (HMi.out.below hW (Nat.le_refl _))
  replace HW := Lib.hid ((HW.out.below hW).more hW.size)
  replace HX := Lib.hid ((HX.out.below hW).more hW.size)
  replace HY := Lib.hid ((HY.out.below hW).more hW.size)
  replace HZ := Lib.hid ((HZ.out.below hW).more hW.size)
  clear hW
  gi_wp2
  refine ⟨trivial, (callsIn_wide.2 (sameInts_any A3 k2 c3 l A2 k2 c2 l W32 (by unfold maxLen; omega) (by unfold maxLen; omega) (ints_of_own HMi.out (Nat.le_refl _)) ((HR.out.below HLay.out.bel).more HLay.out.bel.size))).mono ?_⟩
  rintro e W33 ⟨rfl, hb⟩
  replace HLay := Lib.hid (HLay.out.below hb)
  replace HO1 := Lib.hid (HO1.out.below hb (Nat.le_refl _))
  replace HO2 := Lib.hid (HO2.out.below hb (Nat.le_refl _))
  replace HMi := Lib.hid (HMi.out.below hb (Nat.le_refl _))
  replace HW := Lib.hid ((HW.out.below hb).more hb.size)
  replace HX := Lib.hid ((HX.out.below hb).more hb.size)
  replace HY := Lib.hid ((HY.out.below hb).more hb.size)
  replace HZ := Lib.hid ((HZ.out.below hb).more hb.size)
  rw [sameI_refl']
  gi_wp2
  refine ⟨trivial, hb, ?_⟩
  clear hb
  refine wpFlow_nil (A := ?AF6) ?hq6 ?_
  case hq6 =>
    rintro σ hσ of hof hcl
    have HOF := Lib.hid hof
    have HCL := Lib.hid hcl
    clear hof hcl
    have c0_ : ∀ z, (of z).cell? ⟨w.heap.size, 0, none⟩ = some (.slice A n c) := fun z => ((HLay.out.below (HOF.out z)).blk 0 rfl).cell 0
    have c1_ : ∀ z, (of z).cell? ⟨w.heap.size, 1, none⟩ = some (.slice A' m d) := fun z => ((HLay.out.below (HOF.out z)).blk 0 rfl).cell 1
    have c2_ : ∀ z, (of z).cell? ⟨G5, 0, none⟩ = some (.slice A1 n c1) := fun z => ((HLay.out.below (HOF.out z)).blk 1 rfl).cell 0
    have c3_ : ∀ z, (of z).cell? ⟨G5, 1, none⟩ = some (.slice A1' m c1') := fun z => ((HLay.out.below (HOF.out z)).blk 1 rfl).cell 1
    have c4_ : ∀ z, (of z).cell? ⟨G10, 0, none⟩ = some (.int .i64 q1.1) := fun z => ((HLay.out.below (HOF.out z)).blk 2 rfl).cell 0
    have c5_ : ∀ z, (of z).cell? ⟨G10, 1, none⟩ = some (.int .i64 q1.2) := fun z => ((HLay.out.below (HOF.out z)).blk 2 rfl).cell 1
    have c6_ : ∀ z, (of z).cell? ⟨G13, 0, none⟩ = some (.int .i64 q1.1) := fun z => ((HLay.out.below (HOF.out z)).blk 3 rfl).cell 0
    have c7_ : ∀ z, (of z).cell? ⟨G13, 1, none⟩ = some (.int .i64 q1.2) := fun z => ((HLay.out.below (HOF.out z)).blk 3 rfl).cell 1
    have c8_ : ∀ z, (of z).cell? ⟨G18, 0, none⟩ = some (.int .i64 q2.2.1) := fun z => ((HLay.out.below (HOF.out z)).blk 4 rfl).cell 0
    have c9_ : ∀ z, (of z).cell? ⟨G18, 1, none⟩ = some (.int .i64 q2.2.2.1) := fun z => ((HLay.out.below (HOF.out z)).blk 4 rfl).cell 1
    have c10_ : ∀ z, (of z).cell? ⟨G21, 0, none⟩ = some (.int .i64 q2.2.1) := fun z => ((HLay.out.below (HOF.out z)).blk 5 rfl).cell 0
    have c11_ : ∀ z, (of z).cell? ⟨G21, 1, none⟩ = some (.int .i64 q2.2.2.1) := fun z => ((HLay.out.below (HOF.out z)).blk 5 rfl).cell 1
    have hfw : ∀ f, Fence.wide.fn f := fun _ => trivial
    simp only [pickB]
    repeat (gi_big_quiet_step (fail))
    refine wpQuietIn_nil ?_
    exact rfl
  intro W34 hW
  replace HLay := Lib.hid (HLay.out.below hW)
  replace HO1 := Lib.hid (HO1.out.below hW (Nat.le_refl _))
  replace HO2 := Lib.hid (HO2.out.below hW (Nat.le_refl _))
  replace HMi := Lib.hid (HMi.out.below hW (Nat.le_refl _))
  replace HW := Lib.hid ((HW.out.below hW).more hW.size)
  replace HX := Lib.hid ((HX.out.below hW).more hW.size)
  replace HY := Lib.hid ((HY.out.below hW).more hW.size)
  replace HZ := Lib.hid ((HZ.out.below hW).more hW.size)
  clear hW
  simp only [pickB]
  refine wpT_nil ?_
  gi_wp2
  exact bodyPost_ret (v := .bool true) (by simp [results, Tryd.results7, go_sem]) rfl ⟨rfl, HLay.out.bel⟩
theorem ways_walk (A : Option Addr) (n c : Nat) (A' : Option Addr) (m d : Nat) (t : Town) (u v : Int) (dk : Bool) (A2 : Option Addr) (k2 c2 : Nat) (l : List Int) (w : World) (hn : n ≤ maxLen) (hm : m ≤ maxLen) (hk : k2 ≤ maxLen) (ht : TownAt w w.heap.size A n A' m t) (hr : IntsAt w w.heap.size A2 k2 l) (hL : Laid w) :
    Calls Tryd.prog 7 #[.agg #[.slice A n c, .slice A' m d], .int .i64 u, .int .i64 v, .bool dk, .slice A2 k2 c2] w fun e w' => e = .returned (.bool true) ∧ Below w.heap.size w w' :=
  callsIn_wide.1 (ways_walk_in A n c A' m d t u v dk A2 k2 c2 l w hn hm hk ht hr hL)
end Go.Proofs.YtahkjagjcogeiaaDoor
/- The table of checks as the row lists it: its three cells. The door's own heap meets the condition. -/
namespace Go.Proofs.YtahkjagjcogeiaaDoor
open Go.ChangeShapes Go.WideShapes Go.ChangeAt Go.RowKit
set_option linter.unusedVariables false
set_option maxRecDepth 100000

def laidL : List (String × DataW Unit) := [("aguador/climb.checks", Rows.laid_aguador_climb_checks)]
theorem gChecks : Tryd.prog.globalNamed "aguador/climb.checks" = some 0 := by kernel_rfl
theorem tChecks : (Tryd.prog.globals[0]?).map (·.type) = some 149 := by kernel_rfl
theorem cellsCheck : Tryd.prog.cellsOf 148 = 1 := by kernel_rfl
theorem cellsFuncB : Tryd.prog.cellsOf 30 = 1 := by kernel_rfl
theorem checkUnd : ∃ f, Tryd.prog.underlying 148 = some (.struct #[f]) ∧ f.type = 30 ∧ f.offset = 0 := ⟨_, Tryd.underlying148, rfl, rfl⟩

/-- The door's own heap meets the condition. -/
theorem door_met (os : Os) (args : Array Value) : laidMetH Tryd.prog laidL ((World.doorLaid Tryd.prog 800 os).forCall (fun _ _ => 0) ⟨#[], args, []⟩).memory :=
  laidMetH_of_parts3 (fuel := 8) (laidMet_of_run' 8 (by kernel_rfl) (by kernel_rfl)) (by kernel_rfl) (by kernel_rfl)

theorem check_cell {W : World} {fuel : Nat} {cs : List Value} {b : UInt8} {r : List UInt8} {q : List MemPlace} {f0 : FuncId} (h : DataW.trod (funcToken Tryd.prog) Tryd.prog W 0 (fun _ => true) true fuel 148 cs = some (.agg [.held (b :: r)], q))
    (hone : ((List.range Tryd.prog.funcs.size).filter fun f => (Tryd.prog.funcs[f]?).any (·.name.toUTF8.data.toList == b :: r)) = [f0]) : cs = [.func (.func f0) #[] #[]] := by
  obtain ⟨f, hu, ht, ho⟩ := checkUnd
  obtain ⟨y0, n, hx, hl, h0⟩ := trod_struct1 hu h
  rw [cellsCheck] at hl
  match cs, hl with
  | [c], _ =>
    have h1 : DataW.trod (funcToken Tryd.prog) Tryd.prog W 0 (fun _ => true) true n 30 [c] = some y0 := by simpa [ht, ho, cellsFuncB] using h0
    simp only [Prod.mk.injEq, DataW.agg.injEq, List.cons.injEq, and_true] at hx
    obtain ⟨z, p⟩ := y0
    obtain ⟨e1, e2⟩ := hx
    simp only at e1
    subst e1
    rw [func_of_trod Tryd.underlying30 hone h1]

theorem of_laid {W : World} (h : laidMetH Tryd.prog laidL W) : Laid W := by
  obtain ⟨g, t, cs, fuel, p, hg, ht, hv, hd⟩ := h.funcs (List.mem_singleton.2 rfl)
  obtain rfl := Option.some.inj (gChecks.symm.trans hg)
  obtain rfl := Option.some.inj (tChecks.symm.trans ht)
  obtain ⟨xs, m, _, hx, hlen, hn, hel⟩ := DataW.trod_array Tryd.underlying149 hd
  rw [cellsCheck] at hel
  match xs, hn with
  | [x0, x1, x2], _ =>
    have h0 := hel 0 (by decide)
    have h1 := hel 1 (by decide)
    have h2 := hel 2 (by decide)
    simp only [Prod.mk.injEq] at hx
    have hx1 := hx.1
    simp only [DataW.funcsOut, DataW.funcsOutAll, List.map_cons, List.map_nil, DataW.agg.injEq, List.cons.injEq, and_true] at hx1
    obtain ⟨e0, e1, e2⟩ := hx1
    obtain ⟨x0, p0⟩ := x0
    obtain ⟨x1, p1⟩ := x1
    obtain ⟨x2, p2⟩ := x2
    simp only at e0 e1 e2
    subst e0 e1 e2
    have k0 := check_cell (f0 := 182) h0 (by kernel_rfl)
    have k1 := check_cell (f0 := 183) h1 (by kernel_rfl)
    have k2 := check_cell (f0 := 184) h2 (by kernel_rfl)
    have at_ : ∀ i, W.cell? ⟨0, i, none⟩ = cs[i]? := fun i => by simpa using World.var?_cell hg hv i
    obtain ⟨l⟩ := cs
    have c0 : W.cell? ⟨0, 0, none⟩ = some (.func (.func 182) #[] #[]) := by
      rw [at_]
      have := congrArg (·[0]?) k0
      simpa [List.getElem?_take, List.getElem?_drop] using this
    have c1 : W.cell? ⟨0, 1, none⟩ = some (.func (.func 183) #[] #[]) := by
      rw [at_]
      have := congrArg (·[0]?) k1
      simpa [List.getElem?_take, List.getElem?_drop] using this
    have c2 : W.cell? ⟨0, 2, none⟩ = some (.func (.func 184) #[] #[]) := by
      rw [at_]
      have := congrArg (·[0]?) k2
      simpa [List.getElem?_take, List.getElem?_drop] using this
    exact ⟨c0, c1, c2, World.block_lt_of_cell? W _ c0⟩

end Go.Proofs.YtahkjagjcogeiaaDoor
/- The laws' arguments, opened: lists of whole numbers, lists of links, towns, a link; the table of checks. -/
namespace Go.Proofs.YtahkjagjcogeiaaDoor
open Go.ChangeShapes Go.WideShapes Go.RowKit Go.Deep Go.Joins
set_option linter.unusedVariables false
set_option maxRecDepth 100000

section
variable {H : Type} {enc : TypeId × Value → H} {P : Program} {w : World} {base : Nat} {spare : Nat → Bool} {held : Bool}
/-- A struct of five one-cell fields, opened. -/
theorem opened5 {r : Reach} {b0 : Nat} {t : TypeId} {f0 f1 f2 f3 f4 : Field} {v : Value} {d : DataW H} {p : List MemPlace} (hs : P.underlying t = some (.struct #[f0, f1, f2, f3, f4])) (hone : oneCellFields P #[f0, f1, f2, f3, f4] = true) (hC : P.cellsOf t = 5)
    (hv : Value.okWide P w r b0 t v) (h : DataW.Trod enc P w base spare held t v d p) :
    ∃ (v0 v1 v2 v3 v4 : Value) (y0 y1 y2 y3 y4 : DataW H × List MemPlace) (n : Nat), v = .agg #[v0, v1, v2, v3, v4] ∧
      DataW.trod enc P w base spare held n f0.type [v0] = some y0 ∧ DataW.trod enc P w base spare held n f1.type [v1] = some y1 ∧ DataW.trod enc P w base spare held n f2.type [v2] = some y2 ∧ DataW.trod enc P w base spare held n f3.type [v3] = some y3 ∧ DataW.trod enc P w base spare held n f4.type [v4] = some y4 := by
  obtain ⟨cs, rfl, hsz⟩ := okWide_struct hs hv
  obtain ⟨l⟩ := cs
  match l, hsz.trans hC with
  | [c0, c1, c2, c3, c4], _ =>
    obtain ⟨fuel, hf⟩ := h
    obtain ⟨xs, n, _, hx, _, hlen, hg⟩ := DataW.trod_struct hs hf
    obtain ⟨o0, k0⟩ := hone_of hone 0 f0 rfl
    obtain ⟨o1, k1⟩ := hone_of hone 1 f1 rfl
    obtain ⟨o2, k2⟩ := hone_of hone 2 f2 rfl
    obtain ⟨o3, k3⟩ := hone_of hone 3 f3 rfl
    obtain ⟨o4, k4⟩ := hone_of hone 4 f4 rfl
    match xs, hlen with
    | [y0, y1, y2, y3, y4], _ =>
      exact ⟨c0, c1, c2, c3, c4, y0, y1, y2, y3, y4, n, rfl, by simpa [Value.cells, o0, k0] using hg 0 f0 rfl, by simpa [Value.cells, o1, k1] using hg 1 f1 rfl, by simpa [Value.cells, o2, k2] using hg 2 f2 rfl, by simpa [Value.cells, o3, k3] using hg 3 f3 rfl, by simpa [Value.cells, o4, k4] using hg 4 f4 rfl⟩
end

section
variable {H : Type} {enc : TypeId × Value → H} {w : World}

theorem linkUnd : ∃ f0 f1 f2 f3 f4, Tryd.prog.underlying 45 = some (.struct #[f0, f1, f2, f3, f4]) ∧ oneCellFields Tryd.prog #[f0, f1, f2, f3, f4] = true ∧ f0.type = 3 ∧ f1.type = 3 ∧ f2.type = 3 ∧ f3.type = 3 ∧ f4.type = 3 ∧ f0.offset = 0 ∧ f1.offset = 1 ∧ f2.offset = 2 ∧ f3.offset = 3 ∧ f4.offset = 4 :=
  ⟨_, _, _, _, _, Tryd.underlying45, by kernel_rfl, rfl, rfl, rfl, rfl, rfl, rfl, rfl, rfl, rfl, rfl⟩
theorem cellsLink : Tryd.prog.cellsOf 45 = 5 := by kernel_rfl
theorem cellsInt1 : Tryd.prog.cellsOf 3 = 1 := by kernel_rfl
theorem cellsTown2 : Tryd.prog.cellsOf 25 = 2 := by kernel_rfl

theorem flat1 {f : Nat → Int} (n : Nat) : (List.map (Value.int .i64) ((List.range n).map f)) = (List.range n).map fun i => Value.int .i64 (f i) := by simp

/-- A list of whole numbers. -/
theorem ints_open {v : Value} {fuel : Nat} {x : DataW H × List MemPlace} (h : DataW.trod enc Tryd.prog w 0 (fun _ => true) true fuel 22 [v] = some x) :
    ∃ A n c l, v = .slice A n c ∧ n ≤ c ∧ n ≤ maxLen ∧ c ≤ maxLen ∧ IntsAt w w.heap.size A n l := by
  rcases open_slice1 Tryd.underlying22 cellsInt1 h with ⟨e, _⟩ | ⟨a, len, cap, m, k, V, D, Pl, e, _, hl, hm, hmm, _, hx⟩
  · simp only [List.cons.injEq, and_true] at e
    exact ⟨none, 0, 0, [], e, Nat.le_refl _, Nat.zero_le _, Nat.zero_le _, Reads.none_⟩
  · simp only [List.cons.injEq, and_true] at e
    have hmc : m = cap := by simpa using hmm
    subst hmc
    have hn : ∀ i, i < m → ∃ z : Int, V i = .int .i64 z := fun i hi => by
      obtain ⟨z, f0, _, _⟩ := DataW.trod_int Tryd.underlying3 (hx i hi).2
      simp only [List.cons.injEq, and_true] at f0
      exact ⟨z, f0⟩
    obtain ⟨Z, hZ⟩ := choose_lt hn
    refine ⟨some a, len, m, (List.range len).map Z, e, hl, by omega, hm, by simp, fun h0 => ⟨a, rfl, ?_, fun j u hu => ?_⟩⟩
    · have := World.block_lt_of_cell? w _ (hx 0 (by omega)).1
      rwa [block_of_add] at this
    · simp only [List.getElem?_map, Option.map_map] at hu
      have hj : j < len := by
        rcases Nat.lt_or_ge j len with h' | h'
        · exact h'
        · rw [List.getElem?_eq_none (by simpa using h')] at hu; cases hu
      rw [List.getElem?_range hj] at hu
      simp only [Option.map_some, Option.some.injEq, Function.comp] at hu
      rw [(hx j (by omega)).1, hZ j (by omega), ← hu]

/-- A link's five cells. -/
theorem link_cells {fuel : Nat} {cs : List Value} {x : DataW H × List MemPlace} (h : DataW.trod enc Tryd.prog w 0 (fun _ => true) true fuel 45 cs = some x) (hl : cs.length = 5) : ∃ l : Link, cs = l.vals := by
  obtain ⟨f0, f1, f2, f3, f4, hu, hone, t0, t1, t2, t3, t4, z0, z1, z2, z3, z4⟩ := linkUnd
  obtain ⟨xs, n, _, _, _, hlen, hg⟩ := DataW.trod_struct hu h
  match cs, hl, xs, hlen with
  | [c0, c1, c2, c3, c4], _, [y0, y1, y2, y3, y4], _ =>
    have h0 : DataW.trod enc Tryd.prog w 0 (fun _ => true) true n 3 [c0] = some y0 := by simpa [t0, z0, cellsInt1] using hg 0 f0 rfl
    have h1 : DataW.trod enc Tryd.prog w 0 (fun _ => true) true n 3 [c1] = some y1 := by simpa [t1, z1, cellsInt1] using hg 1 f1 rfl
    have h2 : DataW.trod enc Tryd.prog w 0 (fun _ => true) true n 3 [c2] = some y2 := by simpa [t2, z2, cellsInt1] using hg 2 f2 rfl
    have h3 : DataW.trod enc Tryd.prog w 0 (fun _ => true) true n 3 [c3] = some y3 := by simpa [t3, z3, cellsInt1] using hg 3 f3 rfl
    have h4 : DataW.trod enc Tryd.prog w 0 (fun _ => true) true n 3 [c4] = some y4 := by simpa [t4, z4, cellsInt1] using hg 4 f4 rfl
    obtain ⟨n0, e0, _, _⟩ := DataW.trod_int Tryd.underlying3 h0
    obtain ⟨n1, e1, _, _⟩ := DataW.trod_int Tryd.underlying3 h1
    obtain ⟨n2, e2, _, _⟩ := DataW.trod_int Tryd.underlying3 h2
    obtain ⟨n3, e3, _, _⟩ := DataW.trod_int Tryd.underlying3 h3
    obtain ⟨n4, e4, _, _⟩ := DataW.trod_int Tryd.underlying3 h4
    simp only [List.cons.injEq, and_true] at e0 e1 e2 e3 e4
    subst e0 e1 e2 e3 e4
    exact ⟨⟨n0, n1, n2, n3, n4⟩, rfl⟩

/-- A list of links. -/
theorem links_open {v : Value} {fuel : Nat} {x : DataW H × List MemPlace} (h : DataW.trod enc Tryd.prog w 0 (fun _ => true) true fuel 23 [v] = some x) :
    ∃ A n c l, v = .slice A n c ∧ n ≤ c ∧ n ≤ maxLen ∧ c ≤ maxLen ∧ LinksAt w w.heap.size A n l := by
  rcases open_slice Tryd.underlying23 h with ⟨e, _⟩ | ⟨a, len, cap, m, k, D, Pl, e, _, hl, hm, hmm, _, hx⟩
  · simp only [List.cons.injEq, and_true] at e
    exact ⟨none, 0, 0, [], e, Nat.le_refl _, Nat.zero_le _, Nat.zero_le _, Reads.none_⟩
  · simp only [List.cons.injEq, and_true] at e
    have hmc : m = cap := by simpa using hmm
    subst hmc
    have hn : ∀ i, i < m → ∃ z : Link, ∀ j, j < 5 → w.cell? (a.add (i * 5 + j)) = z.vals[j]? := fun i hi => by
      obtain ⟨cs', h1, h2⟩ := hx i hi
      rw [cellsLink] at h1
      obtain ⟨_, hcl, hat⟩ := World.cells?_some h1
      obtain ⟨z, rfl⟩ := link_cells h2 hcl
      exact ⟨z, fun j hj => by rw [← Go.Deep.add_add, hat j hj]⟩
    letI : Inhabited Link := ⟨⟨0, 0, 0, 0, 0⟩⟩
    obtain ⟨Z, hZ⟩ := choose_lt hn
    refine ⟨some a, len, m, (List.range len).map Z, e, hl, by omega, hm, by rw [flat_len]; simp, fun h0 => ⟨a, rfl, ?_, fun j u hu => ?_⟩⟩
    · have := World.block_lt_of_cell? w _ (hZ 0 (by omega) 0 (by omega))
      rwa [block_of_add] at this
    · have hj : j < len * 5 := by
        rcases Nat.lt_or_ge j (len * 5) with h' | h'
        · exact h'
        · rw [List.getElem?_eq_none (by rw [flat_len]; simpa using h')] at hu; cases hu
      have hz := hZ (j / 5) (by omega) (j % 5) (by omega)
      have ha : ((List.range len).map Z)[j / 5]? = some (Z (j / 5)) := by rw [List.getElem?_map, List.getElem?_range (by omega)]; rfl
      have hf := flat_at ha (show j % 5 < 5 by omega)
      rw [show j / 5 * 5 + j % 5 = j by omega] at hf hz
      rw [hz, ← hf, hu]

/-- A link, by value. -/
theorem linkArg_open {r : Reach} {b0 : Nat} {v : Value} {d : DataW H} {p : List MemPlace} (hv : Value.okWide Tryd.prog w r b0 45 v) (h : DataW.Trod enc Tryd.prog w 0 (fun _ => true) true 45 v d p) :
    ∃ l : Link, v = .agg l.vals.toArray := by
  obtain ⟨f0, f1, f2, f3, f4, hu, hone, t0, t1, t2, t3, t4, z0, z1, z2, z3, z4⟩ := linkUnd
  obtain ⟨cs, rfl, hsz⟩ := okWide_struct hu hv
  obtain ⟨fuel, hf⟩ := h
  obtain ⟨l, e⟩ := link_cells (cs := cs.toList) hf (by simpa [cellsLink] using hsz)
  exact ⟨l, by rw [← e]⟩

/-- A town, by value. -/
theorem town_open {r : Reach} {b0 : Nat} {v : Value} {d : DataW H} {p : List MemPlace} (hv : Value.okWide Tryd.prog w r b0 25 v) (h : DataW.Trod enc Tryd.prog w 0 (fun _ => true) true 25 v d p) :
    ∃ A n c A' m d' t, v = .agg #[.slice A n c, .slice A' m d'] ∧ n ≤ maxLen ∧ m ≤ maxLen ∧ n ≤ c ∧ m ≤ d' ∧ TownAt w w.heap.size A n A' m t := by
  obtain ⟨v0, v1, y0, y1, k, rfl, _, _, h0, h1⟩ := open_agg2 Tryd.underlying25 (by kernel_rfl) cellsTown2 hv h
  obtain ⟨A, n, c, l, rfl, hn, hx, _, hr⟩ := ints_open h0
  obtain ⟨A', m, d', l', rfl, hm, hx', _, hr'⟩ := links_open h1
  exact ⟨A, n, c, A', m, d', ⟨l, l'⟩, rfl, hx, hx', hn, hm, ⟨hr, hr'⟩⟩
end

end Go.Proofs.YtahkjagjcogeiaaDoor
/- The laws' arguments, opened: skins and gaits. What every row's proof wants. -/
namespace Go.Proofs.YtahkjagjcogeiaaDoor
open Go.ChangeShapes Go.WideShapes Go.RowKit Go.Deep Go.Joins
set_option linter.unusedVariables false
set_option maxRecDepth 100000
theorem ownT' : ownKnob Tryd.prog.godebug = none := by kernel_rfl
theorem laidOutT' : laidOutB Tryd.prog = true := by kernel_rfl
section
variable {H : Type} {enc : TypeId × Value → H} {w : World}
theorem spanUnd : ∃ f0 f1, Tryd.prog.underlying 27 = some (.struct #[f0, f1]) ∧ f0.type = 3 ∧ f1.type = 3 ∧ f0.offset = 0 ∧ f1.offset = 1 := ⟨_, _, Tryd.underlying27, rfl, rfl, rfl, rfl⟩
theorem skinUnd : ∃ f0 f1 f2, Tryd.prog.underlying 29 = some (.struct #[f0, f1, f2]) ∧ f0.type = 3 ∧ f1.type = 27 ∧ f2.type = 27 ∧ f0.offset = 0 ∧ f1.offset = 1 ∧ f2.offset = 3 := ⟨_, _, _, Tryd.underlying29, rfl, rfl, rfl, rfl, rfl, rfl⟩
theorem gaitUnd : ∃ f0 f1, Tryd.prog.underlying 66 = some (.struct #[f0, f1]) ∧ f0.type = 27 ∧ f1.type = 27 ∧ f0.offset = 0 ∧ f1.offset = 2 := ⟨_, _, Tryd.underlying66, rfl, rfl, rfl, rfl⟩
theorem cellsSpan : Tryd.prog.cellsOf 27 = 2 := by kernel_rfl
theorem cellsSkin : Tryd.prog.cellsOf 29 = 5 := by kernel_rfl
theorem cellsGait : Tryd.prog.cellsOf 66 = 4 := by kernel_rfl
theorem span_cells {fuel : Nat} {cs : List Value} {x : DataW H × List MemPlace} (h : DataW.trod enc Tryd.prog w 0 (fun _ => true) true fuel 27 cs = some x) (hl : cs.length = 2) : ∃ s : Span, cs = s.vals := by
  obtain ⟨f0, f1, hu, t0, t1, z0, z1⟩ := spanUnd
  obtain ⟨xs, n, _, _, _, hlen, hg⟩ := DataW.trod_struct hu h
  match cs, hl, xs, hlen with
  | [c0, c1], _, [y0, y1], _ =>
    have h0 : DataW.trod enc Tryd.prog w 0 (fun _ => true) true n 3 [c0] = some y0 := by simpa [t0, z0, cellsInt1] using hg 0 f0 rfl
    have h1 : DataW.trod enc Tryd.prog w 0 (fun _ => true) true n 3 [c1] = some y1 := by simpa [t1, z1, cellsInt1] using hg 1 f1 rfl
    obtain ⟨n0, e0, _, _⟩ := DataW.trod_int Tryd.underlying3 h0
    obtain ⟨n1, e1, _, _⟩ := DataW.trod_int Tryd.underlying3 h1
    simp only [List.cons.injEq, and_true] at e0 e1
    subst e0 e1
    exact ⟨⟨n0, n1⟩, rfl⟩
theorem skinArg_open {r : Reach} {b0 : Nat} {v : Value} {d : DataW H} {p : List MemPlace} (hv : Value.okWide Tryd.prog w r b0 29 v) (h : DataW.Trod enc Tryd.prog w 0 (fun _ => true) true 29 v d p) :
    ∃ s : Skin, v = .agg #[.int .i64 s.drops, .int .i64 s.pace.lo, .int .i64 s.pace.hi, .int .i64 s.step.lo, .int .i64 s.step.hi] := by
  obtain ⟨f0, f1, f2, hu, t0, t1, t2, z0, z1, z2⟩ := skinUnd
  obtain ⟨cs, rfl, hsz⟩ := okWide_struct hu hv
  obtain ⟨fuel, hf⟩ := h
  obtain ⟨l⟩ := cs
  obtain ⟨xs, n, _, _, _, hlen, hg⟩ := DataW.trod_struct hu hf
  rw [cellsSkin] at hsz
  match l, hsz, xs, hlen with
  | [c0, c1, c2, c3, c4], _, [y0, y1, y2], _ =>
    have h0 : DataW.trod enc Tryd.prog w 0 (fun _ => true) true n 3 [c0] = some y0 := by simpa [t0, z0, cellsInt1, Value.cells] using hg 0 f0 rfl
    have h1 : DataW.trod enc Tryd.prog w 0 (fun _ => true) true n 27 [c1, c2] = some y1 := by simpa [t1, z1, cellsSpan, Value.cells] using hg 1 f1 rfl
    have h2 : DataW.trod enc Tryd.prog w 0 (fun _ => true) true n 27 [c3, c4] = some y2 := by simpa [t2, z2, cellsSpan, Value.cells] using hg 2 f2 rfl
    obtain ⟨n0, e0, _, _⟩ := DataW.trod_int Tryd.underlying3 h0
    obtain ⟨s1, e1⟩ := span_cells h1 rfl
    obtain ⟨s2, e2⟩ := span_cells h2 rfl
    simp only [Span.vals, List.cons.injEq, and_true] at e0 e1 e2
    obtain ⟨rfl, rfl⟩ := e1
    obtain ⟨rfl, rfl⟩ := e2
    subst e0
    exact ⟨⟨n0, s1, s2⟩, rfl⟩
theorem gaitArg_open {r : Reach} {b0 : Nat} {v : Value} {d : DataW H} {p : List MemPlace} (hv : Value.okWide Tryd.prog w r b0 66 v) (h : DataW.Trod enc Tryd.prog w 0 (fun _ => true) true 66 v d p) :
    ∃ s : Gait, v = .agg #[.int .i64 s.pace.lo, .int .i64 s.pace.hi, .int .i64 s.step.lo, .int .i64 s.step.hi] := by
  obtain ⟨f0, f1, hu, t0, t1, z0, z1⟩ := gaitUnd
  obtain ⟨cs, rfl, hsz⟩ := okWide_struct hu hv
  obtain ⟨fuel, hf⟩ := h
  obtain ⟨l⟩ := cs
  obtain ⟨xs, n, _, _, _, hlen, hg⟩ := DataW.trod_struct hu hf
  rw [cellsGait] at hsz
  match l, hsz, xs, hlen with
  | [c1, c2, c3, c4], _, [y1, y2], _ =>
    have h1 : DataW.trod enc Tryd.prog w 0 (fun _ => true) true n 27 [c1, c2] = some y1 := by simpa [t0, z0, cellsSpan, Value.cells] using hg 0 f0 rfl
    have h2 : DataW.trod enc Tryd.prog w 0 (fun _ => true) true n 27 [c3, c4] = some y2 := by simpa [t1, z1, cellsSpan, Value.cells] using hg 1 f1 rfl
    obtain ⟨s1, e1⟩ := span_cells h1 rfl
    obtain ⟨s2, e2⟩ := span_cells h2 rfl
    simp only [Span.vals, List.cons.injEq, and_true] at e1 e2
    obtain ⟨rfl, rfl⟩ := e1
    obtain ⟨rfl, rfl⟩ := e2
    exact ⟨⟨s1, s2⟩, rfl⟩
end
end Go.Proofs.YtahkjagjcogeiaaDoor
/- ClimbWays: whatever the arguments, the law answers true. The row, and the card. -/
namespace Go.Proofs.YtahkjagjcogeiaaDoor
open Go.ChangeShapes Go.WideShapes Go.ChangeAt Go.RowKit Go.Joins
set_option linter.unusedVariables false

set_option maxRecDepth 100000 in
theorem ways_lifted (os : Os) (started : os.Started) (H : Type) (enc : TypeId × Value → H) :
    ReturnsInHanded {} Tryd.checked os 7 .any (fun w args => (Rows.climbWaysSpec.pre enc Tryd.prog Tryd.f7 [] false w args ∧ laidMetH Tryd.prog laidL w) ∧ sizedMet enc Tryd.prog Tryd.f7 (OpenSpec.ofChange Rows.climbWaysSpec) false w args)
      (Rows.climbWaysSpec.post enc Tryd.prog Tryd.f7 false true false false) := by
  refine returnsInHanded_of_change_and (C := Tryd.checked) (X := fun w _ => laidMetH Tryd.prog laidL w) (fun _ _ _ hh h => h.of_heap hh) ownT' started (by kernel_rfl) Tryd.func7
    (ChangeSpec.witness_shaped (enc := enc) (C := Tryd.checked) (os := os) (X := fun w _ => laidMetH Tryd.prog laidL w) false (World.doorLaid Tryd.prog 800 os) #[.agg #[.slice none 0 0, .slice none 0 0], .int .i64 0, .int .i64 0, .bool false, .slice none 0 0] 8 rfl (World.shaped_of_RefB (by kernel_rfl) (by kernel_rfl)) (by kernel_rfl) (by kernel_rfl) (by kernel_rfl) (door_met os _)) ?_
  intro W base args ds gs before hval0 hW _ _ hL _
  have hval : ∀ (j : Nat) t v, Tryd.f7.params[j]? = some t → args[j]? = some v → Value.okWide Tryd.prog W .any base t v := hval0
  have hW' := hW
  obtain ⟨p, q, hA0, hV, rfl, hfz, hnd⟩ := hW
  have hA : DataW.TrodAll enc Tryd.prog W 0 (fun _ => true) true Tryd.f7.params.toList args.toList ds p := hA0
  rw [Tryd.params7] at hA hval
  obtain ⟨v0, vs0, d0, ds0, p0, q0, hargs, rfl, rfl, h0, r0⟩ := trodAll_cons hA
  obtain ⟨v1, vs1, d1, ds1, p1, q1, rfl, rfl, rfl, h1, r1⟩ := trodAll_cons r0
  obtain ⟨v2, vs2, d2, ds2, p2, q2, rfl, rfl, rfl, h2, r2⟩ := trodAll_cons r1
  obtain ⟨v3, vs3, d3, ds3, p3, q3, rfl, rfl, rfl, h3, r3⟩ := trodAll_cons r2
  obtain ⟨v4, vs4, d4, ds4, p4, q4, rfl, rfl, rfl, h4, r4⟩ := trodAll_cons r3
  obtain ⟨rfl, rfl, rfl⟩ := trodAll_nil r4
  obtain rfl : args = #[v0, v1, v2, v3, v4] := by cases args; simp_all
  obtain ⟨rfl, rfl⟩ := trodVars_none hV
  have lt0 : ∀ x ∈ p0, x.block < W.heap.size := by obtain ⟨m, hm⟩ := h0; exact DataW.trod_lt m _ _ _ hm
  have lt1 : ∀ x ∈ p1, x.block < W.heap.size := by obtain ⟨m, hm⟩ := h1; exact DataW.trod_lt m _ _ _ hm
  have lt2 : ∀ x ∈ p2, x.block < W.heap.size := by obtain ⟨m, hm⟩ := h2; exact DataW.trod_lt m _ _ _ hm
  have lt3 : ∀ x ∈ p3, x.block < W.heap.size := by obtain ⟨m, hm⟩ := h3; exact DataW.trod_lt m _ _ _ hm
  have lt4 : ∀ x ∈ p4, x.block < W.heap.size := by obtain ⟨m, hm⟩ := h4; exact DataW.trod_lt m _ _ _ hm
  have hl := of_laid hL
  obtain ⟨A, n, c, A', m, d, t, e0, hn, hm, hnc, hmd, ht⟩ := town_open (hval 0 25 v0 rfl rfl) h0
  obtain ⟨s1, e1⟩ := okWide_int Tryd.underlying3 (hval 1 3 v1 rfl rfl)
  obtain ⟨s2, e2⟩ := okWide_int Tryd.underlying3 (hval 2 3 v2 rfl rfl)
  obtain ⟨s3, e3⟩ := okWide_bool Tryd.underlying4 (hval 3 4 v3 rfl rfl)
  obtain ⟨A2, k2, c2, e4⟩ := okWide_slice Tryd.underlying22 (hval 4 22 v4 rfl rfl)
  have hh4 := h4
  obtain ⟨fu, hf4⟩ := hh4
  rw [e4, show (Value.slice A2 k2 c2).cells = #[.slice A2 k2 c2] from rfl] at hf4
  obtain ⟨B2, j2, b2, l, e4', _, hk, _, hr⟩ := ints_open hf4
  rw [← e4] at e4'
  clear e4 hf4
  clear hA0 hval0 hval
  subst e0 e1 e2 e3 e4'
  refine (ways_walk A n c A' m d t s1 s2 s3 B2 j2 b2 l W hn hm hk ht hr hl).mono fun e W' ⟨he, bel⟩ => ?_
  subst he
  exact ⟨_, rfl, _, _, _, [], _, [], hW', trodAll_mk1 (shut_bool Tryd.underlying4 _), (trodAll_cons_mk (Below.trod laidOutT' (by kernel_rfl) (of_decide_eq_true (by kernel_rfl)) h0 bel lt0) (trodAll_cons_mk (Below.trod laidOutT' (by kernel_rfl) (of_decide_eq_true (by kernel_rfl)) h1 bel lt1) (trodAll_cons_mk (Below.trod laidOutT' (by kernel_rfl) (of_decide_eq_true (by kernel_rfl)) h2 bel lt2) (trodAll_cons_mk (Below.trod laidOutT' (by kernel_rfl) (of_decide_eq_true (by kernel_rfl)) h3 bel lt3) (trodAll_cons_mk (Below.trod laidOutT' (by kernel_rfl) (of_decide_eq_true (by kernel_rfl)) h4 bel lt4) trodAll_mk0))))), rfl, bel.frame _, fun h => by cases h⟩

theorem ways_holds : Rows.ClimbWaysSaid :=
  OpenClaim.holds_of_wide 7 Tryd.f7 rfl rfl rfl rfl rfl rfl rfl ⟨rfl, rfl, rfl, rfl, rfl⟩ rfl rfl rfl rfl rfl (by kernel_rfl) Tryd.func7 (by kernel_rfl)
    (of_decide_eq_true (by kernel_rfl)) (by unfold Func.isWrapper; first | (rw [if_pos (by decide +kernel)]; kernel_rfl) | (rw [if_neg (by decide +kernel)]; exact ⟨rfl, rfl⟩))
    (fun os started H enc _ => ways_lifted os started H enc)

theorem ways_card : Rows.ClimbWaysCardSaid :=
  Claim7.holds_tied_plain_at .later [] [.funcs] true (true, "35db601371cf4e3db72291b0fffac302dc4738302ccce79cad216ebd535e90b1") false
    ways_holds (fun _ h => by cases h) (by kernel_rfl) (fun _ h => by cases h) climbWays_row_tie rfl ⟨rfl, rfl⟩ (by kernel_rfl) rfl
    (fun f fn hf hfn => by
      obtain rfl : f = 7 := Option.some.inj ((show Tryd.prog.funcNamed "aguador/aguadorlaw03.ClimbWays" = some 7 by kernel_rfl).symm.trans hf) |>.symm
      obtain rfl : fn = Tryd.f7 := (Option.some.inj (Tryd.func7.symm.trans hfn)).symm
      exact ⟨by kernel_rfl, fun j t ht => by
        rw [Tryd.params7] at ht
        have hm : t ∈ [25, 3, 3, 4, 22] := by simpa using Array.mem_of_getElem? ht
        have hall : ([25, 3, 3, 4, 22].all fun u => !Tryd.prog.wantsStandIn u) = true := by kernel_rfl
        exact (show Tryd.prog.wantsStandIn t = false by simpa using List.all_eq_true.1 hall t hm)⟩)
    (by kernel_rfl)
#print axioms ways_card
end Go.Proofs.YtahkjagjcogeiaaDoor
