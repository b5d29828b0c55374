/- ClimbTimes: whatever the arguments, the law answers true. The row, and the card. -/
import Derived.Laws.StructEq
import Derived.Test.YtahkjagjcogeiaaDoorRows
import Derived.ProofKit
import Derived.LaidMore
import Derived.LaidHandle
import Derived.Stop.Joined
import Derived.ChangeSame
import Derived.OpenShut
import Derived.Lib.SmallJoins
import Derived.ChangeArms
import Derived.SevenTiedAt
import Derived.Test.YtahkjagjcogeiaaDoorCards
import Derived.Test.YtahkjagjcogeiaaDoorTie
import Derived.Test.YtahkjagjcogeiaaDoorTi8
/- climb.Minutes: how long the way takes, in minutes. -/
namespace Go.Proofs.YtahkjagjcogeiaaDoor
open Go.RowKit Go.Shelf
set_option linter.unusedVariables false

theorem askE_head {t : Town} {u v : Int} (h : askE t [u, v] = 0) : askE t [u] = 0 := by
  obtain ⟨h1, h2⟩ := askE_zero h
  have h3 := hasB_mem h2 u (by simp)
  unfold askE hasB
  rw [h1]
  simp [memI, h3]
theorem leads_free {dk : Bool} {p : Price} {x : Link} {u : Int} {q : Int × Cost} (h : leads dk p x u = some q) : leads false p x u = some q := by
  unfold leads at h ⊢
  rw [if_neg (by simp)]
  split at h
  · cases h
  · exact h
theorem walk_walkS {t : Town} {dk : Bool} {p : Price} {u v : Int} {c : Cost} {l : List Int} (hi : t.links.Pairwise fun x y => x.id < y.id) (h : Walk t dk p u v c l) : ∀ c0, walkS t p (u, c0) l = some (v, addC c0 c) := by
  induction h with
  | nil v => intro c0; simp [walkS, addC_zero]
  | cons hx hl hw ih =>
    intro c0
    unfold walkS
    rw [stepF_leads hi hx, leads_free hl]
    simp only
    rw [ih, addC_assoc]
theorem best_bet {t : Town} {dk : Bool} {p : Price} {u v : Int} {c : Cost} {l : List Int} (hf : Fine t) (hp : Fair p) (h : best t dk p u v = some (c, l)) : betE t u l = 0 := by
  have hl := best_len hf hp h
  have hF := best_first hf hp dk u v
  rw [h] at hF
  have hw := walk_walkS hf.ids hF.1 zeroC
  have h1 : (walkedF t p u l).isSome = true := by
    unfold walkedF
    rw [if_neg (by omega), hw]
    rfl
  unfold betE
  rw [walkedF_isSome t ⟨0, 0, 0⟩ p, h1]
  rfl
def minE (t : Town) (s : Gait) (u v : Int) (dk : Bool) : Int := if or2 (askE t [u, v]) (slowE s) = 0 then (match best t dk freeP u v with
  | none => 6
  | some _ => 0) else or2 (askE t [u, v]) (slowE s)
def minV (t : Town) (s : Gait) (u v : Int) (dk : Bool) : Span := if or2 (askE t [u, v]) (slowE s) = 0 then (match best t dk freeP u v with
  | none => ⟨0, 0⟩
  | some q => ⟨firstA t (timeP s.pace.lo s.step.lo) u q.2 / 60, (firstA t (timeP s.pace.hi s.step.hi) u q.2 + 59) / 60⟩) else ⟨0, 0⟩

set_option maxRecDepth 100000 in
set_option maxHeartbeats 16000000 in
theorem minutes_in (A : Option Addr) (n c : Nat) (A' : Option Addr) (m d : Nat) (t : Town) (s : Gait) (u v : Int) (dk : Bool) (w : World)
    (hn : n ≤ 1000) (hm : m ≤ 1000) (ht : TownAt w w.heap.size A n A' m t) (hL : Laid w) :
    CallsIn Fence.wide 9 Tryd.prog 29 #[.agg #[.slice A n c, .slice A' m d], .agg #[.int .i64 s.pace.lo, .int .i64 s.pace.hi, .int .i64 s.step.lo, .int .i64 s.step.hi], .int .i64 u, .int .i64 v, .bool dk] w (EndOut w (minV t s u v dk) (minE t s u v dk)) := by
  have HT := Lib.hid ht
  have HL := Lib.hid hL
  have hl0 := hL.2.2.2
  clear ht hL
  refine callsIn_of_wp Tryd.func29 rfl trivial ?_ rfl
  simp only [Tryd.ntmps29, List.size_toArray, List.length_cons, List.length_nil, Nat.reduceAdd, Nat.reduceSub, Array.replicate_succ, Array.replicate_zero, List.push_toArray, List.append_toArray, List.nil_append, List.cons_append]
  gi_wp2
  have HLay := Lib.hid (Lay.three w 25 #[.slice A n c, .slice A' m d] 66 #[.int .i64 s.pace.lo, .int .i64 s.pace.hi, .int .i64 s.step.lo, .int .i64 s.step.hi] 27 #[.int .i64 0, .int .i64 0])
  generalize (((w.alloc (.cells #[.slice A n c, .slice A' m d] 25)).alloc (.cells #[.int .i64 s.pace.lo, .int .i64 s.pace.hi, .int .i64 s.step.lo, .int .i64 s.step.hi] 66)).alloc (.cells #[.int .i64 0, .int .i64 0] 27)) = w0 at *
  refine wpIn_flow_old [([true, true, true, false, false, true], 3), ([], 4), ([], 6), ([], 7), ([], 8)] [false, false, false, false, false, false, false, false, false, true] [] (by kernel_rfl) (by kernel_rfl) (by kernel_rfl) (below_drewN (Below.refl _ _) 1) ?_
  refine wpFlow_cons (A := ?AF1) rfl ?hq1 ?_
  case hq1 =>
    rintro σ hσ of hof hcl
    have HOF := Lib.hid hof
    have HCL := Lib.hid hcl
    clear hof hcl
    have c0_ : ∀ z, (of z).cell? ⟨w.heap.size, 0, none⟩ = some (.slice A n c) := fun z => ((HLay.out.below (HOF.out z)).blk 0 rfl).cell 0
    have c1_ : ∀ z, (of z).cell? ⟨w.heap.size, 1, none⟩ = some (.slice A' m d) := fun z => ((HLay.out.below (HOF.out z)).blk 0 rfl).cell 1
    have c2_ : ∀ z, (of z).cell? ⟨w.heap.size + 1, 0, none⟩ = some (.int .i64 s.pace.lo) := fun z => ((HLay.out.below (HOF.out z)).blk 1 rfl).cell 0
    have c3_ : ∀ z, (of z).cell? ⟨w.heap.size + 1, 1, none⟩ = some (.int .i64 s.pace.hi) := fun z => ((HLay.out.below (HOF.out z)).blk 1 rfl).cell 1
    have c4_ : ∀ z, (of z).cell? ⟨w.heap.size + 1, 2, none⟩ = some (.int .i64 s.step.lo) := fun z => ((HLay.out.below (HOF.out z)).blk 1 rfl).cell 2
    have c5_ : ∀ z, (of z).cell? ⟨w.heap.size + 1, 3, none⟩ = some (.int .i64 s.step.hi) := fun z => ((HLay.out.below (HOF.out z)).blk 1 rfl).cell 3
    have hfw : ∀ f, Fence.wide.fn f := fun _ => trivial
    simp only [pickB]
    repeat (gi_big_quiet_step (fail))
    refine wpQuietIn_nil ?_
    exact rfl
  intro W1 hW
  replace HLay := Lib.hid (HLay.out.below hW)
  clear hW
  gi_wp2
  refine ⟨trivial, (Below.refl _ _).alloc (Nat.le_refl _) _, ?_⟩
  have hb : Below W1.heap.size W1 (W1.alloc (.cells #[.int .i64 u, .int .i64 v] 3)) := (Below.refl _ _).alloc (Nat.le_refl _) _
  replace HLay := Lib.hid (HLay.out.below hb)
  have HPl := Lib.hid (show IntsAt (W1.alloc (.cells #[.int .i64 u, .int .i64 v] 3)) (W1.alloc (.cells #[.int .i64 u, .int .i64 v] 3)).heap.size (some ⟨W1.heap.size, 0, none⟩) 2 [u, v] from IntsAt.new W1 3 [u, v] _ (by simp))
  obtain ⟨P3, hP⟩ : ∃ P, W1.heap.size = P := ⟨_, rfl⟩
  rw [hP] at HPl ⊢
  generalize (W1.alloc (.cells #[.int .i64 u, .int .i64 v] 3)) = V2 at *
  clear hb hP
  refine wpFlow_cons rfl Quietly.none ?_
  intro W4 hW
  replace HLay := Lib.hid (HLay.out.below hW)
  replace HPl := Lib.hid ((HPl.out.below hW).more hW.size)
  clear hW
  have hlw := (HLay.out.blk 1 rfl).lt
  gi_wp2
  refine ⟨trivial, (callsIn_wide.2 (asked_any A n c A' m d t (some ⟨P3, 0, none⟩) 2 2 [u, v] W4 (by unfold maxLen; omega) (by unfold maxLen; omega) (by decide) ((HT.out.below HLay.out.1).more HLay.out.1.size) HPl.out (HL.out.below HLay.out.1 hl0))).mono ?_⟩
  rintro e W5 ⟨rfl, hb⟩
  replace HLay := Lib.hid (HLay.out.below hb)
  replace HPl := Lib.hid ((HPl.out.below hb).more hb.size)
  gi_wp2
  refine ⟨trivial, hb, ?_⟩
  clear hb
  clear HPl
  refine wpFlow_cons rfl Quietly.none ?_
  intro W6 hW
  replace HLay := Lib.hid (HLay.out.below hW)
  clear hW
  have hlw := (HLay.out.blk 1 rfl).lt
  gi_wp2
  refine ⟨trivial, (callsIn_wide.2 (slow_any s W6)).mono ?_⟩
  rintro e W7 ⟨rfl, hb⟩
  replace HLay := Lib.hid (HLay.out.below hb)
  gi_wp2
  refine ⟨trivial, hb, ?_⟩
  clear hb
  refine wpFlow_cons rfl Quietly.none ?_
  intro W8 hW
  replace HLay := Lib.hid (HLay.out.below hW)
  clear hW
  gi_wp2
  refine ⟨trivial, (Below.refl _ _).alloc (Nat.le_refl _) _, ?_⟩
  have hb : Below W8.heap.size W8 (W8.alloc (.cells #[.int .i64 (askE t [u, v]), .int .i64 (slowE s)] 32)) := (Below.refl _ _).alloc (Nat.le_refl _) _
  replace HLay := Lib.hid (HLay.out.below hb)
  have HOr := Lib.hid (Blk.new W8 32 #[.int .i64 (askE t [u, v]), .int .i64 (slowE s)])
  obtain ⟨P10, hP⟩ : ∃ P, W8.heap.size = P := ⟨_, rfl⟩
  rw [hP] at HOr ⊢
  generalize (W8.alloc (.cells #[.int .i64 (askE t [u, v]), .int .i64 (slowE s)] 32)) = V9 at *
  clear hb hP
  refine wpFlow_cons rfl Quietly.none ?_
  intro W11 hW
  replace HLay := Lib.hid (HLay.out.below hW)
  replace HOr := Lib.hid (HOr.out.below hW HOr.out.lt)
  clear hW
  gi_wp2
  refine ⟨trivial, (callsIn_wide.2 (or_any (askE t [u, v]) (slowE s) P10 W11 HOr.out)).mono ?_⟩
  rintro e W12 ⟨rfl, rfl⟩
  gi_wp2
  refine ⟨trivial, Below.refl _ _, ?_⟩
  clear HOr
  obtain ⟨ee, hee⟩ : ∃ ee, or2 (askE t [u, v]) (slowE s) = ee := ⟨_, rfl⟩
  rw [hee]
  have HEE := Lib.hid hee
  clear hee
  refine wpFlow_nil (A := ?AF2) ?hq2 ?_
  case hq2 =>
    rintro σ hσ of hof hcl
    have HOF := Lib.hid hof
    have HCL := Lib.hid hcl
    clear hof hcl
    have c0_ : ∀ z, (of z).cell? ⟨w.heap.size, 0, none⟩ = some (.slice A n c) := fun z => ((HLay.out.below (HOF.out z)).blk 0 rfl).cell 0
    have c1_ : ∀ z, (of z).cell? ⟨w.heap.size, 1, none⟩ = some (.slice A' m d) := fun z => ((HLay.out.below (HOF.out z)).blk 0 rfl).cell 1
    have c2_ : ∀ z, (of z).cell? ⟨w.heap.size + 1, 0, none⟩ = some (.int .i64 s.pace.lo) := fun z => ((HLay.out.below (HOF.out z)).blk 1 rfl).cell 0
    have c3_ : ∀ z, (of z).cell? ⟨w.heap.size + 1, 1, none⟩ = some (.int .i64 s.pace.hi) := fun z => ((HLay.out.below (HOF.out z)).blk 1 rfl).cell 1
    have c4_ : ∀ z, (of z).cell? ⟨w.heap.size + 1, 2, none⟩ = some (.int .i64 s.step.lo) := fun z => ((HLay.out.below (HOF.out z)).blk 1 rfl).cell 2
    have c5_ : ∀ z, (of z).cell? ⟨w.heap.size + 1, 3, none⟩ = some (.int .i64 s.step.hi) := fun z => ((HLay.out.below (HOF.out z)).blk 1 rfl).cell 3
    have hfw : ∀ f, Fence.wide.fn f := fun _ => trivial
    simp only [pickB]
    repeat (gi_big_quiet_step (fail))
    refine wpQuietIn_nil ?_
    exact rfl
  intro W13 hW
  replace HLay := Lib.hid (HLay.out.below hW)
  clear hW
  simp only [pickB]
  refine wpT_nil ?_
  have x0_0 := (HLay.out.blk 0 rfl).cell 0
  have x0_1 := (HLay.out.blk 0 rfl).cell 1
  have l0_ := HLay.out.lt 0 rfl
  have x1_0 := (HLay.out.blk 1 rfl).cell 0
  have x1_1 := (HLay.out.blk 1 rfl).cell 1
  have x1_2 := (HLay.out.blk 1 rfl).cell 2
  have x1_3 := (HLay.out.blk 1 rfl).cell 3
  have l1_ := HLay.out.lt 1 rfl
  have x2_0 := (HLay.out.blk 2 rfl).cell 0
  have z2_0 := (HLay.out.blk 2 rfl).frozen 0
  have x2_1 := (HLay.out.blk 2 rfl).cell 1
  have z2_1 := (HLay.out.blk 2 rfl).frozen 1
  have l2_ := HLay.out.lt 2 rfl
  by_cases h0 : ee = 0
  · subst h0
    have HOK := Lib.hid (or2_zero HEE.out)
    obtain ⟨htb, hhas⟩ := askE_zero HOK.out.1
    have HG := Lib.hid (goodT htb)
    have HGS := Lib.hid (goodG (slowE_zero HOK.out.2))
    have HUV := Lib.hid (hasB_mem hhas)
    have hm20 : m ≤ 20 := by have := HG.out.links; have := HT.out.links.len; omega
    clear htb hhas
    have HFP := Lib.hid freeP_fair
    gi_wp2
    refine ⟨trivial, (callsIn_wide.2 (way_any A n c A' m d t u v dk W13 hn hm ((HT.out.below HLay.out.1).more HLay.out.1.size) (HL.out.below HLay.out.1 hl0))).mono ?_⟩
    rintro e W14 ⟨to, co, AW, nW, cW, rfl, hno, hq, hty, hb⟩
    replace HLay := Lib.hid (HLay.out.below hb)
    clear hb
    have HQ := Lib.hid hq
    have HNO := Lib.hid hno
    clear hty hno hq
    clear x0_0 x0_1 l0_ x1_0 x1_1 x1_2 x1_3 l1_ x2_0 z2_0 x2_1 z2_1 l2_
    clear hlw
    have hwr : wayR t u v dk = best t dk freeP u v := by unfold wayR; rw [if_pos HOK.out.1]
    have HWR := Lib.hid hwr
    clear hwr
    cases hbe : best t dk freeP u v with
    | none =>
      have HBE := Lib.hid hbe
      have hwe : wayE t u v dk = 6 := by unfold wayE; rw [if_pos HOK.out.1, hbe]; rfl
      clear hbe
      rw [hwe]
      clear hwe
      have x0_0 := (HLay.out.blk 0 rfl).cell 0
      have x0_1 := (HLay.out.blk 0 rfl).cell 1
      have l0_ := HLay.out.lt 0 rfl
      have x1_0 := (HLay.out.blk 1 rfl).cell 0
      have x1_1 := (HLay.out.blk 1 rfl).cell 1
      have x1_2 := (HLay.out.blk 1 rfl).cell 2
      have x1_3 := (HLay.out.blk 1 rfl).cell 3
      have l1_ := HLay.out.lt 1 rfl
      have x2_0 := (HLay.out.blk 2 rfl).cell 0
      have z2_0 := (HLay.out.blk 2 rfl).frozen 0
      have x2_1 := (HLay.out.blk 2 rfl).cell 1
      have z2_1 := (HLay.out.blk 2 rfl).frozen 1
      have l2_ := HLay.out.lt 2 rfl
      gi_wp2
      have R1 := ret2 ((HLay.out.blk 2 rfl)) HLay.out.1 (by omega) (.int .i64 0) (.int .i64 0)
      have R2 := R1.1.alloc (.cells #[.int .i64 to, .int .i64 co.a, .int .i64 co.b, .int .i64 co.c, .int .i64 co.d, .slice AW nW cW] 111)
      have y0 := R2.cell 0
      have y1 := R2.cell 1
      have he : minE t s u v dk = 6 := by unfold minE; rw [if_pos HEE.out, HBE.out]
      have hv : minV t s u v dk = ⟨0, 0⟩ := by unfold minV; rw [if_pos HEE.out, HBE.out]
      exact bodyPost_ret (v := .tuple #[.agg #[.int .i64 0, .int .i64 0], .int .i64 6]) (by simp [results, Tryd.results29, go_sem, y0, y1]) rfl ⟨by rw [he, hv], R1.2.alloc R1.2.size _⟩
    | some q0 =>
      have HBE := Lib.hid hbe
      have hwe : wayE t u v dk = 0 := by unfold wayE; rw [if_pos HOK.out.1, hbe]; rfl
      clear hbe
      rw [hwe]
      clear hwe
      obtain ⟨q1, l⟩ := q0
      obtain ⟨rfl, hil, hn9, rfl⟩ := HQ.out (q1, l) (HWR.out.trans HBE.out)
      simp only at hil
      have HWL := Lib.hid (show IntsAt W14 W14.heap.size AW nW l from hil)
      clear hil
      have x0_0 := (HLay.out.blk 0 rfl).cell 0
      have x0_1 := (HLay.out.blk 0 rfl).cell 1
      have l0_ := HLay.out.lt 0 rfl
      have x1_0 := (HLay.out.blk 1 rfl).cell 0
      have x1_1 := (HLay.out.blk 1 rfl).cell 1
      have x1_2 := (HLay.out.blk 1 rfl).cell 2
      have x1_3 := (HLay.out.blk 1 rfl).cell 3
      have l1_ := HLay.out.lt 1 rfl
      have x2_0 := (HLay.out.blk 2 rfl).cell 0
      have z2_0 := (HLay.out.blk 2 rfl).frozen 0
      have x2_1 := (HLay.out.blk 2 rfl).cell 1
      have z2_1 := (HLay.out.blk 2 rfl).frozen 1
      have l2_ := HLay.out.lt 2 rfl
      gi_wp2
      clear x0_0 x0_1 l0_ x1_0 x1_1 x1_2 x1_3 l1_ x2_0 z2_0 x2_1 z2_1 l2_
      have hb : Below W14.heap.size W14 (W14.alloc (.cells #[.int .i64 to, .int .i64 co.a, .int .i64 co.b, .int .i64 co.c, .int .i64 co.d, .slice AW nW cW] 111)) := (Below.refl _ _).alloc (Nat.le_refl _) _
      have hnew := Blk.new W14 111 #[.int .i64 to, .int .i64 co.a, .int .i64 co.b, .int .i64 co.c, .int .i64 co.d, .slice AW nW cW]
      have hge := HLay.out.bel.size
      replace HLay := Lib.hid (HLay.out.below hb)
      replace HWL := Lib.hid ((HWL.out.below hb).more hb.size)
      replace HLay := Lib.hid (HLay.out.add hge hnew)
      clear hnew hge hb
      obtain ⟨G36, hG⟩ : ∃ g, W14.heap.size = g := ⟨_, rfl⟩
      rw [hG] at HLay ⊢
      generalize (W14.alloc (.cells #[.int .i64 to, .int .i64 co.a, .int .i64 co.b, .int .i64 co.c, .int .i64 co.d, .slice AW nW cW] 111)) = V35 at *
      clear hG
      replace HLay := Lib.hid (show Lay w V35 [(w.heap.size, 25, #[.slice A n c, .slice A' m d]), (w.heap.size + 1, 66, #[.int .i64 s.pace.lo, .int .i64 s.pace.hi, .int .i64 s.step.lo, .int .i64 s.step.hi]), (w.heap.size + 1 + 1, 27, #[.int .i64 0, .int .i64 0]), (G36, 111, #[.int .i64 to, .int .i64 co.a, .int .i64 co.b, .int .i64 co.c, .int .i64 co.d, .slice AW nW cW])] from HLay.out)
      refine ⟨trivial, (callsIn_wide.2 (seconds_any A n c A' m d t s u AW nW cW l V35 hn hm (by omega) ((HT.out.below HLay.out.1).more HLay.out.1.size) HWL.out (HL.out.below HLay.out.1 hl0))).mono ?_⟩
      rintro e W37 ⟨rfl, hb⟩
      replace HLay := Lib.hid (HLay.out.below hb)
      replace HWL := Lib.hid ((HWL.out.below hb).more hb.size)
      clear hb
      have HO1 : or2 (askE t [u]) (slowE s) = 0 := by unfold or2; rw [askE_head HOK.out.1, HOK.out.2]; rfl
      have hse : secE t s u l = 0 := by unfold secE; rw [if_pos HO1]; exact best_bet HG.out.fine HFP.out HBE.out
      have hsv : secV t s u l = ⟨firstA t (timeP s.pace.lo s.step.lo) u l, firstA t (timeP s.pace.hi s.step.hi) u l⟩ := by unfold secV; rw [if_pos HO1]
      rw [hse, hsv]
      clear hse hsv HO1
      have hb1 := firstA_bound HG.out.fine (timeP_fair (a := s.pace.lo) (b := s.step.lo) (by have := HGS.out.pace; omega) (by have := HGS.out.step; omega)) u l
      have hb2 := firstA_bound HG.out.fine (timeP_fair (a := s.pace.hi) (b := s.step.hi) (by have := HGS.out.pace; omega) (by have := HGS.out.step; omega)) u l
      obtain ⟨fa, hfa⟩ : ∃ y, firstA t (timeP s.pace.lo s.step.lo) u l = y := ⟨_, rfl⟩
      obtain ⟨fb, hfb⟩ : ∃ y, firstA t (timeP s.pace.hi s.step.hi) u l = y := ⟨_, rfl⟩
      rw [hfa] at hb1 ⊢
      rw [hfb] at hb2 ⊢
      have HFA := Lib.hid hfa
      have HFB := Lib.hid hfb
      clear hfa hfb
      obtain ⟨a10, a11⟩ := hb1
      obtain ⟨a20, a21⟩ := hb2
      have x0_0 := (HLay.out.blk 0 rfl).cell 0
      have x0_1 := (HLay.out.blk 0 rfl).cell 1
      have l0_ := HLay.out.lt 0 rfl
      have x1_0 := (HLay.out.blk 1 rfl).cell 0
      have x1_1 := (HLay.out.blk 1 rfl).cell 1
      have x1_2 := (HLay.out.blk 1 rfl).cell 2
      have x1_3 := (HLay.out.blk 1 rfl).cell 3
      have l1_ := HLay.out.lt 1 rfl
      have x2_0 := (HLay.out.blk 2 rfl).cell 0
      have z2_0 := (HLay.out.blk 2 rfl).frozen 0
      have x2_1 := (HLay.out.blk 2 rfl).cell 1
      have z2_1 := (HLay.out.blk 2 rfl).frozen 1
      have l2_ := HLay.out.lt 2 rfl
      gi_wp2
      clear x0_0 x0_1 l0_ x1_0 x1_1 x1_2 x1_3 l1_ x2_0 z2_0 x2_1 z2_1 l2_
      have R1 := ret2 ((HLay.out.blk 2 rfl)) HLay.out.1 (by omega) (.int .i64 (fa / 60)) (.int .i64 ((fb + 60 - 1) / 60))
      have R2 := R1.1.alloc (.cells #[.int .i64 fa, .int .i64 fb] 27)
      have y0 := R2.cell 0
      have y1 := R2.cell 1
      have he : minE t s u to dk = 0 := by unfold minE; rw [if_pos HEE.out, HBE.out]
      have hv : minV t s u to dk = ⟨fa / 60, (fb + 60 - 1) / 60⟩ := by unfold minV; rw [if_pos HEE.out, HBE.out, ← HFA.out, ← HFB.out, show ∀ y : Int, y + 60 - 1 = y + 59 from fun y => by omega]
      exact bodyPost_ret (v := .tuple #[.agg #[.int .i64 (fa / 60), .int .i64 ((fb + 60 - 1) / 60)], .int .i64 0]) (by simp [results, Tryd.results29, go_sem, y0, y1]) rfl ⟨by rw [he, hv], R1.2.alloc R1.2.size _⟩
  · have h1 : (ee != 0) = true := by simpa using h0
    have HE0 := Lib.hid h0
    clear h0
    gi_wp2
    have R1 := ret2 (HLay.out.blk 2 rfl) HLay.out.1 (by omega) (.int .i64 (0)) (.int .i64 (0))
    have y0 := R1.1.cell 0
    have y1 := R1.1.cell 1
    have he : minE t s u v dk = ee := by unfold minE; rw [HEE.out, if_neg HE0.out]
    have hv : minV t s u v dk = ⟨0, 0⟩ := by unfold minV; rw [HEE.out, if_neg HE0.out]
    exact bodyPost_ret (v := .tuple #[.agg #[.int .i64 (0), .int .i64 (0)], .int .i64 (ee)]) (by simp [results, Tryd.results29, go_sem, y0, y1]) rfl ⟨by rw [he, hv], R1.2⟩

theorem minutes_any (A : Option Addr) (n c : Nat) (A' : Option Addr) (m d : Nat) (t : Town) (s : Gait) (u v : Int) (dk : Bool) (w : World)
    (hn : n ≤ 1000) (hm : m ≤ 1000) (ht : TownAt w w.heap.size A n A' m t) (hL : Laid w) :
    Calls Tryd.prog 29 #[.agg #[.slice A n c, .slice A' m d], .agg #[.int .i64 s.pace.lo, .int .i64 s.pace.hi, .int .i64 s.step.lo, .int .i64 s.step.hi], .int .i64 u, .int .i64 v, .bool dk] w (EndOut w (minV t s u v dk) (minE t s u v dk)) :=
  callsIn_wide.1 (minutes_in A n c A' m d t s u v dk w hn hm ht hL)
end Go.Proofs.YtahkjagjcogeiaaDoor
/- The answer's Minutes. -/
namespace Go.Proofs.YtahkjagjcogeiaaDoor
open Go.RowKit Go.Shelf
set_option linter.unusedVariables false

theorem best_some {t : Town} {dk : Bool} {p : Price} {u v : Int} {c : Cost} {l : List Int} (hf : Fine t) (hp : Fair p) (h : best t dk p u v = some (c, l)) (p' : Price) : (walkedF t p' u l).isSome = true := by
  have h1 := best_bet hf hp h
  unfold betE at h1
  rw [walkedF_isSome t p' ⟨0, 0, 0⟩]
  cases h2 : (walkedF t ⟨0, 0, 0⟩ u l).isSome
  · rw [h2] at h1; simp at h1
  · rfl

set_option maxRecDepth 100000 in
set_option maxHeartbeats 16000000 in
theorem rminutes_in (A : Option Addr) (n c : Nat) (A' : Option Addr) (m d : Nat) (t : Town) (s : Gait) (u v : Int) (dk : Bool) (w : World)
    (hn : n ≤ 1000) (hm : m ≤ 1000) (ht : TownAt w w.heap.size A n A' m t) :
    CallsIn Fence.wide 9 Tryd.prog 30 #[.agg #[.slice A n c, .slice A' m d], .agg #[.int .i64 s.pace.lo, .int .i64 s.pace.hi, .int .i64 s.step.lo, .int .i64 s.step.hi], .int .i64 u, .int .i64 v, .bool dk] w (EndOut w (minV t s u v dk) (minE t s u v dk)) := by
  have HT := Lib.hid ht
  clear ht
  refine callsIn_of_wp Tryd.func30 rfl trivial ?_ rfl
  simp only [Tryd.ntmps30, List.size_toArray, List.length_cons, List.length_nil, Nat.reduceAdd, Nat.reduceSub, Array.replicate_succ, Array.replicate_zero, List.push_toArray, List.append_toArray, List.nil_append, List.cons_append]
  gi_wp2
  have HLay := Lib.hid (Lay.three w 25 #[.slice A n c, .slice A' m d] 66 #[.int .i64 s.pace.lo, .int .i64 s.pace.hi, .int .i64 s.step.lo, .int .i64 s.step.hi] 27 #[.int .i64 0, .int .i64 0])
  generalize (((w.alloc (.cells #[.slice A n c, .slice A' m d] 25)).alloc (.cells #[.int .i64 s.pace.lo, .int .i64 s.pace.hi, .int .i64 s.step.lo, .int .i64 s.step.hi] 66)).alloc (.cells #[.int .i64 0, .int .i64 0] 27)) = w0 at *
  refine ⟨trivial, (callsIn_wide.2 (rasked_any A n c A' m d t u v w0 hn hm ((HT.out.below HLay.out.1).more HLay.out.1.size))).mono ?_⟩
  rintro e W1 ⟨rfl, hb⟩
  replace HLay := Lib.hid (HLay.out.below hb)
  clear hb
  obtain ⟨ea, hea⟩ : ∃ ea, askE t [u, v] = ea := ⟨_, rfl⟩
  rw [hea]
  have HEA := Lib.hid hea
  clear hea
  have x0_0 := (HLay.out.blk 0 rfl).cell 0
  have x0_1 := (HLay.out.blk 0 rfl).cell 1
  have l0_ := HLay.out.lt 0 rfl
  have x1_0 := (HLay.out.blk 1 rfl).cell 0
  have x1_1 := (HLay.out.blk 1 rfl).cell 1
  have x1_2 := (HLay.out.blk 1 rfl).cell 2
  have x1_3 := (HLay.out.blk 1 rfl).cell 3
  have l1_ := HLay.out.lt 1 rfl
  have x2_0 := (HLay.out.blk 2 rfl).cell 0
  have z2_0 := (HLay.out.blk 2 rfl).frozen 0
  have x2_1 := (HLay.out.blk 2 rfl).cell 1
  have z2_1 := (HLay.out.blk 2 rfl).frozen 1
  have l2_ := HLay.out.lt 2 rfl
  by_cases h0 : ea = 0
  · subst h0
    obtain ⟨htb, hhas⟩ := askE_zero HEA.out
    have HG := Lib.hid (goodT htb)
    have HUV := Lib.hid (hasB_mem hhas)
    have hm20 : m ≤ 20 := by have := HG.out.links; have := HT.out.links.len; omega
    clear htb hhas
    gi_wp2
    refine ⟨trivial, (callsIn_wide.2 (rgait_any s W1)).mono ?_⟩
    rintro e W2 ⟨rfl, hb⟩
    replace HLay := Lib.hid (HLay.out.below hb)
    clear hb
    clear x0_0 x0_1 l0_ x1_0 x1_1 x1_2 x1_3 l1_ x2_0 z2_0 x2_1 z2_1 l2_
    have x0_0 := (HLay.out.blk 0 rfl).cell 0
    have x0_1 := (HLay.out.blk 0 rfl).cell 1
    have l0_ := HLay.out.lt 0 rfl
    have x1_0 := (HLay.out.blk 1 rfl).cell 0
    have x1_1 := (HLay.out.blk 1 rfl).cell 1
    have x1_2 := (HLay.out.blk 1 rfl).cell 2
    have x1_3 := (HLay.out.blk 1 rfl).cell 3
    have l1_ := HLay.out.lt 1 rfl
    have x2_0 := (HLay.out.blk 2 rfl).cell 0
    have z2_0 := (HLay.out.blk 2 rfl).frozen 0
    have x2_1 := (HLay.out.blk 2 rfl).cell 1
    have z2_1 := (HLay.out.blk 2 rfl).frozen 1
    have l2_ := HLay.out.lt 2 rfl
    cases hs : gaitB s with
    | false =>
      have HS := Lib.hid hs
      clear hs
      gi_wp2
      have R1 := ret2 (HLay.out.blk 2 rfl) HLay.out.1 (by omega) (.int .i64 0) (.int .i64 0)
      have y0 := R1.1.cell 0
      have y1 := R1.1.cell 1
      have he : minE t s u v dk = 35 := by unfold minE or2 slowE; rw [HEA.out, HS.out]; rfl
      have hv : minV t s u v dk = ⟨0, 0⟩ := by unfold minV or2 slowE; rw [HEA.out, HS.out]; rfl
      exact bodyPost_ret (v := .tuple #[.agg #[.int .i64 (0), .int .i64 (0)], .int .i64 (35)]) (by simp [results, Tryd.results30, go_sem, y0, y1]) rfl ⟨by rw [he, hv], R1.2⟩
    | true =>
      have HGS := Lib.hid (goodG hs)
      have HSL := Lib.hid (show slowE s = 0 by unfold slowE; rw [hs]; rfl)
      clear hs
      have HO := Lib.hid (show or2 (askE t [u, v]) (slowE s) = 0 by unfold or2; rw [HEA.out, HSL.out]; rfl)
      have HF1 := Lib.hid (timeP_fair (a := s.pace.lo) (b := s.step.lo) (by have := HGS.out.pace; omega) (by have := HGS.out.step; omega))
      have HF2 := Lib.hid (timeP_fair (a := s.pace.hi) (b := s.step.hi) (by have := HGS.out.pace; omega) (by have := HGS.out.step; omega))
      have HC1 := Lib.hid (timeP_cheap (a := s.pace.lo) (b := s.step.lo) (by have := HGS.out.pace; omega) (by have := HGS.out.step; omega))
      have HC2 := Lib.hid (timeP_cheap (a := s.pace.hi) (b := s.step.hi) (by have := HGS.out.pace; omega) (by have := HGS.out.step; omega))
      gi_wp2
      clear x0_0 x0_1 l0_ x1_0 x1_1 x1_2 x1_3 l1_ x2_0 z2_0 x2_1 z2_1 l2_
      have HFP := Lib.hid (freeP_fair)
      refine ⟨trivial, (callsIn_wide.2 (rfirst_any A n c A' m d freeP t dk u v W2 hm20 ((HT.out.places.below HLay.out.1).more HLay.out.1.size) ((HT.out.links.below HLay.out.1).more HLay.out.1.size) freeP_cheap HG.out.fine HFP.out HG.out.nodup (HUV.out u (by simp)))).mono ?_⟩
      rintro e W3 ⟨AO, nO, cO, co, rfl, hno, hq, hfr, hb⟩
      replace HLay := Lib.hid (HLay.out.below hb)
      clear hb
      have HNO := Lib.hid hno
      have HQ := Lib.hid hq
      clear hno hq hfr
      obtain ⟨rr, hrr⟩ : ∃ rr, best t dk freeP u v = rr := ⟨_, rfl⟩
      rw [hrr] at HNO HQ ⊢
      have HBE := Lib.hid hrr
      clear hrr
      cases rr with
      | none =>
        obtain ⟨rfl, rfl, rfl, rfl⟩ := HNO.out rfl
        have x0_0 := (HLay.out.blk 0 rfl).cell 0
        have x0_1 := (HLay.out.blk 0 rfl).cell 1
        have l0_ := HLay.out.lt 0 rfl
        have x1_0 := (HLay.out.blk 1 rfl).cell 0
        have x1_1 := (HLay.out.blk 1 rfl).cell 1
        have x1_2 := (HLay.out.blk 1 rfl).cell 2
        have x1_3 := (HLay.out.blk 1 rfl).cell 3
        have l1_ := HLay.out.lt 1 rfl
        have x2_0 := (HLay.out.blk 2 rfl).cell 0
        have z2_0 := (HLay.out.blk 2 rfl).frozen 0
        have x2_1 := (HLay.out.blk 2 rfl).cell 1
        have z2_1 := (HLay.out.blk 2 rfl).frozen 1
        have l2_ := HLay.out.lt 2 rfl
        gi_wp2
        have R1 := ret2 (HLay.out.blk 2 rfl) HLay.out.1 (by omega) (.int .i64 0) (.int .i64 0)
        have R2 := R1.1.alloc (.cells #[.int .i64 zeroC.a, .int .i64 zeroC.b, .int .i64 zeroC.c, .int .i64 zeroC.d] 103)
        have y0 := R2.cell 0
        have y1 := R2.cell 1
        have he : minE t s u v dk = 6 := by unfold minE ; rw [if_pos HO.out, HBE.out]
        have hv : minV t s u v dk = ⟨0, 0⟩ := by unfold minV ; rw [if_pos HO.out, HBE.out]
        exact bodyPost_ret (v := .tuple #[.agg #[.int .i64 (0), .int .i64 (0)], .int .i64 (6)]) (by simp [results, Tryd.results30, go_sem, y0, y1]) rfl ⟨by rw [he, hv], R1.2.alloc R1.2.size _⟩
      | some q0 =>
        obtain ⟨q1, l⟩ := q0
        obtain ⟨rfl, hql⟩ := HQ.out _ rfl
        have HQL := Lib.hid (show IntsAt W3 W3.heap.size AO nO l from hql)
        clear hql
        have hl9 := best_len HG.out.fine HFP.out HBE.out
        have hn9 : nO ≤ 9 := by have := HQL.out.len; omega
        clear hl9
        have x0_0 := (HLay.out.blk 0 rfl).cell 0
        have x0_1 := (HLay.out.blk 0 rfl).cell 1
        have l0_ := HLay.out.lt 0 rfl
        have x1_0 := (HLay.out.blk 1 rfl).cell 0
        have x1_1 := (HLay.out.blk 1 rfl).cell 1
        have x1_2 := (HLay.out.blk 1 rfl).cell 2
        have x1_3 := (HLay.out.blk 1 rfl).cell 3
        have l1_ := HLay.out.lt 1 rfl
        have x2_0 := (HLay.out.blk 2 rfl).cell 0
        have z2_0 := (HLay.out.blk 2 rfl).frozen 0
        have x2_1 := (HLay.out.blk 2 rfl).cell 1
        have z2_1 := (HLay.out.blk 2 rfl).frozen 1
        have l2_ := HLay.out.lt 2 rfl
        gi_wp2
        clear x0_0 x0_1 l0_ x1_0 x1_1 x1_2 x1_3 l1_ x2_0 z2_0 x2_1 z2_1 l2_
        have hb : Below W3.heap.size W3 (W3.alloc (.cells #[.int .i64 q1.a, .int .i64 q1.b, .int .i64 q1.c, .int .i64 q1.d] 103)) := (Below.refl _ _).alloc (Nat.le_refl _) _
        have hnew := Blk.new W3 103 #[.int .i64 q1.a, .int .i64 q1.b, .int .i64 q1.c, .int .i64 q1.d]
        have hge := HLay.out.bel.size
        replace HLay := Lib.hid (HLay.out.below hb)
        replace HQL := Lib.hid ((HQL.out.below hb).more hb.size)
        replace HLay := Lib.hid (HLay.out.add hge hnew)
        clear hnew hge hb
        obtain ⟨G25, hG⟩ : ∃ g, W3.heap.size = g := ⟨_, rfl⟩
        rw [hG] at HLay ⊢
        generalize (W3.alloc (.cells #[.int .i64 q1.a, .int .i64 q1.b, .int .i64 q1.c, .int .i64 q1.d] 103)) = V24 at *
        clear hG
        replace HLay := Lib.hid (show Lay w V24 [(w.heap.size, 25, #[.slice A n c, .slice A' m d]), (w.heap.size + 1, 66, #[.int .i64 s.pace.lo, .int .i64 s.pace.hi, .int .i64 s.step.lo, .int .i64 s.step.hi]), (w.heap.size + 1 + 1, 27, #[.int .i64 0, .int .i64 0]), (G25, 103, #[.int .i64 q1.a, .int .i64 q1.b, .int .i64 q1.c, .int .i64 q1.d])] from HLay.out)
        refine ⟨trivial, (callsIn_wide.2 (timed_any A n c A' m d t s u AO nO cO l V24 hm (by omega) ((HT.out.links.below HLay.out.1).more HLay.out.1.size) HG.out.fine HGS.out HQL.out)).mono ?_⟩
        rintro e W26 ⟨rfl, hb⟩
        replace HLay := Lib.hid (HLay.out.below hb)
        replace HQL := Lib.hid ((HQL.out.below hb).more hb.size)
        clear hb
        have hi1 : (walkedF t (timeP s.pace.lo s.step.lo) u l).isSome = true := best_some HG.out.fine HFP.out HBE.out _
        have hi2 : (walkedF t (timeP s.pace.hi s.step.hi) u l).isSome = true := best_some HG.out.fine HFP.out HBE.out _
        rw [partF_some hi1, partF_some hi2, hi1]
        clear hi1 hi2
        have hb1 := firstA_bound HG.out.fine HF1.out u l
        have hb2 := firstA_bound HG.out.fine HF2.out u l
        obtain ⟨fa, hfa⟩ : ∃ y, firstA t (timeP s.pace.lo s.step.lo) u l = y := ⟨_, rfl⟩
        obtain ⟨fb, hfb⟩ : ∃ y, firstA t (timeP s.pace.hi s.step.hi) u l = y := ⟨_, rfl⟩
        rw [hfa] at hb1 ⊢
        rw [hfb] at hb2 ⊢
        have HFA := Lib.hid hfa
        have HFB := Lib.hid hfb
        clear hfa hfb
        obtain ⟨a10, a11⟩ := hb1
        obtain ⟨a20, a21⟩ := hb2
        have x0_0 := (HLay.out.blk 0 rfl).cell 0
        have x0_1 := (HLay.out.blk 0 rfl).cell 1
        have l0_ := HLay.out.lt 0 rfl
        have x1_0 := (HLay.out.blk 1 rfl).cell 0
        have x1_1 := (HLay.out.blk 1 rfl).cell 1
        have x1_2 := (HLay.out.blk 1 rfl).cell 2
        have x1_3 := (HLay.out.blk 1 rfl).cell 3
        have l1_ := HLay.out.lt 1 rfl
        have x2_0 := (HLay.out.blk 2 rfl).cell 0
        have z2_0 := (HLay.out.blk 2 rfl).frozen 0
        have x2_1 := (HLay.out.blk 2 rfl).cell 1
        have z2_1 := (HLay.out.blk 2 rfl).frozen 1
        have l2_ := HLay.out.lt 2 rfl
        gi_wp2
        have R1 := ret2 (HLay.out.blk 2 rfl) HLay.out.1 (by omega) (.int .i64 (fa / 60)) (.int .i64 ((fb + 59) / 60))
        have R2 := R1.1.alloc (.cells #[.int .i64 fa, .int .i64 fb] 27)
        have y0 := R2.cell 0
        have y1 := R2.cell 1
        have he : minE t s u v dk = 0 := by unfold minE; rw [if_pos HO.out, HBE.out]
        have hv : minV t s u v dk = ⟨fa / 60, (fb + 59) / 60⟩ := by unfold minV; rw [if_pos HO.out, HBE.out, ← HFA.out, ← HFB.out]
        exact bodyPost_ret (v := .tuple #[.agg #[.int .i64 (fa / 60), .int .i64 ((fb + 59) / 60)], .int .i64 (0)]) (by simp [results, Tryd.results30, go_sem, y0, y1]) rfl ⟨by rw [he, hv], R1.2.alloc R1.2.size _⟩
  · have h1 : (ea != 0) = true := by simpa using h0
    have HE0 := Lib.hid h0
    clear h0
    gi_wp2
    have R1 := ret2 (HLay.out.blk 2 rfl) HLay.out.1 (by omega) (.int .i64 0) (.int .i64 0)
    have y0 := R1.1.cell 0
    have y1 := R1.1.cell 1
    have he : minE t s u v dk = ea := by unfold minE or2; rw [HEA.out, if_neg HE0.out, if_neg HE0.out]
    have hv : minV t s u v dk = ⟨0, 0⟩ := by unfold minV or2; rw [HEA.out, if_neg HE0.out, if_neg HE0.out]
    exact bodyPost_ret (v := .tuple #[.agg #[.int .i64 (0), .int .i64 (0)], .int .i64 (ea)]) (by simp [results, Tryd.results30, go_sem, y0, y1]) rfl ⟨by rw [he, hv], R1.2⟩

theorem rminutes_any (A : Option Addr) (n c : Nat) (A' : Option Addr) (m d : Nat) (t : Town) (s : Gait) (u v : Int) (dk : Bool) (w : World)
    (hn : n ≤ 1000) (hm : m ≤ 1000) (ht : TownAt w w.heap.size A n A' m t) :
    Calls Tryd.prog 30 #[.agg #[.slice A n c, .slice A' m d], .agg #[.int .i64 s.pace.lo, .int .i64 s.pace.hi, .int .i64 s.step.lo, .int .i64 s.step.hi], .int .i64 u, .int .i64 v, .bool dk] w (EndOut w (minV t s u v dk) (minE t s u v dk)) :=
  callsIn_wide.1 (rminutes_in A n c A' m d t s u v dk w hn hm ht)
end Go.Proofs.YtahkjagjcogeiaaDoor
/- climb.Quick: the walk that surely takes the shortest time. -/
namespace Go.Proofs.YtahkjagjcogeiaaDoor
open Go.RowKit Go.Shelf
set_option linter.unusedVariables false

def quickF (t : Town) (s : Gait) (u v : Int) (dk : Bool) : List Int × Span × Int := if or2 (askE t [u, v]) (slowE s) = 0 then (match best t dk (timeP s.pace.hi s.step.hi) u v with
  | none => ([], ⟨0, 0⟩, 6)
  | some q => (q.2, ⟨firstA t (timeP s.pace.lo s.step.lo) u q.2, firstA t (timeP s.pace.hi s.step.hi) u q.2⟩, 0)) else ([], ⟨0, 0⟩, or2 (askE t [u, v]) (slowE s))
def QuickOut (w : World) (r : List Int × Span × Int) (x : Ending) (w' : World) : Prop := ∃ (A : Option Addr) (n c : Nat), x = .returned (.tuple #[.slice A n c, .agg #[.int .i64 r.2.1.lo, .int .i64 r.2.1.hi], .int .i64 r.2.2]) ∧ IntsAt w' w'.heap.size A n r.1 ∧ Below w.heap.size w w'

set_option maxRecDepth 100000 in
set_option maxHeartbeats 16000000 in
theorem quick_in (A : Option Addr) (n c : Nat) (A' : Option Addr) (m d : Nat) (t : Town) (s : Gait) (u v : Int) (dk : Bool) (w : World)
    (hn : n ≤ 1000) (hm : m ≤ 1000) (ht : TownAt w w.heap.size A n A' m t) (hL : Laid w) :
    CallsIn Fence.wide 9 Tryd.prog 31 #[.agg #[.slice A n c, .slice A' m d], .agg #[.int .i64 s.pace.lo, .int .i64 s.pace.hi, .int .i64 s.step.lo, .int .i64 s.step.hi], .int .i64 u, .int .i64 v, .bool dk] w (QuickOut w (quickF t s u v dk)) := by
  have HT := Lib.hid ht
  have HL := Lib.hid hL
  have hl0 := hL.2.2.2
  clear ht hL
  refine callsIn_of_wp Tryd.func31 rfl trivial ?_ rfl
  simp only [Tryd.ntmps31, List.size_toArray, List.length_cons, List.length_nil, Nat.reduceAdd, Nat.reduceSub, Array.replicate_succ, Array.replicate_zero, List.push_toArray, List.append_toArray, List.nil_append, List.cons_append]
  gi_wp2
  have HLay := Lib.hid (Lay.three w 25 #[.slice A n c, .slice A' m d] 66 #[.int .i64 s.pace.lo, .int .i64 s.pace.hi, .int .i64 s.step.lo, .int .i64 s.step.hi] 27 #[.int .i64 0, .int .i64 0])
  generalize (((w.alloc (.cells #[.slice A n c, .slice A' m d] 25)).alloc (.cells #[.int .i64 s.pace.lo, .int .i64 s.pace.hi, .int .i64 s.step.lo, .int .i64 s.step.hi] 66)).alloc (.cells #[.int .i64 0, .int .i64 0] 27)) = w0 at *
  refine wpIn_flow_old [([true, true, true, false, false, true], 3), ([], 4), ([], 6), ([], 7), ([], 8)] [false, false, false, false, false, false, false, false, false, true] [] (by kernel_rfl) (by kernel_rfl) (by kernel_rfl) (below_drewN (Below.refl _ _) 1) ?_
  refine wpFlow_cons (A := ?AF1) rfl ?hq1 ?_
  case hq1 =>
    rintro σ hσ of hof hcl
    have HOF := Lib.hid hof
    have HCL := Lib.hid hcl
    clear hof hcl
    have c0_ : ∀ z, (of z).cell? ⟨w.heap.size, 0, none⟩ = some (.slice A n c) := fun z => ((HLay.out.below (HOF.out z)).blk 0 rfl).cell 0
    have c1_ : ∀ z, (of z).cell? ⟨w.heap.size, 1, none⟩ = some (.slice A' m d) := fun z => ((HLay.out.below (HOF.out z)).blk 0 rfl).cell 1
    have c2_ : ∀ z, (of z).cell? ⟨w.heap.size + 1, 0, none⟩ = some (.int .i64 s.pace.lo) := fun z => ((HLay.out.below (HOF.out z)).blk 1 rfl).cell 0
    have c3_ : ∀ z, (of z).cell? ⟨w.heap.size + 1, 1, none⟩ = some (.int .i64 s.pace.hi) := fun z => ((HLay.out.below (HOF.out z)).blk 1 rfl).cell 1
    have c4_ : ∀ z, (of z).cell? ⟨w.heap.size + 1, 2, none⟩ = some (.int .i64 s.step.lo) := fun z => ((HLay.out.below (HOF.out z)).blk 1 rfl).cell 2
    have c5_ : ∀ z, (of z).cell? ⟨w.heap.size + 1, 3, none⟩ = some (.int .i64 s.step.hi) := fun z => ((HLay.out.below (HOF.out z)).blk 1 rfl).cell 3
    have hfw : ∀ f, Fence.wide.fn f := fun _ => trivial
    simp only [pickB]
    repeat (gi_big_quiet_step (fail))
    refine wpQuietIn_nil ?_
    exact rfl
  intro W1 hW
  replace HLay := Lib.hid (HLay.out.below hW)
  clear hW
  gi_wp2
  refine ⟨trivial, (Below.refl _ _).alloc (Nat.le_refl _) _, ?_⟩
  have hb : Below W1.heap.size W1 (W1.alloc (.cells #[.int .i64 u, .int .i64 v] 3)) := (Below.refl _ _).alloc (Nat.le_refl _) _
  replace HLay := Lib.hid (HLay.out.below hb)
  have HPl := Lib.hid (show IntsAt (W1.alloc (.cells #[.int .i64 u, .int .i64 v] 3)) (W1.alloc (.cells #[.int .i64 u, .int .i64 v] 3)).heap.size (some ⟨W1.heap.size, 0, none⟩) 2 [u, v] from IntsAt.new W1 3 [u, v] _ (by simp))
  obtain ⟨P3, hP⟩ : ∃ P, W1.heap.size = P := ⟨_, rfl⟩
  rw [hP] at HPl ⊢
  generalize (W1.alloc (.cells #[.int .i64 u, .int .i64 v] 3)) = V2 at *
  clear hb hP
  refine wpFlow_cons rfl Quietly.none ?_
  intro W4 hW
  replace HLay := Lib.hid (HLay.out.below hW)
  replace HPl := Lib.hid ((HPl.out.below hW).more hW.size)
  clear hW
  have hlw := (HLay.out.blk 1 rfl).lt
  gi_wp2
  refine ⟨trivial, (callsIn_wide.2 (asked_any A n c A' m d t (some ⟨P3, 0, none⟩) 2 2 [u, v] W4 (by unfold maxLen; omega) (by unfold maxLen; omega) (by decide) ((HT.out.below HLay.out.1).more HLay.out.1.size) HPl.out (HL.out.below HLay.out.1 hl0))).mono ?_⟩
  rintro e W5 ⟨rfl, hb⟩
  replace HLay := Lib.hid (HLay.out.below hb)
  replace HPl := Lib.hid ((HPl.out.below hb).more hb.size)
  gi_wp2
  refine ⟨trivial, hb, ?_⟩
  clear hb
  clear HPl
  refine wpFlow_cons rfl Quietly.none ?_
  intro W6 hW
  replace HLay := Lib.hid (HLay.out.below hW)
  clear hW
  have hlw := (HLay.out.blk 1 rfl).lt
  gi_wp2
  refine ⟨trivial, (callsIn_wide.2 (slow_any s W6)).mono ?_⟩
  rintro e W7 ⟨rfl, hb⟩
  replace HLay := Lib.hid (HLay.out.below hb)
  gi_wp2
  refine ⟨trivial, hb, ?_⟩
  clear hb
  refine wpFlow_cons rfl Quietly.none ?_
  intro W8 hW
  replace HLay := Lib.hid (HLay.out.below hW)
  clear hW
  gi_wp2
  refine ⟨trivial, (Below.refl _ _).alloc (Nat.le_refl _) _, ?_⟩
  have hb : Below W8.heap.size W8 (W8.alloc (.cells #[.int .i64 (askE t [u, v]), .int .i64 (slowE s)] 32)) := (Below.refl _ _).alloc (Nat.le_refl _) _
  replace HLay := Lib.hid (HLay.out.below hb)
  have HOr := Lib.hid (Blk.new W8 32 #[.int .i64 (askE t [u, v]), .int .i64 (slowE s)])
  obtain ⟨P10, hP⟩ : ∃ P, W8.heap.size = P := ⟨_, rfl⟩
  rw [hP] at HOr ⊢
  generalize (W8.alloc (.cells #[.int .i64 (askE t [u, v]), .int .i64 (slowE s)] 32)) = V9 at *
  clear hb hP
  refine wpFlow_cons rfl Quietly.none ?_
  intro W11 hW
  replace HLay := Lib.hid (HLay.out.below hW)
  replace HOr := Lib.hid (HOr.out.below hW HOr.out.lt)
  clear hW
  gi_wp2
  refine ⟨trivial, (callsIn_wide.2 (or_any (askE t [u, v]) (slowE s) P10 W11 HOr.out)).mono ?_⟩
  rintro e W12 ⟨rfl, rfl⟩
  gi_wp2
  refine ⟨trivial, Below.refl _ _, ?_⟩
  clear HOr
  obtain ⟨ee, hee⟩ : ∃ ee, or2 (askE t [u, v]) (slowE s) = ee := ⟨_, rfl⟩
  rw [hee]
  have HEE := Lib.hid hee
  clear hee
  refine wpFlow_nil (A := ?AF2) ?hq2 ?_
  case hq2 =>
    rintro σ hσ of hof hcl
    have HOF := Lib.hid hof
    have HCL := Lib.hid hcl
    clear hof hcl
    have c0_ : ∀ z, (of z).cell? ⟨w.heap.size, 0, none⟩ = some (.slice A n c) := fun z => ((HLay.out.below (HOF.out z)).blk 0 rfl).cell 0
    have c1_ : ∀ z, (of z).cell? ⟨w.heap.size, 1, none⟩ = some (.slice A' m d) := fun z => ((HLay.out.below (HOF.out z)).blk 0 rfl).cell 1
    have c2_ : ∀ z, (of z).cell? ⟨w.heap.size + 1, 0, none⟩ = some (.int .i64 s.pace.lo) := fun z => ((HLay.out.below (HOF.out z)).blk 1 rfl).cell 0
    have c3_ : ∀ z, (of z).cell? ⟨w.heap.size + 1, 1, none⟩ = some (.int .i64 s.pace.hi) := fun z => ((HLay.out.below (HOF.out z)).blk 1 rfl).cell 1
    have c4_ : ∀ z, (of z).cell? ⟨w.heap.size + 1, 2, none⟩ = some (.int .i64 s.step.lo) := fun z => ((HLay.out.below (HOF.out z)).blk 1 rfl).cell 2
    have c5_ : ∀ z, (of z).cell? ⟨w.heap.size + 1, 3, none⟩ = some (.int .i64 s.step.hi) := fun z => ((HLay.out.below (HOF.out z)).blk 1 rfl).cell 3
    have hfw : ∀ f, Fence.wide.fn f := fun _ => trivial
    simp only [pickB]
    repeat (gi_big_quiet_step (fail))
    refine wpQuietIn_nil ?_
    exact rfl
  intro W13 hW
  replace HLay := Lib.hid (HLay.out.below hW)
  clear hW
  simp only [pickB]
  refine wpT_nil ?_
  have x0_0 := (HLay.out.blk 0 rfl).cell 0
  have x0_1 := (HLay.out.blk 0 rfl).cell 1
  have l0_ := HLay.out.lt 0 rfl
  have x1_0 := (HLay.out.blk 1 rfl).cell 0
  have x1_1 := (HLay.out.blk 1 rfl).cell 1
  have x1_2 := (HLay.out.blk 1 rfl).cell 2
  have x1_3 := (HLay.out.blk 1 rfl).cell 3
  have l1_ := HLay.out.lt 1 rfl
  have x2_0 := (HLay.out.blk 2 rfl).cell 0
  have z2_0 := (HLay.out.blk 2 rfl).frozen 0
  have x2_1 := (HLay.out.blk 2 rfl).cell 1
  have z2_1 := (HLay.out.blk 2 rfl).frozen 1
  have l2_ := HLay.out.lt 2 rfl
  by_cases h0 : ee = 0
  · subst h0
    have HOK := Lib.hid (or2_zero HEE.out)
    obtain ⟨htb, hhas⟩ := askE_zero HOK.out.1
    have HG := Lib.hid (goodT htb)
    have HGS := Lib.hid (goodG (slowE_zero HOK.out.2))
    have HUV := Lib.hid (hasB_mem hhas)
    have hm20 : m ≤ 20 := by have := HG.out.links; have := HT.out.links.len; omega
    clear htb hhas
    have HFP := Lib.hid (timeP_fair (a := s.pace.hi) (b := s.step.hi) (by have := HGS.out.pace; omega) (by have := HGS.out.step; omega))
    gi_wp2
    clear x0_0 x0_1 l0_ x1_0 x1_1 x1_2 x1_3 l1_ x2_0 z2_0 x2_1 z2_1 l2_
    clear hlw
    refine wpIn_flow_old [([true, true, true, true, true, true, true, true], 8)] [false, false, false, false, false, false, false, false, false, true, true, true] [] (by kernel_rfl) (by kernel_rfl) (by kernel_rfl) (below_drewN (Below.refl _ _) 1) ?_
    refine wpFlow_cons (A := ?AF3) rfl ?hq3 ?_
    case hq3 =>
      rintro σ hσ of hof hcl
      have HOF := Lib.hid hof
      have HCL := Lib.hid hcl
      clear hof hcl
      have c0_ : ∀ z, (of z).cell? ⟨w.heap.size, 0, none⟩ = some (.slice A n c) := fun z => ((HLay.out.below (HOF.out z)).blk 0 rfl).cell 0
      have c1_ : ∀ z, (of z).cell? ⟨w.heap.size, 1, none⟩ = some (.slice A' m d) := fun z => ((HLay.out.below (HOF.out z)).blk 0 rfl).cell 1
      have c2_ : ∀ z, (of z).cell? ⟨w.heap.size + 1, 0, none⟩ = some (.int .i64 s.pace.lo) := fun z => ((HLay.out.below (HOF.out z)).blk 1 rfl).cell 0
      have c3_ : ∀ z, (of z).cell? ⟨w.heap.size + 1, 1, none⟩ = some (.int .i64 s.pace.hi) := fun z => ((HLay.out.below (HOF.out z)).blk 1 rfl).cell 1
      have c4_ : ∀ z, (of z).cell? ⟨w.heap.size + 1, 2, none⟩ = some (.int .i64 s.step.lo) := fun z => ((HLay.out.below (HOF.out z)).blk 1 rfl).cell 2
      have c5_ : ∀ z, (of z).cell? ⟨w.heap.size + 1, 3, none⟩ = some (.int .i64 s.step.hi) := fun z => ((HLay.out.below (HOF.out z)).blk 1 rfl).cell 3
      have hfw : ∀ f, Fence.wide.fn f := fun _ => trivial
      simp only [pickB]
      repeat (gi_big_quiet_step (fail))
      refine wpQuietIn_nil ?_
      exact rfl
    intro W14 hW
    replace HLay := Lib.hid (HLay.out.below hW)
    clear hW
    gi_wp2
    refine ⟨trivial, (callsIn_wide.2 (takes_any s.pace.hi s.step.hi W14 (by have := HGS.out.pace; omega) (by have := HGS.out.step; omega))).mono ?_⟩
    rintro e W15 ⟨⟨b1, b2, rfl, hp1⟩, hb⟩
    replace HLay := Lib.hid (HLay.out.below hb)
    have HP1 := Lib.hid hp1
    clear hp1
    gi_wp2
    refine ⟨trivial, hb, ?_⟩
    clear hb
    refine wpFlow_nil (A := ?AF4) ?hq4 ?_
    case hq4 =>
      rintro σ hσ of hof hcl
      have HOF := Lib.hid hof
      have HCL := Lib.hid hcl
      clear hof hcl
      have c0_ : ∀ z, (of z).cell? ⟨w.heap.size, 0, none⟩ = some (.slice A n c) := fun z => ((HLay.out.below (HOF.out z)).blk 0 rfl).cell 0
      have c1_ : ∀ z, (of z).cell? ⟨w.heap.size, 1, none⟩ = some (.slice A' m d) := fun z => ((HLay.out.below (HOF.out z)).blk 0 rfl).cell 1
      have c2_ : ∀ z, (of z).cell? ⟨w.heap.size + 1, 0, none⟩ = some (.int .i64 s.pace.lo) := fun z => ((HLay.out.below (HOF.out z)).blk 1 rfl).cell 0
      have c3_ : ∀ z, (of z).cell? ⟨w.heap.size + 1, 1, none⟩ = some (.int .i64 s.pace.hi) := fun z => ((HLay.out.below (HOF.out z)).blk 1 rfl).cell 1
      have c4_ : ∀ z, (of z).cell? ⟨w.heap.size + 1, 2, none⟩ = some (.int .i64 s.step.lo) := fun z => ((HLay.out.below (HOF.out z)).blk 1 rfl).cell 2
      have c5_ : ∀ z, (of z).cell? ⟨w.heap.size + 1, 3, none⟩ = some (.int .i64 s.step.hi) := fun z => ((HLay.out.below (HOF.out z)).blk 1 rfl).cell 3
      have hfw : ∀ f, Fence.wide.fn f := fun _ => trivial
      simp only [pickB]
      repeat (gi_big_quiet_step (fail))
      refine wpQuietIn_nil ?_
      exact rfl
    intro W16 hW
    replace HLay := Lib.hid (HLay.out.below hW)
    replace HP1 := Lib.hid (HP1.out.below hW)
    clear hW
    simp only [pickB]
    refine wpT_nil ?_
    have x0_0 := (HLay.out.blk 0 rfl).cell 0
    have x0_1 := (HLay.out.blk 0 rfl).cell 1
    have l0_ := HLay.out.lt 0 rfl
    have x1_0 := (HLay.out.blk 1 rfl).cell 0
    have x1_1 := (HLay.out.blk 1 rfl).cell 1
    have x1_2 := (HLay.out.blk 1 rfl).cell 2
    have x1_3 := (HLay.out.blk 1 rfl).cell 3
    have l1_ := HLay.out.lt 1 rfl
    have x2_0 := (HLay.out.blk 2 rfl).cell 0
    have z2_0 := (HLay.out.blk 2 rfl).frozen 0
    have x2_1 := (HLay.out.blk 2 rfl).cell 1
    have z2_1 := (HLay.out.blk 2 rfl).frozen 1
    have l2_ := HLay.out.lt 2 rfl
    gi_wp2
    clear x0_0 x0_1 l0_ x1_0 x1_1 x1_2 x1_3 l1_ x2_0 z2_0 x2_1 z2_1 l2_
    refine ⟨trivial, (callsIn_wide.2 (callsIn_wide.1 (all_in A n c A' m d dk _ _ (timeP s.pace.hi s.step.hi) t u W16 hm20 ((HT.out.links.below HLay.out.1).more HLay.out.1.size) HP1.out HG.out.fine HFP.out (HUV.out u (by simp)) HG.out.ids))).mono ?_⟩
    rintro e W17 ⟨r, ms, rfl, hms, hrr, hoks, hfn, hb⟩
    replace HLay := Lib.hid (HLay.out.below hb)
    replace HP1 := Lib.hid (HP1.out.below hb)
    clear hb
    have HMS := Lib.hid hms
    have HOKS := Lib.hid hoks
    have HFN := Lib.hid hfn
    clear hms hrr hoks hfn
    clear HP1
    have HOV := Lib.hid (show okI v from okI_of (by have := HG.out.ids v (HUV.out v (by simp)); omega) (by have := HG.out.ids v (HUV.out v (by simp)); omega))
    have hlook := HMS.out.lookup wkTy HOV.out true
    cases hlk : look ms v with
    | none =>
      rw [hlk] at hlook
      simp only [if_true] at hlook
      have HLK := Lib.hid hlk
      clear hlk
      have HBE : Hid (best t dk (timeP s.pace.hi s.step.hi) u v = none) := Lib.hid (by rw [← HFN.out v]; unfold fnOf; rw [HLK.out]; rfl)
      have x0_0 := (HLay.out.blk 0 rfl).cell 0
      have x0_1 := (HLay.out.blk 0 rfl).cell 1
      have l0_ := HLay.out.lt 0 rfl
      have x1_0 := (HLay.out.blk 1 rfl).cell 0
      have x1_1 := (HLay.out.blk 1 rfl).cell 1
      have x1_2 := (HLay.out.blk 1 rfl).cell 2
      have x1_3 := (HLay.out.blk 1 rfl).cell 3
      have l1_ := HLay.out.lt 1 rfl
      have x2_0 := (HLay.out.blk 2 rfl).cell 0
      have z2_0 := (HLay.out.blk 2 rfl).frozen 0
      have x2_1 := (HLay.out.blk 2 rfl).cell 1
      have z2_1 := (HLay.out.blk 2 rfl).frozen 1
      have l2_ := HLay.out.lt 2 rfl
      gi_wp2
      have R1 := ret2 ((HLay.out.blk 2 rfl)) HLay.out.1 (by omega) (.int .i64 0) (.int .i64 0)
      have R2 := R1.1.alloc (.cells #[.int .i64 0, .int .i64 0, .int .i64 0, .int .i64 0, .int .i64 0, .slice none 0 0] 111)
      have y0 := R2.cell 0
      have y1 := R2.cell 1
      have hF : quickF t s u v dk = ([], ⟨0, 0⟩, 6) := by unfold quickF; rw [if_pos HEE.out, HBE.out]
      refine bodyPost_ret (v := .tuple #[.slice none 0 0, .agg #[.int .i64 0, .int .i64 0], .int .i64 6]) (by simp [results, Tryd.results31, go_sem, y0, y1]) rfl ?_
      rw [hF]
      exact ⟨none, 0, 0, rfl, Reads.none_, R1.2.alloc R1.2.size _⟩
    | some x =>
      rw [hlk] at hlook
      simp only [if_true] at hlook
      have HLK := Lib.hid hlk
      clear hlk
      have HBE : Hid (best t dk (timeP s.pace.hi s.step.hi) u v = some (x.cost, x.links)) := Lib.hid (by rw [← HFN.out v]; unfold fnOf; rw [HLK.out]; rfl)
      have HXO := Lib.hid (HOKS.out _ (look_mem HLK.out))
      have hx9 : x.n ≤ 9 := HXO.out.short
      have HWL := Lib.hid (show IntsAt W17 W17.heap.size x.A x.n x.links from HXO.out.at_)
      obtain ⟨l, hl⟩ : ∃ l, x.links = l := ⟨_, rfl⟩
      rw [hl] at HBE HWL
      have HLL := Lib.hid hl
      clear hl
      have x0_0 := (HLay.out.blk 0 rfl).cell 0
      have x0_1 := (HLay.out.blk 0 rfl).cell 1
      have l0_ := HLay.out.lt 0 rfl
      have x1_0 := (HLay.out.blk 1 rfl).cell 0
      have x1_1 := (HLay.out.blk 1 rfl).cell 1
      have x1_2 := (HLay.out.blk 1 rfl).cell 2
      have x1_3 := (HLay.out.blk 1 rfl).cell 3
      have l1_ := HLay.out.lt 1 rfl
      have x2_0 := (HLay.out.blk 2 rfl).cell 0
      have z2_0 := (HLay.out.blk 2 rfl).frozen 0
      have x2_1 := (HLay.out.blk 2 rfl).cell 1
      have z2_1 := (HLay.out.blk 2 rfl).frozen 1
      have l2_ := HLay.out.lt 2 rfl
      gi_wp2
      clear x0_0 x0_1 l0_ x1_0 x1_1 x1_2 x1_3 l1_ x2_0 z2_0 x2_1 z2_1 l2_
      clear hlook
      have hb : Below W17.heap.size W17 (W17.alloc (.cells #[.int .i64 x.to, .int .i64 x.cost.a, .int .i64 x.cost.b, .int .i64 x.cost.c, .int .i64 x.cost.d, .slice x.A x.n x.cap] 111)) := (Below.refl _ _).alloc (Nat.le_refl _) _
      have hnew := Blk.new W17 111 #[.int .i64 x.to, .int .i64 x.cost.a, .int .i64 x.cost.b, .int .i64 x.cost.c, .int .i64 x.cost.d, .slice x.A x.n x.cap]
      have hge := HLay.out.bel.size
      replace HLay := Lib.hid (HLay.out.below hb)
      replace HWL := Lib.hid ((HWL.out.below hb).more hb.size)
      replace HXO := Lib.hid (HXO.out.below hb)
      replace HLay := Lib.hid (HLay.out.add hge hnew)
      clear hnew hge hb
      obtain ⟨G39, hG⟩ : ∃ g, W17.heap.size = g := ⟨_, rfl⟩
      rw [hG] at HLay ⊢
      generalize (W17.alloc (.cells #[.int .i64 x.to, .int .i64 x.cost.a, .int .i64 x.cost.b, .int .i64 x.cost.c, .int .i64 x.cost.d, .slice x.A x.n x.cap] 111)) = V38 at *
      clear hG
      replace HLay := Lib.hid (show Lay w V38 [(w.heap.size, 25, #[.slice A n c, .slice A' m d]), (w.heap.size + 1, 66, #[.int .i64 s.pace.lo, .int .i64 s.pace.hi, .int .i64 s.step.lo, .int .i64 s.step.hi]), (w.heap.size + 1 + 1, 27, #[.int .i64 0, .int .i64 0]), (G39, 111, #[.int .i64 x.to, .int .i64 x.cost.a, .int .i64 x.cost.b, .int .i64 x.cost.c, .int .i64 x.cost.d, .slice x.A x.n x.cap])] from HLay.out)
      refine ⟨trivial, (callsIn_wide.2 (seconds_any A n c A' m d t s u x.A x.n x.cap l V38 hn hm (by omega) ((HT.out.below HLay.out.1).more HLay.out.1.size) HWL.out (HL.out.below HLay.out.1 hl0))).mono ?_⟩
      rintro e W40 ⟨rfl, hb⟩
      replace HLay := Lib.hid (HLay.out.below hb)
      replace HWL := Lib.hid ((HWL.out.below hb).more hb.size)
      replace HXO := Lib.hid (HXO.out.below hb)
      clear hb
      have HO1 : or2 (askE t [u]) (slowE s) = 0 := by unfold or2; rw [askE_head HOK.out.1, HOK.out.2]; rfl
      have hse : secE t s u l = 0 := by unfold secE; rw [if_pos HO1]; exact best_bet HG.out.fine HFP.out HBE.out
      have hsv : secV t s u l = ⟨firstA t (timeP s.pace.lo s.step.lo) u l, firstA t (timeP s.pace.hi s.step.hi) u l⟩ := by unfold secV; rw [if_pos HO1]
      rw [hse, hsv]
      clear hse hsv HO1
      obtain ⟨fa, hfa⟩ : ∃ y, firstA t (timeP s.pace.lo s.step.lo) u l = y := ⟨_, rfl⟩
      obtain ⟨fb, hfb⟩ : ∃ y, firstA t (timeP s.pace.hi s.step.hi) u l = y := ⟨_, rfl⟩
      rw [hfa, hfb]
      have HFA := Lib.hid hfa
      have HFB := Lib.hid hfb
      clear hfa hfb
      have x0_0 := (HLay.out.blk 0 rfl).cell 0
      have x0_1 := (HLay.out.blk 0 rfl).cell 1
      have l0_ := HLay.out.lt 0 rfl
      have x1_0 := (HLay.out.blk 1 rfl).cell 0
      have x1_1 := (HLay.out.blk 1 rfl).cell 1
      have x1_2 := (HLay.out.blk 1 rfl).cell 2
      have x1_3 := (HLay.out.blk 1 rfl).cell 3
      have l1_ := HLay.out.lt 1 rfl
      have x2_0 := (HLay.out.blk 2 rfl).cell 0
      have z2_0 := (HLay.out.blk 2 rfl).frozen 0
      have x2_1 := (HLay.out.blk 2 rfl).cell 1
      have z2_1 := (HLay.out.blk 2 rfl).frozen 1
      have l2_ := HLay.out.lt 2 rfl
      have x3_0 := (HLay.out.blk 3 rfl).cell 0
      have x3_1 := (HLay.out.blk 3 rfl).cell 1
      have x3_2 := (HLay.out.blk 3 rfl).cell 2
      have x3_3 := (HLay.out.blk 3 rfl).cell 3
      have x3_4 := (HLay.out.blk 3 rfl).cell 4
      have x3_5 := (HLay.out.blk 3 rfl).cell 5
      have l3_ := HLay.out.lt 3 rfl
      gi_wp2
      clear x0_0 x0_1 l0_ x1_0 x1_1 x1_2 x1_3 l1_ x2_0 z2_0 x2_1 z2_1 l2_ x3_0 x3_1 x3_2 x3_3 x3_4 x3_5 l3_
      have hb : Below W40.heap.size W40 (W40.alloc (.cells #[.int .i64 fa, .int .i64 fb] 27)) := (Below.refl _ _).alloc (Nat.le_refl _) _
      have hnew := Blk.new W40 27 #[.int .i64 fa, .int .i64 fb]
      have hge := HLay.out.bel.size
      replace HLay := Lib.hid (HLay.out.below hb)
      replace HWL := Lib.hid ((HWL.out.below hb).more hb.size)
      replace HXO := Lib.hid (HXO.out.below hb)
      replace HLay := Lib.hid (HLay.out.add hge hnew)
      clear hnew hge hb
      obtain ⟨G42, hG⟩ : ∃ g, W40.heap.size = g := ⟨_, rfl⟩
      rw [hG] at HLay ⊢
      generalize (W40.alloc (.cells #[.int .i64 fa, .int .i64 fb] 27)) = V41 at *
      clear hG
      replace HLay := Lib.hid (show Lay w V41 [(w.heap.size, 25, #[.slice A n c, .slice A' m d]), (w.heap.size + 1, 66, #[.int .i64 s.pace.lo, .int .i64 s.pace.hi, .int .i64 s.step.lo, .int .i64 s.step.hi]), (w.heap.size + 1 + 1, 27, #[.int .i64 0, .int .i64 0]), (G39, 111, #[.int .i64 x.to, .int .i64 x.cost.a, .int .i64 x.cost.b, .int .i64 x.cost.c, .int .i64 x.cost.d, .slice x.A x.n x.cap]), (G42, 27, #[.int .i64 fa, .int .i64 fb])] from HLay.out)
      refine wpIn_flow_old [] [true, true, true, true, true, false, true] [false, false, false, false, false, true] (by kernel_rfl) (by kernel_rfl) (by kernel_rfl) (below_drewN (Below.refl _ _) 1) ?_
      refine wpFlow_nil (A := ?AF5) ?hq5 ?_
      case hq5 =>
        rintro σ hσ of hof hcl
        have HOF := Lib.hid hof
        have HCL := Lib.hid hcl
        clear hof hcl
        have c0_ : ∀ z, (of z).cell? ⟨G39, 5, none⟩ = some (.slice x.A x.n x.cap) := fun z => ((HLay.out.below (HOF.out z)).blk 3 rfl).cell 5
        have c1_ : ∀ z, (of z).cell? ⟨G42, 0, none⟩ = some (.int .i64 fa) := fun z => ((HLay.out.below (HOF.out z)).blk 4 rfl).cell 0
        have c2_ : ∀ z, (of z).cell? ⟨G42, 1, none⟩ = some (.int .i64 fb) := fun z => ((HLay.out.below (HOF.out z)).blk 4 rfl).cell 1
        have hfw : ∀ f, Fence.wide.fn f := fun _ => trivial
        simp only [pickB]
        repeat (gi_big_quiet_step (fail))
        refine wpQuietIn_nil ?_
        exact rfl
      intro W43 hW
      replace HLay := Lib.hid (HLay.out.below hW)
      replace HWL := Lib.hid ((HWL.out.below hW).more hW.size)
      replace HXO := Lib.hid (HXO.out.below hW)
      clear hW
      simp only [pickB]
      have x2_0 := (HLay.out.blk 2 rfl).cell 0
      have z2_0 := (HLay.out.blk 2 rfl).frozen 0
      have x2_1 := (HLay.out.blk 2 rfl).cell 1
      have z2_1 := (HLay.out.blk 2 rfl).frozen 1
      have l2_ := HLay.out.lt 2 rfl
      refine wpT_cons ?_
      gi_wp2
      refine wpT_nil ?_
      clear x2_0 z2_0 x2_1 z2_1 l2_
      have R1 := ret2' (HLay.out.blk 2 rfl) HLay.out.1 (by omega) (.int .i64 fa) (.int .i64 fb)
      have y0 := R1.1.cell 0
      have y1 := R1.1.cell 1
      have hF : quickF t s u v dk = (l, ⟨fa, fb⟩, 0) := by unfold quickF; rw [if_pos HEE.out, HBE.out]; simp only; rw [HFA.out, HFB.out]
      gi_wp2
      refine bodyPost_ret (v := .tuple #[.slice x.A x.n x.cap, .agg #[.int .i64 fa, .int .i64 fb], .int .i64 0]) (by simp [results, Tryd.results31, go_sem, y0, y1]) rfl ?_
      rw [hF]
      exact ⟨x.A, x.n, x.cap, rfl, ints_off HWL.out (fun a ha => by obtain ⟨cs, hc⟩ := HXO.out.typ a ha; exact blk_ne hc (HLay.out.blk 2 rfl) (by decide)) R1.2.2, R1.2.1⟩
  · have h1 : (ee != 0) = true := by simpa using h0
    have HE0 := Lib.hid h0
    clear h0
    gi_wp2
    have R1 := ret2 (HLay.out.blk 2 rfl) HLay.out.1 (by omega) (.int .i64 0) (.int .i64 0)
    have y0 := R1.1.cell 0
    have y1 := R1.1.cell 1
    have hF : quickF t s u v dk = ([], ⟨0, 0⟩, ee) := by unfold quickF; rw [HEE.out, if_neg HE0.out]
    refine bodyPost_ret (v := .tuple #[.slice none 0 0, .agg #[.int .i64 0, .int .i64 0], .int .i64 ee]) (by simp [results, Tryd.results31, go_sem, y0, y1]) rfl ?_
    rw [hF]
    exact ⟨none, 0, 0, rfl, Reads.none_, R1.2⟩

theorem quick_any (A : Option Addr) (n c : Nat) (A' : Option Addr) (m d : Nat) (t : Town) (s : Gait) (u v : Int) (dk : Bool) (w : World)
    (hn : n ≤ 1000) (hm : m ≤ 1000) (ht : TownAt w w.heap.size A n A' m t) (hL : Laid w) :
    Calls Tryd.prog 31 #[.agg #[.slice A n c, .slice A' m d], .agg #[.int .i64 s.pace.lo, .int .i64 s.pace.hi, .int .i64 s.step.lo, .int .i64 s.step.hi], .int .i64 u, .int .i64 v, .bool dk] w (QuickOut w (quickF t s u v dk)) :=
  callsIn_wide.1 (quick_in A n c A' m d t s u v dk w hn hm ht hL)
end Go.Proofs.YtahkjagjcogeiaaDoor
/- The answer's Quick. -/
namespace Go.Proofs.YtahkjagjcogeiaaDoor
open Go.RowKit Go.Shelf
set_option linter.unusedVariables false

set_option maxRecDepth 100000 in
set_option maxHeartbeats 16000000 in
theorem rquick_in (A : Option Addr) (n c : Nat) (A' : Option Addr) (m d : Nat) (t : Town) (s : Gait) (u v : Int) (dk : Bool) (w : World)
    (hn : n ≤ 1000) (hm : m ≤ 1000) (ht : TownAt w w.heap.size A n A' m t) :
    CallsIn Fence.wide 9 Tryd.prog 32 #[.agg #[.slice A n c, .slice A' m d], .agg #[.int .i64 s.pace.lo, .int .i64 s.pace.hi, .int .i64 s.step.lo, .int .i64 s.step.hi], .int .i64 u, .int .i64 v, .bool dk] w (QuickOut w (quickF t s u v dk)) := by
  have HT := Lib.hid ht
  clear ht
  refine callsIn_of_wp Tryd.func32 rfl trivial ?_ rfl
  simp only [Tryd.ntmps32, List.size_toArray, List.length_cons, List.length_nil, Nat.reduceAdd, Nat.reduceSub, Array.replicate_succ, Array.replicate_zero, List.push_toArray, List.append_toArray, List.nil_append, List.cons_append]
  gi_wp2
  have HLay := Lib.hid (Lay.three w 25 #[.slice A n c, .slice A' m d] 66 #[.int .i64 s.pace.lo, .int .i64 s.pace.hi, .int .i64 s.step.lo, .int .i64 s.step.hi] 27 #[.int .i64 0, .int .i64 0])
  generalize (((w.alloc (.cells #[.slice A n c, .slice A' m d] 25)).alloc (.cells #[.int .i64 s.pace.lo, .int .i64 s.pace.hi, .int .i64 s.step.lo, .int .i64 s.step.hi] 66)).alloc (.cells #[.int .i64 0, .int .i64 0] 27)) = w0 at *
  refine ⟨trivial, (callsIn_wide.2 (rasked_any A n c A' m d t u v w0 hn hm ((HT.out.below HLay.out.1).more HLay.out.1.size))).mono ?_⟩
  rintro e W1 ⟨rfl, hb⟩
  replace HLay := Lib.hid (HLay.out.below hb)
  clear hb
  obtain ⟨ea, hea⟩ : ∃ ea, askE t [u, v] = ea := ⟨_, rfl⟩
  rw [hea]
  have HEA := Lib.hid hea
  clear hea
  have x0_0 := (HLay.out.blk 0 rfl).cell 0
  have x0_1 := (HLay.out.blk 0 rfl).cell 1
  have l0_ := HLay.out.lt 0 rfl
  have x1_0 := (HLay.out.blk 1 rfl).cell 0
  have x1_1 := (HLay.out.blk 1 rfl).cell 1
  have x1_2 := (HLay.out.blk 1 rfl).cell 2
  have x1_3 := (HLay.out.blk 1 rfl).cell 3
  have l1_ := HLay.out.lt 1 rfl
  have x2_0 := (HLay.out.blk 2 rfl).cell 0
  have z2_0 := (HLay.out.blk 2 rfl).frozen 0
  have x2_1 := (HLay.out.blk 2 rfl).cell 1
  have z2_1 := (HLay.out.blk 2 rfl).frozen 1
  have l2_ := HLay.out.lt 2 rfl
  by_cases h0 : ea = 0
  · subst h0
    obtain ⟨htb, hhas⟩ := askE_zero HEA.out
    have HG := Lib.hid (goodT htb)
    have HUV := Lib.hid (hasB_mem hhas)
    have hm20 : m ≤ 20 := by have := HG.out.links; have := HT.out.links.len; omega
    clear htb hhas
    gi_wp2
    refine ⟨trivial, (callsIn_wide.2 (rgait_any s W1)).mono ?_⟩
    rintro e W2 ⟨rfl, hb⟩
    replace HLay := Lib.hid (HLay.out.below hb)
    clear hb
    clear x0_0 x0_1 l0_ x1_0 x1_1 x1_2 x1_3 l1_ x2_0 z2_0 x2_1 z2_1 l2_
    have x0_0 := (HLay.out.blk 0 rfl).cell 0
    have x0_1 := (HLay.out.blk 0 rfl).cell 1
    have l0_ := HLay.out.lt 0 rfl
    have x1_0 := (HLay.out.blk 1 rfl).cell 0
    have x1_1 := (HLay.out.blk 1 rfl).cell 1
    have x1_2 := (HLay.out.blk 1 rfl).cell 2
    have x1_3 := (HLay.out.blk 1 rfl).cell 3
    have l1_ := HLay.out.lt 1 rfl
    have x2_0 := (HLay.out.blk 2 rfl).cell 0
    have z2_0 := (HLay.out.blk 2 rfl).frozen 0
    have x2_1 := (HLay.out.blk 2 rfl).cell 1
    have z2_1 := (HLay.out.blk 2 rfl).frozen 1
    have l2_ := HLay.out.lt 2 rfl
    cases hs : gaitB s with
    | false =>
      have HS := Lib.hid hs
      clear hs
      gi_wp2
      have R1 := ret2 (HLay.out.blk 2 rfl) HLay.out.1 (by omega) (.int .i64 0) (.int .i64 0)
      have y0 := R1.1.cell 0
      have y1 := R1.1.cell 1
      have hF : quickF t s u v dk = ([], ⟨0, 0⟩, 35) := by unfold quickF or2 slowE; rw [HEA.out, HS.out]; rfl
      refine bodyPost_ret (v := .tuple #[.slice none 0 0, .agg #[.int .i64 (0), .int .i64 (0)], .int .i64 (35)]) (by simp [results, Tryd.results32, go_sem, y0, y1]) rfl ?_
      rw [hF]
      exact ⟨none, 0, 0, rfl, Reads.none_, R1.2⟩
    | true =>
      have HGS := Lib.hid (goodG hs)
      have HSL := Lib.hid (show slowE s = 0 by unfold slowE; rw [hs]; rfl)
      clear hs
      have HO := Lib.hid (show or2 (askE t [u, v]) (slowE s) = 0 by unfold or2; rw [HEA.out, HSL.out]; rfl)
      have HF1 := Lib.hid (timeP_fair (a := s.pace.lo) (b := s.step.lo) (by have := HGS.out.pace; omega) (by have := HGS.out.step; omega))
      have HF2 := Lib.hid (timeP_fair (a := s.pace.hi) (b := s.step.hi) (by have := HGS.out.pace; omega) (by have := HGS.out.step; omega))
      have HC1 := Lib.hid (timeP_cheap (a := s.pace.lo) (b := s.step.lo) (by have := HGS.out.pace; omega) (by have := HGS.out.step; omega))
      have HC2 := Lib.hid (timeP_cheap (a := s.pace.hi) (b := s.step.hi) (by have := HGS.out.pace; omega) (by have := HGS.out.step; omega))
      gi_wp2
      clear x0_0 x0_1 l0_ x1_0 x1_1 x1_2 x1_3 l1_ x2_0 z2_0 x2_1 z2_1 l2_
      have HFP := Lib.hid (HF2.out)
      have HSZ := Lib.hid (HLay.out.lt 2 rfl)
      refine ⟨trivial, (callsIn_wide.2 (rfirst_any A n c A' m d (timeP s.pace.hi s.step.hi) t dk u v W2 hm20 ((HT.out.places.below HLay.out.1).more HLay.out.1.size) ((HT.out.links.below HLay.out.1).more HLay.out.1.size) HC2.out HG.out.fine HFP.out HG.out.nodup (HUV.out u (by simp)))).mono ?_⟩
      rintro e W3 ⟨AO, nO, cO, co, rfl, hno, hq, hfr, hb⟩
      replace HLay := Lib.hid (HLay.out.below hb)
      clear hb
      have HNO := Lib.hid hno
      have HQ := Lib.hid hq
      have HFR := Lib.hid hfr
      clear hno hq hfr
      obtain ⟨rr, hrr⟩ : ∃ rr, best t dk (timeP s.pace.hi s.step.hi) u v = rr := ⟨_, rfl⟩
      rw [hrr] at HNO HQ ⊢
      have HBE := Lib.hid hrr
      clear hrr
      cases rr with
      | none =>
        obtain ⟨rfl, rfl, rfl, rfl⟩ := HNO.out rfl
        have x0_0 := (HLay.out.blk 0 rfl).cell 0
        have x0_1 := (HLay.out.blk 0 rfl).cell 1
        have l0_ := HLay.out.lt 0 rfl
        have x1_0 := (HLay.out.blk 1 rfl).cell 0
        have x1_1 := (HLay.out.blk 1 rfl).cell 1
        have x1_2 := (HLay.out.blk 1 rfl).cell 2
        have x1_3 := (HLay.out.blk 1 rfl).cell 3
        have l1_ := HLay.out.lt 1 rfl
        have x2_0 := (HLay.out.blk 2 rfl).cell 0
        have z2_0 := (HLay.out.blk 2 rfl).frozen 0
        have x2_1 := (HLay.out.blk 2 rfl).cell 1
        have z2_1 := (HLay.out.blk 2 rfl).frozen 1
        have l2_ := HLay.out.lt 2 rfl
        gi_wp2
        have R1 := ret2 (HLay.out.blk 2 rfl) HLay.out.1 (by omega) (.int .i64 0) (.int .i64 0)
        have R2 := R1.1.alloc (.cells #[.int .i64 zeroC.a, .int .i64 zeroC.b, .int .i64 zeroC.c, .int .i64 zeroC.d] 103)
        have y0 := R2.cell 0
        have y1 := R2.cell 1
        have hF : quickF t s u v dk = ([], ⟨0, 0⟩, 6) := by unfold quickF ; rw [if_pos HO.out, HBE.out]
        refine bodyPost_ret (v := .tuple #[.slice none 0 0, .agg #[.int .i64 (0), .int .i64 (0)], .int .i64 (6)]) (by simp [results, Tryd.results32, go_sem, y0, y1]) rfl ?_
        rw [hF]
        exact ⟨none, 0, 0, rfl, Reads.none_, R1.2.alloc R1.2.size _⟩
      | some q0 =>
        obtain ⟨q1, l⟩ := q0
        obtain ⟨rfl, hql⟩ := HQ.out _ rfl
        have HQL := Lib.hid (show IntsAt W3 W3.heap.size AO nO l from hql)
        clear hql
        have hl9 := best_len HG.out.fine HFP.out HBE.out
        have hn9 : nO ≤ 9 := by have := HQL.out.len; omega
        clear hl9
        have x0_0 := (HLay.out.blk 0 rfl).cell 0
        have x0_1 := (HLay.out.blk 0 rfl).cell 1
        have l0_ := HLay.out.lt 0 rfl
        have x1_0 := (HLay.out.blk 1 rfl).cell 0
        have x1_1 := (HLay.out.blk 1 rfl).cell 1
        have x1_2 := (HLay.out.blk 1 rfl).cell 2
        have x1_3 := (HLay.out.blk 1 rfl).cell 3
        have l1_ := HLay.out.lt 1 rfl
        have x2_0 := (HLay.out.blk 2 rfl).cell 0
        have z2_0 := (HLay.out.blk 2 rfl).frozen 0
        have x2_1 := (HLay.out.blk 2 rfl).cell 1
        have z2_1 := (HLay.out.blk 2 rfl).frozen 1
        have l2_ := HLay.out.lt 2 rfl
        gi_wp2
        clear x0_0 x0_1 l0_ x1_0 x1_1 x1_2 x1_3 l1_ x2_0 z2_0 x2_1 z2_1 l2_
        have hb : Below W3.heap.size W3 (W3.alloc (.cells #[.int .i64 q1.a, .int .i64 q1.b, .int .i64 q1.c, .int .i64 q1.d] 103)) := (Below.refl _ _).alloc (Nat.le_refl _) _
        have hnew := Blk.new W3 103 #[.int .i64 q1.a, .int .i64 q1.b, .int .i64 q1.c, .int .i64 q1.d]
        have hge := HLay.out.bel.size
        replace HLay := Lib.hid (HLay.out.below hb)
        replace HQL := Lib.hid ((HQL.out.below hb).more hb.size)
        replace HLay := Lib.hid (HLay.out.add hge hnew)
        clear hnew hge hb
        obtain ⟨G25, hG⟩ : ∃ g, W3.heap.size = g := ⟨_, rfl⟩
        rw [hG] at HLay ⊢
        generalize (W3.alloc (.cells #[.int .i64 q1.a, .int .i64 q1.b, .int .i64 q1.c, .int .i64 q1.d] 103)) = V24 at *
        clear hG
        replace HLay := Lib.hid (show Lay w V24 [(w.heap.size, 25, #[.slice A n c, .slice A' m d]), (w.heap.size + 1, 66, #[.int .i64 s.pace.lo, .int .i64 s.pace.hi, .int .i64 s.step.lo, .int .i64 s.step.hi]), (w.heap.size + 1 + 1, 27, #[.int .i64 0, .int .i64 0]), (G25, 103, #[.int .i64 q1.a, .int .i64 q1.b, .int .i64 q1.c, .int .i64 q1.d])] from HLay.out)
        refine ⟨trivial, (callsIn_wide.2 (timed_any A n c A' m d t s u AO nO cO l V24 hm (by omega) ((HT.out.links.below HLay.out.1).more HLay.out.1.size) HG.out.fine HGS.out HQL.out)).mono ?_⟩
        rintro e W26 ⟨rfl, hb⟩
        replace HLay := Lib.hid (HLay.out.below hb)
        replace HQL := Lib.hid ((HQL.out.below hb).more hb.size)
        clear hb
        have hi1 : (walkedF t (timeP s.pace.lo s.step.lo) u l).isSome = true := best_some HG.out.fine HFP.out HBE.out _
        have hi2 : (walkedF t (timeP s.pace.hi s.step.hi) u l).isSome = true := best_some HG.out.fine HFP.out HBE.out _
        rw [partF_some hi1, partF_some hi2, hi1]
        clear hi1 hi2
        have hb1 := firstA_bound HG.out.fine HF1.out u l
        have hb2 := firstA_bound HG.out.fine HF2.out u l
        obtain ⟨fa, hfa⟩ : ∃ y, firstA t (timeP s.pace.lo s.step.lo) u l = y := ⟨_, rfl⟩
        obtain ⟨fb, hfb⟩ : ∃ y, firstA t (timeP s.pace.hi s.step.hi) u l = y := ⟨_, rfl⟩
        rw [hfa] at hb1 ⊢
        rw [hfb] at hb2 ⊢
        have HFA := Lib.hid hfa
        have HFB := Lib.hid hfb
        clear hfa hfb
        obtain ⟨a10, a11⟩ := hb1
        obtain ⟨a20, a21⟩ := hb2
        have x0_0 := (HLay.out.blk 0 rfl).cell 0
        have x0_1 := (HLay.out.blk 0 rfl).cell 1
        have l0_ := HLay.out.lt 0 rfl
        have x1_0 := (HLay.out.blk 1 rfl).cell 0
        have x1_1 := (HLay.out.blk 1 rfl).cell 1
        have x1_2 := (HLay.out.blk 1 rfl).cell 2
        have x1_3 := (HLay.out.blk 1 rfl).cell 3
        have l1_ := HLay.out.lt 1 rfl
        have x2_0 := (HLay.out.blk 2 rfl).cell 0
        have z2_0 := (HLay.out.blk 2 rfl).frozen 0
        have x2_1 := (HLay.out.blk 2 rfl).cell 1
        have z2_1 := (HLay.out.blk 2 rfl).frozen 1
        have l2_ := HLay.out.lt 2 rfl
        gi_wp2
        clear x0_0 x0_1 l0_ x1_0 x1_1 x1_2 x1_3 l1_ x2_0 z2_0 x2_1 z2_1 l2_
        have hb : Below W26.heap.size W26 (W26.alloc (.cells #[.int .i64 fa, .int .i64 fb] 27)) := (Below.refl _ _).alloc (Nat.le_refl _) _
        have hnew := Blk.new W26 27 #[.int .i64 fa, .int .i64 fb]
        have hge := HLay.out.bel.size
        replace HLay := Lib.hid (HLay.out.below hb)
        replace HQL := Lib.hid ((HQL.out.below hb).more hb.size)
        replace HLay := Lib.hid (HLay.out.add hge hnew)
        clear hnew hge hb
        obtain ⟨G28, hG⟩ : ∃ g, W26.heap.size = g := ⟨_, rfl⟩
        rw [hG] at HLay ⊢
        generalize (W26.alloc (.cells #[.int .i64 fa, .int .i64 fb] 27)) = V27 at *
        clear hG
        replace HLay := Lib.hid (show Lay w V27 [(w.heap.size, 25, #[.slice A n c, .slice A' m d]), (w.heap.size + 1, 66, #[.int .i64 s.pace.lo, .int .i64 s.pace.hi, .int .i64 s.step.lo, .int .i64 s.step.hi]), (w.heap.size + 1 + 1, 27, #[.int .i64 0, .int .i64 0]), (G25, 103, #[.int .i64 q1.a, .int .i64 q1.b, .int .i64 q1.c, .int .i64 q1.d]), (G28, 27, #[.int .i64 fa, .int .i64 fb])] from HLay.out)
        refine wpIn_flow_old [] [true, true, true, false, true] [false, false, false, true] (by kernel_rfl) (by kernel_rfl) (by kernel_rfl) (below_drewN (Below.refl _ _) 1) ?_
        refine wpFlow_nil (A := ?AF1) ?hq1 ?_
        case hq1 =>
          rintro σ hσ of hof hcl
          have HOF := Lib.hid hof
          have HCL := Lib.hid hcl
          clear hof hcl
          have c0_ : ∀ z, (of z).cell? ⟨G28, 0, none⟩ = some (.int .i64 fa) := fun z => ((HLay.out.below (HOF.out z)).blk 4 rfl).cell 0
          have c1_ : ∀ z, (of z).cell? ⟨G28, 1, none⟩ = some (.int .i64 fb) := fun z => ((HLay.out.below (HOF.out z)).blk 4 rfl).cell 1
          have hfw : ∀ f, Fence.wide.fn f := fun _ => trivial
          simp only [pickB]
          repeat (gi_big_quiet_step (fail))
          refine wpQuietIn_nil ?_
          exact rfl
        intro W29 hW
        replace HLay := Lib.hid (HLay.out.below hW)
        replace HQL := Lib.hid ((HQL.out.below hW).more hW.size)
        clear hW
        simp only [pickB]
        have x2_0 := (HLay.out.blk 2 rfl).cell 0
        have z2_0 := (HLay.out.blk 2 rfl).frozen 0
        have x2_1 := (HLay.out.blk 2 rfl).cell 1
        have z2_1 := (HLay.out.blk 2 rfl).frozen 1
        have l2_ := HLay.out.lt 2 rfl
        refine wpT_cons ?_
        gi_wp2
        refine wpT_nil ?_
        clear x2_0 z2_0 x2_1 z2_1 l2_
        have R1 := ret2' (HLay.out.blk 2 rfl) HLay.out.1 (by omega) (.int .i64 fa) (.int .i64 fb)
        have y0 := R1.1.cell 0
        have y1 := R1.1.cell 1
        have hF : quickF t s u v dk = (l, ⟨fa, fb⟩, 0) := by unfold quickF; rw [if_pos HO.out, HBE.out, ← HFA.out, ← HFB.out]
        gi_wp2
        refine bodyPost_ret (v := .tuple #[.slice AO nO cO, .agg #[.int .i64 fa, .int .i64 fb], .int .i64 0]) (by simp [results, Tryd.results32, go_sem, y0, y1]) rfl ?_
        rw [hF]
        exact ⟨AO, nO, cO, rfl, ints_off HQL.out (fun a ha e => by have := (HFR.out a ha).1; have := HSZ.out; omega) R1.2.2, R1.2.1⟩
  · have h1 : (ea != 0) = true := by simpa using h0
    have HE0 := Lib.hid h0
    clear h0
    gi_wp2
    have R1 := ret2 (HLay.out.blk 2 rfl) HLay.out.1 (by omega) (.int .i64 0) (.int .i64 0)
    have y0 := R1.1.cell 0
    have y1 := R1.1.cell 1
    have hF : quickF t s u v dk = ([], ⟨0, 0⟩, ea) := by unfold quickF or2; rw [HEA.out, if_neg HE0.out, if_neg HE0.out]
    refine bodyPost_ret (v := .tuple #[.slice none 0 0, .agg #[.int .i64 (0), .int .i64 (0)], .int .i64 (ea)]) (by simp [results, Tryd.results32, go_sem, y0, y1]) rfl ?_
    rw [hF]
    exact ⟨none, 0, 0, rfl, Reads.none_, R1.2⟩

theorem rquick_any (A : Option Addr) (n c : Nat) (A' : Option Addr) (m d : Nat) (t : Town) (s : Gait) (u v : Int) (dk : Bool) (w : World)
    (hn : n ≤ 1000) (hm : m ≤ 1000) (ht : TownAt w w.heap.size A n A' m t) :
    Calls Tryd.prog 32 #[.agg #[.slice A n c, .slice A' m d], .agg #[.int .i64 s.pace.lo, .int .i64 s.pace.hi, .int .i64 s.step.lo, .int .i64 s.step.hi], .int .i64 u, .int .i64 v, .bool dk] w (QuickOut w (quickF t s u v dk)) :=
  callsIn_wide.1 (rquick_in A n c A' m d t s u v dk w hn hm ht)
end Go.Proofs.YtahkjagjcogeiaaDoor
/- The answer's SameInts, Same, Great. -/
namespace Go.Proofs.YtahkjagjcogeiaaDoor
open Go.RowKit
set_option linter.unusedVariables false

def sameI (a b : List Int) : Bool := decide (a = b)
theorem sameI_len {a b : List Int} (h : a.length ≠ b.length) : sameI a b = false := by unfold sameI; simp; intro e; exact h (by rw [e])
theorem sameI_ne {a b : List Int} {k : Nat} {x y : Int} (hx : a[k]? = some x) (hy : b[k]? = some y) (h : x ≠ y) : sameI a b = false := by
  unfold sameI; simp; intro e; subst e; rw [hx] at hy; cases hy; exact h rfl
theorem sameI_eq {a b : List Int} (hl : a.length = b.length) (h : ∀ (k : Nat) x y, k < a.length → a[k]? = some x → b[k]? = some y → x = y) : sameI a b = true := by
  unfold sameI; simp
  apply List.ext_getElem?
  intro k
  by_cases hk : k < a.length
  · have h1 : a[k]? = some a[k] := List.getElem?_eq_getElem hk
    have h2 : b[k]? = some (b[k]'(by omega)) := List.getElem?_eq_getElem _
    rw [h1, h2, h k _ _ hk h1 h2]
  · rw [List.getElem?_eq_none (by omega), List.getElem?_eq_none (by omega)]

set_option maxRecDepth 100000 in
set_option maxHeartbeats 2000000 in
theorem sameInts_any (A : Option Addr) (n c : Nat) (a : List Int) (B : Option Addr) (m d : Nat) (b : List Int) (w : World) (hn : n ≤ maxLen) (hm : m ≤ maxLen) (ha : IntsAt w w.heap.size A n a) (hb : IntsAt w w.heap.size B m b) :
    Calls Tryd.prog 15 #[.slice A n c, .slice B m d] w fun e w' => e = .returned (.bool (sameI a b)) ∧ Below w.heap.size w w' := by
  unfold maxLen at hn hm
  have HA := Lib.hid ha.len
  have HB := Lib.hid hb.len
  by_cases hnm : n = m
  · subst hnm
    have hnn : ((n : Int) == (n : Int)) = true := by simp
    go_enter Tryd.func15, Tryd.ntmps15
    go_wp2_with fail
    go_loopw [5] (fun i wr => ∃ k : Nat, k ≤ n ∧ i = .int .i64 k ∧ (∀ (j : Nat) x y, j < k → a[j]? = some x → b[j]? = some y → x = y) ∧ Below w.heap.size w wr)
      (fun i _ => n - (intOf i).toNat)
    case atStart => exact ⟨0, by omega, rfl, fun _ _ _ h => absurd h (by omega), Below.refl _ _⟩
    case round =>
      obtain ⟨k, hk, rfl, hall, hbel⟩ := hrel
      have HAll := Lib.hid hall
      clear hall
      by_cases hlt : k < n
      · obtain ⟨b1, o1, x, rfl, hb1, hx, cx⟩ := (ha.below hbel).cell hlt
        obtain ⟨b2, o2, y, rfl, hb2, hy, cy⟩ := (hb.below hbel).cell hlt
        have HX := Lib.hid hx
        have HY := Lib.hid hy
        have kI : (k : Int) < (n : Int) := by omega
        have k0 : (0 : Int) ≤ (k : Int) := by omega
        clear hx hy
        by_cases hxy : x = y
        · have hxy' : (x == y) = true := by simpa using hxy
          have HXY := Lib.hid hxy
          clear hxy
          go_wp2_with fail
          go_quiet (fail)
          go_wp2_with fail
          go_roundw
          case rel => exact ⟨k + 1, by omega, by go_num, fun j u v hj hu hv => by
            rcases Nat.lt_or_ge j k with h | h
            · exact HAll.out j u v h hu hv
            · obtain rfl : j = k := by omega
              rw [HX.out] at hu; rw [HY.out] at hv
              cases hu; cases hv; exact HXY.out, below_drewN hbel _⟩
          case measure => simp [intOf]; omega
        · have hxy' : (x == y) = false := by simpa using hxy
          have HXY := Lib.hid hxy
          clear hxy
          go_wp2_with fail
          go_quiet (fail)
          go_wp2_with fail
          go_ret
          exact ⟨ret_bool (sameI_ne HX.out HY.out HXY.out).symm, below_drewN hbel _⟩
      · go_wp2_with fail
        go_ret
        exact ⟨ret_bool (sameI_eq (by rw [HA.out, HB.out]) (fun j x y hj hx hy => HAll.out j x y (by have := HA.out; omega) hx hy)).symm, hbel⟩
  · have hnn : ((n : Int) == (m : Int)) = false := by simp; omega
    have HF : Hid (sameI a b = false) := sameI_len (by rw [HA.out, HB.out]; exact hnm)
    go_enter Tryd.func15, Tryd.ntmps15
    go_wp2_with fail
    go_ret
    exact ⟨ret_bool HF.out.symm, Below.refl _ _⟩

def eqK (x y : Link) : Bool := x.id == y.id && x.fr == y.fr && x.to == y.to && x.steps == y.steps && x.paces == y.paces
theorem eqK_iff {x y : Link} : eqK x y = true ↔ x = y := by
  obtain ⟨a1, a2, a3, a4, a5⟩ := x
  obtain ⟨b1, b2, b3, b4, b5⟩ := y
  unfold eqK
  simp
  constructor
  · rintro ⟨⟨⟨⟨h1, h2⟩, h3⟩, h4⟩, h5⟩; exact ⟨h1, h2, h3, h4, h5⟩
  · rintro ⟨h1, h2, h3, h4, h5⟩; exact ⟨⟨⟨⟨h1, h2⟩, h3⟩, h4⟩, h5⟩
theorem eqi_run' (d : Nat) (a b : Int) (w : World) : (Op.equalIn (d+1) 3 (.int .i64 a) (.int .i64 b)).run Tryd.prog w = .ok (a == b) w := by
  simp [Op.equalIn, run_underlying Tryd.underlying3]
theorem eqK_run (a1 a2 a3 a4 a5 b1 b2 b3 b4 b5 : Int) (w : World) : (Op.equalIn 10000 45 (.agg #[.int .i64 a1, .int .i64 a2, .int .i64 a3, .int .i64 a4, .int .i64 a5]) (.agg #[.int .i64 b1, .int .i64 b2, .int .i64 b3, .int .i64 b4, .int .i64 b5])).run Tryd.prog w = .ok (eqK ⟨a1, a2, a3, a4, a5⟩ ⟨b1, b2, b3, b4, b5⟩) w := by
  rw [Op.equalIn]
  simp [go_sem, run_underlying Tryd.underlying45, eqi_run', Std.Legacy.Range.forIn_eq_forIn_range', part, eqK]
  by_cases h1 : a1 = b1 <;> by_cases h2 : a2 = b2 <;> by_cases h3 : a3 = b3 <;> by_cases h4 : a4 = b4 <;> by_cases h5 : a5 = b5 <;> simp [h1, h2, h3, h4, h5]

def sameT (t u : Town) : Bool := decide (t = u)
theorem sameT_places {t u : Town} (h : sameI t.places u.places = false) : sameT t u = false := by
  unfold sameT; unfold sameI at h; simp at h ⊢; intro e; subst e; exact h rfl
theorem sameT_len {t u : Town} (h : t.links.length ≠ u.links.length) : sameT t u = false := by
  unfold sameT; simp; intro e; subst e; exact h rfl
theorem sameT_ne {t u : Town} {k : Nat} {x y : Link} (hx : t.links[k]? = some x) (hy : u.links[k]? = some y) (h : x ≠ y) : sameT t u = false := by
  unfold sameT; simp; intro e; subst e; rw [hx] at hy; cases hy; exact h rfl
theorem sameT_eq {t u : Town} (hp : sameI t.places u.places = true) (hl : t.links.length = u.links.length) (h : ∀ (k : Nat) x y, k < t.links.length → t.links[k]? = some x → u.links[k]? = some y → x = y) : sameT t u = true := by
  obtain ⟨tp, tl⟩ := t
  obtain ⟨up, ul⟩ := u
  unfold sameI at hp
  simp only [decide_eq_true_eq] at hp hl h
  unfold sameT; simp
  refine ⟨hp, List.ext_getElem? fun k => ?_⟩
  by_cases hk : k < tl.length
  · have h1 : tl[k]? = some tl[k] := List.getElem?_eq_getElem hk
    have h2 : ul[k]? = some (ul[k]'(by omega)) := List.getElem?_eq_getElem _
    rw [h1, h2, h k _ _ hk h1 h2]
  · rw [List.getElem?_eq_none (by omega), List.getElem?_eq_none (by omega)]

set_option maxRecDepth 100000 in
set_option maxHeartbeats 4000000 in
theorem same_any (A : Option Addr) (n c : Nat) (A' : Option Addr) (m d : Nat) (t : Town) (C : Option Addr) (p q : Nat) (C' : Option Addr) (r s : Nat) (u : Town) (w : World) (hn : n ≤ maxLen) (hm : m ≤ maxLen) (hp : p ≤ maxLen) (hr : r ≤ maxLen) (ht : TownAt w w.heap.size A n A' m t) (hu : TownAt w w.heap.size C p C' r u) :
    Calls Tryd.prog 16 #[.agg #[.slice A n c, .slice A' m d], .agg #[.slice C p q, .slice C' r s]] w fun e w' => e = .returned (.bool (sameT t u)) ∧ Below w.heap.size w w' := by
  have HT := Lib.hid ht
  have HU := Lib.hid hu
  have HA := Lib.hid ht.links.len
  have HB := Lib.hid hu.links.len
  have HM := Lib.hid hm
  have HR := Lib.hid hr
  clear ht hu
  go_enter Tryd.func16, Tryd.ntmps16
  go_wp2_with fail
  have X0 := (Blk.new w 25 #[.slice A n c, .slice A' m d]).alloc (.cells #[.slice C p q, .slice C' r s] 25)
  have Y0 := Blk.new (w.alloc (.cells #[.slice A n c, .slice A' m d] 25)) 25 #[.slice C p q, .slice C' r s]
  have B0 : Below w.heap.size w ((w.alloc (.cells #[.slice A n c, .slice A' m d] 25)).alloc (.cells #[.slice C p q, .slice C' r s] 25)) := ((Below.refl _ _).alloc (Nat.le_refl _) _).alloc (by simp) _
  rw [World.size_alloc] at Y0
  generalize ((w.alloc (.cells #[.slice A n c, .slice A' m d] 25)).alloc (.cells #[.slice C p q, .slice C' r s] 25)) = w0 at *
  with_reducible refine (sameInts_any A n c t.places C p q u.places w0 hn hp ((HT.out.places.below B0).more B0.size) ((HU.out.places.below B0).more B0.size)).mono ?_
  rintro e w1 ⟨rfl, hb1⟩
  replace X0 := X0.below hb1 X0.lt
  replace Y0 := Y0.below hb1 Y0.lt
  replace B0 := B0.trans (hb1.mono B0.size)
  have x0 := X0.cell 0
  have x1 := X0.cell 1
  have y0 := Y0.cell 0
  have y1 := Y0.cell 1
  clear hb1
  cases hs : sameI t.places u.places with
  | false =>
    have HF := Lib.hid (sameT_places hs)
    clear hs
    go_wp2_with fail
    go_ret
    exact ⟨ret_bool HF.out.symm, B0⟩
  | true =>
  have HS := Lib.hid hs
  clear hs
  by_cases hmr : m = r
  · subst hmr
    have hnn : ((m : Int) == (m : Int)) = true := by simp
    have hrun := eqK_run
    unfold maxLen at hm
    clear x0 x1 y0 y1
    have x1 := X0.cell 1
    have y1 := Y0.cell 1
    go_wp2_with fail
    go_loopw [5] (fun i wr => ∃ k : Nat, k ≤ m ∧ i = .int .i64 k ∧ (∀ (j : Nat) x y, j < k → t.links[j]? = some x → u.links[j]? = some y → x = y) ∧ Below w1.heap.size w1 wr)
      (fun i _ => m - (intOf i).toNat)
    case atStart => exact ⟨0, by omega, rfl, fun _ _ _ h => absurd h (by omega), Below.refl _ _⟩
    case round =>
      obtain ⟨k, hk, rfl, hall, hbel⟩ := hrel
      have HAll := Lib.hid hall
      clear hall x1 y1
      have x1 := (X0.below hbel X0.lt).cell 1
      have y1 := (Y0.below hbel Y0.lt).cell 1
      have BR := B0.trans (hbel.mono B0.size)
      by_cases hlt : k < m
      · obtain ⟨b1, o1, x, rfl, hb1, hx, cx0, cx1, cx2, cx3, cx4⟩ := (HT.out.links.below BR).cell hlt
        obtain ⟨b2, o2, y, rfl, hb2, hy, cy0, cy1, cy2, cy3, cy4⟩ := (HU.out.links.below BR).cell hlt
        have HX := Lib.hid hx
        have HY := Lib.hid hy
        have kI : (k : Int) < (m : Int) := by omega
        have k0 : (0 : Int) ≤ (k : Int) := by omega
        clear hx hy
        cases hxy : eqK ⟨x.id, x.fr, x.to, x.steps, x.paces⟩ ⟨y.id, y.fr, y.to, y.steps, y.paces⟩ with
        | true =>
          have HXY : Hid (x = y) := eqK_iff.1 hxy
          go_wp2_with fail
          go_quiet (fail)
          go_wp2_with fail
          go_roundw
          case rel => exact ⟨k + 1, by omega, by go_num, fun j u' v hj hu hv => by
            rcases Nat.lt_or_ge j k with h | h
            · exact HAll.out j u' v h hu hv
            · obtain rfl : j = k := by omega
              rw [HX.out] at hu; rw [HY.out] at hv
              cases hu; cases hv; exact HXY.out, below_drewN hbel _⟩
          case measure => simp [intOf]; omega
        | false =>
          have HXY : Hid (x ≠ y) := fun e => by
            have h1 : eqK x y = false := hxy
            rw [eqK_iff.2 e] at h1; cases h1
          go_wp2_with fail
          go_quiet (fail)
          go_wp2_with fail
          go_ret
          exact ⟨ret_bool (sameT_ne HX.out HY.out HXY.out).symm, below_drewN BR _⟩
      · go_wp2_with fail
        go_ret
        exact ⟨ret_bool (sameT_eq HS.out (by rw [HA.out, HB.out]) (fun j x y hj hx hy => HAll.out j x y (by have := HA.out; omega) hx hy)).symm, BR⟩
  · have hnn : ((m : Int) == (r : Int)) = false := by simp; omega
    have HF : Hid (sameT t u = false) := sameT_len (by rw [HA.out, HB.out]; exact hmr)
    go_wp2_with fail
    go_ret
    exact ⟨ret_bool HF.out.symm, B0⟩

def greatB (n m : Nat) : Bool := decide (20 < n) || decide (40 < m)
set_option maxHeartbeats 1000000 in
theorem great_any (A : Option Addr) (n c : Nat) (A' : Option Addr) (m d : Nat) (w : World) :
    Calls Tryd.prog 9 #[.agg #[.slice A n c, .slice A' m d]] w fun e w' => e = .returned (.bool (greatB n m)) ∧ Below w.heap.size w w' := by
  by_cases h1 : 20 < n
  · have HG : Hid (greatB n m = true) := by show _ = _; unfold greatB; simp [h1]
    have h1' : (20 : Int) < (n : Int) := by omega
    clear h1
    go_enter Tryd.func9, Tryd.ntmps9
    go_wp2_with fail
    go_ret
    exact ⟨ret_bool HG.out.symm, (Below.refl _ _).alloc (Nat.le_refl _) _⟩
  · have h1' : decide ((20 : Int) < (n : Int)) = false := by simp; omega
    by_cases h2 : 40 < m
    · have HG : Hid (greatB n m = true) := by show _ = _; unfold greatB; simp [h2]
      have h2' : (40 : Int) < (m : Int) := by omega
      clear h1 h2
      go_enter Tryd.func9, Tryd.ntmps9
      go_wp2_with fail
      go_ret
      exact ⟨ret_bool HG.out.symm, (Below.refl _ _).alloc (Nat.le_refl _) _⟩
    · have HG : Hid (greatB n m = false) := by show _ = _; unfold greatB; simp [h1, h2]
      have h2' : ¬ (40 : Int) < (m : Int) := by omega
      clear h1 h2
      go_enter Tryd.func9, Tryd.ntmps9
      go_wp2_with fail
      go_ret
      exact ⟨ret_bool HG.out.symm, (Below.refl _ _).alloc (Nat.le_refl _) _⟩
end Go.Proofs.YtahkjagjcogeiaaDoor
/- Spans and toils compared. -/
namespace Go.Proofs.YtahkjagjcogeiaaDoor
open Go.RowKit
set_option linter.unusedVariables false
theorem sameT_refl' (t : Town) : sameT t t = true := by simp [sameT]
theorem sameI_refl' (l : List Int) : sameI l l = true := by simp [sameI]
theorem eqSpan_run (a1 a2 b1 b2 : Int) (w : World) : (Op.equalIn 10000 27 (.agg #[.int .i64 a1, .int .i64 a2]) (.agg #[.int .i64 b1, .int .i64 b2])).run Tryd.prog w = .ok (a1 == b1 && a2 == b2) w := by
  rw [Op.equalIn]
  simp [go_sem, run_underlying Tryd.underlying27, eqi_run', Std.Legacy.Range.forIn_eq_forIn_range', part]
  by_cases h1 : a1 = b1 <;> by_cases h2 : a2 = b2 <;> simp [h1, h2]
theorem eqSpan_same (a b : Int) (w : World) : (Op.equalIn 10000 27 (.agg #[.int .i64 a, .int .i64 b]) (.agg #[.int .i64 a, .int .i64 b])).run Tryd.prog w = .ok true w := by
  rw [eqSpan_run]; simp
theorem eqToil_run (a1 a2 b1 b2 : Int) (w : World) : (Op.equalIn 10000 59 (.agg #[.int .i64 a1, .int .i64 a2]) (.agg #[.int .i64 b1, .int .i64 b2])).run Tryd.prog w = .ok (a1 == b1 && a2 == b2) w := by
  rw [Op.equalIn]
  simp [go_sem, run_underlying Tryd.underlying59, eqi_run', Std.Legacy.Range.forIn_eq_forIn_range', part]
  by_cases h1 : a1 = b1 <;> by_cases h2 : a2 = b2 <;> simp [h1, h2]
theorem eqToil_same (a b : Int) (w : World) : (Op.equalIn 10000 59 (.agg #[.int .i64 a, .int .i64 b]) (.agg #[.int .i64 a, .int .i64 b])).run Tryd.prog w = .ok true w := by
  rw [eqToil_run]; simp
end Go.Proofs.YtahkjagjcogeiaaDoor
/- The law ClimbTimes, walked. -/
namespace Go.Proofs.YtahkjagjcogeiaaDoor
open Go.RowKit
set_option linter.unusedVariables false

theorem quickF_len {t : Town} {s : Gait} {u v : Int} {dk : Bool} {r : List Int × Span × Int} (h : quickF t s u v dk = r) : r.1.length ≤ maxLen := by
  subst h
  unfold quickF
  split
  · rename_i h0
    have h1 := or2_zero h0
    have hG := goodT (askE_zero h1.1).1
    have hS := goodG (slowE_zero h1.2)
    split
    · unfold maxLen; simp
    · rename_i r hr
      have := best_len hG.fine (timeP_fair (by have := hS.pace; omega) (by have := hS.step; omega)) (c := r.1) (l := r.2) hr
      unfold maxLen; simp; omega
  · unfold maxLen; simp

set_option maxRecDepth 100000 in
set_option maxHeartbeats 8000000 in
theorem times_walk (A : Option Addr) (n c : Nat) (A' : Option Addr) (m d : Nat) (t : Town) (s : Gait) (u v : Int) (dk : Bool) (A2 : Option Addr) (k2 c2 : Nat) (l : List Int) (w : World) (hn : n ≤ maxLen) (hm : m ≤ maxLen) (hk : k2 ≤ maxLen) (ht : TownAt w w.heap.size A n A' m t) (hr : IntsAt w w.heap.size A2 k2 l) (hL : Laid w) :
    Calls Tryd.prog 6 #[.agg #[.slice A n c, .slice A' m d], .agg #[.int .i64 s.pace.lo, .int .i64 s.pace.hi, .int .i64 s.step.lo, .int .i64 s.step.hi], .int .i64 u, .int .i64 v, .bool dk, .slice A2 k2 c2] w fun e w' => e = .returned (.bool true) ∧ Below w.heap.size w w' := by
  have HT := Lib.hid ht
  have HL := Lib.hid hL
  have hl0 := hL.2.2.2
  have HLn := Lib.hid ht.places.len
  have HLm := Lib.hid ht.links.len
  clear ht hL
  unfold maxLen at hn hm
  have HR := Lib.hid hr
  have HLk := Lib.hid hr.len
  clear hr
  unfold maxLen at hk
  go_enter Tryd.func6, Tryd.ntmps6
  go_wp2_with fail
  have HLay := Lib.hid (Lay.two w 25 #[.slice A n c, .slice A' m d] 66 #[.int .i64 s.pace.lo, .int .i64 s.pace.hi, .int .i64 s.step.lo, .int .i64 s.step.hi])
  generalize ((w.alloc (.cells #[.slice A n c, .slice A' m d] 25)).alloc (.cells #[.int .i64 s.pace.lo, .int .i64 s.pace.hi, .int .i64 s.step.lo, .int .i64 s.step.hi] 66)) = w0 at *
  with_reducible refine (great_any A n c A' m d w0).mono ?_
  rintro e W1 ⟨rfl, hb⟩
  replace HLay := Lib.hid (HLay.out.below hb)
  clear hb
  cases hgr : greatB n m with
  | true =>
    clear hgr
    go_wp2_with fail
    go_ret
    exact ⟨rfl, HLay.out.bel⟩
  | false =>
  have hsz : n ≤ 20 ∧ m ≤ 40 := by unfold greatB at hgr; simp at hgr; omega
  clear hgr
  obtain ⟨hn20, hm40⟩ := hsz
  by_cases hk60 : (60 : Int) < (k2 : Int)
  · go_wp2_with fail
    go_ret
    exact ⟨rfl, HLay.out.bel⟩
  have hk60' : k2 ≤ 60 := by omega
  have hk60d : decide ((60 : Int) < (k2 : Int)) = false := by simp; omega
  clear hk60
  have hk1 : k2 ≤ 1000 := by omega
  have hn1 : n ≤ 1000 := by omega
  have hm1 : m ≤ 1000 := by omega
  have x0_0 := (HLay.out.blk 0 rfl).cell 0
  have x0_1 := (HLay.out.blk 0 rfl).cell 1
  have l0_ := HLay.out.lt 0 rfl
  go_wp2_with fail
  clear x0_0 x0_1 l0_
  have HLW := Lib.hid (HLay.out.bel.size)
  with_reducible refine (twin_any A n c A' m d t W1 hn1 hm1 ((HT.out.below HLay.out.bel).more HLay.out.bel.size)).mono ?_
  rintro e W2 ⟨A1, c1, A1', c1', rfl, hO1, hO2, _, hb⟩
  replace HLay := Lib.hid (HLay.out.below hb)
  clear hb
  have HO1 := Lib.hid (hO1.mono (HLW.out))
  have HO2 := Lib.hid (hO2.mono (HLW.out))
  rw [HLn.out] at HO1
  rw [HLm.out] at HO2
  rw [HLn.out, HLm.out]
  clear hO1 hO2 HLW
  have HE : Hid (Own (W2.alloc (.cells #[] 3)) w.heap.size 3 1 (some ⟨W2.heap.size, 0, none⟩) 0 0 []) := Own.mk_ HLay.out.bel.size (Blk.new W2 _ _) (Nat.le_refl _) (Nat.zero_le _) rfl rfl (fun k hk => by omega)
  have HI : Hid (IntsAt (W2.alloc (.cells #[] 3)) (W2.alloc (.cells #[] 3)).heap.size A2 k2 l) := (HR.out.below (HLay.out.bel.alloc HLay.out.bel.size _)).more (HLay.out.bel.alloc HLay.out.bel.size _).size
  go_wp2_with (at_builtin; refine wpList_append_any _ rfl _ _ rfl elem_int rfl HE.out rfl HI.out (ints_one _) (by unfold maxLen; omega) (by omega) (by rw [World.size_alloc]; have := HLay.out.bel.size; omega) ?_)
  rintro A3 c3 W3 hown hg hA
  have HMi : Hid (Own W3 w.heap.size 3 1 A3 k2 c3 (l.map (Value.int .i64))) := by
    have h := hown
    exact h
  have hg' : W2.grownBy W3 (some W2.heap.size) := grown_trans (grown_of_below ((Below.refl W2.heap.size W2).alloc (Nat.le_refl _) (.cells #[] 3)) _) hg
  have hb : Below W2.heap.size W2 W3 := below_of_grown hg' (fun k hk => by cases hk; exact Nat.le_refl _) (Nat.le_refl _)
  replace HLay := Lib.hid (HLay.out.below hb)
  replace HO1 := Lib.hid (HO1.out.below hb (Nat.le_refl _))
  replace HO2 := Lib.hid (HO2.out.below hb (Nat.le_refl _))
  clear hown hg hg' hb HE HI hA
  have x0_0 := (HLay.out.blk 0 rfl).cell 0
  have x0_1 := (HLay.out.blk 0 rfl).cell 1
  have l0_ := HLay.out.lt 0 rfl
  have x1_0 := (HLay.out.blk 1 rfl).cell 0
  have x1_1 := (HLay.out.blk 1 rfl).cell 1
  have x1_2 := (HLay.out.blk 1 rfl).cell 2
  have x1_3 := (HLay.out.blk 1 rfl).cell 3
  have l1_ := HLay.out.lt 1 rfl
  go_wp2_with fail
  clear x0_0 x0_1 l0_ x1_0 x1_1 x1_2 x1_3 l1_
  have hb : Below W3.heap.size W3 (W3.alloc (.cells #[.slice A1 n c1, .slice A1' m c1'] 25)) := (Below.refl _ _).alloc (Nat.le_refl _) _
  have hnew := Blk.new W3 25 #[.slice A1 n c1, .slice A1' m c1']
  have hge := HLay.out.bel.size
  replace HLay := Lib.hid (HLay.out.below hb)
  replace HO1 := Lib.hid (HO1.out.below hb (Nat.le_refl _))
  replace HO2 := Lib.hid (HO2.out.below hb (Nat.le_refl _))
  replace HMi := Lib.hid (HMi.out.below hb (Nat.le_refl _))
  replace HLay := Lib.hid (HLay.out.add hge hnew)
  clear hnew hge hb
  obtain ⟨G5, hG⟩ : ∃ g, W3.heap.size = g := ⟨_, rfl⟩
  rw [hG] at HLay ⊢
  generalize (W3.alloc (.cells #[.slice A1 n c1, .slice A1' m c1'] 25)) = V4 at *
  clear hG
  replace HLay := Lib.hid (show Lay w V4 [(w.heap.size, 25, #[.slice A n c, .slice A' m d]), (w.heap.size + 1, 66, #[.int .i64 s.pace.lo, .int .i64 s.pace.hi, .int .i64 s.step.lo, .int .i64 s.step.hi]), (G5, 25, #[.slice A1 n c1, .slice A1' m c1'])] from HLay.out)
  with_reducible refine (seconds_any A1 n c1 A1' m c1' t s u A3 k2 c3 l V4 hn1 hm1 hk1 ⟨ints_of_own HO1.out (Nat.le_refl _), links_of_own HO2.out (Nat.le_refl _)⟩ (ints_of_own HMi.out (Nat.le_refl _)) (HL.out.below HLay.out.bel hl0)).mono ?_
  rintro e W6 ⟨rfl, hb⟩
  replace HLay := Lib.hid (HLay.out.below hb)
  replace HO1 := Lib.hid (HO1.out.below hb (Nat.le_refl _))
  replace HO2 := Lib.hid (HO2.out.below hb (Nat.le_refl _))
  replace HMi := Lib.hid (HMi.out.below hb (Nat.le_refl _))
  clear hb
  obtain ⟨v1, hv1⟩ : ∃ y, secV t s u l = y := ⟨_, rfl⟩
  obtain ⟨e1, he1⟩ : ∃ y, secE t s u l = y := ⟨_, rfl⟩
  rw [hv1, he1]
  have HV1 := Lib.hid hv1
  have HE1 := Lib.hid he1
  clear hv1 he1
  have x0_0 := (HLay.out.blk 0 rfl).cell 0
  have x0_1 := (HLay.out.blk 0 rfl).cell 1
  have l0_ := HLay.out.lt 0 rfl
  have x1_0 := (HLay.out.blk 1 rfl).cell 0
  have x1_1 := (HLay.out.blk 1 rfl).cell 1
  have x1_2 := (HLay.out.blk 1 rfl).cell 2
  have x1_3 := (HLay.out.blk 1 rfl).cell 3
  have l1_ := HLay.out.lt 1 rfl
  have x2_0 := (HLay.out.blk 2 rfl).cell 0
  have x2_1 := (HLay.out.blk 2 rfl).cell 1
  have l2_ := HLay.out.lt 2 rfl
  go_wp2_with fail
  clear x0_0 x0_1 l0_ x1_0 x1_1 x1_2 x1_3 l1_ x2_0 x2_1 l2_
  have hb : Below W6.heap.size W6 (W6.alloc (.cells #[.int .i64 v1.lo, .int .i64 v1.hi] 27)) := (Below.refl _ _).alloc (Nat.le_refl _) _
  have hnew := Blk.new W6 27 #[.int .i64 v1.lo, .int .i64 v1.hi]
  have hge := HLay.out.bel.size
  replace HLay := Lib.hid (HLay.out.below hb)
  replace HO1 := Lib.hid (HO1.out.below hb (Nat.le_refl _))
  replace HO2 := Lib.hid (HO2.out.below hb (Nat.le_refl _))
  replace HMi := Lib.hid (HMi.out.below hb (Nat.le_refl _))
  replace HLay := Lib.hid (HLay.out.add hge hnew)
  clear hnew hge hb
  obtain ⟨G8, hG⟩ : ∃ g, W6.heap.size = g := ⟨_, rfl⟩
  rw [hG] at HLay ⊢
  generalize (W6.alloc (.cells #[.int .i64 v1.lo, .int .i64 v1.hi] 27)) = V7 at *
  clear hG
  replace HLay := Lib.hid (show Lay w V7 [(w.heap.size, 25, #[.slice A n c, .slice A' m d]), (w.heap.size + 1, 66, #[.int .i64 s.pace.lo, .int .i64 s.pace.hi, .int .i64 s.step.lo, .int .i64 s.step.hi]), (G5, 25, #[.slice A1 n c1, .slice A1' m c1']), (G8, 27, #[.int .i64 v1.lo, .int .i64 v1.hi])] from HLay.out)
  with_reducible refine (rseconds_any A n c A' m d t s u A2 k2 c2 l V7 hn1 hm1 hk1 ((HT.out.below HLay.out.bel).more HLay.out.bel.size) ((HR.out.below HLay.out.bel).more HLay.out.bel.size)).mono ?_
  rintro e W9 ⟨rfl, hb⟩
  replace HLay := Lib.hid (HLay.out.below hb)
  replace HO1 := Lib.hid (HO1.out.below hb (Nat.le_refl _))
  replace HO2 := Lib.hid (HO2.out.below hb (Nat.le_refl _))
  replace HMi := Lib.hid (HMi.out.below hb (Nat.le_refl _))
  clear hb
  rw [HV1.out, HE1.out]
  have x0_0 := (HLay.out.blk 0 rfl).cell 0
  have x0_1 := (HLay.out.blk 0 rfl).cell 1
  have l0_ := HLay.out.lt 0 rfl
  have x1_0 := (HLay.out.blk 1 rfl).cell 0
  have x1_1 := (HLay.out.blk 1 rfl).cell 1
  have x1_2 := (HLay.out.blk 1 rfl).cell 2
  have x1_3 := (HLay.out.blk 1 rfl).cell 3
  have l1_ := HLay.out.lt 1 rfl
  have x2_0 := (HLay.out.blk 2 rfl).cell 0
  have x2_1 := (HLay.out.blk 2 rfl).cell 1
  have l2_ := HLay.out.lt 2 rfl
  go_wp2_with fail
  clear x0_0 x0_1 l0_ x1_0 x1_1 x1_2 x1_3 l1_ x2_0 x2_1 l2_
  have hb : Below W9.heap.size W9 (W9.alloc (.cells #[.int .i64 v1.lo, .int .i64 v1.hi] 27)) := (Below.refl _ _).alloc (Nat.le_refl _) _
  have hnew := Blk.new W9 27 #[.int .i64 v1.lo, .int .i64 v1.hi]
  have hge := HLay.out.bel.size
  replace HLay := Lib.hid (HLay.out.below hb)
  replace HO1 := Lib.hid (HO1.out.below hb (Nat.le_refl _))
  replace HO2 := Lib.hid (HO2.out.below hb (Nat.le_refl _))
  replace HMi := Lib.hid (HMi.out.below hb (Nat.le_refl _))
  replace HLay := Lib.hid (HLay.out.add hge hnew)
  clear hnew hge hb
  obtain ⟨G11, hG⟩ : ∃ g, W9.heap.size = g := ⟨_, rfl⟩
  rw [hG] at HLay ⊢
  generalize (W9.alloc (.cells #[.int .i64 v1.lo, .int .i64 v1.hi] 27)) = V10 at *
  clear hG
  replace HLay := Lib.hid (show Lay w V10 [(w.heap.size, 25, #[.slice A n c, .slice A' m d]), (w.heap.size + 1, 66, #[.int .i64 s.pace.lo, .int .i64 s.pace.hi, .int .i64 s.step.lo, .int .i64 s.step.hi]), (G5, 25, #[.slice A1 n c1, .slice A1' m c1']), (G8, 27, #[.int .i64 v1.lo, .int .i64 v1.hi]), (G11, 27, #[.int .i64 v1.lo, .int .i64 v1.hi])] from HLay.out)
  with_reducible refine (minutes_any A1 n c1 A1' m c1' t s u v dk V10 hn1 hm1 ⟨ints_of_own HO1.out (Nat.le_refl _), links_of_own HO2.out (Nat.le_refl _)⟩ (HL.out.below HLay.out.bel hl0)).mono ?_
  rintro e W12 ⟨rfl, hb⟩
  replace HLay := Lib.hid (HLay.out.below hb)
  replace HO1 := Lib.hid (HO1.out.below hb (Nat.le_refl _))
  replace HO2 := Lib.hid (HO2.out.below hb (Nat.le_refl _))
  replace HMi := Lib.hid (HMi.out.below hb (Nat.le_refl _))
  clear hb
  obtain ⟨v2, hv2⟩ : ∃ y, minV t s u v dk = y := ⟨_, rfl⟩
  obtain ⟨e2, he2⟩ : ∃ y, minE t s u v dk = y := ⟨_, rfl⟩
  rw [hv2, he2]
  have HV2 := Lib.hid hv2
  have HE2 := Lib.hid he2
  clear hv2 he2
  have x0_0 := (HLay.out.blk 0 rfl).cell 0
  have x0_1 := (HLay.out.blk 0 rfl).cell 1
  have l0_ := HLay.out.lt 0 rfl
  have x1_0 := (HLay.out.blk 1 rfl).cell 0
  have x1_1 := (HLay.out.blk 1 rfl).cell 1
  have x1_2 := (HLay.out.blk 1 rfl).cell 2
  have x1_3 := (HLay.out.blk 1 rfl).cell 3
  have l1_ := HLay.out.lt 1 rfl
  have x2_0 := (HLay.out.blk 2 rfl).cell 0
  have x2_1 := (HLay.out.blk 2 rfl).cell 1
  have l2_ := HLay.out.lt 2 rfl
  go_wp2_with fail
  clear x0_0 x0_1 l0_ x1_0 x1_1 x1_2 x1_3 l1_ x2_0 x2_1 l2_
  have hb : Below W12.heap.size W12 (W12.alloc (.cells #[.int .i64 v2.lo, .int .i64 v2.hi] 27)) := (Below.refl _ _).alloc (Nat.le_refl _) _
  have hnew := Blk.new W12 27 #[.int .i64 v2.lo, .int .i64 v2.hi]
  have hge := HLay.out.bel.size
  replace HLay := Lib.hid (HLay.out.below hb)
  replace HO1 := Lib.hid (HO1.out.below hb (Nat.le_refl _))
  replace HO2 := Lib.hid (HO2.out.below hb (Nat.le_refl _))
  replace HMi := Lib.hid (HMi.out.below hb (Nat.le_refl _))
  replace HLay := Lib.hid (HLay.out.add hge hnew)
  clear hnew hge hb
  obtain ⟨G14, hG⟩ : ∃ g, W12.heap.size = g := ⟨_, rfl⟩
  rw [hG] at HLay ⊢
  generalize (W12.alloc (.cells #[.int .i64 v2.lo, .int .i64 v2.hi] 27)) = V13 at *
  clear hG
  replace HLay := Lib.hid (show Lay w V13 [(w.heap.size, 25, #[.slice A n c, .slice A' m d]), (w.heap.size + 1, 66, #[.int .i64 s.pace.lo, .int .i64 s.pace.hi, .int .i64 s.step.lo, .int .i64 s.step.hi]), (G5, 25, #[.slice A1 n c1, .slice A1' m c1']), (G8, 27, #[.int .i64 v1.lo, .int .i64 v1.hi]), (G11, 27, #[.int .i64 v1.lo, .int .i64 v1.hi]), (G14, 27, #[.int .i64 v2.lo, .int .i64 v2.hi])] from HLay.out)
  with_reducible refine (rminutes_any A n c A' m d t s u v dk V13 hn1 hm1 ((HT.out.below HLay.out.bel).more HLay.out.bel.size)).mono ?_
  rintro e W15 ⟨rfl, hb⟩
  replace HLay := Lib.hid (HLay.out.below hb)
  replace HO1 := Lib.hid (HO1.out.below hb (Nat.le_refl _))
  replace HO2 := Lib.hid (HO2.out.below hb (Nat.le_refl _))
  replace HMi := Lib.hid (HMi.out.below hb (Nat.le_refl _))
  clear hb
  rw [HV2.out, HE2.out]
  have x0_0 := (HLay.out.blk 0 rfl).cell 0
  have x0_1 := (HLay.out.blk 0 rfl).cell 1
  have l0_ := HLay.out.lt 0 rfl
  have x1_0 := (HLay.out.blk 1 rfl).cell 0
  have x1_1 := (HLay.out.blk 1 rfl).cell 1
  have x1_2 := (HLay.out.blk 1 rfl).cell 2
  have x1_3 := (HLay.out.blk 1 rfl).cell 3
  have l1_ := HLay.out.lt 1 rfl
  have x2_0 := (HLay.out.blk 2 rfl).cell 0
  have x2_1 := (HLay.out.blk 2 rfl).cell 1
  have l2_ := HLay.out.lt 2 rfl
  go_wp2_with fail
  clear x0_0 x0_1 l0_ x1_0 x1_1 x1_2 x1_3 l1_ x2_0 x2_1 l2_
  have hb : Below W15.heap.size W15 (W15.alloc (.cells #[.int .i64 v2.lo, .int .i64 v2.hi] 27)) := (Below.refl _ _).alloc (Nat.le_refl _) _
  have hnew := Blk.new W15 27 #[.int .i64 v2.lo, .int .i64 v2.hi]
  have hge := HLay.out.bel.size
  replace HLay := Lib.hid (HLay.out.below hb)
  replace HO1 := Lib.hid (HO1.out.below hb (Nat.le_refl _))
  replace HO2 := Lib.hid (HO2.out.below hb (Nat.le_refl _))
  replace HMi := Lib.hid (HMi.out.below hb (Nat.le_refl _))
  replace HLay := Lib.hid (HLay.out.add hge hnew)
  clear hnew hge hb
  obtain ⟨G17, hG⟩ : ∃ g, W15.heap.size = g := ⟨_, rfl⟩
  rw [hG] at HLay ⊢
  generalize (W15.alloc (.cells #[.int .i64 v2.lo, .int .i64 v2.hi] 27)) = V16 at *
  clear hG
  replace HLay := Lib.hid (show Lay w V16 [(w.heap.size, 25, #[.slice A n c, .slice A' m d]), (w.heap.size + 1, 66, #[.int .i64 s.pace.lo, .int .i64 s.pace.hi, .int .i64 s.step.lo, .int .i64 s.step.hi]), (G5, 25, #[.slice A1 n c1, .slice A1' m c1']), (G8, 27, #[.int .i64 v1.lo, .int .i64 v1.hi]), (G11, 27, #[.int .i64 v1.lo, .int .i64 v1.hi]), (G14, 27, #[.int .i64 v2.lo, .int .i64 v2.hi]), (G17, 27, #[.int .i64 v2.lo, .int .i64 v2.hi])] from HLay.out)
  with_reducible refine (quick_any A1 n c1 A1' m c1' t s u v dk V16 hn1 hm1 ⟨ints_of_own HO1.out (Nat.le_refl _), links_of_own HO2.out (Nat.le_refl _)⟩ (HL.out.below HLay.out.bel hl0)).mono ?_
  rintro e W18 ⟨AW, nW, cW, rfl, hiw, hb⟩
  replace HLay := Lib.hid (HLay.out.below hb)
  replace HO1 := Lib.hid (HO1.out.below hb (Nat.le_refl _))
  replace HO2 := Lib.hid (HO2.out.below hb (Nat.le_refl _))
  replace HMi := Lib.hid (HMi.out.below hb (Nat.le_refl _))
  clear hb
  have HW := Lib.hid hiw
  clear hiw
  obtain ⟨r1, hr1⟩ : ∃ y, quickF t s u v dk = y := ⟨_, rfl⟩
  rw [hr1] at HW ⊢
  have HR1 := Lib.hid hr1
  clear hr1
  have x0_0 := (HLay.out.blk 0 rfl).cell 0
  have x0_1 := (HLay.out.blk 0 rfl).cell 1
  have l0_ := HLay.out.lt 0 rfl
  have x1_0 := (HLay.out.blk 1 rfl).cell 0
  have x1_1 := (HLay.out.blk 1 rfl).cell 1
  have x1_2 := (HLay.out.blk 1 rfl).cell 2
  have x1_3 := (HLay.out.blk 1 rfl).cell 3
  have l1_ := HLay.out.lt 1 rfl
  have x2_0 := (HLay.out.blk 2 rfl).cell 0
  have x2_1 := (HLay.out.blk 2 rfl).cell 1
  have l2_ := HLay.out.lt 2 rfl
  go_wp2_with fail
  clear x0_0 x0_1 l0_ x1_0 x1_1 x1_2 x1_3 l1_ x2_0 x2_1 l2_
  have hb : Below W18.heap.size W18 (W18.alloc (.cells #[.int .i64 r1.2.1.lo, .int .i64 r1.2.1.hi] 27)) := (Below.refl _ _).alloc (Nat.le_refl _) _
  have hnew := Blk.new W18 27 #[.int .i64 r1.2.1.lo, .int .i64 r1.2.1.hi]
  have hge := HLay.out.bel.size
  replace HLay := Lib.hid (HLay.out.below hb)
  replace HO1 := Lib.hid (HO1.out.below hb (Nat.le_refl _))
  replace HO2 := Lib.hid (HO2.out.below hb (Nat.le_refl _))
  replace HMi := Lib.hid (HMi.out.below hb (Nat.le_refl _))
  replace HW := Lib.hid ((HW.out.below hb).more hb.size)
  replace HLay := Lib.hid (HLay.out.add hge hnew)
  clear hnew hge hb
  obtain ⟨G20, hG⟩ : ∃ g, W18.heap.size = g := ⟨_, rfl⟩
  rw [hG] at HLay ⊢
  generalize (W18.alloc (.cells #[.int .i64 r1.2.1.lo, .int .i64 r1.2.1.hi] 27)) = V19 at *
  clear hG
  replace HLay := Lib.hid (show Lay w V19 [(w.heap.size, 25, #[.slice A n c, .slice A' m d]), (w.heap.size + 1, 66, #[.int .i64 s.pace.lo, .int .i64 s.pace.hi, .int .i64 s.step.lo, .int .i64 s.step.hi]), (G5, 25, #[.slice A1 n c1, .slice A1' m c1']), (G8, 27, #[.int .i64 v1.lo, .int .i64 v1.hi]), (G11, 27, #[.int .i64 v1.lo, .int .i64 v1.hi]), (G14, 27, #[.int .i64 v2.lo, .int .i64 v2.hi]), (G17, 27, #[.int .i64 v2.lo, .int .i64 v2.hi]), (G20, 27, #[.int .i64 r1.2.1.lo, .int .i64 r1.2.1.hi])] from HLay.out)
  with_reducible refine (rquick_any A n c A' m d t s u v dk V19 hn1 hm1 ((HT.out.below HLay.out.bel).more HLay.out.bel.size)).mono ?_
  rintro e W21 ⟨AX, nX, cX, rfl, hiw, hb⟩
  replace HLay := Lib.hid (HLay.out.below hb)
  replace HO1 := Lib.hid (HO1.out.below hb (Nat.le_refl _))
  replace HO2 := Lib.hid (HO2.out.below hb (Nat.le_refl _))
  replace HMi := Lib.hid (HMi.out.below hb (Nat.le_refl _))
  replace HW := Lib.hid ((HW.out.below hb).more hb.size)
  clear hb
  have HX := Lib.hid hiw
  clear hiw
  rw [HR1.out] at HX ⊢
  have hlw : nW = r1.1.length := HW.out.len.symm
  have hlx : nX = r1.1.length := HX.out.len.symm
  obtain rfl : nX = nW := by omega
  have hnw : nX ≤ maxLen := by rw [hlw]; have h := HR1.out; exact quickF_len h
  clear hlw hlx
  have hse1 := eqSpan_same v1.lo v1.hi
  have hse2 := eqSpan_same v2.lo v2.hi
  have hse3 := eqSpan_same r1.2.1.lo r1.2.1.hi
  have hee : (e1 == e1) = true := by simp
  have hee2 : (e2 == e2) = true := by simp
  have hee3 : (r1.2.2 == r1.2.2) = true := by simp
  have x0_0 := (HLay.out.blk 0 rfl).cell 0
  have x0_1 := (HLay.out.blk 0 rfl).cell 1
  have l0_ := HLay.out.lt 0 rfl
  have x1_0 := (HLay.out.blk 1 rfl).cell 0
  have x1_1 := (HLay.out.blk 1 rfl).cell 1
  have x1_2 := (HLay.out.blk 1 rfl).cell 2
  have x1_3 := (HLay.out.blk 1 rfl).cell 3
  have l1_ := HLay.out.lt 1 rfl
  have x2_0 := (HLay.out.blk 2 rfl).cell 0
  have x2_1 := (HLay.out.blk 2 rfl).cell 1
  have l2_ := HLay.out.lt 2 rfl
  have x3_0 := (HLay.out.blk 3 rfl).cell 0
  have x3_1 := (HLay.out.blk 3 rfl).cell 1
  have l3_ := HLay.out.lt 3 rfl
  have x4_0 := (HLay.out.blk 4 rfl).cell 0
  have x4_1 := (HLay.out.blk 4 rfl).cell 1
  have l4_ := HLay.out.lt 4 rfl
  have x5_0 := (HLay.out.blk 5 rfl).cell 0
  have x5_1 := (HLay.out.blk 5 rfl).cell 1
  have l5_ := HLay.out.lt 5 rfl
  have x6_0 := (HLay.out.blk 6 rfl).cell 0
  have x6_1 := (HLay.out.blk 6 rfl).cell 1
  have l6_ := HLay.out.lt 6 rfl
  have x7_0 := (HLay.out.blk 7 rfl).cell 0
  have x7_1 := (HLay.out.blk 7 rfl).cell 1
  have l7_ := HLay.out.lt 7 rfl
  go_wp2_with fail
  clear x0_0 x0_1 l0_ x1_0 x1_1 x1_2 x1_3 l1_ x2_0 x2_1 l2_ x3_0 x3_1 l3_ x4_0 x4_1 l4_ x5_0 x5_1 l5_ x6_0 x6_1 l6_ x7_0 x7_1 l7_
  have hb : Below W21.heap.size W21 (W21.alloc (.cells #[.int .i64 r1.2.1.lo, .int .i64 r1.2.1.hi] 27)) := (Below.refl _ _).alloc (Nat.le_refl _) _
  have hnew := Blk.new W21 27 #[.int .i64 r1.2.1.lo, .int .i64 r1.2.1.hi]
  have hge := HLay.out.bel.size
  replace HLay := Lib.hid (HLay.out.below hb)
  replace HO1 := Lib.hid (HO1.out.below hb (Nat.le_refl _))
  replace HO2 := Lib.hid (HO2.out.below hb (Nat.le_refl _))
  replace HMi := Lib.hid (HMi.out.below hb (Nat.le_refl _))
  replace HW := Lib.hid ((HW.out.below hb).more hb.size)
  replace HX := Lib.hid ((HX.out.below hb).more hb.size)
  replace HLay := Lib.hid (HLay.out.add hge hnew)
  clear hnew hge hb
  obtain ⟨G23, hG⟩ : ∃ g, W21.heap.size = g := ⟨_, rfl⟩
  rw [hG] at HLay ⊢
  generalize (W21.alloc (.cells #[.int .i64 r1.2.1.lo, .int .i64 r1.2.1.hi] 27)) = V22 at *
  clear hG
  replace HLay := Lib.hid (show Lay w V22 [(w.heap.size, 25, #[.slice A n c, .slice A' m d]), (w.heap.size + 1, 66, #[.int .i64 s.pace.lo, .int .i64 s.pace.hi, .int .i64 s.step.lo, .int .i64 s.step.hi]), (G5, 25, #[.slice A1 n c1, .slice A1' m c1']), (G8, 27, #[.int .i64 v1.lo, .int .i64 v1.hi]), (G11, 27, #[.int .i64 v1.lo, .int .i64 v1.hi]), (G14, 27, #[.int .i64 v2.lo, .int .i64 v2.hi]), (G17, 27, #[.int .i64 v2.lo, .int .i64 v2.hi]), (G20, 27, #[.int .i64 r1.2.1.lo, .int .i64 r1.2.1.hi]), (G23, 27, #[.int .i64 r1.2.1.lo, .int .i64 r1.2.1.hi])] from HLay.out)
  with_reducible refine (sameInts_any AW nX cW r1.1 AX nX cX r1.1 V22 hnw hnw HW.out HX.out).mono ?_
  rintro e W24 ⟨rfl, hb⟩
  replace HLay := Lib.hid (HLay.out.below hb)
  replace HO1 := Lib.hid (HO1.out.below hb (Nat.le_refl _))
  replace HO2 := Lib.hid (HO2.out.below hb (Nat.le_refl _))
  replace HMi := Lib.hid (HMi.out.below hb (Nat.le_refl _))
  replace HW := Lib.hid ((HW.out.below hb).more hb.size)
  replace HX := Lib.hid ((HX.out.below hb).more hb.size)
  clear hb
  rw [sameI_refl']
  have x0_0 := (HLay.out.blk 0 rfl).cell 0
  have x0_1 := (HLay.out.blk 0 rfl).cell 1
  have l0_ := HLay.out.lt 0 rfl
  have x2_0 := (HLay.out.blk 2 rfl).cell 0
  have x2_1 := (HLay.out.blk 2 rfl).cell 1
  have l2_ := HLay.out.lt 2 rfl
  have x7_0 := (HLay.out.blk 7 rfl).cell 0
  have x7_1 := (HLay.out.blk 7 rfl).cell 1
  have l7_ := HLay.out.lt 7 rfl
  have x8_0 := (HLay.out.blk 8 rfl).cell 0
  have x8_1 := (HLay.out.blk 8 rfl).cell 1
  have l8_ := HLay.out.lt 8 rfl
  go_wp2_with fail
  clear x0_0 x0_1 l0_ x2_0 x2_1 l2_ x7_0 x7_1 l7_ x8_0 x8_1 l8_
  with_reducible refine (same_any A1 n c1 A1' m c1' t A n c A' m d t W24 (by unfold maxLen; omega) (by unfold maxLen; omega) (by unfold maxLen; omega) (by unfold maxLen; omega) ⟨ints_of_own HO1.out (Nat.le_refl _), links_of_own HO2.out (Nat.le_refl _)⟩ ((HT.out.below HLay.out.bel).more HLay.out.bel.size)).mono ?_
  rintro e W25 ⟨rfl, hb⟩
  replace HLay := Lib.hid (HLay.out.below hb)
  replace HO1 := Lib.hid (HO1.out.below hb (Nat.le_refl _))
  replace HO2 := Lib.hid (HO2.out.below hb (Nat.le_refl _))
  replace HMi := Lib.hid (HMi.out.below hb (Nat.le_refl _))
  replace HW := Lib.hid ((HW.out.below hb).more hb.size)
  replace HX := Lib.hid ((HX.out.below hb).more hb.size)
  clear hb
  rw [sameT_refl']
  go_wp2_with fail
  with_reducible refine (sameInts_any A3 k2 c3 l A2 k2 c2 l W25 (by unfold maxLen; omega) (by unfold maxLen; omega) (ints_of_own HMi.out (Nat.le_refl _)) ((HR.out.below HLay.out.bel).more HLay.out.bel.size)).mono ?_
  rintro e W26 ⟨rfl, hb⟩
  replace HLay := Lib.hid (HLay.out.below hb)
  replace HO1 := Lib.hid (HO1.out.below hb (Nat.le_refl _))
  replace HO2 := Lib.hid (HO2.out.below hb (Nat.le_refl _))
  replace HMi := Lib.hid (HMi.out.below hb (Nat.le_refl _))
  replace HW := Lib.hid ((HW.out.below hb).more hb.size)
  replace HX := Lib.hid ((HX.out.below hb).more hb.size)
  clear hb
  rw [sameI_refl']
  go_wp2_with fail
  go_ret
  exact ⟨rfl, HLay.out.bel⟩
end Go.Proofs.YtahkjagjcogeiaaDoor
/- The table of checks as the row lists it: its three cells. The door's own heap meets the condition. -/
namespace Go.Proofs.YtahkjagjcogeiaaDoor
open Go.ChangeShapes Go.WideShapes Go.ChangeAt Go.RowKit
set_option linter.unusedVariables false
set_option maxRecDepth 100000

def laidL : List (String × DataW Unit) := [("aguador/climb.checks", Rows.laid_aguador_climb_checks)]
theorem gChecks : Tryd.prog.globalNamed "aguador/climb.checks" = some 0 := by kernel_rfl
theorem tChecks : (Tryd.prog.globals[0]?).map (·.type) = some 149 := by kernel_rfl
theorem cellsCheck : Tryd.prog.cellsOf 148 = 1 := by kernel_rfl
theorem cellsFuncB : Tryd.prog.cellsOf 30 = 1 := by kernel_rfl
theorem checkUnd : ∃ f, Tryd.prog.underlying 148 = some (.struct #[f]) ∧ f.type = 30 ∧ f.offset = 0 := ⟨_, Tryd.underlying148, rfl, rfl⟩

/-- The door's own heap meets the condition. -/
theorem door_met (os : Os) (args : Array Value) : laidMetH Tryd.prog laidL ((World.doorLaid Tryd.prog 800 os).forCall (fun _ _ => 0) ⟨#[], args, []⟩).memory :=
  laidMetH_of_parts3 (fuel := 8) (laidMet_of_run' 8 (by kernel_rfl) (by kernel_rfl)) (by kernel_rfl) (by kernel_rfl)

theorem check_cell {W : World} {fuel : Nat} {cs : List Value} {b : UInt8} {r : List UInt8} {q : List MemPlace} {f0 : FuncId} (h : DataW.trod (funcToken Tryd.prog) Tryd.prog W 0 (fun _ => true) true fuel 148 cs = some (.agg [.held (b :: r)], q))
    (hone : ((List.range Tryd.prog.funcs.size).filter fun f => (Tryd.prog.funcs[f]?).any (·.name.toUTF8.data.toList == b :: r)) = [f0]) : cs = [.func (.func f0) #[] #[]] := by
  obtain ⟨f, hu, ht, ho⟩ := checkUnd
  obtain ⟨y0, n, hx, hl, h0⟩ := trod_struct1 hu h
  rw [cellsCheck] at hl
  match cs, hl with
  | [c], _ =>
    have h1 : DataW.trod (funcToken Tryd.prog) Tryd.prog W 0 (fun _ => true) true n 30 [c] = some y0 := by simpa [ht, ho, cellsFuncB] using h0
    simp only [Prod.mk.injEq, DataW.agg.injEq, List.cons.injEq, and_true] at hx
    obtain ⟨z, p⟩ := y0
    obtain ⟨e1, e2⟩ := hx
    simp only at e1
    subst e1
    rw [func_of_trod Tryd.underlying30 hone h1]

theorem of_laid {W : World} (h : laidMetH Tryd.prog laidL W) : Laid W := by
  obtain ⟨g, t, cs, fuel, p, hg, ht, hv, hd⟩ := h.funcs (List.mem_singleton.2 rfl)
  obtain rfl := Option.some.inj (gChecks.symm.trans hg)
  obtain rfl := Option.some.inj (tChecks.symm.trans ht)
  obtain ⟨xs, m, _, hx, hlen, hn, hel⟩ := DataW.trod_array Tryd.underlying149 hd
  rw [cellsCheck] at hel
  match xs, hn with
  | [x0, x1, x2], _ =>
    have h0 := hel 0 (by decide)
    have h1 := hel 1 (by decide)
    have h2 := hel 2 (by decide)
    simp only [Prod.mk.injEq] at hx
    have hx1 := hx.1
    simp only [DataW.funcsOut, DataW.funcsOutAll, List.map_cons, List.map_nil, DataW.agg.injEq, List.cons.injEq, and_true] at hx1
    obtain ⟨e0, e1, e2⟩ := hx1
    obtain ⟨x0, p0⟩ := x0
    obtain ⟨x1, p1⟩ := x1
    obtain ⟨x2, p2⟩ := x2
    simp only at e0 e1 e2
    subst e0 e1 e2
    have k0 := check_cell (f0 := 182) h0 (by kernel_rfl)
    have k1 := check_cell (f0 := 183) h1 (by kernel_rfl)
    have k2 := check_cell (f0 := 184) h2 (by kernel_rfl)
    have at_ : ∀ i, W.cell? ⟨0, i, none⟩ = cs[i]? := fun i => by simpa using World.var?_cell hg hv i
    obtain ⟨l⟩ := cs
    have c0 : W.cell? ⟨0, 0, none⟩ = some (.func (.func 182) #[] #[]) := by
      rw [at_]
      have := congrArg (·[0]?) k0
      simpa [List.getElem?_take, List.getElem?_drop] using this
    have c1 : W.cell? ⟨0, 1, none⟩ = some (.func (.func 183) #[] #[]) := by
      rw [at_]
      have := congrArg (·[0]?) k1
      simpa [List.getElem?_take, List.getElem?_drop] using this
    have c2 : W.cell? ⟨0, 2, none⟩ = some (.func (.func 184) #[] #[]) := by
      rw [at_]
      have := congrArg (·[0]?) k2
      simpa [List.getElem?_take, List.getElem?_drop] using this
    exact ⟨c0, c1, c2, World.block_lt_of_cell? W _ c0⟩

end Go.Proofs.YtahkjagjcogeiaaDoor
/- The laws' arguments, opened: lists of whole numbers, lists of links, towns, a link; the table of checks. -/
namespace Go.Proofs.YtahkjagjcogeiaaDoor
open Go.ChangeShapes Go.WideShapes Go.RowKit Go.Deep Go.Joins
set_option linter.unusedVariables false
set_option maxRecDepth 100000

section
variable {H : Type} {enc : TypeId × Value → H} {P : Program} {w : World} {base : Nat} {spare : Nat → Bool} {held : Bool}
/-- A struct of five one-cell fields, opened. -/
theorem opened5 {r : Reach} {b0 : Nat} {t : TypeId} {f0 f1 f2 f3 f4 : Field} {v : Value} {d : DataW H} {p : List MemPlace} (hs : P.underlying t = some (.struct #[f0, f1, f2, f3, f4])) (hone : oneCellFields P #[f0, f1, f2, f3, f4] = true) (hC : P.cellsOf t = 5)
    (hv : Value.okWide P w r b0 t v) (h : DataW.Trod enc P w base spare held t v d p) :
    ∃ (v0 v1 v2 v3 v4 : Value) (y0 y1 y2 y3 y4 : DataW H × List MemPlace) (n : Nat), v = .agg #[v0, v1, v2, v3, v4] ∧
      DataW.trod enc P w base spare held n f0.type [v0] = some y0 ∧ DataW.trod enc P w base spare held n f1.type [v1] = some y1 ∧ DataW.trod enc P w base spare held n f2.type [v2] = some y2 ∧ DataW.trod enc P w base spare held n f3.type [v3] = some y3 ∧ DataW.trod enc P w base spare held n f4.type [v4] = some y4 := by
  obtain ⟨cs, rfl, hsz⟩ := okWide_struct hs hv
  obtain ⟨l⟩ := cs
  match l, hsz.trans hC with
  | [c0, c1, c2, c3, c4], _ =>
    obtain ⟨fuel, hf⟩ := h
    obtain ⟨xs, n, _, hx, _, hlen, hg⟩ := DataW.trod_struct hs hf
    obtain ⟨o0, k0⟩ := hone_of hone 0 f0 rfl
    obtain ⟨o1, k1⟩ := hone_of hone 1 f1 rfl
    obtain ⟨o2, k2⟩ := hone_of hone 2 f2 rfl
    obtain ⟨o3, k3⟩ := hone_of hone 3 f3 rfl
    obtain ⟨o4, k4⟩ := hone_of hone 4 f4 rfl
    match xs, hlen with
    | [y0, y1, y2, y3, y4], _ =>
      exact ⟨c0, c1, c2, c3, c4, y0, y1, y2, y3, y4, n, rfl, by simpa [Value.cells, o0, k0] using hg 0 f0 rfl, by simpa [Value.cells, o1, k1] using hg 1 f1 rfl, by simpa [Value.cells, o2, k2] using hg 2 f2 rfl, by simpa [Value.cells, o3, k3] using hg 3 f3 rfl, by simpa [Value.cells, o4, k4] using hg 4 f4 rfl⟩
end

section
variable {H : Type} {enc : TypeId × Value → H} {w : World}

theorem linkUnd : ∃ f0 f1 f2 f3 f4, Tryd.prog.underlying 45 = some (.struct #[f0, f1, f2, f3, f4]) ∧ oneCellFields Tryd.prog #[f0, f1, f2, f3, f4] = true ∧ f0.type = 3 ∧ f1.type = 3 ∧ f2.type = 3 ∧ f3.type = 3 ∧ f4.type = 3 ∧ f0.offset = 0 ∧ f1.offset = 1 ∧ f2.offset = 2 ∧ f3.offset = 3 ∧ f4.offset = 4 :=
  ⟨_, _, _, _, _, Tryd.underlying45, by kernel_rfl, rfl, rfl, rfl, rfl, rfl, rfl, rfl, rfl, rfl, rfl⟩
theorem cellsLink : Tryd.prog.cellsOf 45 = 5 := by kernel_rfl
theorem cellsInt1 : Tryd.prog.cellsOf 3 = 1 := by kernel_rfl
theorem cellsTown2 : Tryd.prog.cellsOf 25 = 2 := by kernel_rfl

theorem flat1 {f : Nat → Int} (n : Nat) : (List.map (Value.int .i64) ((List.range n).map f)) = (List.range n).map fun i => Value.int .i64 (f i) := by simp

/-- A list of whole numbers. -/
theorem ints_open {v : Value} {fuel : Nat} {x : DataW H × List MemPlace} (h : DataW.trod enc Tryd.prog w 0 (fun _ => true) true fuel 22 [v] = some x) :
    ∃ A n c l, v = .slice A n c ∧ n ≤ c ∧ n ≤ maxLen ∧ c ≤ maxLen ∧ IntsAt w w.heap.size A n l := by
  rcases open_slice1 Tryd.underlying22 cellsInt1 h with ⟨e, _⟩ | ⟨a, len, cap, m, k, V, D, Pl, e, _, hl, hm, hmm, _, hx⟩
  · simp only [List.cons.injEq, and_true] at e
    exact ⟨none, 0, 0, [], e, Nat.le_refl _, Nat.zero_le _, Nat.zero_le _, Reads.none_⟩
  · simp only [List.cons.injEq, and_true] at e
    have hmc : m = cap := by simpa using hmm
    subst hmc
    have hn : ∀ i, i < m → ∃ z : Int, V i = .int .i64 z := fun i hi => by
      obtain ⟨z, f0, _, _⟩ := DataW.trod_int Tryd.underlying3 (hx i hi).2
      simp only [List.cons.injEq, and_true] at f0
      exact ⟨z, f0⟩
    obtain ⟨Z, hZ⟩ := choose_lt hn
    refine ⟨some a, len, m, (List.range len).map Z, e, hl, by omega, hm, by simp, fun h0 => ⟨a, rfl, ?_, fun j u hu => ?_⟩⟩
    · have := World.block_lt_of_cell? w _ (hx 0 (by omega)).1
      rwa [block_of_add] at this
    · simp only [List.getElem?_map, Option.map_map] at hu
      have hj : j < len := by
        rcases Nat.lt_or_ge j len with h' | h'
        · exact h'
        · rw [List.getElem?_eq_none (by simpa using h')] at hu; cases hu
      rw [List.getElem?_range hj] at hu
      simp only [Option.map_some, Option.some.injEq, Function.comp] at hu
      rw [(hx j (by omega)).1, hZ j (by omega), ← hu]

/-- A link's five cells. -/
theorem link_cells {fuel : Nat} {cs : List Value} {x : DataW H × List MemPlace} (h : DataW.trod enc Tryd.prog w 0 (fun _ => true) true fuel 45 cs = some x) (hl : cs.length = 5) : ∃ l : Link, cs = l.vals := by
  obtain ⟨f0, f1, f2, f3, f4, hu, hone, t0, t1, t2, t3, t4, z0, z1, z2, z3, z4⟩ := linkUnd
  obtain ⟨xs, n, _, _, _, hlen, hg⟩ := DataW.trod_struct hu h
  match cs, hl, xs, hlen with
  | [c0, c1, c2, c3, c4], _, [y0, y1, y2, y3, y4], _ =>
    have h0 : DataW.trod enc Tryd.prog w 0 (fun _ => true) true n 3 [c0] = some y0 := by simpa [t0, z0, cellsInt1] using hg 0 f0 rfl
    have h1 : DataW.trod enc Tryd.prog w 0 (fun _ => true) true n 3 [c1] = some y1 := by simpa [t1, z1, cellsInt1] using hg 1 f1 rfl
    have h2 : DataW.trod enc Tryd.prog w 0 (fun _ => true) true n 3 [c2] = some y2 := by simpa [t2, z2, cellsInt1] using hg 2 f2 rfl
    have h3 : DataW.trod enc Tryd.prog w 0 (fun _ => true) true n 3 [c3] = some y3 := by simpa [t3, z3, cellsInt1] using hg 3 f3 rfl
    have h4 : DataW.trod enc Tryd.prog w 0 (fun _ => true) true n 3 [c4] = some y4 := by simpa [t4, z4, cellsInt1] using hg 4 f4 rfl
    obtain ⟨n0, e0, _, _⟩ := DataW.trod_int Tryd.underlying3 h0
    obtain ⟨n1, e1, _, _⟩ := DataW.trod_int Tryd.underlying3 h1
    obtain ⟨n2, e2, _, _⟩ := DataW.trod_int Tryd.underlying3 h2
    obtain ⟨n3, e3, _, _⟩ := DataW.trod_int Tryd.underlying3 h3
    obtain ⟨n4, e4, _, _⟩ := DataW.trod_int Tryd.underlying3 h4
    simp only [List.cons.injEq, and_true] at e0 e1 e2 e3 e4
    subst e0 e1 e2 e3 e4
    exact ⟨⟨n0, n1, n2, n3, n4⟩, rfl⟩

/-- A list of links. -/
theorem links_open {v : Value} {fuel : Nat} {x : DataW H × List MemPlace} (h : DataW.trod enc Tryd.prog w 0 (fun _ => true) true fuel 23 [v] = some x) :
    ∃ A n c l, v = .slice A n c ∧ n ≤ c ∧ n ≤ maxLen ∧ c ≤ maxLen ∧ LinksAt w w.heap.size A n l := by
  rcases open_slice Tryd.underlying23 h with ⟨e, _⟩ | ⟨a, len, cap, m, k, D, Pl, e, _, hl, hm, hmm, _, hx⟩
  · simp only [List.cons.injEq, and_true] at e
    exact ⟨none, 0, 0, [], e, Nat.le_refl _, Nat.zero_le _, Nat.zero_le _, Reads.none_⟩
  · simp only [List.cons.injEq, and_true] at e
    have hmc : m = cap := by simpa using hmm
    subst hmc
    have hn : ∀ i, i < m → ∃ z : Link, ∀ j, j < 5 → w.cell? (a.add (i * 5 + j)) = z.vals[j]? := fun i hi => by
      obtain ⟨cs', h1, h2⟩ := hx i hi
      rw [cellsLink] at h1
      obtain ⟨_, hcl, hat⟩ := World.cells?_some h1
      obtain ⟨z, rfl⟩ := link_cells h2 hcl
      exact ⟨z, fun j hj => by rw [← Go.Deep.add_add, hat j hj]⟩
    letI : Inhabited Link := ⟨⟨0, 0, 0, 0, 0⟩⟩
    obtain ⟨Z, hZ⟩ := choose_lt hn
    refine ⟨some a, len, m, (List.range len).map Z, e, hl, by omega, hm, by rw [flat_len]; simp, fun h0 => ⟨a, rfl, ?_, fun j u hu => ?_⟩⟩
    · have := World.block_lt_of_cell? w _ (hZ 0 (by omega) 0 (by omega))
      rwa [block_of_add] at this
    · have hj : j < len * 5 := by
        rcases Nat.lt_or_ge j (len * 5) with h' | h'
        · exact h'
        · rw [List.getElem?_eq_none (by rw [flat_len]; simpa using h')] at hu; cases hu
      have hz := hZ (j / 5) (by omega) (j % 5) (by omega)
      have ha : ((List.range len).map Z)[j / 5]? = some (Z (j / 5)) := by rw [List.getElem?_map, List.getElem?_range (by omega)]; rfl
      have hf := flat_at ha (show j % 5 < 5 by omega)
      rw [show j / 5 * 5 + j % 5 = j by omega] at hf hz
      rw [hz, ← hf, hu]

/-- A link, by value. -/
theorem linkArg_open {r : Reach} {b0 : Nat} {v : Value} {d : DataW H} {p : List MemPlace} (hv : Value.okWide Tryd.prog w r b0 45 v) (h : DataW.Trod enc Tryd.prog w 0 (fun _ => true) true 45 v d p) :
    ∃ l : Link, v = .agg l.vals.toArray := by
  obtain ⟨f0, f1, f2, f3, f4, hu, hone, t0, t1, t2, t3, t4, z0, z1, z2, z3, z4⟩ := linkUnd
  obtain ⟨cs, rfl, hsz⟩ := okWide_struct hu hv
  obtain ⟨fuel, hf⟩ := h
  obtain ⟨l, e⟩ := link_cells (cs := cs.toList) hf (by simpa [cellsLink] using hsz)
  exact ⟨l, by rw [← e]⟩

/-- A town, by value. -/
theorem town_open {r : Reach} {b0 : Nat} {v : Value} {d : DataW H} {p : List MemPlace} (hv : Value.okWide Tryd.prog w r b0 25 v) (h : DataW.Trod enc Tryd.prog w 0 (fun _ => true) true 25 v d p) :
    ∃ A n c A' m d' t, v = .agg #[.slice A n c, .slice A' m d'] ∧ n ≤ maxLen ∧ m ≤ maxLen ∧ n ≤ c ∧ m ≤ d' ∧ TownAt w w.heap.size A n A' m t := by
  obtain ⟨v0, v1, y0, y1, k, rfl, _, _, h0, h1⟩ := open_agg2 Tryd.underlying25 (by kernel_rfl) cellsTown2 hv h
  obtain ⟨A, n, c, l, rfl, hn, hx, _, hr⟩ := ints_open h0
  obtain ⟨A', m, d', l', rfl, hm, hx', _, hr'⟩ := links_open h1
  exact ⟨A, n, c, A', m, d', ⟨l, l'⟩, rfl, hx, hx', hn, hm, ⟨hr, hr'⟩⟩
end

end Go.Proofs.YtahkjagjcogeiaaDoor
/- The laws' arguments, opened: skins and gaits. What every row's proof wants. -/
namespace Go.Proofs.YtahkjagjcogeiaaDoor
open Go.ChangeShapes Go.WideShapes Go.RowKit Go.Deep Go.Joins
set_option linter.unusedVariables false
set_option maxRecDepth 100000
theorem ownT' : ownKnob Tryd.prog.godebug = none := by kernel_rfl
theorem laidOutT' : laidOutB Tryd.prog = true := by kernel_rfl
section
variable {H : Type} {enc : TypeId × Value → H} {w : World}
theorem spanUnd : ∃ f0 f1, Tryd.prog.underlying 27 = some (.struct #[f0, f1]) ∧ f0.type = 3 ∧ f1.type = 3 ∧ f0.offset = 0 ∧ f1.offset = 1 := ⟨_, _, Tryd.underlying27, rfl, rfl, rfl, rfl⟩
theorem skinUnd : ∃ f0 f1 f2, Tryd.prog.underlying 29 = some (.struct #[f0, f1, f2]) ∧ f0.type = 3 ∧ f1.type = 27 ∧ f2.type = 27 ∧ f0.offset = 0 ∧ f1.offset = 1 ∧ f2.offset = 3 := ⟨_, _, _, Tryd.underlying29, rfl, rfl, rfl, rfl, rfl, rfl⟩
theorem gaitUnd : ∃ f0 f1, Tryd.prog.underlying 66 = some (.struct #[f0, f1]) ∧ f0.type = 27 ∧ f1.type = 27 ∧ f0.offset = 0 ∧ f1.offset = 2 := ⟨_, _, Tryd.underlying66, rfl, rfl, rfl, rfl⟩
theorem cellsSpan : Tryd.prog.cellsOf 27 = 2 := by kernel_rfl
theorem cellsSkin : Tryd.prog.cellsOf 29 = 5 := by kernel_rfl
theorem cellsGait : Tryd.prog.cellsOf 66 = 4 := by kernel_rfl
theorem span_cells {fuel : Nat} {cs : List Value} {x : DataW H × List MemPlace} (h : DataW.trod enc Tryd.prog w 0 (fun _ => true) true fuel 27 cs = some x) (hl : cs.length = 2) : ∃ s : Span, cs = s.vals := by
  obtain ⟨f0, f1, hu, t0, t1, z0, z1⟩ := spanUnd
  obtain ⟨xs, n, _, _, _, hlen, hg⟩ := DataW.trod_struct hu h
  match cs, hl, xs, hlen with
  | [c0, c1], _, [y0, y1], _ =>
    have h0 : DataW.trod enc Tryd.prog w 0 (fun _ => true) true n 3 [c0] = some y0 := by simpa [t0, z0, cellsInt1] using hg 0 f0 rfl
    have h1 : DataW.trod enc Tryd.prog w 0 (fun _ => true) true n 3 [c1] = some y1 := by simpa [t1, z1, cellsInt1] using hg 1 f1 rfl
    obtain ⟨n0, e0, _, _⟩ := DataW.trod_int Tryd.underlying3 h0
    obtain ⟨n1, e1, _, _⟩ := DataW.trod_int Tryd.underlying3 h1
    simp only [List.cons.injEq, and_true] at e0 e1
    subst e0 e1
    exact ⟨⟨n0, n1⟩, rfl⟩
theorem skinArg_open {r : Reach} {b0 : Nat} {v : Value} {d : DataW H} {p : List MemPlace} (hv : Value.okWide Tryd.prog w r b0 29 v) (h : DataW.Trod enc Tryd.prog w 0 (fun _ => true) true 29 v d p) :
    ∃ s : Skin, v = .agg #[.int .i64 s.drops, .int .i64 s.pace.lo, .int .i64 s.pace.hi, .int .i64 s.step.lo, .int .i64 s.step.hi] := by
  obtain ⟨f0, f1, f2, hu, t0, t1, t2, z0, z1, z2⟩ := skinUnd
  obtain ⟨cs, rfl, hsz⟩ := okWide_struct hu hv
  obtain ⟨fuel, hf⟩ := h
  obtain ⟨l⟩ := cs
  obtain ⟨xs, n, _, _, _, hlen, hg⟩ := DataW.trod_struct hu hf
  rw [cellsSkin] at hsz
  match l, hsz, xs, hlen with
  | [c0, c1, c2, c3, c4], _, [y0, y1, y2], _ =>
    have h0 : DataW.trod enc Tryd.prog w 0 (fun _ => true) true n 3 [c0] = some y0 := by simpa [t0, z0, cellsInt1, Value.cells] using hg 0 f0 rfl
    have h1 : DataW.trod enc Tryd.prog w 0 (fun _ => true) true n 27 [c1, c2] = some y1 := by simpa [t1, z1, cellsSpan, Value.cells] using hg 1 f1 rfl
    have h2 : DataW.trod enc Tryd.prog w 0 (fun _ => true) true n 27 [c3, c4] = some y2 := by simpa [t2, z2, cellsSpan, Value.cells] using hg 2 f2 rfl
    obtain ⟨n0, e0, _, _⟩ := DataW.trod_int Tryd.underlying3 h0
    obtain ⟨s1, e1⟩ := span_cells h1 rfl
    obtain ⟨s2, e2⟩ := span_cells h2 rfl
    simp only [Span.vals, List.cons.injEq, and_true] at e0 e1 e2
    obtain ⟨rfl, rfl⟩ := e1
    obtain ⟨rfl, rfl⟩ := e2
    subst e0
    exact ⟨⟨n0, s1, s2⟩, rfl⟩
theorem gaitArg_open {r : Reach} {b0 : Nat} {v : Value} {d : DataW H} {p : List MemPlace} (hv : Value.okWide Tryd.prog w r b0 66 v) (h : DataW.Trod enc Tryd.prog w 0 (fun _ => true) true 66 v d p) :
    ∃ s : Gait, v = .agg #[.int .i64 s.pace.lo, .int .i64 s.pace.hi, .int .i64 s.step.lo, .int .i64 s.step.hi] := by
  obtain ⟨f0, f1, hu, t0, t1, z0, z1⟩ := gaitUnd
  obtain ⟨cs, rfl, hsz⟩ := okWide_struct hu hv
  obtain ⟨fuel, hf⟩ := h
  obtain ⟨l⟩ := cs
  obtain ⟨xs, n, _, _, _, hlen, hg⟩ := DataW.trod_struct hu hf
  rw [cellsGait] at hsz
  match l, hsz, xs, hlen with
  | [c1, c2, c3, c4], _, [y1, y2], _ =>
    have h1 : DataW.trod enc Tryd.prog w 0 (fun _ => true) true n 27 [c1, c2] = some y1 := by simpa [t0, z0, cellsSpan, Value.cells] using hg 0 f0 rfl
    have h2 : DataW.trod enc Tryd.prog w 0 (fun _ => true) true n 27 [c3, c4] = some y2 := by simpa [t1, z1, cellsSpan, Value.cells] using hg 1 f1 rfl
    obtain ⟨s1, e1⟩ := span_cells h1 rfl
    obtain ⟨s2, e2⟩ := span_cells h2 rfl
    simp only [Span.vals, List.cons.injEq, and_true] at e1 e2
    obtain ⟨rfl, rfl⟩ := e1
    obtain ⟨rfl, rfl⟩ := e2
    exact ⟨⟨s1, s2⟩, rfl⟩
end
end Go.Proofs.YtahkjagjcogeiaaDoor
/- ClimbTimes: whatever the arguments, the law answers true. The row, and the card. -/
namespace Go.Proofs.YtahkjagjcogeiaaDoor
open Go.ChangeShapes Go.WideShapes Go.ChangeAt Go.RowKit Go.Joins
set_option linter.unusedVariables false

set_option maxRecDepth 100000 in
theorem times_lifted (os : Os) (started : os.Started) (H : Type) (enc : TypeId × Value → H) :
    ReturnsInHanded {} Tryd.checked os 6 .any (fun w args => (Rows.climbTimesSpec.pre enc Tryd.prog Tryd.f6 [] false w args ∧ laidMetH Tryd.prog laidL w) ∧ sizedMet enc Tryd.prog Tryd.f6 (OpenSpec.ofChange Rows.climbTimesSpec) false w args)
      (Rows.climbTimesSpec.post enc Tryd.prog Tryd.f6 false true false false) := by
  refine returnsInHanded_of_change_and (C := Tryd.checked) (X := fun w _ => laidMetH Tryd.prog laidL w) (fun _ _ _ hh h => h.of_heap hh) ownT' started (by kernel_rfl) Tryd.func6
    (ChangeSpec.witness_shaped (enc := enc) (C := Tryd.checked) (os := os) (X := fun w _ => laidMetH Tryd.prog laidL w) false (World.doorLaid Tryd.prog 800 os) #[.agg #[.slice none 0 0, .slice none 0 0], .agg #[.int .i64 0, .int .i64 0, .int .i64 0, .int .i64 0], .int .i64 0, .int .i64 0, .bool false, .slice none 0 0] 8 rfl (World.shaped_of_RefB (by kernel_rfl) (by kernel_rfl)) (by kernel_rfl) (by kernel_rfl) (by kernel_rfl) (door_met os _)) ?_
  intro W base args ds gs before hval0 hW _ _ hL _
  have hval : ∀ (j : Nat) t v, Tryd.f6.params[j]? = some t → args[j]? = some v → Value.okWide Tryd.prog W .any base t v := hval0
  have hW' := hW
  obtain ⟨p, q, hA0, hV, rfl, hfz, hnd⟩ := hW
  have hA : DataW.TrodAll enc Tryd.prog W 0 (fun _ => true) true Tryd.f6.params.toList args.toList ds p := hA0
  rw [Tryd.params6] at hA hval
  obtain ⟨v0, vs0, d0, ds0, p0, q0, hargs, rfl, rfl, h0, r0⟩ := trodAll_cons hA
  obtain ⟨v1, vs1, d1, ds1, p1, q1, rfl, rfl, rfl, h1, r1⟩ := trodAll_cons r0
  obtain ⟨v2, vs2, d2, ds2, p2, q2, rfl, rfl, rfl, h2, r2⟩ := trodAll_cons r1
  obtain ⟨v3, vs3, d3, ds3, p3, q3, rfl, rfl, rfl, h3, r3⟩ := trodAll_cons r2
  obtain ⟨v4, vs4, d4, ds4, p4, q4, rfl, rfl, rfl, h4, r4⟩ := trodAll_cons r3
  obtain ⟨v5, vs5, d5, ds5, p5, q5, rfl, rfl, rfl, h5, r5⟩ := trodAll_cons r4
  obtain ⟨rfl, rfl, rfl⟩ := trodAll_nil r5
  obtain rfl : args = #[v0, v1, v2, v3, v4, v5] := by cases args; simp_all
  obtain ⟨rfl, rfl⟩ := trodVars_none hV
  have lt0 : ∀ x ∈ p0, x.block < W.heap.size := by obtain ⟨m, hm⟩ := h0; exact DataW.trod_lt m _ _ _ hm
  have lt1 : ∀ x ∈ p1, x.block < W.heap.size := by obtain ⟨m, hm⟩ := h1; exact DataW.trod_lt m _ _ _ hm
  have lt2 : ∀ x ∈ p2, x.block < W.heap.size := by obtain ⟨m, hm⟩ := h2; exact DataW.trod_lt m _ _ _ hm
  have lt3 : ∀ x ∈ p3, x.block < W.heap.size := by obtain ⟨m, hm⟩ := h3; exact DataW.trod_lt m _ _ _ hm
  have lt4 : ∀ x ∈ p4, x.block < W.heap.size := by obtain ⟨m, hm⟩ := h4; exact DataW.trod_lt m _ _ _ hm
  have lt5 : ∀ x ∈ p5, x.block < W.heap.size := by obtain ⟨m, hm⟩ := h5; exact DataW.trod_lt m _ _ _ hm
  have hl := of_laid hL
  obtain ⟨A, n, c, A', m, d, t, e0, hn, hm, hnc, hmd, ht⟩ := town_open (hval 0 25 v0 rfl rfl) h0
  obtain ⟨s1, e1⟩ := gaitArg_open (hval 1 66 v1 rfl rfl) h1
  obtain ⟨s2, e2⟩ := okWide_int Tryd.underlying3 (hval 2 3 v2 rfl rfl)
  obtain ⟨s3, e3⟩ := okWide_int Tryd.underlying3 (hval 3 3 v3 rfl rfl)
  obtain ⟨s4, e4⟩ := okWide_bool Tryd.underlying4 (hval 4 4 v4 rfl rfl)
  obtain ⟨A2, k2, c2, e5⟩ := okWide_slice Tryd.underlying22 (hval 5 22 v5 rfl rfl)
  have hh5 := h5
  obtain ⟨fu, hf5⟩ := hh5
  rw [e5, show (Value.slice A2 k2 c2).cells = #[.slice A2 k2 c2] from rfl] at hf5
  obtain ⟨B2, j2, b2, l, e5', _, hk, _, hr⟩ := ints_open hf5
  rw [← e5] at e5'
  clear e5 hf5
  clear hA0 hval0 hval
  subst e0 e1 e2 e3 e4 e5'
  refine (times_walk A n c A' m d t s1 s2 s3 s4 B2 j2 b2 l W hn hm hk ht hr hl).mono fun e W' ⟨he, bel⟩ => ?_
  subst he
  exact ⟨_, rfl, _, _, _, [], _, [], hW', trodAll_mk1 (shut_bool Tryd.underlying4 _), (trodAll_cons_mk (Below.trod laidOutT' (by kernel_rfl) (of_decide_eq_true (by kernel_rfl)) h0 bel lt0) (trodAll_cons_mk (Below.trod laidOutT' (by kernel_rfl) (of_decide_eq_true (by kernel_rfl)) h1 bel lt1) (trodAll_cons_mk (Below.trod laidOutT' (by kernel_rfl) (of_decide_eq_true (by kernel_rfl)) h2 bel lt2) (trodAll_cons_mk (Below.trod laidOutT' (by kernel_rfl) (of_decide_eq_true (by kernel_rfl)) h3 bel lt3) (trodAll_cons_mk (Below.trod laidOutT' (by kernel_rfl) (of_decide_eq_true (by kernel_rfl)) h4 bel lt4) (trodAll_cons_mk (Below.trod laidOutT' (by kernel_rfl) (of_decide_eq_true (by kernel_rfl)) h5 bel lt5) trodAll_mk0)))))), rfl, bel.frame _, fun h => by cases h⟩

theorem times_holds : Rows.ClimbTimesSaid :=
  OpenClaim.holds_of_wide 6 Tryd.f6 rfl rfl rfl rfl rfl rfl rfl ⟨rfl, rfl, rfl, rfl, rfl⟩ rfl rfl rfl rfl rfl (by kernel_rfl) Tryd.func6 (by kernel_rfl)
    (of_decide_eq_true (by kernel_rfl)) (by unfold Func.isWrapper; first | (rw [if_pos (by decide +kernel)]; kernel_rfl) | (rw [if_neg (by decide +kernel)]; exact ⟨rfl, rfl⟩))
    (fun os started H enc _ => times_lifted os started H enc)

theorem times_card : Rows.ClimbTimesCardSaid :=
  Claim7.holds_tied_plain_at .later [] [.funcs] true (true, "35db601371cf4e3db72291b0fffac302dc4738302ccce79cad216ebd535e90b1") false
    times_holds (fun _ h => by cases h) (by kernel_rfl) (fun _ h => by cases h) climbTimes_row_tie rfl ⟨rfl, rfl⟩ (by kernel_rfl) rfl
    (fun f fn hf hfn => by
      obtain rfl : f = 6 := Option.some.inj ((show Tryd.prog.funcNamed "aguador/aguadorlaw03.ClimbTimes" = some 6 by kernel_rfl).symm.trans hf) |>.symm
      obtain rfl : fn = Tryd.f6 := (Option.some.inj (Tryd.func6.symm.trans hfn)).symm
      exact ⟨by kernel_rfl, fun j t ht => by
        rw [Tryd.params6] at ht
        have hm : t ∈ [25, 66, 3, 3, 4, 22] := by simpa using Array.mem_of_getElem? ht
        have hall : ([25, 66, 3, 3, 4, 22].all fun u => !Tryd.prog.wantsStandIn u) = true := by kernel_rfl
        exact (show Tryd.prog.wantsStandIn t = false by simpa using List.all_eq_true.1 hall t hm)⟩)
    (by kernel_rfl)
#print axioms times_card
end Go.Proofs.YtahkjagjcogeiaaDoor
