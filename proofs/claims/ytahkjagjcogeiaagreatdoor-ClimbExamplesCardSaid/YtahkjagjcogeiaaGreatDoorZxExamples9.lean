/- Part 9 of the texts of this claim, joined. -/
import Derived.Test.YtahkjagjcogeiaaGreatDoorZxExamples8
set_option linter.unusedVariables false
/- climb.Seconds: how long a walk takes. -/
namespace Go.Proofs.YtahkjagjcogeiaaGreatDoor
section
open Go.RowKit Go.Shelf
def secE (t : Town) (s : Gait) (place : Int) (l : List Int) : Int := if or2 (askE t [place]) (slowE s) = 0 then betE t place l else or2 (askE t [place]) (slowE s)
def secV (t : Town) (s : Gait) (place : Int) (l : List Int) : Span := if or2 (askE t [place]) (slowE s) = 0 then ⟨firstA t (timeP s.pace.lo s.step.lo) place l, firstA t (timeP s.pace.hi s.step.hi) place l⟩ else ⟨0, 0⟩
set_option maxRecDepth 100000 in
set_option maxHeartbeats 16000000 in
theorem seconds_in (A : Option Addr) (n c : Nat) (A' : Option Addr) (m d : Nat) (t : Town) (s : Gait) (place : Int) (A2 : Option Addr) (k2 c2 : Nat) (l : List Int) (w : World)
  (hn : n ≤ 1000) (hm : m ≤ 1000) (hk2 : k2 ≤ 1000) (ht : TownAt w w.heap.size A n A' m t) (hr : IntsAt w w.heap.size A2 k2 l) (hL : Laid w) :
  CallsIn Fence.wide 9 Tryz.prog 39 #[.agg #[.slice A n c, .slice A' m d], .agg #[.int .i64 s.pace.lo, .int .i64 s.pace.hi, .int .i64 s.step.lo, .int .i64 s.step.hi], .int .i64 place, .slice A2 k2 c2] w (EndOut w (secV t s place l) (secE t s place l)) := by
 have HT := lh ht
 have HL := lh hL
 have hl0 := hL.2.2.2
 clear ht hL
 have HR := lh hr
 clear hr
 refine callsIn_of_wp Tryz.func39 rfl trivial ?_ rfl
 simp only [Tryz.ntmps39, List.size_toArray, List.length_cons, List.length_nil, Nat.reduceAdd, Nat.reduceSub, Array.replicate_succ, Array.replicate_zero, List.push_toArray, List.append_toArray, List.nil_append, List.cons_append]
 gi_wp2
 have Ly := lh (Lay.three w 25 #[.slice A n c, .slice A' m d] 73 #[.int .i64 s.pace.lo, .int .i64 s.pace.hi, .int .i64 s.step.lo, .int .i64 s.step.hi] 63 #[.int .i64 0, .int .i64 0])
 generalize (((w.alloc (.cells #[.slice A n c, .slice A' m d] 25)).alloc (.cells #[.int .i64 s.pace.lo, .int .i64 s.pace.hi, .int .i64 s.step.lo, .int .i64 s.step.hi] 73)).alloc (.cells #[.int .i64 0, .int .i64 0] 63)) = w0 at *
 refine wpIn_flow_old [([true, true, false, false, true], 2), ([], 3), ([], 5), ([], 6), ([], 7)] [false, false, false, false, false, false, false, false, true] [] (by kernel_rfl) (by kernel_rfl) (by kernel_rfl) (below_drewN (Below.refl _ _) 1) ?_
 refine wpFlow_cons (A := ?AF1) rfl ?hq1 ?_
 case hq1 =>
  rintro σ hσ of hof hcl
  have HOF := lh hof
  have HCL := lh hcl
  clear hof hcl
  obtain ⟨c0_, c1_⟩ := lyz2 Ly HOF 0 rfl
  obtain ⟨c2_, c3_, c4_, c5_⟩ := lyz4 Ly HOF 1 rfl
  have hfw := hfT
  simp only [pickB]
  repeat (gi_big_quiet_step (fail))
  refine wpQuietIn_nil ?_
  exact rfl
 intro W1 hW
 replace Ly := lyb Ly hW
 clear hW
 gi_wp2
 refine ⟨trivial, (Below.refl _ _).alloc (Nat.le_refl _) _, ?_⟩
 have hb : Below W1.heap.size W1 (W1.alloc (.cells #[.int .i64 place] 3)) := (Below.refl _ _).alloc (Nat.le_refl _) _
 replace Ly := lyb Ly hb
 have HPl := lh (show IntsAt (W1.alloc (.cells #[.int .i64 place] 3)) (W1.alloc (.cells #[.int .i64 place] 3)).heap.size (some ⟨W1.heap.size, 0, none⟩) 1 [place] from IntsAt.new W1 3 [place] _ (by simp))
 obtain ⟨P3, hP⟩ : ∃ P, W1.heap.size = P := ⟨_, rfl⟩
 rw [hP] at HPl ⊢
 generalize (W1.alloc (.cells #[.int .i64 place] 3)) = V2 at *
 clear hb hP
 refine wpFlow_cons rfl Quietly.none ?_
 intro W4 hW
 replace Ly := lyb Ly hW
 replace HPl := iu HPl hW
 clear hW
 have hlw := (Ly.out.blk 1 rfl).lt
 gi_wp2
 refine ⟨trivial, (callsIn_wide.2 (asked_any A n c A' m d t (some ⟨P3, 0, none⟩) 1 1 [place] W4 (by unfold maxLen; omega) (by unfold maxLen; omega) (by decide) ((HT.out.below Ly.out.1).more Ly.out.1.size) HPl.out (HL.out.below Ly.out.1 hl0))).mono ?_⟩
 rintro e W5 ⟨rfl, hb⟩
 replace Ly := lyb Ly hb
 replace HPl := iu HPl hb
 gi_wp2
 refine ⟨trivial, hb, ?_⟩
 clear hb
 clear HPl
 refine wpFlow_cons rfl Quietly.none ?_
 intro W6 hW
 replace Ly := lyb Ly hW
 clear hW
 have hlw := (Ly.out.blk 1 rfl).lt
 gi_wp2
 refine ⟨trivial, (callsIn_wide.2 (slow_any s W6)).mono ?_⟩
 rintro e W7 ⟨rfl, hb⟩
 replace Ly := lyb Ly hb
 gi_wp2
 refine ⟨trivial, hb, ?_⟩
 clear hb
 refine wpFlow_cons rfl Quietly.none ?_
 intro W8 hW
 replace Ly := lyb Ly hW
 clear hW
 gi_wp2
 refine ⟨trivial, (Below.refl _ _).alloc (Nat.le_refl _) _, ?_⟩
 have hb : Below W8.heap.size W8 (W8.alloc (.cells #[.int .i64 (askE t [place]), .int .i64 (slowE s)] 30)) := (Below.refl _ _).alloc (Nat.le_refl _) _
 replace Ly := lyb Ly hb
 have HOr := lh (Blk.new W8 30 #[.int .i64 (askE t [place]), .int .i64 (slowE s)])
 obtain ⟨P10, hP⟩ : ∃ P, W8.heap.size = P := ⟨_, rfl⟩
 rw [hP] at HOr ⊢
 generalize (W8.alloc (.cells #[.int .i64 (askE t [place]), .int .i64 (slowE s)] 30)) = V9 at *
 clear hb hP
 refine wpFlow_cons rfl Quietly.none ?_
 intro W11 hW
 replace Ly := lyb Ly hW
 replace HOr := lh (HOr.out.below hW HOr.out.lt)
 clear hW
 gi_wp2
 refine ⟨trivial, (callsIn_wide.2 (or_any (askE t [place]) (slowE s) P10 W11 HOr.out)).mono ?_⟩
 rintro e W12 ⟨rfl, rfl⟩
 gi_wp2
 refine ⟨trivial, Below.refl _ _, ?_⟩
 clear HOr
 obtain ⟨ee, hee⟩ : ∃ ee, or2 (askE t [place]) (slowE s) = ee := ⟨_, rfl⟩
 rw [hee]
 have HEE := lh hee
 clear hee
 refine wpFlow_nil (A := ?AF2) ?hq2 ?_
 case hq2 =>
  rintro σ hσ of hof hcl
  have HOF := lh hof
  have HCL := lh hcl
  clear hof hcl
  obtain ⟨c0_, c1_⟩ := lyz2 Ly HOF 0 rfl
  obtain ⟨c2_, c3_, c4_, c5_⟩ := lyz4 Ly HOF 1 rfl
  have hfw := hfT
  simp only [pickB]
  repeat (gi_big_quiet_step (fail))
  refine wpQuietIn_nil ?_
  exact rfl
 intro W13 hW
 replace Ly := lyb Ly hW
 clear hW
 simp only [pickB]
 refine wpT_nil ?_
 have x2_0 := lyc Ly 2 rfl 0
 have z2_0 := lyf Ly 2 rfl 0
 have x2_1 := lyc Ly 2 rfl 1
 have z2_1 := lyf Ly 2 rfl 1
 have l2_ := Ly.out.lt 2 rfl
 by_cases h0 : ee = 0
 ·subst h0
  have HOK := lh (or2_zero HEE.out)
  obtain ⟨htb, hhas⟩ := askE_zero HOK.out.1
  have HG := lh (goodT htb)
  have HGS := lh (goodG (slowE_zero HOK.out.2))
  have hm20 : m ≤ 20 := by have := HG.out.links; have := HT.out.links.len; omega
  clear htb hhas
  gi_wp2
  clear x2_0 z2_0 x2_1 z2_1 l2_
  clear hlw
  refine wpIn_flow_old [([true, true, true, true, true, true, true, true, true, false, true, true, true, true, true, true], 9), ([], 16), ([], 17)] [false, false, false, false, false, false, false, false, false, false, false, false, false, false, false, false, false, false, true, true, false, true] [false, false, false, false, false, false, false, false, false, false, false, false, false, false, false, false, false, false, false, false, true] (by kernel_rfl) (by kernel_rfl) (by kernel_rfl) (below_drewN (Below.refl _ _) 1) ?_
  refine wpFlow_cons (A := ?AF3) rfl ?hq3 ?_
  case hq3 =>
   rintro σ hσ of hof hcl
   have HOF := lh hof
   have HCL := lh hcl
   clear hof hcl
   obtain ⟨c0_, c1_⟩ := lyz2 Ly HOF 0 rfl
   obtain ⟨c2_, c3_, c4_, c5_⟩ := lyz4 Ly HOF 1 rfl
   have hfw := hfT
   simp only [pickB]
   repeat (gi_big_quiet_step (fail))
   refine wpQuietIn_nil ?_
   exact rfl
  intro W14 hW
  replace Ly := lyb Ly hW
  clear hW
  gi_wp2
  refine ⟨trivial, (callsIn_wide.2 (takes_any s.pace.lo s.step.lo W14 (by have := HGS.out.pace; omega) (by have := HGS.out.step; omega))).mono ?_⟩
  rintro e W15 ⟨⟨b1, b2, rfl, hp1⟩, hb⟩
  replace Ly := lyb Ly hb
  have HP1 := lh hp1
  clear hp1
  gi_wp2
  refine ⟨trivial, hb, ?_⟩
  clear hb
  refine wpFlow_cons rfl Quietly.none ?_
  intro W16 hW
  replace Ly := lyb Ly hW
  replace HP1 := lh (HP1.out.below hW)
  clear hW
  gi_wp2
  refine ⟨trivial, (callsIn_wide.2 (takes_any s.pace.hi s.step.hi W16 (by have := HGS.out.pace; omega) (by have := HGS.out.step; omega))).mono ?_⟩
  rintro e W17 ⟨⟨b3, b4, rfl, hp2⟩, hb⟩
  replace Ly := lyb Ly hb
  replace HP1 := lh (HP1.out.below hb)
  have HP2 := lh hp2
  clear hp2
  gi_wp2
  refine ⟨trivial, hb, ?_⟩
  clear hb
  refine wpFlow_cons rfl Quietly.none ?_
  intro W18 hW
  replace Ly := lyb Ly hW
  replace HP1 := lh (HP1.out.below hW)
  replace HP2 := lh (HP2.out.below hW)
  clear hW
  gi_wp2
  refine ⟨trivial, (callsIn_wide.2 (between_any A n c A' m d _ _ _ _ (timeP s.pace.lo s.step.lo) (timeP s.pace.hi s.step.hi) t place A2 k2 c2 l W18 hm20 hk2 ((HT.out.links.below Ly.out.1).more Ly.out.1.size) HP1.out HP2.out HG.out.fine (timeP_fair (a := s.pace.lo) (b := s.step.lo) (by have := HGS.out.pace; omega) (by have := HGS.out.step; omega)) (timeP_fair (a := s.pace.hi) (b := s.step.hi) (by have := HGS.out.pace; omega) (by have := HGS.out.step; omega)) ((HR.out.below Ly.out.1).more Ly.out.1.size))).mono ?_⟩
  rintro e W19 ⟨rfl, hb⟩
  replace Ly := lyb Ly hb
  replace HP1 := lh (HP1.out.below hb)
  replace HP2 := lh (HP2.out.below hb)
  gi_wp2
  refine ⟨trivial, hb, ?_⟩
  clear hb
  clear HP1 HP2
  refine wpFlow_nil (A := ?AF4) ?hq4 ?_
  case hq4 =>
   rintro σ hσ of hof hcl
   have HOF := lh hof
   have HCL := lh hcl
   clear hof hcl
   obtain ⟨c0_, c1_⟩ := lyz2 Ly HOF 0 rfl
   obtain ⟨c2_, c3_, c4_, c5_⟩ := lyz4 Ly HOF 1 rfl
   have hfw := hfT
   simp only [pickB]
   repeat (gi_big_quiet_step (fail))
   refine wpQuietIn_nil ?_
   exact rfl
  intro W20 hW
  replace Ly := lyb Ly hW
  clear hW
  simp only [pickB]
  have x2_0 := lyc Ly 2 rfl 0
  have z2_0 := lyf Ly 2 rfl 0
  have x2_1 := lyc Ly 2 rfl 1
  have z2_1 := lyf Ly 2 rfl 1
  have l2_ := Ly.out.lt 2 rfl
  refine wpT_cons ?_
  gi_wp2
  refine wpT_nil ?_
  clear x2_0 z2_0 x2_1 z2_1 l2_
  have R1 := ret2 (Ly.out.blk 2 rfl) Ly.out.1 (by omega) (.int .i64 (firstA t (timeP s.pace.lo s.step.lo) place l)) (.int .i64 (firstA t (timeP s.pace.hi s.step.hi) place l))
  have y0 := R1.1.cell 0
  have y1 := R1.1.cell 1
  have he : secE t s place l = betE t place l := by unfold secE; rw [if_pos HEE.out]
  have hv : secV t s place l = ⟨firstA t (timeP s.pace.lo s.step.lo) place l, firstA t (timeP s.pace.hi s.step.hi) place l⟩ := by unfold secV; rw [if_pos HEE.out]
  gi_wp2
  exact bodyPost_ret (v := .tuple #[.agg #[.int .i64 (firstA t (timeP s.pace.lo s.step.lo) place l), .int .i64 (firstA t (timeP s.pace.hi s.step.hi) place l)], .int .i64 (betE t place l)]) (by simp [results, Tryz.results39, go_sem, y0, y1]) rfl ⟨by rw [he, hv], R1.2⟩
 ·have h1 : (ee != 0) = true := by simpa using h0
  have HE0 := lh h0
  clear h0
  gi_wp2
  have R1 := ret2 (Ly.out.blk 2 rfl) Ly.out.1 (by omega) (.int .i64 (0)) (.int .i64 (0))
  have y0 := R1.1.cell 0
  have y1 := R1.1.cell 1
  have he : secE t s place l = ee := by unfold secE; rw [HEE.out, if_neg HE0.out]
  have hv : secV t s place l = ⟨0, 0⟩ := by unfold secV; rw [HEE.out, if_neg HE0.out]
  exact bodyPost_ret (v := .tuple #[.agg #[.int .i64 (0), .int .i64 (0)], .int .i64 (ee)]) (by simp [results, Tryz.results39, go_sem, y0, y1]) rfl ⟨by rw [he, hv], R1.2⟩
theorem seconds_any (A : Option Addr) (n c : Nat) (A' : Option Addr) (m d : Nat) (t : Town) (s : Gait) (place : Int) (A2 : Option Addr) (k2 c2 : Nat) (l : List Int) (w : World)
  (hn : n ≤ 1000) (hm : m ≤ 1000) (hk2 : k2 ≤ 1000) (ht : TownAt w w.heap.size A n A' m t) (hr : IntsAt w w.heap.size A2 k2 l) (hL : Laid w) :
  Calls Tryz.prog 39 #[.agg #[.slice A n c, .slice A' m d], .agg #[.int .i64 s.pace.lo, .int .i64 s.pace.hi, .int .i64 s.step.lo, .int .i64 s.step.hi], .int .i64 place, .slice A2 k2 c2] w (EndOut w (secV t s place l) (secE t s place l)) :=
 callsIn_wide.1 (seconds_in A n c A' m d t s place A2 k2 c2 l w hn hm hk2 ht hr hL)
end
section
open Go.RowKit Go.Shelf
theorem askE_head {t : Town} {u v : Int} (h : askE t [u, v] = 0) : askE t [u] = 0 := by
 obtain ⟨h1, h2⟩ := askE_zero h
 have h3 := hasB_mem h2 u (by simp)
 unfold askE hasB
 rw [h1]
 simp [memI, h3]
theorem leads_free {dk : Bool} {p : Price} {x : Link} {u : Int} {q : Int × Cost} (h : leads dk p x u = some q) : leads false p x u = some q := by
 unfold leads at h ⊢
 rw [if_neg (by simp)]
 split at h
 ·cases h
 ·exact h
theorem walk_walkS {t : Town} {dk : Bool} {p : Price} {u v : Int} {c : Cost} {l : List Int} (hi : t.links.Pairwise fun x y => x.id < y.id) (h : Walk t dk p u v c l) : ∀ c0, walkS t p (u, c0) l = some (v, addC c0 c) := by
 induction h with
 | nil v => intro c0; simp [walkS, addC_zero]
 | cons hx hl hw ih =>
  intro c0
  unfold walkS
  rw [stepF_leads hi hx, leads_free hl]
  simp only
  rw [ih, addC_assoc]
theorem best_bet {t : Town} {dk : Bool} {p : Price} {u v : Int} {c : Cost} {l : List Int} (hf : Fine t) (hp : Fair p) (h : best t dk p u v = some (c, l)) : betE t u l = 0 := by
 have hl := best_len hf hp h
 have hF := best_first hf hp dk u v
 rw [h] at hF
 have hw := walk_walkS hf.ids hF.1 zeroC
 have h1 : (walkedF t p u l).isSome = true := by
  unfold walkedF
  rw [if_neg (by omega), hw]
  rfl
 unfold betE
 rw [walkedF_isSome t ⟨0, 0, 0⟩ p, h1]
 rfl
def minE (t : Town) (s : Gait) (u v : Int) (dk : Bool) : Int := if or2 (askE t [u, v]) (slowE s) = 0 then (match best t dk freeP u v with
 | none => 6
 | some _ => 0) else or2 (askE t [u, v]) (slowE s)
def minV (t : Town) (s : Gait) (u v : Int) (dk : Bool) : Span := if or2 (askE t [u, v]) (slowE s) = 0 then (match best t dk freeP u v with
 | none => ⟨0, 0⟩
 | some q => ⟨firstA t (timeP s.pace.lo s.step.lo) u q.2 / 60, (firstA t (timeP s.pace.hi s.step.hi) u q.2 + 59) / 60⟩) else ⟨0, 0⟩
set_option maxRecDepth 100000 in
set_option maxHeartbeats 16000000 in
theorem minutes_in (A : Option Addr) (n c : Nat) (A' : Option Addr) (m d : Nat) (t : Town) (s : Gait) (u v : Int) (dk : Bool) (w : World)
  (hn : n ≤ 1000) (hm : m ≤ 1000) (ht : TownAt w w.heap.size A n A' m t) (hL : Laid w) :
  CallsIn Fence.wide 9 Tryz.prog 41 #[.agg #[.slice A n c, .slice A' m d], .agg #[.int .i64 s.pace.lo, .int .i64 s.pace.hi, .int .i64 s.step.lo, .int .i64 s.step.hi], .int .i64 u, .int .i64 v, .bool dk] w (EndOut w (minV t s u v dk) (minE t s u v dk)) := by
 have HT := lh ht
 have HL := lh hL
 have hl0 := hL.2.2.2
 clear ht hL
 refine callsIn_of_wp Tryz.func41 rfl trivial ?_ rfl
 simp only [Tryz.ntmps41, List.size_toArray, List.length_cons, List.length_nil, Nat.reduceAdd, Nat.reduceSub, Array.replicate_succ, Array.replicate_zero, List.push_toArray, List.append_toArray, List.nil_append, List.cons_append]
 gi_wp2
 have Ly := lh (Lay.three w 25 #[.slice A n c, .slice A' m d] 73 #[.int .i64 s.pace.lo, .int .i64 s.pace.hi, .int .i64 s.step.lo, .int .i64 s.step.hi] 63 #[.int .i64 0, .int .i64 0])
 generalize (((w.alloc (.cells #[.slice A n c, .slice A' m d] 25)).alloc (.cells #[.int .i64 s.pace.lo, .int .i64 s.pace.hi, .int .i64 s.step.lo, .int .i64 s.step.hi] 73)).alloc (.cells #[.int .i64 0, .int .i64 0] 63)) = w0 at *
 refine wpIn_flow_old [([true, true, true, false, false, true], 3), ([], 4), ([], 6), ([], 7), ([], 8)] [false, false, false, false, false, false, false, false, false, true] [] (by kernel_rfl) (by kernel_rfl) (by kernel_rfl) (below_drewN (Below.refl _ _) 1) ?_
 refine wpFlow_cons (A := ?AF1) rfl ?hq1 ?_
 case hq1 =>
  rintro σ hσ of hof hcl
  have HOF := lh hof
  have HCL := lh hcl
  clear hof hcl
  obtain ⟨c0_, c1_⟩ := lyz2 Ly HOF 0 rfl
  obtain ⟨c2_, c3_, c4_, c5_⟩ := lyz4 Ly HOF 1 rfl
  have hfw := hfT
  simp only [pickB]
  repeat (gi_big_quiet_step (fail))
  refine wpQuietIn_nil ?_
  exact rfl
 intro W1 hW
 replace Ly := lyb Ly hW
 clear hW
 gi_wp2
 refine ⟨trivial, (Below.refl _ _).alloc (Nat.le_refl _) _, ?_⟩
 have hb : Below W1.heap.size W1 (W1.alloc (.cells #[.int .i64 u, .int .i64 v] 3)) := (Below.refl _ _).alloc (Nat.le_refl _) _
 replace Ly := lyb Ly hb
 have HPl := lh (show IntsAt (W1.alloc (.cells #[.int .i64 u, .int .i64 v] 3)) (W1.alloc (.cells #[.int .i64 u, .int .i64 v] 3)).heap.size (some ⟨W1.heap.size, 0, none⟩) 2 [u, v] from IntsAt.new W1 3 [u, v] _ (by simp))
 obtain ⟨P3, hP⟩ : ∃ P, W1.heap.size = P := ⟨_, rfl⟩
 rw [hP] at HPl ⊢
 generalize (W1.alloc (.cells #[.int .i64 u, .int .i64 v] 3)) = V2 at *
 clear hb hP
 refine wpFlow_cons rfl Quietly.none ?_
 intro W4 hW
 replace Ly := lyb Ly hW
 replace HPl := iu HPl hW
 clear hW
 have hlw := (Ly.out.blk 1 rfl).lt
 gi_wp2
 refine ⟨trivial, (callsIn_wide.2 (asked_any A n c A' m d t (some ⟨P3, 0, none⟩) 2 2 [u, v] W4 (by unfold maxLen; omega) (by unfold maxLen; omega) (by decide) ((HT.out.below Ly.out.1).more Ly.out.1.size) HPl.out (HL.out.below Ly.out.1 hl0))).mono ?_⟩
 rintro e W5 ⟨rfl, hb⟩
 replace Ly := lyb Ly hb
 replace HPl := iu HPl hb
 gi_wp2
 refine ⟨trivial, hb, ?_⟩
 clear hb
 clear HPl
 refine wpFlow_cons rfl Quietly.none ?_
 intro W6 hW
 replace Ly := lyb Ly hW
 clear hW
 have hlw := (Ly.out.blk 1 rfl).lt
 gi_wp2
 refine ⟨trivial, (callsIn_wide.2 (slow_any s W6)).mono ?_⟩
 rintro e W7 ⟨rfl, hb⟩
 replace Ly := lyb Ly hb
 gi_wp2
 refine ⟨trivial, hb, ?_⟩
 clear hb
 refine wpFlow_cons rfl Quietly.none ?_
 intro W8 hW
 replace Ly := lyb Ly hW
 clear hW
 gi_wp2
 refine ⟨trivial, (Below.refl _ _).alloc (Nat.le_refl _) _, ?_⟩
 have hb : Below W8.heap.size W8 (W8.alloc (.cells #[.int .i64 (askE t [u, v]), .int .i64 (slowE s)] 30)) := (Below.refl _ _).alloc (Nat.le_refl _) _
 replace Ly := lyb Ly hb
 have HOr := lh (Blk.new W8 30 #[.int .i64 (askE t [u, v]), .int .i64 (slowE s)])
 obtain ⟨P10, hP⟩ : ∃ P, W8.heap.size = P := ⟨_, rfl⟩
 rw [hP] at HOr ⊢
 generalize (W8.alloc (.cells #[.int .i64 (askE t [u, v]), .int .i64 (slowE s)] 30)) = V9 at *
 clear hb hP
 refine wpFlow_cons rfl Quietly.none ?_
 intro W11 hW
 replace Ly := lyb Ly hW
 replace HOr := lh (HOr.out.below hW HOr.out.lt)
 clear hW
 gi_wp2
 refine ⟨trivial, (callsIn_wide.2 (or_any (askE t [u, v]) (slowE s) P10 W11 HOr.out)).mono ?_⟩
 rintro e W12 ⟨rfl, rfl⟩
 gi_wp2
 refine ⟨trivial, Below.refl _ _, ?_⟩
 clear HOr
 obtain ⟨ee, hee⟩ : ∃ ee, or2 (askE t [u, v]) (slowE s) = ee := ⟨_, rfl⟩
 rw [hee]
 have HEE := lh hee
 clear hee
 refine wpFlow_nil (A := ?AF2) ?hq2 ?_
 case hq2 =>
  rintro σ hσ of hof hcl
  have HOF := lh hof
  have HCL := lh hcl
  clear hof hcl
  obtain ⟨c0_, c1_⟩ := lyz2 Ly HOF 0 rfl
  obtain ⟨c2_, c3_, c4_, c5_⟩ := lyz4 Ly HOF 1 rfl
  have hfw := hfT
  simp only [pickB]
  repeat (gi_big_quiet_step (fail))
  refine wpQuietIn_nil ?_
  exact rfl
 intro W13 hW
 replace Ly := lyb Ly hW
 clear hW
 simp only [pickB]
 refine wpT_nil ?_
 obtain ⟨x0_0, x0_1⟩ := lyc2 Ly 0 rfl
 have l0_ := Ly.out.lt 0 rfl
 obtain ⟨x1_0, x1_1, x1_2, x1_3⟩ := lyc4 Ly 1 rfl
 have l1_ := Ly.out.lt 1 rfl
 have x2_0 := lyc Ly 2 rfl 0
 have z2_0 := lyf Ly 2 rfl 0
 have x2_1 := lyc Ly 2 rfl 1
 have z2_1 := lyf Ly 2 rfl 1
 have l2_ := Ly.out.lt 2 rfl
 by_cases h0 : ee = 0
 ·subst h0
  have HOK := lh (or2_zero HEE.out)
  obtain ⟨htb, hhas⟩ := askE_zero HOK.out.1
  have HG := lh (goodT htb)
  have HGS := lh (goodG (slowE_zero HOK.out.2))
  have HUV := lh (hasB_mem hhas)
  have hm20 : m ≤ 20 := by have := HG.out.links; have := HT.out.links.len; omega
  clear htb hhas
  have HFP := lh freeP_fair
  gi_wp2
  refine ⟨trivial, (callsIn_wide.2 (way_any A n c A' m d t u v dk W13 hn hm ((HT.out.below Ly.out.1).more Ly.out.1.size) (HL.out.below Ly.out.1 hl0))).mono ?_⟩
  rintro e W14 ⟨to, co, AW, nW, cW, rfl, hno, hq, hty, hb⟩
  replace Ly := lyb Ly hb
  clear hb
  have HQ := lh hq
  have HNO := lh hno
  clear hty hno hq
  clear x0_0 x0_1 l0_ x1_0 x1_1 x1_2 x1_3 l1_ x2_0 z2_0 x2_1 z2_1 l2_
  clear hlw
  have hwr : wayR t u v dk = best t dk freeP u v := by unfold wayR; rw [if_pos HOK.out.1]
  have HWR := lh hwr
  clear hwr
  cases hbe : best t dk freeP u v with
  | none =>
   have HBE := lh hbe
   have hwe : wayE t u v dk = 6 := by unfold wayE; rw [if_pos HOK.out.1, hbe]; rfl
   clear hbe
   rw [hwe]
   clear hwe
   obtain ⟨x0_0, x0_1⟩ := lyc2 Ly 0 rfl
   have l0_ := Ly.out.lt 0 rfl
   obtain ⟨x1_0, x1_1, x1_2, x1_3⟩ := lyc4 Ly 1 rfl
   have l1_ := Ly.out.lt 1 rfl
   have x2_0 := lyc Ly 2 rfl 0
   have z2_0 := lyf Ly 2 rfl 0
   have x2_1 := lyc Ly 2 rfl 1
   have z2_1 := lyf Ly 2 rfl 1
   have l2_ := Ly.out.lt 2 rfl
   gi_wp2
   have R1 := ret2 ((Ly.out.blk 2 rfl)) Ly.out.1 (by omega) (.int .i64 0) (.int .i64 0)
   have R2 := R1.1.alloc (.cells #[.int .i64 to, .int .i64 co.a, .int .i64 co.b, .int .i64 co.c, .int .i64 co.d, .slice AW nW cW] 99)
   have y0 := R2.cell 0
   have y1 := R2.cell 1
   have he : minE t s u v dk = 6 := by unfold minE; rw [if_pos HEE.out, HBE.out]
   have hv : minV t s u v dk = ⟨0, 0⟩ := by unfold minV; rw [if_pos HEE.out, HBE.out]
   exact bodyPost_ret (v := .tuple #[.agg #[.int .i64 0, .int .i64 0], .int .i64 6]) (by simp [results, Tryz.results41, go_sem, y0, y1]) rfl ⟨by rw [he, hv], R1.2.alloc R1.2.size _⟩
  | some q0 =>
   have HBE := lh hbe
   have hwe : wayE t u v dk = 0 := by unfold wayE; rw [if_pos HOK.out.1, hbe]; rfl
   clear hbe
   rw [hwe]
   clear hwe
   obtain ⟨q1, l⟩ := q0
   obtain ⟨rfl, hil, hn9, rfl⟩ := HQ.out (q1, l) (HWR.out.trans HBE.out)
   simp only at hil
   have HWL := lh (show IntsAt W14 W14.heap.size AW nW l from hil)
   clear hil
   obtain ⟨x0_0, x0_1⟩ := lyc2 Ly 0 rfl
   have l0_ := Ly.out.lt 0 rfl
   obtain ⟨x1_0, x1_1, x1_2, x1_3⟩ := lyc4 Ly 1 rfl
   have l1_ := Ly.out.lt 1 rfl
   have x2_0 := lyc Ly 2 rfl 0
   have z2_0 := lyf Ly 2 rfl 0
   have x2_1 := lyc Ly 2 rfl 1
   have z2_1 := lyf Ly 2 rfl 1
   have l2_ := Ly.out.lt 2 rfl
   gi_wp2
   clear x0_0 x0_1 l0_ x1_0 x1_1 x1_2 x1_3 l1_ x2_0 z2_0 x2_1 z2_1 l2_
   have hb : Below W14.heap.size W14 (W14.alloc (.cells #[.int .i64 to, .int .i64 co.a, .int .i64 co.b, .int .i64 co.c, .int .i64 co.d, .slice AW nW cW] 99)) := (Below.refl _ _).alloc (Nat.le_refl _) _
   have hnew := Blk.new W14 99 #[.int .i64 to, .int .i64 co.a, .int .i64 co.b, .int .i64 co.c, .int .i64 co.d, .slice AW nW cW]
   have hge := Ly.out.bel.size
   replace Ly := lyb Ly hb
   replace HWL := iu HWL hb
   replace Ly := lh (Ly.out.add hge hnew)
   clear hnew hge hb
   obtain ⟨G36, hG⟩ : ∃ g, W14.heap.size = g := ⟨_, rfl⟩
   rw [hG] at Ly ⊢
   generalize (W14.alloc (.cells #[.int .i64 to, .int .i64 co.a, .int .i64 co.b, .int .i64 co.c, .int .i64 co.d, .slice AW nW cW] 99)) = V35 at *
   clear hG
   replace Ly := lh (show Lay w V35 [(w.heap.size, 25, #[.slice A n c, .slice A' m d]), (w.heap.size + 1, 73, #[.int .i64 s.pace.lo, .int .i64 s.pace.hi, .int .i64 s.step.lo, .int .i64 s.step.hi]), (w.heap.size + 1 + 1, 63, #[.int .i64 0, .int .i64 0]), (G36, 99, #[.int .i64 to, .int .i64 co.a, .int .i64 co.b, .int .i64 co.c, .int .i64 co.d, .slice AW nW cW])] from Ly.out)
   refine ⟨trivial, (callsIn_wide.2 (seconds_any A n c A' m d t s u AW nW cW l V35 hn hm (by omega) ((HT.out.below Ly.out.1).more Ly.out.1.size) HWL.out (HL.out.below Ly.out.1 hl0))).mono ?_⟩
   rintro e W37 ⟨rfl, hb⟩
   replace Ly := lyb Ly hb
   replace HWL := iu HWL hb
   clear hb
   have HO1 : or2 (askE t [u]) (slowE s) = 0 := by unfold or2; rw [askE_head HOK.out.1, HOK.out.2]; rfl
   have hse : secE t s u l = 0 := by unfold secE; rw [if_pos HO1]; exact best_bet HG.out.fine HFP.out HBE.out
   have hsv : secV t s u l = ⟨firstA t (timeP s.pace.lo s.step.lo) u l, firstA t (timeP s.pace.hi s.step.hi) u l⟩ := by unfold secV; rw [if_pos HO1]
   rw [hse, hsv]
   clear hse hsv HO1
   have hb1 := firstA_bound HG.out.fine (timeP_fair (a := s.pace.lo) (b := s.step.lo) (by have := HGS.out.pace; omega) (by have := HGS.out.step; omega)) u l
   have hb2 := firstA_bound HG.out.fine (timeP_fair (a := s.pace.hi) (b := s.step.hi) (by have := HGS.out.pace; omega) (by have := HGS.out.step; omega)) u l
   obtain ⟨fa, hfa⟩ : ∃ y, firstA t (timeP s.pace.lo s.step.lo) u l = y := ⟨_, rfl⟩
   obtain ⟨fb, hfb⟩ : ∃ y, firstA t (timeP s.pace.hi s.step.hi) u l = y := ⟨_, rfl⟩
   rw [hfa] at hb1 ⊢
   rw [hfb] at hb2 ⊢
   have HFA := lh hfa
   have HFB := lh hfb
   clear hfa hfb
   obtain ⟨a10, a11⟩ := hb1
   obtain ⟨a20, a21⟩ := hb2
   obtain ⟨x0_0, x0_1⟩ := lyc2 Ly 0 rfl
   have l0_ := Ly.out.lt 0 rfl
   obtain ⟨x1_0, x1_1, x1_2, x1_3⟩ := lyc4 Ly 1 rfl
   have l1_ := Ly.out.lt 1 rfl
   have x2_0 := lyc Ly 2 rfl 0
   have z2_0 := lyf Ly 2 rfl 0
   have x2_1 := lyc Ly 2 rfl 1
   have z2_1 := lyf Ly 2 rfl 1
   have l2_ := Ly.out.lt 2 rfl
   gi_wp2
   clear x0_0 x0_1 l0_ x1_0 x1_1 x1_2 x1_3 l1_ x2_0 z2_0 x2_1 z2_1 l2_
   have R1 := ret2 ((Ly.out.blk 2 rfl)) Ly.out.1 (by omega) (.int .i64 (fa / 60)) (.int .i64 ((fb + 60 - 1) / 60))
   have R2 := R1.1.alloc (.cells #[.int .i64 fa, .int .i64 fb] 63)
   have y0 := R2.cell 0
   have y1 := R2.cell 1
   have he : minE t s u to dk = 0 := by unfold minE; rw [if_pos HEE.out, HBE.out]
   have hv : minV t s u to dk = ⟨fa / 60, (fb + 60 - 1) / 60⟩ := by unfold minV; rw [if_pos HEE.out, HBE.out, ← HFA.out, ← HFB.out, show ∀ y : Int, y + 60 - 1 = y + 59 from fun y => by omega]
   exact bodyPost_ret (v := .tuple #[.agg #[.int .i64 (fa / 60), .int .i64 ((fb + 60 - 1) / 60)], .int .i64 0]) (by simp [results, Tryz.results41, go_sem, y0, y1]) rfl ⟨by rw [he, hv], R1.2.alloc R1.2.size _⟩
 ·have h1 : (ee != 0) = true := by simpa using h0
  have HE0 := lh h0
  clear h0
  gi_wp2
  have R1 := ret2 (Ly.out.blk 2 rfl) Ly.out.1 (by omega) (.int .i64 (0)) (.int .i64 (0))
  have y0 := R1.1.cell 0
  have y1 := R1.1.cell 1
  have he : minE t s u v dk = ee := by unfold minE; rw [HEE.out, if_neg HE0.out]
  have hv : minV t s u v dk = ⟨0, 0⟩ := by unfold minV; rw [HEE.out, if_neg HE0.out]
  exact bodyPost_ret (v := .tuple #[.agg #[.int .i64 (0), .int .i64 (0)], .int .i64 (ee)]) (by simp [results, Tryz.results41, go_sem, y0, y1]) rfl ⟨by rw [he, hv], R1.2⟩
theorem minutes_any (A : Option Addr) (n c : Nat) (A' : Option Addr) (m d : Nat) (t : Town) (s : Gait) (u v : Int) (dk : Bool) (w : World)
  (hn : n ≤ 1000) (hm : m ≤ 1000) (ht : TownAt w w.heap.size A n A' m t) (hL : Laid w) :
  Calls Tryz.prog 41 #[.agg #[.slice A n c, .slice A' m d], .agg #[.int .i64 s.pace.lo, .int .i64 s.pace.hi, .int .i64 s.step.lo, .int .i64 s.step.hi], .int .i64 u, .int .i64 v, .bool dk] w (EndOut w (minV t s u v dk) (minE t s u v dk)) :=
 callsIn_wide.1 (minutes_in A n c A' m d t s u v dk w hn hm ht hL)
end
section
open Go.RowKit Go.Shelf
def quickF (t : Town) (s : Gait) (u v : Int) (dk : Bool) : List Int × Span × Int := if or2 (askE t [u, v]) (slowE s) = 0 then (match best t dk (timeP s.pace.hi s.step.hi) u v with
 | none => ([], ⟨0, 0⟩, 6)
 | some q => (q.2, ⟨firstA t (timeP s.pace.lo s.step.lo) u q.2, firstA t (timeP s.pace.hi s.step.hi) u q.2⟩, 0)) else ([], ⟨0, 0⟩, or2 (askE t [u, v]) (slowE s))
def QuickOut (w : World) (r : List Int × Span × Int) (x : Ending) (w' : World) : Prop := ∃ (A : Option Addr) (n c : Nat), x = .returned (.tuple #[.slice A n c, .agg #[.int .i64 r.2.1.lo, .int .i64 r.2.1.hi], .int .i64 r.2.2]) ∧ IntsAt w' w'.heap.size A n r.1 ∧ Below w.heap.size w w'
set_option maxRecDepth 100000 in
set_option maxHeartbeats 16000000 in
theorem quick_in (A : Option Addr) (n c : Nat) (A' : Option Addr) (m d : Nat) (t : Town) (s : Gait) (u v : Int) (dk : Bool) (w : World)
  (hn : n ≤ 1000) (hm : m ≤ 1000) (ht : TownAt w w.heap.size A n A' m t) (hL : Laid w) :
  CallsIn Fence.wide 9 Tryz.prog 38 #[.agg #[.slice A n c, .slice A' m d], .agg #[.int .i64 s.pace.lo, .int .i64 s.pace.hi, .int .i64 s.step.lo, .int .i64 s.step.hi], .int .i64 u, .int .i64 v, .bool dk] w (QuickOut w (quickF t s u v dk)) := by
 have HT := lh ht
 have HL := lh hL
 have hl0 := hL.2.2.2
 clear ht hL
 refine callsIn_of_wp Tryz.func38 rfl trivial ?_ rfl
 simp only [Tryz.ntmps38, List.size_toArray, List.length_cons, List.length_nil, Nat.reduceAdd, Nat.reduceSub, Array.replicate_succ, Array.replicate_zero, List.push_toArray, List.append_toArray, List.nil_append, List.cons_append]
 gi_wp2
 have Ly := lh (Lay.three w 25 #[.slice A n c, .slice A' m d] 73 #[.int .i64 s.pace.lo, .int .i64 s.pace.hi, .int .i64 s.step.lo, .int .i64 s.step.hi] 63 #[.int .i64 0, .int .i64 0])
 generalize (((w.alloc (.cells #[.slice A n c, .slice A' m d] 25)).alloc (.cells #[.int .i64 s.pace.lo, .int .i64 s.pace.hi, .int .i64 s.step.lo, .int .i64 s.step.hi] 73)).alloc (.cells #[.int .i64 0, .int .i64 0] 63)) = w0 at *
 refine wpIn_flow_old [([true, true, true, false, false, true], 3), ([], 4), ([], 6), ([], 7), ([], 8)] [false, false, false, false, false, false, false, false, false, true] [] (by kernel_rfl) (by kernel_rfl) (by kernel_rfl) (below_drewN (Below.refl _ _) 1) ?_
 refine wpFlow_cons (A := ?AF1) rfl ?hq1 ?_
 case hq1 =>
  rintro σ hσ of hof hcl
  have HOF := lh hof
  have HCL := lh hcl
  clear hof hcl
  obtain ⟨c0_, c1_⟩ := lyz2 Ly HOF 0 rfl
  obtain ⟨c2_, c3_, c4_, c5_⟩ := lyz4 Ly HOF 1 rfl
  have hfw := hfT
  simp only [pickB]
  repeat (gi_big_quiet_step (fail))
  refine wpQuietIn_nil ?_
  exact rfl
 intro W1 hW
 replace Ly := lyb Ly hW
 clear hW
 gi_wp2
 refine ⟨trivial, (Below.refl _ _).alloc (Nat.le_refl _) _, ?_⟩
 have hb : Below W1.heap.size W1 (W1.alloc (.cells #[.int .i64 u, .int .i64 v] 3)) := (Below.refl _ _).alloc (Nat.le_refl _) _
 replace Ly := lyb Ly hb
 have HPl := lh (show IntsAt (W1.alloc (.cells #[.int .i64 u, .int .i64 v] 3)) (W1.alloc (.cells #[.int .i64 u, .int .i64 v] 3)).heap.size (some ⟨W1.heap.size, 0, none⟩) 2 [u, v] from IntsAt.new W1 3 [u, v] _ (by simp))
 obtain ⟨P3, hP⟩ : ∃ P, W1.heap.size = P := ⟨_, rfl⟩
 rw [hP] at HPl ⊢
 generalize (W1.alloc (.cells #[.int .i64 u, .int .i64 v] 3)) = V2 at *
 clear hb hP
 refine wpFlow_cons rfl Quietly.none ?_
 intro W4 hW
 replace Ly := lyb Ly hW
 replace HPl := iu HPl hW
 clear hW
 have hlw := (Ly.out.blk 1 rfl).lt
 gi_wp2
 refine ⟨trivial, (callsIn_wide.2 (asked_any A n c A' m d t (some ⟨P3, 0, none⟩) 2 2 [u, v] W4 (by unfold maxLen; omega) (by unfold maxLen; omega) (by decide) ((HT.out.below Ly.out.1).more Ly.out.1.size) HPl.out (HL.out.below Ly.out.1 hl0))).mono ?_⟩
 rintro e W5 ⟨rfl, hb⟩
 replace Ly := lyb Ly hb
 replace HPl := iu HPl hb
 gi_wp2
 refine ⟨trivial, hb, ?_⟩
 clear hb
 clear HPl
 refine wpFlow_cons rfl Quietly.none ?_
 intro W6 hW
 replace Ly := lyb Ly hW
 clear hW
 have hlw := (Ly.out.blk 1 rfl).lt
 gi_wp2
 refine ⟨trivial, (callsIn_wide.2 (slow_any s W6)).mono ?_⟩
 rintro e W7 ⟨rfl, hb⟩
 replace Ly := lyb Ly hb
 gi_wp2
 refine ⟨trivial, hb, ?_⟩
 clear hb
 refine wpFlow_cons rfl Quietly.none ?_
 intro W8 hW
 replace Ly := lyb Ly hW
 clear hW
 gi_wp2
 refine ⟨trivial, (Below.refl _ _).alloc (Nat.le_refl _) _, ?_⟩
 have hb : Below W8.heap.size W8 (W8.alloc (.cells #[.int .i64 (askE t [u, v]), .int .i64 (slowE s)] 30)) := (Below.refl _ _).alloc (Nat.le_refl _) _
 replace Ly := lyb Ly hb
 have HOr := lh (Blk.new W8 30 #[.int .i64 (askE t [u, v]), .int .i64 (slowE s)])
 obtain ⟨P10, hP⟩ : ∃ P, W8.heap.size = P := ⟨_, rfl⟩
 rw [hP] at HOr ⊢
 generalize (W8.alloc (.cells #[.int .i64 (askE t [u, v]), .int .i64 (slowE s)] 30)) = V9 at *
 clear hb hP
 refine wpFlow_cons rfl Quietly.none ?_
 intro W11 hW
 replace Ly := lyb Ly hW
 replace HOr := lh (HOr.out.below hW HOr.out.lt)
 clear hW
 gi_wp2
 refine ⟨trivial, (callsIn_wide.2 (or_any (askE t [u, v]) (slowE s) P10 W11 HOr.out)).mono ?_⟩
 rintro e W12 ⟨rfl, rfl⟩
 gi_wp2
 refine ⟨trivial, Below.refl _ _, ?_⟩
 clear HOr
 obtain ⟨ee, hee⟩ : ∃ ee, or2 (askE t [u, v]) (slowE s) = ee := ⟨_, rfl⟩
 rw [hee]
 have HEE := lh hee
 clear hee
 refine wpFlow_nil (A := ?AF2) ?hq2 ?_
 case hq2 =>
  rintro σ hσ of hof hcl
  have HOF := lh hof
  have HCL := lh hcl
  clear hof hcl
  obtain ⟨c0_, c1_⟩ := lyz2 Ly HOF 0 rfl
  obtain ⟨c2_, c3_, c4_, c5_⟩ := lyz4 Ly HOF 1 rfl
  have hfw := hfT
  simp only [pickB]
  repeat (gi_big_quiet_step (fail))
  refine wpQuietIn_nil ?_
  exact rfl
 intro W13 hW
 replace Ly := lyb Ly hW
 clear hW
 simp only [pickB]
 refine wpT_nil ?_
 obtain ⟨x0_0, x0_1⟩ := lyc2 Ly 0 rfl
 have l0_ := Ly.out.lt 0 rfl
 obtain ⟨x1_0, x1_1, x1_2, x1_3⟩ := lyc4 Ly 1 rfl
 have l1_ := Ly.out.lt 1 rfl
 have x2_0 := lyc Ly 2 rfl 0
 have z2_0 := lyf Ly 2 rfl 0
 have x2_1 := lyc Ly 2 rfl 1
 have z2_1 := lyf Ly 2 rfl 1
 have l2_ := Ly.out.lt 2 rfl
 by_cases h0 : ee = 0
 ·subst h0
  have HOK := lh (or2_zero HEE.out)
  obtain ⟨htb, hhas⟩ := askE_zero HOK.out.1
  have HG := lh (goodT htb)
  have HGS := lh (goodG (slowE_zero HOK.out.2))
  have HUV := lh (hasB_mem hhas)
  have hm20 : m ≤ 20 := by have := HG.out.links; have := HT.out.links.len; omega
  clear htb hhas
  have HFP := lh (timeP_fair (a := s.pace.hi) (b := s.step.hi) (by have := HGS.out.pace; omega) (by have := HGS.out.step; omega))
  gi_wp2
  clear x0_0 x0_1 l0_ x1_0 x1_1 x1_2 x1_3 l1_ x2_0 z2_0 x2_1 z2_1 l2_
  clear hlw
  refine wpIn_flow_old [([true, true, true, true, true, true, true, true], 8)] [false, false, false, false, false, false, false, false, false, true, true, true] [] (by kernel_rfl) (by kernel_rfl) (by kernel_rfl) (below_drewN (Below.refl _ _) 1) ?_
  refine wpFlow_cons (A := ?AF3) rfl ?hq3 ?_
  case hq3 =>
   rintro σ hσ of hof hcl
   have HOF := lh hof
   have HCL := lh hcl
   clear hof hcl
   obtain ⟨c0_, c1_⟩ := lyz2 Ly HOF 0 rfl
   obtain ⟨c2_, c3_, c4_, c5_⟩ := lyz4 Ly HOF 1 rfl
   have hfw := hfT
   simp only [pickB]
   repeat (gi_big_quiet_step (fail))
   refine wpQuietIn_nil ?_
   exact rfl
  intro W14 hW
  replace Ly := lyb Ly hW
  clear hW
  gi_wp2
  refine ⟨trivial, (callsIn_wide.2 (takes_any s.pace.hi s.step.hi W14 (by have := HGS.out.pace; omega) (by have := HGS.out.step; omega))).mono ?_⟩
  rintro e W15 ⟨⟨b1, b2, rfl, hp1⟩, hb⟩
  replace Ly := lyb Ly hb
  have HP1 := lh hp1
  clear hp1
  gi_wp2
  refine ⟨trivial, hb, ?_⟩
  clear hb
  refine wpFlow_nil (A := ?AF4) ?hq4 ?_
  case hq4 =>
   rintro σ hσ of hof hcl
   have HOF := lh hof
   have HCL := lh hcl
   clear hof hcl
   obtain ⟨c0_, c1_⟩ := lyz2 Ly HOF 0 rfl
   obtain ⟨c2_, c3_, c4_, c5_⟩ := lyz4 Ly HOF 1 rfl
   have hfw := hfT
   simp only [pickB]
   repeat (gi_big_quiet_step (fail))
   refine wpQuietIn_nil ?_
   exact rfl
  intro W16 hW
  replace Ly := lyb Ly hW
  replace HP1 := lh (HP1.out.below hW)
  clear hW
  simp only [pickB]
  refine wpT_nil ?_
  obtain ⟨x0_0, x0_1⟩ := lyc2 Ly 0 rfl
  have l0_ := Ly.out.lt 0 rfl
  obtain ⟨x1_0, x1_1, x1_2, x1_3⟩ := lyc4 Ly 1 rfl
  have l1_ := Ly.out.lt 1 rfl
  have x2_0 := lyc Ly 2 rfl 0
  have z2_0 := lyf Ly 2 rfl 0
  have x2_1 := lyc Ly 2 rfl 1
  have z2_1 := lyf Ly 2 rfl 1
  have l2_ := Ly.out.lt 2 rfl
  gi_wp2
  clear x0_0 x0_1 l0_ x1_0 x1_1 x1_2 x1_3 l1_ x2_0 z2_0 x2_1 z2_1 l2_
  refine ⟨trivial, (callsIn_wide.2 (callsIn_wide.1 (all_in A n c A' m d dk _ _ (timeP s.pace.hi s.step.hi) t u W16 hm20 ((HT.out.links.below Ly.out.1).more Ly.out.1.size) HP1.out HG.out.fine HFP.out (HUV.out u (by simp)) HG.out.ids))).mono ?_⟩
  rintro e W17 ⟨r, ms, rfl, hms, hrr, hoks, hfn, hb⟩
  replace Ly := lyb Ly hb
  replace HP1 := lh (HP1.out.below hb)
  clear hb
  have HMS := lh hms
  have HOKS := lh hoks
  have HFN := lh hfn
  clear hms hrr hoks hfn
  clear HP1
  have HOV := lh (show okI v from okI_of (by have := HG.out.ids v (HUV.out v (by simp)); omega) (by have := HG.out.ids v (HUV.out v (by simp)); omega))
  have hlook := HMS.out.lookup wkTy HOV.out true
  cases hlk : look ms v with
  | none =>
   rw [hlk] at hlook
   simp only [if_true] at hlook
   have HLK := lh hlk
   clear hlk
   have HBE : Hid (best t dk (timeP s.pace.hi s.step.hi) u v = none) := lh (by rw [← HFN.out v]; unfold fnOf; rw [HLK.out]; rfl)
   obtain ⟨x0_0, x0_1⟩ := lyc2 Ly 0 rfl
   have l0_ := Ly.out.lt 0 rfl
   obtain ⟨x1_0, x1_1, x1_2, x1_3⟩ := lyc4 Ly 1 rfl
   have l1_ := Ly.out.lt 1 rfl
   have x2_0 := lyc Ly 2 rfl 0
   have z2_0 := lyf Ly 2 rfl 0
   have x2_1 := lyc Ly 2 rfl 1
   have z2_1 := lyf Ly 2 rfl 1
   have l2_ := Ly.out.lt 2 rfl
   gi_wp2
   have R1 := ret2 ((Ly.out.blk 2 rfl)) Ly.out.1 (by omega) (.int .i64 0) (.int .i64 0)
   have R2 := R1.1.alloc (.cells #[.int .i64 0, .int .i64 0, .int .i64 0, .int .i64 0, .int .i64 0, .slice none 0 0] 99)
   have y0 := R2.cell 0
   have y1 := R2.cell 1
   have hF : quickF t s u v dk = ([], ⟨0, 0⟩, 6) := by unfold quickF; rw [if_pos HEE.out, HBE.out]
   refine bodyPost_ret (v := .tuple #[.slice none 0 0, .agg #[.int .i64 0, .int .i64 0], .int .i64 6]) (by simp [results, Tryz.results38, go_sem, y0, y1]) rfl ?_
   rw [hF]
   exact ⟨none, 0, 0, rfl, Reads.none_, R1.2.alloc R1.2.size _⟩
  | some x =>
   rw [hlk] at hlook
   simp only [if_true] at hlook
   have HLK := lh hlk
   clear hlk
   have HBE : Hid (best t dk (timeP s.pace.hi s.step.hi) u v = some (x.cost, x.links)) := lh (by rw [← HFN.out v]; unfold fnOf; rw [HLK.out]; rfl)
   have HXO := lh (HOKS.out _ (look_mem HLK.out))
   have hx9 : x.n ≤ 9 := HXO.out.short
   have HWL := lh (show IntsAt W17 W17.heap.size x.A x.n x.links from HXO.out.at_)
   obtain ⟨l, hl⟩ : ∃ l, x.links = l := ⟨_, rfl⟩
   rw [hl] at HBE HWL
   have HLL := lh hl
   clear hl
   obtain ⟨x0_0, x0_1⟩ := lyc2 Ly 0 rfl
   have l0_ := Ly.out.lt 0 rfl
   obtain ⟨x1_0, x1_1, x1_2, x1_3⟩ := lyc4 Ly 1 rfl
   have l1_ := Ly.out.lt 1 rfl
   have x2_0 := lyc Ly 2 rfl 0
   have z2_0 := lyf Ly 2 rfl 0
   have x2_1 := lyc Ly 2 rfl 1
   have z2_1 := lyf Ly 2 rfl 1
   have l2_ := Ly.out.lt 2 rfl
   gi_wp2
   clear x0_0 x0_1 l0_ x1_0 x1_1 x1_2 x1_3 l1_ x2_0 z2_0 x2_1 z2_1 l2_
   clear hlook
   have hb : Below W17.heap.size W17 (W17.alloc (.cells #[.int .i64 x.to, .int .i64 x.cost.a, .int .i64 x.cost.b, .int .i64 x.cost.c, .int .i64 x.cost.d, .slice x.A x.n x.cap] 99)) := (Below.refl _ _).alloc (Nat.le_refl _) _
   have hnew := Blk.new W17 99 #[.int .i64 x.to, .int .i64 x.cost.a, .int .i64 x.cost.b, .int .i64 x.cost.c, .int .i64 x.cost.d, .slice x.A x.n x.cap]
   have hge := Ly.out.bel.size
   replace Ly := lyb Ly hb
   replace HWL := iu HWL hb
   replace HXO := lh (HXO.out.below hb)
   replace Ly := lh (Ly.out.add hge hnew)
   clear hnew hge hb
   obtain ⟨G39, hG⟩ : ∃ g, W17.heap.size = g := ⟨_, rfl⟩
   rw [hG] at Ly ⊢
   generalize (W17.alloc (.cells #[.int .i64 x.to, .int .i64 x.cost.a, .int .i64 x.cost.b, .int .i64 x.cost.c, .int .i64 x.cost.d, .slice x.A x.n x.cap] 99)) = V38 at *
   clear hG
   replace Ly := lh (show Lay w V38 [(w.heap.size, 25, #[.slice A n c, .slice A' m d]), (w.heap.size + 1, 73, #[.int .i64 s.pace.lo, .int .i64 s.pace.hi, .int .i64 s.step.lo, .int .i64 s.step.hi]), (w.heap.size + 1 + 1, 63, #[.int .i64 0, .int .i64 0]), (G39, 99, #[.int .i64 x.to, .int .i64 x.cost.a, .int .i64 x.cost.b, .int .i64 x.cost.c, .int .i64 x.cost.d, .slice x.A x.n x.cap])] from Ly.out)
   refine ⟨trivial, (callsIn_wide.2 (seconds_any A n c A' m d t s u x.A x.n x.cap l V38 hn hm (by omega) ((HT.out.below Ly.out.1).more Ly.out.1.size) HWL.out (HL.out.below Ly.out.1 hl0))).mono ?_⟩
   rintro e W40 ⟨rfl, hb⟩
   replace Ly := lyb Ly hb
   replace HWL := iu HWL hb
   replace HXO := lh (HXO.out.below hb)
   clear hb
   have HO1 : or2 (askE t [u]) (slowE s) = 0 := by unfold or2; rw [askE_head HOK.out.1, HOK.out.2]; rfl
   have hse : secE t s u l = 0 := by unfold secE; rw [if_pos HO1]; exact best_bet HG.out.fine HFP.out HBE.out
   have hsv : secV t s u l = ⟨firstA t (timeP s.pace.lo s.step.lo) u l, firstA t (timeP s.pace.hi s.step.hi) u l⟩ := by unfold secV; rw [if_pos HO1]
   rw [hse, hsv]
   clear hse hsv HO1
   obtain ⟨fa, hfa⟩ : ∃ y, firstA t (timeP s.pace.lo s.step.lo) u l = y := ⟨_, rfl⟩
   obtain ⟨fb, hfb⟩ : ∃ y, firstA t (timeP s.pace.hi s.step.hi) u l = y := ⟨_, rfl⟩
   rw [hfa, hfb]
   have HFA := lh hfa
   have HFB := lh hfb
   clear hfa hfb
   obtain ⟨x0_0, x0_1⟩ := lyc2 Ly 0 rfl
   have l0_ := Ly.out.lt 0 rfl
   obtain ⟨x1_0, x1_1, x1_2, x1_3⟩ := lyc4 Ly 1 rfl
   have l1_ := Ly.out.lt 1 rfl
   have x2_0 := lyc Ly 2 rfl 0
   have z2_0 := lyf Ly 2 rfl 0
   have x2_1 := lyc Ly 2 rfl 1
   have z2_1 := lyf Ly 2 rfl 1
   have l2_ := Ly.out.lt 2 rfl
   obtain ⟨x3_0, x3_1, x3_2, x3_3, x3_4, x3_5⟩ := lyc6 Ly 3 rfl
   have l3_ := Ly.out.lt 3 rfl
   gi_wp2
   clear x0_0 x0_1 l0_ x1_0 x1_1 x1_2 x1_3 l1_ x2_0 z2_0 x2_1 z2_1 l2_ x3_0 x3_1 x3_2 x3_3 x3_4 x3_5 l3_
   have hb : Below W40.heap.size W40 (W40.alloc (.cells #[.int .i64 fa, .int .i64 fb] 63)) := (Below.refl _ _).alloc (Nat.le_refl _) _
   have hnew := Blk.new W40 63 #[.int .i64 fa, .int .i64 fb]
   have hge := Ly.out.bel.size
   replace Ly := lyb Ly hb
   replace HWL := iu HWL hb
   replace HXO := lh (HXO.out.below hb)
   replace Ly := lh (Ly.out.add hge hnew)
   clear hnew hge hb
   obtain ⟨G42, hG⟩ : ∃ g, W40.heap.size = g := ⟨_, rfl⟩
   rw [hG] at Ly ⊢
   generalize (W40.alloc (.cells #[.int .i64 fa, .int .i64 fb] 63)) = V41 at *
   clear hG
   replace Ly := lh (show Lay w V41 [(w.heap.size, 25, #[.slice A n c, .slice A' m d]), (w.heap.size + 1, 73, #[.int .i64 s.pace.lo, .int .i64 s.pace.hi, .int .i64 s.step.lo, .int .i64 s.step.hi]), (w.heap.size + 1 + 1, 63, #[.int .i64 0, .int .i64 0]), (G39, 99, #[.int .i64 x.to, .int .i64 x.cost.a, .int .i64 x.cost.b, .int .i64 x.cost.c, .int .i64 x.cost.d, .slice x.A x.n x.cap]), (G42, 63, #[.int .i64 fa, .int .i64 fb])] from Ly.out)
   refine wpIn_flow_old [] [true, true, true, true, true, false, true] [false, false, false, false, false, true] (by kernel_rfl) (by kernel_rfl) (by kernel_rfl) (below_drewN (Below.refl _ _) 1) ?_
   refine wpFlow_nil (A := ?AF5) ?hq5 ?_
   case hq5 =>
    rintro σ hσ of hof hcl
    have HOF := lh hof
    have HCL := lh hcl
    clear hof hcl
    have c0_ : ∀ z, (of z).cell? ⟨G39, 5, none⟩ = some (.slice x.A x.n x.cap) := lyz Ly HOF 3 rfl 5
    obtain ⟨c1_, c2_⟩ := lyz2 Ly HOF 4 rfl
    have hfw := hfT
    simp only [pickB]
    repeat (gi_big_quiet_step (fail))
    refine wpQuietIn_nil ?_
    exact rfl
   intro W43 hW
   replace Ly := lyb Ly hW
   replace HWL := iu HWL hW
   replace HXO := lh (HXO.out.below hW)
   clear hW
   simp only [pickB]
   have x2_0 := lyc Ly 2 rfl 0
   have z2_0 := lyf Ly 2 rfl 0
   have x2_1 := lyc Ly 2 rfl 1
   have z2_1 := lyf Ly 2 rfl 1
   have l2_ := Ly.out.lt 2 rfl
   refine wpT_cons ?_
   gi_wp2
   refine wpT_nil ?_
   clear x2_0 z2_0 x2_1 z2_1 l2_
   have R1 := ret2' (Ly.out.blk 2 rfl) Ly.out.1 (by omega) (.int .i64 fa) (.int .i64 fb)
   have y0 := R1.1.cell 0
   have y1 := R1.1.cell 1
   have hF : quickF t s u v dk = (l, ⟨fa, fb⟩, 0) := by unfold quickF; rw [if_pos HEE.out, HBE.out]; simp only; rw [HFA.out, HFB.out]
   gi_wp2
   refine bodyPost_ret (v := .tuple #[.slice x.A x.n x.cap, .agg #[.int .i64 fa, .int .i64 fb], .int .i64 0]) (by simp [results, Tryz.results38, go_sem, y0, y1]) rfl ?_
   rw [hF]
   exact ⟨x.A, x.n, x.cap, rfl, ints_off HWL.out (fun a ha => by obtain ⟨cs, hc⟩ := HXO.out.typ a ha; exact blk_ne hc (Ly.out.blk 2 rfl) (by decide)) R1.2.2, R1.2.1⟩
 ·have h1 : (ee != 0) = true := by simpa using h0
  have HE0 := lh h0
  clear h0
  gi_wp2
  have R1 := ret2 (Ly.out.blk 2 rfl) Ly.out.1 (by omega) (.int .i64 0) (.int .i64 0)
  have y0 := R1.1.cell 0
  have y1 := R1.1.cell 1
  have hF : quickF t s u v dk = ([], ⟨0, 0⟩, ee) := by unfold quickF; rw [HEE.out, if_neg HE0.out]
  refine bodyPost_ret (v := .tuple #[.slice none 0 0, .agg #[.int .i64 0, .int .i64 0], .int .i64 ee]) (by simp [results, Tryz.results38, go_sem, y0, y1]) rfl ?_
  rw [hF]
  exact ⟨none, 0, 0, rfl, Reads.none_, R1.2⟩
theorem quick_any (A : Option Addr) (n c : Nat) (A' : Option Addr) (m d : Nat) (t : Town) (s : Gait) (u v : Int) (dk : Bool) (w : World)
  (hn : n ≤ 1000) (hm : m ≤ 1000) (ht : TownAt w w.heap.size A n A' m t) (hL : Laid w) :
  Calls Tryz.prog 38 #[.agg #[.slice A n c, .slice A' m d], .agg #[.int .i64 s.pace.lo, .int .i64 s.pace.hi, .int .i64 s.step.lo, .int .i64 s.step.hi], .int .i64 u, .int .i64 v, .bool dk] w (QuickOut w (quickF t s u v dk)) :=
 callsIn_wide.1 (quick_in A n c A' m d t s u v dk w hn hm ht hL)
end
section
open Go.RowKit
theorem enters_close1 (args : Array Value) (W : World) : (callFunc 74 args).run Tryz.prog W = .ok (.enter 74 args) W := by
 simp [go_sem]
theorem close1_any (A : Option Addr) (n c : Nat) (l : List Int) (g : Nat) (x : Link) (w : World) (hn : n ≤ maxLen) (hr : IntsAt w w.heap.size A n l) (h0 : w.cell? ⟨g, 0, none⟩ = some (.slice A n c)) :
  Calls Tryz.prog 74 (#[.agg #[.int .i64 x.id, .int .i64 x.fr, .int .i64 x.to, .int .i64 x.steps, .int .i64 x.paces]] ++ #[.pointer (some ⟨g, 0, none⟩)]) w fun e w' => e = .returned (.bool (memI l x.id)) ∧ Below w.heap.size w w' := by
 have hg : g < w.heap.size := World.block_lt_of_cell? w _ h0
 have hb : Below w.heap.size w (w.alloc (.cells #[.int .i64 x.id, .int .i64 x.fr, .int .i64 x.to, .int .i64 x.steps, .int .i64 x.paces] 52)) := (Below.refl _ _).alloc (Nat.le_refl _) _
 have HC := lh (contains_int A n c l x.id (w.alloc (.cells #[.int .i64 x.id, .int .i64 x.fr, .int .i64 x.to, .int .i64 x.steps, .int .i64 x.paces] 52)) ((hr.below hb).more hb.size) hn)
 have HB := lh hb
 clear hb
 go_enter Tryz.func74, Tryz.ntmps74
 go_wp2_with fail
 refine HC.out.mono ?_
 rintro e w' ⟨rfl, hb⟩
 go_wp2_with fail
 go_ret
 exact ⟨rfl, HB.out.trans (hb.mono HB.out.size)⟩
theorem pred_close1 (A : Option Addr) (n c : Nat) (l : List Int) (g : Nat) (w : World) (K : Nat) (hn : n ≤ maxLen) (hr : IntsAt w K A n l) (hg : g < K) (hK : K ≤ w.heap.size) (h0 : w.cell? ⟨g, 0, none⟩ = some (.slice A n c)) : PredL w K 74 #[.pointer (some ⟨g, 0, none⟩)] fun x => memI l x.id :=
 ⟨enters_close1, fun x W hb => close1_any A n c l g x W hn ((hr.below hb).more (Nat.le_trans hK hb.size)) ((hb.cell (p := ⟨g, 0, none⟩) hg).trans h0)⟩
def closeB (t : Town) : Int → List Int → Bool
 | _, [] => true
 | last, id :: r => decide (last < id) && memI (idsOf t.links) id && closeB t id r
theorem closeB_drop {t : Town} {l : List Int} {k : Nat} {x last : Int} (hx : l[k]? = some x) : closeB t last (l.drop k) = (decide (last < x) && memI (idsOf t.links) x && closeB t x (l.drop (k + 1))) := by
 obtain ⟨hk, rfl⟩ := List.getElem?_eq_some_iff.1 hx
 rw [List.drop_eq_getElem_cons hk]; rfl
def noTown : Town := ⟨[], []⟩
def closeT (t : Town) (l : List Int) : Town := if townB t && closeB t 0 l then lessT t fun x => memI l x.id else noTown
def closeE (t : Town) (l : List Int) : Int := if townB t then (if closeB t 0 l then 0 else 34) else 30
def TownErr (w : World) (e : Ending) (w' : World) (t : Town) (k : Int) : Prop := ∃ A c A' c', e = .returned (.tuple #[.agg #[.slice A t.places.length c, .slice A' t.links.length c'], .int .i64 k]) ∧ Own w' w.heap.size 3 1 A t.places.length c (t.places.map (Value.int .i64)) ∧ Own w' w.heap.size 52 5 A' t.links.length c' (t.links.flatMap Link.vals) ∧ Apart A A' ∧ Below w.heap.size w w'
theorem TownErr.none_ {w w' : World} {k : Int} (hb : Below w.heap.size w w') : TownErr w (.returned (.tuple #[.agg #[.slice none 0 0, .slice none 0 0], .int .i64 k])) w' noTown k :=
 ⟨none, 0, none, 0, rfl, Own.none_ _ _ _ _, Own.none_ _ _ _ _, (fun _ _ h => by cases h), hb⟩
set_option maxRecDepth 100000 in
set_option maxHeartbeats 4000000 in
theorem close_any (A : Option Addr) (n c : Nat) (A' : Option Addr) (m d : Nat) (t : Town) (A2 : Option Addr) (k2 c2 : Nat) (l : List Int) (w : World) (hn : n ≤ 1000) (hm : m ≤ 1000) (hk : k2 ≤ 1000) (ht : TownAt w w.heap.size A n A' m t) (hr : IntsAt w w.heap.size A2 k2 l) (hL : Laid w) :
  Calls Tryz.prog 29 #[.agg #[.slice A n c, .slice A' m d], .slice A2 k2 c2] w fun e w' => TownErr w e w' (closeT t l) (closeE t l) := by
 have HT := lh ht
 have HR := lh hr
 have HL := lh hL
 have hl0 := hL.2.2.2
 have hn1 : n ≤ maxLen := by unfold maxLen; omega
 have hm1 : m ≤ maxLen := by unfold maxLen; omega
 clear ht hr hL
 go_enter Tryz.func29, Tryz.ntmps29
 go_wp2_with fail
 have X0 := ((Blk.new w 25 #[.slice A n c, .slice A' m d]).alloc (.cells #[.slice A2 k2 c2] 22)).alloc (.cells #[.slice none 0 0, .slice none 0 0] 25)
 have Y0 := (Blk.new (w.alloc (.cells #[.slice A n c, .slice A' m d] 25)) 22 #[.slice A2 k2 c2]).alloc (.cells #[.slice none 0 0, .slice none 0 0] 25)
 have Z0 := Blk.new ((w.alloc (.cells #[.slice A n c, .slice A' m d] 25)).alloc (.cells #[.slice A2 k2 c2] 22)) 25 #[.slice none 0 0, .slice none 0 0]
 have B0 : Below w.heap.size w (((w.alloc (.cells #[.slice A n c, .slice A' m d] 25)).alloc (.cells #[.slice A2 k2 c2] 22)).alloc (.cells #[.slice none 0 0, .slice none 0 0] 25)) := (((Below.refl _ _).alloc (Nat.le_refl _) _).alloc (by simp) _).alloc (by simp; omega) _
 rw [World.size_alloc] at Y0
 rw [World.size_alloc, World.size_alloc] at Z0
 generalize (((w.alloc (.cells #[.slice A n c, .slice A' m d] 25)).alloc (.cells #[.slice A2 k2 c2] 22)).alloc (.cells #[.slice none 0 0, .slice none 0 0] 25)) = w0 at *
 have hz := Z0.lt
 with_reducible refine (check_any A n c A' m d t w0 hn1 hm1 ((HT.out.below B0).more B0.size) (HL.out.below B0 hl0)).mono ?_
 rintro e w1 ⟨rfl, hb1⟩
 have X1 := X0.below hb1 X0.lt
 have Y1 := Y0.below hb1 Y0.lt
 have Z1 := Z0.below hb1 Z0.lt
 have B1 := B0.trans (hb1.mono B0.size)
 have x0 := X1.cell 0
 have x1 := X1.cell 1
 have y0 := Y1.cell 0
 have z0 := Z1.cell 0
 have z1 := Z1.cell 1
 have q0 := Z1.frozen 0
 have q1 := Z1.frozen 1
 clear X0 Y0 Z0 B0 hb1
 cases htb : townB t with
 | false =>
  have hc : chk t = 30 := by unfold chk; rw [htb]; rfl
  have HC := lh htb
  clear htb
  go_wp2_with fail
  have e1 : closeT t l = noTown := by unfold closeT; rw [HC.out]; rfl
  have e2 : closeE t l = 30 := by unfold closeE; rw [HC.out]; rfl
  rw [e1, e2]
  exact bodyPost_ret (v := .tuple #[.agg #[.slice none 0 0, .slice none 0 0], .int .i64 30]) (by simp [results, Tryz.results29, go_sem, z0, z1]) rfl (TownErr.none_ ((B1.setCell (p := ⟨w.heap.size + 1 + 1, 0, none⟩) (by show w.heap.size ≤ w.heap.size + 1 + 1; omega) _).setCell (p := ⟨w.heap.size + 1 + 1, 1, none⟩) (by show w.heap.size ≤ w.heap.size + 1 + 1; omega) _))
 | true =>
  have hc : chk t = 0 := by unfold chk; rw [htb]; rfl
  have HC := lh htb
  clear htb x0 x1 z0 z1 q0 q1
  go_wp2_with fail
  go_loopw [7, 18] (fun vl vi wr => ∃ (k : Nat) (last : Int), k ≤ k2 ∧ vi = .int .i64 k ∧ vl = .int .i64 last ∧ closeB t 0 l = closeB t last (l.drop k) ∧ Below w1.heap.size w1 wr)
   (fun _ vi _ => k2 - (intOf vi).toNat)
  case atStart => exact ⟨0, 0, by omega, rfl, rfl, by simp, Below.refl _ _⟩
  case round =>
   obtain ⟨k, last, hk', rfl, rfl, hcl, hb⟩ := hrel
   have HCL := lh hcl
   clear hcl
   have X2 := X1.below hb X1.lt
   have Y2 := Y1.below hb Y1.lt
   have Z2 := Z1.below hb Z1.lt
   have B2 := B1.trans (hb.mono B1.size)
   have x0 := X2.cell 0
   have x1 := X2.cell 1
   by_cases hlt : k < k2
   ·obtain ⟨b, off, x, rfl, hbB, hx, hc0⟩ := (HR.out.below B2).cell hlt
    have HX := lh hx
    clear hx
    by_cases hle : x ≤ last
    ·have z0 := Z2.cell 0
     have z1 := Z2.cell 1
     have q0 := Z2.frozen 0
     have q1 := Z2.frozen 1
     go_wp2_with fail
     have e0 : closeB t 0 l = false := by rw [HCL.out, closeB_drop HX.out]; simp; omega
     have e1 : closeT t l = noTown := by unfold closeT; rw [e0]; simp
     have e2 : closeE t l = 34 := by unfold closeE; rw [HC.out, e0]; simp
     rw [e1, e2]
     exact bodyPost_ret (v := .tuple #[.agg #[.slice none 0 0, .slice none 0 0], .int .i64 34]) (by simp [results, Tryz.results29, go_sem, z0, z1]) rfl (TownErr.none_ ((B2.setCell (p := ⟨w.heap.size + 1 + 1, 0, none⟩) (by show w.heap.size ≤ w.heap.size + 1 + 1; omega) _).setCell (p := ⟨w.heap.size + 1 + 1, 1, none⟩) (by show w.heap.size ≤ w.heap.size + 1 + 1; omega) _))
    ·have hle' : last < x := by omega
     go_wp2_with fail
     with_reducible refine (ids_any A n c A' m d t _ hm ((HT.out.links.below B2).more B2.size)).mono ?_
     rintro e w3 ⟨Ai, ci, rfl, hOi, hb3⟩
     have hil : (idsOf t.links).length ≤ maxLen := by
      have h1 := HT.out.links.len
      unfold idsOf maxLen
      rw [List.length_map]; omega
     go_wp2_with fail
     with_reducible refine (contains_int Ai _ ci (idsOf t.links) x w3 (ints_of_own hOi (Nat.le_refl _)) hil).mono ?_
     rintro e w4 ⟨rfl, hb4⟩
     have hb5 := (hb.trans (hb3.mono hb.size)).trans (hb4.mono (Nat.le_trans hb.size hb3.size))
     have Z4 := Z1.below hb5 Z1.lt
     have B4 := B1.trans (hb5.mono B1.size)
     clear hOi hb3 hb4 X2 Y2 Z2 x0 x1
     cases hmi : memI (idsOf t.links) x with
     | true =>
      have HM := lh hmi
      clear hmi
      go_wp2_with fail
      go_roundw
      case rel => exact ⟨k + 1, x, by omega, by go_num, rfl, by rw [HCL.out, closeB_drop HX.out, HM.out]; simp [hle'], hb5⟩
      case measure => simp [intOf]; omega
     | false =>
      have HM := lh hmi
      clear hmi
      have z0 := Z4.cell 0
      have z1 := Z4.cell 1
      have q0 := Z4.frozen 0
      have q1 := Z4.frozen 1
      go_wp2_with fail
      have e0 : closeB t 0 l = false := by rw [HCL.out, closeB_drop HX.out, HM.out]; simp
      have e1 : closeT t l = noTown := by unfold closeT; rw [e0]; simp
      have e2 : closeE t l = 34 := by unfold closeE; rw [HC.out, e0]; simp
      rw [e1, e2]
      exact bodyPost_ret (v := .tuple #[.agg #[.slice none 0 0, .slice none 0 0], .int .i64 34]) (by simp [results, Tryz.results29, go_sem, z0, z1]) rfl (TownErr.none_ ((B4.setCell (p := ⟨w.heap.size + 1 + 1, 0, none⟩) (by show w.heap.size ≤ w.heap.size + 1 + 1; omega) _).setCell (p := ⟨w.heap.size + 1 + 1, 1, none⟩) (by show w.heap.size ≤ w.heap.size + 1 + 1; omega) _))
   ·obtain rfl : k = k2 := by omega
    have HF : Hid (closeB t 0 l = true) := by
     have h1 := HR.out.len
     show closeB t 0 l = true
     rw [HCL.out, List.drop_eq_nil_of_le (by omega)]; rfl
    have hmf : ∀ (fn : Fn) (first cap : Array Value) (w : World), (Instr.makeFunc fn first cap).run Tryz.prog w = .ok (.func fn first cap) w := fun _ _ _ _ => rfl
    have HY := lh (show wr.cell? ⟨w.heap.size + 1, 0, none⟩ = some (.slice A2 k c2) from Y2.cell 0)
    go_wp2_with fail
    with_reducible refine (less_any A n c A' m d t _ _ (fun x => memI l x.id) wr hn hm ((HT.out.below B2).more B2.size) (pred_close1 A2 k c2 l (w.heap.size + 1) wr _ (by unfold maxLen; omega) ((HR.out.below B2).more B2.size) Y2.lt (Nat.le_refl _) HY.out)).mono ?_
    rintro e w5 ⟨A5, c5, A6, c6, rfl, hO5, hO6, hap, hb5⟩
    have Z5 := Z2.below hb5 Z2.lt
    have B5 := B2.trans (hb5.mono B2.size)
    have z0 := Z5.cell 0
    have z1 := Z5.cell 1
    have q0 := Z5.frozen 0
    have q1 := Z5.frozen 1
    have h5 := lh (fun a (h : A5 = some a) => (hO5.lt h).1)
    have h6 := lh (fun a (h : A6 = some a) => (hO6.lt h).1)
    have hZ2 := Z2.lt
    have H5 := lh (hO5.mono B2.size)
    have H6 := lh (hO6.mono B2.size)
    clear hO5 hO6 x0 x1
    go_wp2_with fail
    have e1 : closeT t l = lessT t fun x => memI l x.id := by unfold closeT; rw [HC.out, HF.out]; rfl
    have e2 : closeE t l = 0 := by unfold closeE; rw [HC.out, HF.out]; rfl
    rw [e1, e2]
    refine bodyPost_ret (v := .tuple #[.agg #[.slice A5 (lessT t fun x => memI l x.id).places.length c5, .slice A6 (lessT t fun x => memI l x.id).links.length c6], .int .i64 0]) (by simp [results, Tryz.results29, go_sem, z0, z1]) rfl ?_
    refine ⟨A5, c5, A6, c6, rfl, H5.out.grown (grown_setCell (grown_setCell (grown_refl _ (some (w.heap.size + 1 + 1))) (p := ⟨w.heap.size + 1 + 1, 0, none⟩) (.inl rfl) _) (p := ⟨w.heap.size + 1 + 1, 1, none⟩) (.inl rfl) _) (fun a ha => by have := h5.out a ha; simp; omega),
     H6.out.grown (grown_setCell (grown_setCell (grown_refl _ (some (w.heap.size + 1 + 1))) (p := ⟨w.heap.size + 1 + 1, 0, none⟩) (.inl rfl) _) (p := ⟨w.heap.size + 1 + 1, 1, none⟩) (.inl rfl) _) (fun a ha => by have := h6.out a ha; simp; omega), hap, ?_⟩
    exact (B5.setCell (p := ⟨w.heap.size + 1 + 1, 0, none⟩) (by show w.heap.size ≤ w.heap.size + 1 + 1; omega) _).setCell (p := ⟨w.heap.size + 1 + 1, 1, none⟩) (by show w.heap.size ≤ w.heap.size + 1 + 1; omega) _
end
section
set_option maxRecDepth 1000000
set_option maxHeartbeats 4000000
def exS : Skin := ⟨1000, ⟨1, 2⟩, ⟨0, 3⟩⟩
def exG : Gait := ⟨⟨1, 2⟩, ⟨2, 3⟩⟩
theorem ex_way : wayL exT 1 4 false = [2, 3, 4] ∧ wayE exT 1 4 false = 0 := by decide +kernel
theorem ex_toil : wayT exT 1 4 false = (20, 140) := by decide +kernel
theorem ex_reach : reachR exT 1 true = [1, 3] ∧ askE exT [1] = 0 := by decide +kernel
theorem ex_walk : walkV exT 1 [1, 3] = (3, 50, 50, 0) := by decide +kernel
theorem ex_need : neededR exT 1 4 false (idsOf exT.links) ofOnly = [4] := by decide +kernel
theorem ex_gate : neededR exT 1 4 false (othersL exT 1 4) ofGate = [2] := by decide +kernel
theorem ex_worst : worstV exT 1 4 false = (2, 50, 70, 0) := by decide +kernel
theorem ex_roundE : roundE exT 1 [2, 3] = 0 := by decide +kernel
theorem ex_up : upI [2, 3] = [2, 3] := by
 unfold upI
 exact List.mergeSort_of_pairwise (by decide)
theorem ex_round : roundR exT 1 [2, 3] false = some ([3, 2], (20, 150)) ∧ roundX exT 1 [2, 3] false = 0 := by
 have h : roundR exT 1 [2, 3] false = some ([3, 2], (20, 150)) := by
  unfold roundR
  rw [if_pos ex_roundE, ex_up]
  decide +kernel
 refine ⟨h, ?_⟩
 unfold roundX
 rw [if_pos ex_roundE, h]
 rfl
theorem ex_order : orderR exT 1 [2, 3] false = some (20, 220) ∧ orderE exT 1 [2, 3] false = 0 := by decide +kernel
theorem ex_end : endV exT exS 1 [2, 3, 4] = ⟨660, 860⟩ ∧ endE exT exS 1 [2, 3, 4] = 0 := by decide +kernel
theorem ex_wet : wetF exT exS 1 4 false = ([1, 4], 710, 0) := by decide +kernel
theorem ex_sec : secV exT exG 1 [2, 3, 4] = ⟨180, 340⟩ ∧ secE exT exG 1 [2, 3, 4] = 0 := by decide +kernel
theorem ex_min : minV exT exG 1 4 false = ⟨3, 6⟩ ∧ minE exT exG 1 4 false = 0 := by decide +kernel
theorem ex_quick : quickF exT exG 1 4 false = ([1, 4], ⟨170, 290⟩, 0) := by decide +kernel
theorem ex_close : (closeT exT [2, 3]).links.length = 2 ∧ closeE exT [2, 3] = 0 := by decide +kernel
end
section
open Go.RowKit Go.Shelf
set_option maxRecDepth 100000 in
set_option maxHeartbeats 16000000 in
theorem toilw_in (A : Option Addr) (n c : Nat) (A' : Option Addr) (m d : Nat) (t : Town) (u v : Int) (dk : Bool) (w : World)
  (hn : n ≤ 1000) (hm : m ≤ 1000) (ht : TownAt w w.heap.size A n A' m t) (hL : Laid w) :
  CallsIn Fence.wide 9 Tryz.prog 17 #[.agg #[.slice A n c, .slice A' m d], .int .i64 u, .int .i64 v, .bool dk] w (ToilOut w (wayT t u v dk) (wayE t u v dk)) := by
 have HT := lh ht
 have HL := lh hL
 have hl0 := hL.2.2.2
 clear ht hL
 refine callsIn_of_wp Tryz.func17 rfl trivial ?_ rfl
 simp only [Tryz.ntmps17, List.size_toArray, List.length_cons, List.length_nil, Nat.reduceAdd, Nat.reduceSub, Array.replicate_succ, Array.replicate_zero, List.push_toArray, List.append_toArray, List.nil_append, List.cons_append]
 gi_wp2
 have Ly := lh (Lay.two w 25 #[.slice A n c, .slice A' m d] 34 #[.int .i64 0, .int .i64 0])
 generalize ((w.alloc (.cells #[.slice A n c, .slice A' m d] 25)).alloc (.cells #[.int .i64 0, .int .i64 0] 34)) = w0 at *
 refine ⟨trivial, (callsIn_wide.2 (way_any A n c A' m d t u v dk w0 hn hm ((HT.out.below Ly.out.1).more Ly.out.1.size) (HL.out.below Ly.out.1 hl0))).mono ?_⟩
 rintro e W1 ⟨to, co, AW, nW, cW, rfl, hno, hq, hty, hb⟩
 replace Ly := lyb Ly hb
 clear hb
 have hT : wayT t u v dk = (co.b, co.c) := by
  unfold wayT
  cases hr : wayR t u v dk with
  | none => obtain ⟨_, rfl, _⟩ := hno hr; rfl
  | some q => rw [(hq q hr).1]
 have HWT := lh hT
 clear hty hno hq hT
 gi_wp2
 have hb : Below W1.heap.size W1 (W1.alloc (.cells #[.int .i64 to, .int .i64 co.a, .int .i64 co.b, .int .i64 co.c, .int .i64 co.d, .slice AW nW cW] 99)) := (Below.refl _ _).alloc (Nat.le_refl _) _
 have hnew := Blk.new W1 99 #[.int .i64 to, .int .i64 co.a, .int .i64 co.b, .int .i64 co.c, .int .i64 co.d, .slice AW nW cW]
 have hge := Ly.out.bel.size
 replace Ly := lyb Ly hb
 replace Ly := lh (Ly.out.add hge hnew)
 clear hnew hge hb
 obtain ⟨G3, hG⟩ : ∃ g, W1.heap.size = g := ⟨_, rfl⟩
 rw [hG] at Ly ⊢
 generalize (W1.alloc (.cells #[.int .i64 to, .int .i64 co.a, .int .i64 co.b, .int .i64 co.c, .int .i64 co.d, .slice AW nW cW] 99)) = V2 at *
 clear hG
 replace Ly := lh (show Lay w V2 [(w.heap.size, 25, #[.slice A n c, .slice A' m d]), (w.heap.size + 1, 34, #[.int .i64 0, .int .i64 0]), (G3, 99, #[.int .i64 to, .int .i64 co.a, .int .i64 co.b, .int .i64 co.c, .int .i64 co.d, .slice AW nW cW])] from Ly.out)
 refine ⟨trivial, (callsIn_wide.2 (toil_any co V2)).mono ?_⟩
 rintro e W4 ⟨rfl, hb⟩
 replace Ly := lyb Ly hb
 clear hb
 have x1_0 := lyc Ly 1 rfl 0
 have z1_0 := lyf Ly 1 rfl 0
 have x1_1 := lyc Ly 1 rfl 1
 have z1_1 := lyf Ly 1 rfl 1
 have l1_ := Ly.out.lt 1 rfl
 gi_wp2
 have R1 := ret2 (Ly.out.blk 1 rfl) Ly.out.1 (by omega) (.int .i64 (co.b)) (.int .i64 (co.c))
 have y0 := R1.1.cell 0
 have y1 := R1.1.cell 1
 exact bodyPost_ret (v := .tuple #[.agg #[.int .i64 (co.b), .int .i64 (co.c)], .int .i64 (wayE t u v dk)]) (by simp [results, Tryz.results17, go_sem, y0, y1]) rfl ⟨by rw [HWT.out], R1.2⟩
theorem toilw_any (A : Option Addr) (n c : Nat) (A' : Option Addr) (m d : Nat) (t : Town) (u v : Int) (dk : Bool) (w : World)
  (hn : n ≤ 1000) (hm : m ≤ 1000) (ht : TownAt w w.heap.size A n A' m t) (hL : Laid w) :
  Calls Tryz.prog 17 #[.agg #[.slice A n c, .slice A' m d], .int .i64 u, .int .i64 v, .bool dk] w (ToilOut w (wayT t u v dk) (wayE t u v dk)) :=
 callsIn_wide.1 (toilw_in A n c A' m d t u v dk w hn hm ht hL)
end
section
open Go.RowKit
theorem eqSpan_run (a1 a2 b1 b2 : Int) (w : World) : (Op.equalIn 10000 63 (.agg #[.int .i64 a1, .int .i64 a2]) (.agg #[.int .i64 b1, .int .i64 b2])).run Tryz.prog w = .ok (a1 == b1 && a2 == b2) w := by
 rw [Op.equalIn]
 simp [go_sem, run_underlying Tryz.underlying63, eqi_run', Std.Legacy.Range.forIn_eq_forIn_range', part]
 by_cases h1 : a1 = b1 <;> by_cases h2 : a2 = b2 <;> simp [h1, h2]
theorem eqSpan_same (a b : Int) (w : World) : (Op.equalIn 10000 63 (.agg #[.int .i64 a, .int .i64 b]) (.agg #[.int .i64 a, .int .i64 b])).run Tryz.prog w = .ok true w := by
 rw [eqSpan_run]; simp
theorem eqToil_run (a1 a2 b1 b2 : Int) (w : World) : (Op.equalIn 10000 34 (.agg #[.int .i64 a1, .int .i64 a2]) (.agg #[.int .i64 b1, .int .i64 b2])).run Tryz.prog w = .ok (a1 == b1 && a2 == b2) w := by
 rw [Op.equalIn]
 simp [go_sem, run_underlying Tryz.underlying34, eqi_run', Std.Legacy.Range.forIn_eq_forIn_range', part]
 by_cases h1 : a1 = b1 <;> by_cases h2 : a2 = b2 <;> simp [h1, h2]
theorem eqToil_same (a b : Int) (w : World) : (Op.equalIn 10000 34 (.agg #[.int .i64 a, .int .i64 b]) (.agg #[.int .i64 a, .int .i64 b])).run Tryz.prog w = .ok true w := by
 rw [eqToil_run]; simp
end
end Go.Proofs.YtahkjagjcogeiaaGreatDoor
