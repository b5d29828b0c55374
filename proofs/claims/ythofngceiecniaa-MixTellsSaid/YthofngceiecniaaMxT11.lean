/- MixTells: whatever the mixed water and the whole numbers, the law answers true. No conditions. -/
import Derived.Sort.CutIn
import Derived.Sort.WalkA
import Derived.Lib.SmallJoins
import Derived.LaidHandle
import Derived.ChangeArms
import Derived.ChangeSame
import Derived.Test.YthofngceiecniaaRows
import Derived.OpenShut
import Derived.ShutString
import Derived.ChangeOld
import Derived.Test.YthofngceiecniaaMxT10
set_option linter.unusedVariables false
/- The answer's Of. -/
namespace Go.Proofs.Ythofngceiecniaa
open Go.RowKit
inductive FrOfR (v1 v4 v8 v13 v38 v39 v40 : Value) : Act → Prop
 | mk (u0 u2 u3 u5 u6 u7 u9 u10 u11 u12 u14 u15 u16 u17 u18 u19 u20 u21 u22 u23 u24 u25 u26 u27 u28 u29 u30 u31 u32 u33 u34 u35 u36 u37 u41 u42 u43 u44 u45 u46 u47 u48 u49 u50 u51 u52 u53 u54 u55 u56 : Value) : FrOfR v1 v4 v8 v13 v38 v39 v40 { tmps := #[u0, v1, u2, u3, v4, u5, u6, u7, v8, u9, u10, u11, u12, v13, u14, u15, u16, u17, u18, u19, u20, u21, u22, u23, u24, u25, u26, u27, u28, u29, u30, u31, u32, u33, u34, u35, u36, u37, v38, v39, v40, u41, u42, u43, u44, u45, u46, u47, u48, u49, u50, u51, u52, u53, u54, u55, u56], defers := [] }

set_option maxRecDepth 100000 in
set_option maxHeartbeats 8000000 in
theorem rof_in (Av : Option Addr) (nv cv : Nat) (Aa : Option Addr) (na ca : Nat) (At : Option Addr) (nt ct : Nat) (m : Mix) (vessel after fountain : Int) (w : World) (h : MixS w Av nv Aa na At nt m) :
  CallsIn Fence.wide 9 Try.prog 17 #[.agg #[.int .i64 m.fountains, .slice Av nv cv, .slice Aa na ca, .slice At nt ct], .int .i64 vessel, .int .i64 after, .int .i64 fountain] w (OfOut w m vessel after fountain) := by
 have HM := Lib.hid h
 have HLA := Lib.hid h.at_.lenA
 have HLV := Lib.hid h.at_.lenV
 clear h
 refine callsIn_of_wp Try.func17 rfl trivial ?_ rfl
 simp only [Try.ntmps17, List.size_toArray, List.length_cons, List.length_nil, Nat.reduceAdd, Nat.reduceSub, Array.replicate_succ, Array.replicate_zero, List.push_toArray, List.append_toArray, List.nil_append, List.cons_append]
 gi_upto_region 1 with fail
 have HLay := Lib.hid (Lay.two w 26 #[.int .i64 m.fountains, .slice Av nv cv, .slice Aa na ca, .slice At nt ct] 30 #[.int .i64 0, .int .i64 0])
 generalize ((w.alloc (.cells #[.int .i64 m.fountains, .slice Av nv cv, .slice Aa na ca, .slice At nt ct] 26)).alloc (.cells #[.int .i64 0, .int .i64 0] 30)) = w0 at *
 have x0_0 := (HLay.out.blk 0 rfl).cell 0
 have x0_1 := (HLay.out.blk 0 rfl).cell 1
 have x0_2 := (HLay.out.blk 0 rfl).cell 2
 have x0_3 := (HLay.out.blk 0 rfl).cell 3
 have l0_ := HLay.out.lt 0 rfl
 gi_wp2
 clear x0_0 x0_1 x0_2 x0_3 l0_
 refine ⟨trivial, (callsIn_wide.2 (callsIn_wide.1 (rasked_in Av nv cv Aa na ca At nt ct m vessel after fountain w0 (HM.out.up HLay.out.1)))).mono ?_⟩
 rintro e W1 ⟨rfl, hb⟩
 replace HLay := Lib.hid (HLay.out.below hb)
 clear hb
 obtain ⟨ee, hee⟩ : ∃ e, askM m vessel after [fountain] = e := ⟨_, rfl⟩
 rw [hee]
 have HEE := Lib.hid hee
 clear hee
 by_cases h0 : ee = 0
 ·
  subst h0
  have hok := ask_ok1 HEE.out
  have HOK := Lib.hid hok
  have HV := Lib.hid (okMix_vess hok.1)
  clear hok
  have x0_0 := (HLay.out.blk 0 rfl).cell 0
  have x0_1 := (HLay.out.blk 0 rfl).cell 1
  have x0_2 := (HLay.out.blk 0 rfl).cell 2
  have x0_3 := (HLay.out.blk 0 rfl).cell 3
  have l0_ := HLay.out.lt 0 rfl
  gi_wp2
  clear x0_0 x0_1 x0_2 x0_3 l0_
  refine ⟨trivial, (callsIn_wide.2 (callsIn_wide.1 (rtruths_in Av nv cv Aa na ca At nt ct m fountain W1 (HM.out.up HLay.out.1) HOK.out.1))).mono ?_⟩
  rintro e W2 ⟨L, rs, bs, g, n, N, b, rfl, hN, hN9, hL, hn, hBR, hT, hb0⟩
  have hb := hBR.bel
  replace HLay := Lib.hid (HLay.out.below hb)
  clear hb
  have HNN := Lib.hid hN
  have HN9 := Lib.hid hN9
  have HL := Lib.hid hL
  have HN := Lib.hid hn
  have HBR := Lib.hid hBR
  have HTAB := Lib.hid hT
  have HB0_ := Lib.hid hb0
  clear hN hN9 hL hn hBR hT hb0
  cases b with
  | false =>
   have x1_0 := (HLay.out.blk 1 rfl).cell 0
   have z1_0 := (HLay.out.blk 1 rfl).frozen 0
   have x1_1 := (HLay.out.blk 1 rfl).cell 1
   have z1_1 := (HLay.out.blk 1 rfl).frozen 1
   have l1_ := HLay.out.lt 1 rfl
   gi_wp2
   have R2 := ret2' (HLay.out.blk 1 rfl) HLay.out.1 (HLay.out.ge 1 rfl) (.int .i64 (0)) (.int .i64 (0))
   have v0 := R2.1.cell 0
   have v1 := R2.1.cell 1
   refine bodyPost_ret (v := .tuple #[.agg #[.int .i64 (0), .int .i64 (0)], .int .i64 (8)]) (by simp [results, Try.results17, go_sem, v0, v1]) rfl ?_
   exact ⟨0, 0, 8, rfl, .inr ⟨HEE.out, L, HL.out, .inl ⟨fun h => (by have := HB0_.out.2 h; cases this), rfl, rfl⟩⟩, R2.2.1⟩
  | true =>
   have HT0 := Lib.hid (HB0_.out.1 rfl)
   clear HB0_
   obtain ⟨k, hk⟩ : ∃ k : Nat, after = (k : Int) := ⟨after.toNat, by have := HOK.out.2.2.1; omega⟩
   obtain ⟨q, hq⟩ : ∃ q : Nat, idxV m.vessels vessel = (q : Int) := ⟨(idxV m.vessels vessel).toNat, by have := HOK.out.2.1; omega⟩
   subst hk
   have hql : q < m.vessels.length := by have h1 := idxV_lt HOK.out.2.1; omega
   have hq4 : q < 4 := by have h3 := HV.out.1; omega
   have hkl : k ≤ m.acts.length := by have := HOK.out.2.2.1; omega
   have hkn : k < n := by have := HN.out; omega
   have HIQ := Lib.hid hq
   have HQL := Lib.hid hql
   have HQ4 := Lib.hid hq4
   have HKL := Lib.hid hkl
   obtain ⟨r, row, hr, hrow⟩ := rowLen (i := k) (r := 0) HBR.out HTAB.out hkn
   have HRR := Lib.hid hr
   have HRW := Lib.hid hrow
   clear hq hql hq4 hkl hr hrow
   have hlt1 := HLay.out.lt 1 rfl
   have hlt0 := HLay.out.lt 0 rfl
   have HGB0 := Lib.hid HBR.out.bel.size
   gi_upto_region 8 with fail
   obtain ⟨V3, hV⟩ : ∃ V, (W2.alloc (.cells #[.int .i64 0, .int .i64 (-1)] 30)) = V := ⟨_, rfl⟩
   rw [hV]
   have hb := fbox_bel hV
   have hnew := fbox_blk hV
   have hge := HLay.out.bel.size
   replace HLay := Lib.hid (HLay.out.below hb)
   replace HBR := Lib.hid (HBR.out.below hb)
   replace HLay := Lib.hid (HLay.out.add hge hnew)
   clear hnew hge hb hV
   obtain ⟨G4, hG⟩ : ∃ g, W2.heap.size = g := ⟨_, rfl⟩
   rw [hG] at HLay ⊢
   have HG_ := Lib.hid hG
   clear hG
   have HG1 : Hid (w.heap.size + 1 ≠ G4) := Lib.hid (by rw [← HG_.out]; omega)
   have HG0 : Hid (w.heap.size ≠ G4) := Lib.hid (by rw [← HG_.out]; omega)
   have HGB : Hid (W1.heap.size ≤ G4) := Lib.hid (by rw [← HG_.out]; exact HGB0.out)
   clear HG_ hlt1 hlt0 HGB0
   have q0 := HBR.out.rowCell HRR.out
   have q0l := HBR.out.top.lt
   have hn13 : n ≤ 13 := by have h1 := HN.out; have h2 := HV.out; omega
   gi_wp2
   clear q0 q0l hn13
   refine wpIn_loop (fun a W => ∃ (c : Nat), Hid (Ex2 fun (lo hi : Int) => c ≤ N ∧ Lay w W [(w.heap.size, 26, #[.int .i64 m.fountains, .slice Av nv cv, .slice Aa na ca, .slice At nt ct]), (w.heap.size + 1, 30, #[.int .i64 0, .int .i64 0]), (G4, 30, #[.int .i64 lo, .int .i64 hi])] ∧ BR W1 W N g rs bs ∧ SpanOf (OfN m fountain L k q c) (lo, hi)) ∧ FrOfR (.int .i64 vessel) (.pointer (some ⟨w.heap.size, 0, none⟩)) (.pointer (some ⟨w.heap.size + 1, 0, none⟩)) (.pointer (some ⟨G4, 0, none⟩)) (.slice (some ⟨r, 0, none⟩) N N) (.int .i64 (N : Int)) (.int .i64 (c : Int)) a) (fun a _ => N - (intOf (a.tmps.getD 40 undef)).toNat) ?_ ?_
   ·exact ⟨0, Lib.hid ⟨0, -1, by omega, HLay.out, HBR.out, .inl ⟨fun _ => of_start, rfl⟩⟩, by constructor⟩
   clear HLay HBR
   rintro a W ⟨c, HS, ha⟩
   cases ha
   obtain ⟨lo, hi, hs9⟩ := HS.out
   replace HS := Lib.hid hs9
   clear hs9
   have HLay := Lib.hid HS.out.2.1
   have HBR := Lib.hid HS.out.2.2.1
   by_cases hlt : c < N
   ·
    obtain ⟨bv, q1, hbP, q1l⟩ := rowAt HBR.out HTAB.out HRR.out HRW.out hlt
    have hn9 := HN9.out
    have HBP := Lib.hid hbP
    clear hbP
    cases bv with
    | false =>
     gi_wp2
     have hno : ¬ Truth m fountain L k (decN m c) := fun h => by have := HBP.out.2 h; cases this
     refine ⟨⟨c + 1, Lib.hid ⟨lo, hi, hlt, HLay.out, HBR.out, HS.out.2.2.2.keep (of_skip hno)⟩, by rw [show ((c + 1 : Nat) : Int) = (c : Int) + 1 from by omega]; constructor⟩, ?_⟩
     simp [intOf] <;> omega
    | true =>
     have HTC : Hid (Truth m fountain L k (decN m c)) := Lib.hid (HBP.out.1 rfl)
     gi_upto_region 12 with fail
     clear q1 q1l
     refine wpIn_flow_old [([true, true, true, false, true, true], 3), ([], 6), ([false, false, false, false, false, false, false, true], 8)] [] [false, false, false, false, false, false, false, false, false, true] (by kernel_rfl) (by kernel_rfl) (by kernel_rfl) (below_drewN (Below.refl _ _) 1) ?_
     refine wpFlow_cons (A := ?AF1) rfl ?hq1 ?_
     case hq1 =>
      rintro σ hσ of hof hcl
      have HOF := Lib.hid hof
      have HCL := Lib.hid hcl
      clear hof hcl
      have c0_ : ∀ z, (of z).cell? ⟨w.heap.size, 0, none⟩ = some (.int .i64 m.fountains) := fun z => ((HLay.out.below (HOF.out z)).blk 0 rfl).cell 0
      have c1_ : ∀ z, (of z).cell? ⟨w.heap.size, 1, none⟩ = some (.slice Av nv cv) := fun z => ((HLay.out.below (HOF.out z)).blk 0 rfl).cell 1
      have c2_ : ∀ z, (of z).cell? ⟨w.heap.size, 2, none⟩ = some (.slice Aa na ca) := fun z => ((HLay.out.below (HOF.out z)).blk 0 rfl).cell 2
      have c3_ : ∀ z, (of z).cell? ⟨w.heap.size, 3, none⟩ = some (.slice At nt ct) := fun z => ((HLay.out.below (HOF.out z)).blk 0 rfl).cell 3
      have c4_ : ∀ z, (of z).cell? ⟨G4, 0, none⟩ = some (.int .i64 lo) := fun z => ((HLay.out.below (HOF.out z)).blk 2 rfl).cell 0
      have c5_ : ∀ z, (of z).cell? ⟨G4, 1, none⟩ = some (.int .i64 hi) := fun z => ((HLay.out.below (HOF.out z)).blk 2 rfl).cell 1
      have hfw : ∀ f, Fence.wide.fn f := fun _ => trivial
      have hix : ∀ z : World, (Instr.index 110 (.agg #[.int .i64 (heldAt (decH m (c : Int)) 0), .int .i64 (heldAt (decH m (c : Int)) 1), .int .i64 (heldAt (decH m (c : Int)) 2), .int .i64 (heldAt (decH m (c : Int)) 3)]) (.int .i64 (q : Int))).run Try.prog z = .ok (.int .i64 (heldAt (decH m (c : Int)) (q : Int))) z := fun z => ix_held _ HQ4.out z
      simp only [pickB]
      iterate 5 (gi_big_quiet_step (fail))
      refine wpQuietIn_nil ?_
      exact rfl
     intro W5 hW
     replace HLay := Lib.hid (HLay.out.below hW)
     replace HBR := Lib.hid (HBR.out.below hW)
     clear hW
     gi_wp2
     refine ⟨trivial, (callsIn_wide.2 (callsIn_wide.1 (rdec_in Av nv cv Aa na ca At nt ct m (c : Int) W5 (HM.out.up HLay.out.1) (okMix_ves HOK.out.1) HV.out.1 (by have := HN9.out; omega)))).mono ?_⟩
     rintro e W6 ⟨rfl, hb⟩
     replace HLay := Lib.hid (HLay.out.below hb)
     replace HBR := Lib.hid (HBR.out.below hb)
     gi_wp2
     refine ⟨trivial, hb, ?_⟩
     clear hb
     refine wpFlow_cons rfl Quietly.none ?_
     intro W7 hW
     replace HLay := Lib.hid (HLay.out.below hW)
     replace HBR := Lib.hid (HBR.out.below hW)
     clear hW
     gi_wp2
     refine ⟨trivial, (callsIn_wide.2 (rindex_any Av nv cv Aa na ca At nt ct m vessel W7 (HM.out.up HLay.out.1))).mono ?_⟩
     rintro e W8 ⟨rfl, hb⟩
     replace HLay := Lib.hid (HLay.out.below hb)
     replace HBR := Lib.hid (HBR.out.below hb)
     rw [HIQ.out]
     gi_wp2
     refine ⟨trivial, hb, ?_⟩
     clear hb
     refine wpFlow_cons (A := ?AF2) rfl ?hq2 ?_
     case hq2 =>
      rintro σ hσ of hof hcl
      have HOF := Lib.hid hof
      have HCL := Lib.hid hcl
      clear hof hcl
      have c0_ : ∀ z, (of z).cell? ⟨w.heap.size, 0, none⟩ = some (.int .i64 m.fountains) := fun z => ((HLay.out.below (HOF.out z)).blk 0 rfl).cell 0
      have c1_ : ∀ z, (of z).cell? ⟨w.heap.size, 1, none⟩ = some (.slice Av nv cv) := fun z => ((HLay.out.below (HOF.out z)).blk 0 rfl).cell 1
      have c2_ : ∀ z, (of z).cell? ⟨w.heap.size, 2, none⟩ = some (.slice Aa na ca) := fun z => ((HLay.out.below (HOF.out z)).blk 0 rfl).cell 2
      have c3_ : ∀ z, (of z).cell? ⟨w.heap.size, 3, none⟩ = some (.slice At nt ct) := fun z => ((HLay.out.below (HOF.out z)).blk 0 rfl).cell 3
      have c4_ : ∀ z, (of z).cell? ⟨G4, 0, none⟩ = some (.int .i64 lo) := fun z => ((HLay.out.below (HOF.out z)).blk 2 rfl).cell 0
      have c5_ : ∀ z, (of z).cell? ⟨G4, 1, none⟩ = some (.int .i64 hi) := fun z => ((HLay.out.below (HOF.out z)).blk 2 rfl).cell 1
      have hfw : ∀ f, Fence.wide.fn f := fun _ => trivial
      have hix : ∀ z : World, (Instr.index 110 (.agg #[.int .i64 (heldAt (decH m (c : Int)) 0), .int .i64 (heldAt (decH m (c : Int)) 1), .int .i64 (heldAt (decH m (c : Int)) 2), .int .i64 (heldAt (decH m (c : Int)) 3)]) (.int .i64 (q : Int))).run Try.prog z = .ok (.int .i64 (heldAt (decH m (c : Int)) (q : Int))) z := fun z => ix_held _ HQ4.out z
      simp only [pickB]
      iterate 1 (gi_big_quiet_step (fail))
      refine wpQuietIn_nil ?_
      exact rfl
     intro W9 hW
     replace HLay := Lib.hid (HLay.out.below hW)
     replace HBR := Lib.hid (HBR.out.below hW)
     clear hW
     gi_wp2
     refine ⟨trivial, (callsIn_wide.2 (callsIn_wide.1 (rwide_in lo hi (heldAt (decH m (c : Int)) (q : Int)) W9))).mono ?_⟩
     rintro e W10 ⟨rfl, hb⟩
     replace HLay := Lib.hid (HLay.out.below hb)
     replace HBR := Lib.hid (HBR.out.below hb)
     obtain ⟨lo2, hlo2⟩ : ∃ x, (wideS (lo, hi) (heldAt (decH m (c : Int)) (q : Int))).1 = x := ⟨_, rfl⟩
     obtain ⟨hi2, hhi2⟩ : ∃ x, (wideS (lo, hi) (heldAt (decH m (c : Int)) (q : Int))).2 = x := ⟨_, rfl⟩
     rw [hlo2, hhi2]
     have HW2 : Hid ((lo2, hi2) = wideS (lo, hi) (heldAt (decN m c) (q : Int))) := Lib.hid (by rw [← hlo2, ← hhi2]; rfl)
     clear hlo2 hhi2
     gi_wp2
     refine ⟨trivial, hb, ?_⟩
     clear hb
     refine wpFlow_nil (A := ?AF3) ?hq3 ?_
     case hq3 =>
      rintro σ hσ of hof hcl
      have HOF := Lib.hid hof
      have HCL := Lib.hid hcl
      clear hof hcl
      have c0_ : ∀ z, (of z).cell? ⟨w.heap.size, 0, none⟩ = some (.int .i64 m.fountains) := fun z => ((HLay.out.below (HOF.out z)).blk 0 rfl).cell 0
      have c1_ : ∀ z, (of z).cell? ⟨w.heap.size, 1, none⟩ = some (.slice Av nv cv) := fun z => ((HLay.out.below (HOF.out z)).blk 0 rfl).cell 1
      have c2_ : ∀ z, (of z).cell? ⟨w.heap.size, 2, none⟩ = some (.slice Aa na ca) := fun z => ((HLay.out.below (HOF.out z)).blk 0 rfl).cell 2
      have c3_ : ∀ z, (of z).cell? ⟨w.heap.size, 3, none⟩ = some (.slice At nt ct) := fun z => ((HLay.out.below (HOF.out z)).blk 0 rfl).cell 3
      have c4_ : ∀ z, (of z).cell? ⟨G4, 0, none⟩ = some (.int .i64 lo) := fun z => ((HLay.out.below (HOF.out z)).blk 2 rfl).cell 0
      have c5_ : ∀ z, (of z).cell? ⟨G4, 1, none⟩ = some (.int .i64 hi) := fun z => ((HLay.out.below (HOF.out z)).blk 2 rfl).cell 1
      have hfw : ∀ f, Fence.wide.fn f := fun _ => trivial
      have hix : ∀ z : World, (Instr.index 110 (.agg #[.int .i64 (heldAt (decH m (c : Int)) 0), .int .i64 (heldAt (decH m (c : Int)) 1), .int .i64 (heldAt (decH m (c : Int)) 2), .int .i64 (heldAt (decH m (c : Int)) 3)]) (.int .i64 (q : Int))).run Try.prog z = .ok (.int .i64 (heldAt (decH m (c : Int)) (q : Int))) z := fun z => ix_held _ HQ4.out z
      simp only [pickB]
      iterate 0 (gi_big_quiet_step (fail))
      refine wpQuietIn_nil ?_
      exact rfl
     intro W11 hW
     replace HLay := Lib.hid (HLay.out.below hW)
     replace HBR := Lib.hid (HBR.out.below hW)
     clear hW
     have x2_0 := (HLay.out.blk 2 rfl).cell 0
     have z2_0 := (HLay.out.blk 2 rfl).frozen 0
     have x2_1 := (HLay.out.blk 2 rfl).cell 1
     have z2_1 := (HLay.out.blk 2 rfl).frozen 1
     have l2_ := HLay.out.lt 2 rfl
     simp only [pickB]
     refine wpT_cons ?_
     gi_wp2
     refine wpT_nil ?_
     clear x2_0 z2_0 x2_1 z2_1 l2_
     have HG9 := Lib.hid (grown_two W11 G4 (.int .i64 (lo2)) (.int .i64 (hi2)))
     have HLS := Lib.hid (lay_two HLay.out HG0.out HG1.out (.int .i64 (lo2)) (.int .i64 (hi2)))
     have HBS := Lib.hid (HBR.out.other HG9.out (HLay.out.blk 2 rfl) (by decide) (by decide) HGB.out)
     generalize (W11.setCell ⟨G4, 0, none⟩ (.int .i64 (lo2))).setCell ⟨G4, 1, none⟩ (.int .i64 (hi2)) = S9 at *
     replace HLay := HLS
     replace HBR := HBS
     clear HLS HBS HG9
     gi_wp2
     refine ⟨⟨c + 1, Lib.hid ⟨lo2, hi2, hlt, HLay.out, HBR.out, by rw [HW2.out]; exact HS.out.2.2.2.add (fun n h => (of_bd HOK.out.1 HQL.out h).1) (by have := dec_bd HOK.out.1 c q HQ4.out; omega) (of_more HTC.out)⟩, by rw [show ((c + 1 : Nat) : Int) = (c : Int) + 1 from by omega]; constructor⟩, ?_⟩
     simp [intOf] <;> omega
   ·
    obtain rfl : N = c := by have := HS.out.1; omega
    have x1_0 := (HLay.out.blk 1 rfl).cell 0
    have z1_0 := (HLay.out.blk 1 rfl).frozen 0
    have x1_1 := (HLay.out.blk 1 rfl).cell 1
    have z1_1 := (HLay.out.blk 1 rfl).frozen 1
    have l1_ := HLay.out.lt 1 rfl
    have x2_0 := (HLay.out.blk 2 rfl).cell 0
    have x2_1 := (HLay.out.blk 2 rfl).cell 1
    have l2_ := HLay.out.lt 2 rfl
    gi_wp2
    have R2 := ret2' (HLay.out.blk 1 rfl) HLay.out.1 (HLay.out.ge 1 rfl) (.int .i64 (lo)) (.int .i64 (hi))
    have v0 := R2.1.cell 0
    have v1 := R2.1.cell 1
    refine bodyPost_ret (v := .tuple #[.agg #[.int .i64 (lo), .int .i64 (hi)], .int .i64 (0)]) (by simp [results, Try.results17, go_sem, v0, v1]) rfl ?_
    exact ⟨lo, hi, 0, rfl, .inr ⟨HEE.out, L, HL.out, .inr ⟨HT0.out, rfl, (HS.out.2.2.2.keep (fun x => (of_end HOK.out.1 HL.out HNN.out HIQ.out HKL.out x).symm)).all (of_some HT0.out HKL.out)⟩⟩, R2.2.1⟩
 ·
  have h0b : (ee != 0) = true := by simpa using h0
  have H0 := Lib.hid h0
  clear h0
  have x1_0 := (HLay.out.blk 1 rfl).cell 0
  have z1_0 := (HLay.out.blk 1 rfl).frozen 0
  have x1_1 := (HLay.out.blk 1 rfl).cell 1
  have z1_1 := (HLay.out.blk 1 rfl).frozen 1
  have l1_ := HLay.out.lt 1 rfl
  gi_wp2
  have R2 := ret2' (HLay.out.blk 1 rfl) HLay.out.1 (HLay.out.ge 1 rfl) (.int .i64 (0)) (.int .i64 (0))
  have v0 := R2.1.cell 0
  have v1 := R2.1.cell 1
  refine bodyPost_ret (v := .tuple #[.agg #[.int .i64 (0), .int .i64 (0)], .int .i64 (ee)]) (by simp [results, Try.results17, go_sem, v0, v1]) rfl ?_
  exact ⟨0, 0, ee, rfl, .inl ⟨by rw [HEE.out]; exact H0.out, rfl, HEE.out.symm⟩, R2.2.1⟩

end Go.Proofs.Ythofngceiecniaa
/- The answer's Known and Pure. -/
namespace Go.Proofs.Ythofngceiecniaa
open Go.RowKit
theorem of_err {m : Mix} {v a f e lo hi : Int} (h : OfIs m v a f (lo, hi) e) (h0 : e ≠ 0) : lo = 0 ∧ hi = 0 := by
 rcases h with ⟨_, h1, _⟩ | ⟨_, A, _, h1⟩
 ·exact ⟨congrArg Prod.fst h1, congrArg Prod.snd h1⟩
 ·rcases h1 with ⟨_, h2, _⟩ | ⟨_, h2, _⟩
  ·exact ⟨congrArg Prod.fst h2, congrArg Prod.snd h2⟩
  ·exact absurd h2 h0
theorem of_ask {m : Mix} {v a f : Int} {s : Int × Int} (h : OfIs m v a f s 0) : askM m v a [] = 0 := by
 rcases h with ⟨h0, _, h1⟩ | ⟨h0, _⟩
 ·exact absurd h1.symm h0
 ·have h2 := ask_ok1 h0
  unfold askM
  rw [if_pos h2.1, if_neg (by omega), if_pos ⟨h2.2.2.1, by simp⟩]
theorem holds_zero {m : Mix} {v a n e : Int} (h : HoldsIs m v a n e) (h0 : askM m v a [] = 0) : e = 0 := by
 rcases h with ⟨h1, _⟩ | ⟨_, h1, _⟩
 ·exact absurd h0 h1
 ·exact h1

set_option maxRecDepth 100000 in
set_option maxHeartbeats 8000000 in
theorem rknown_in (Av : Option Addr) (nv cv : Nat) (Aa : Option Addr) (na ca : Nat) (At : Option Addr) (nt ct : Nat) (m : Mix) (vessel after fountain : Int) (w : World) (h : MixS w Av nv Aa na At nt m) :
  CallsIn Fence.wide 9 Try.prog 21 #[.agg #[.int .i64 m.fountains, .slice Av nv cv, .slice Aa na ca, .slice At nt ct], .int .i64 vessel, .int .i64 after, .int .i64 fountain] w (KnownOut w m vessel after fountain) := by
 have HM := Lib.hid h
 clear h
 refine callsIn_of_wp Try.func21 rfl trivial ?_ rfl
 simp only [Try.ntmps21, List.size_toArray, List.length_cons, List.length_nil, Nat.reduceAdd, Nat.reduceSub, Array.replicate_succ, Array.replicate_zero, List.push_toArray, List.append_toArray, List.nil_append, List.cons_append]
 gi_upto_region 1 with fail
 have HLay := Lib.hid (Lay.one w 26 #[.int .i64 m.fountains, .slice Av nv cv, .slice Aa na ca, .slice At nt ct])
 generalize (w.alloc (.cells #[.int .i64 m.fountains, .slice Av nv cv, .slice Aa na ca, .slice At nt ct] 26)) = w0 at *
 have x0_0 := (HLay.out.blk 0 rfl).cell 0
 have x0_1 := (HLay.out.blk 0 rfl).cell 1
 have x0_2 := (HLay.out.blk 0 rfl).cell 2
 have x0_3 := (HLay.out.blk 0 rfl).cell 3
 have l0_ := HLay.out.lt 0 rfl
 gi_wp2
 clear x0_0 x0_1 x0_2 x0_3 l0_
 refine ⟨trivial, (callsIn_wide.2 (callsIn_wide.1 (rof_in Av nv cv Aa na ca At nt ct m vessel after fountain w0 (HM.out.up HLay.out.1)))).mono ?_⟩
 rintro e W1 ⟨lo, hi, ee, rfl, hof, hb⟩
 replace HLay := Lib.hid (HLay.out.below hb)
 clear hb
 have HOF := Lib.hid hof
 clear hof
 gi_upto_region 2 with fail
 obtain ⟨V2, hV⟩ : ∃ V, (W1.alloc (.cells #[.int .i64 lo, .int .i64 hi] 30)) = V := ⟨_, rfl⟩
 rw [hV]
 have hb := fbox_bel hV
 have hnew := fbox_blk hV
 have hge := HLay.out.bel.size
 replace HLay := Lib.hid (HLay.out.below hb)
 replace HLay := Lib.hid (HLay.out.add hge hnew)
 clear hnew hge hb hV
 obtain ⟨G3, hG⟩ : ∃ g, W1.heap.size = g := ⟨_, rfl⟩
 rw [hG] at HLay ⊢
 clear hG
 by_cases h0 : ee = 0
 ·
  subst h0
  by_cases h1 : 0 < lo
  ·
   have H1 := Lib.hid h1
   have h1b : decide (lo > 0) = true := decide_eq_true h1
   have h1c : decide (0 < lo) = true := decide_eq_true h1
   have x1_0 := (HLay.out.blk 1 rfl).cell 0
   have x1_1 := (HLay.out.blk 1 rfl).cell 1
   have l1_ := HLay.out.lt 1 rfl
   gi_wp2
   refine bodyPost_ret (v := .tuple #[.int .u8 2, .int .i64 0]) (by simp [results, Try.results21, go_sem]) rfl ?_
   exact ⟨lo, hi, 0, by unfold judgeI; rw [if_pos (decide_eq_true H1.out)], HOF.out, HLay.out.1⟩
  ·
   have H1 := Lib.hid h1
   have h1b : decide (0 < lo) = false := decide_eq_false h1
   by_cases h2 : 0 < hi
   ·
    have H2 := Lib.hid h2
    have h2b : decide (0 < hi) = true := decide_eq_true h2
    have x1_0 := (HLay.out.blk 1 rfl).cell 0
    have x1_1 := (HLay.out.blk 1 rfl).cell 1
    have l1_ := HLay.out.lt 1 rfl
    gi_wp2
    refine bodyPost_ret (v := .tuple #[.int .u8 1, .int .i64 0]) (by simp [results, Try.results21, go_sem]) rfl ?_
    exact ⟨lo, hi, 0, by unfold judgeI; rw [if_neg (by simpa using H1.out), if_pos (decide_eq_true H2.out)], HOF.out, HLay.out.1⟩
   ·
    have H2 := Lib.hid h2
    have h2b : decide (0 < hi) = false := decide_eq_false h2
    have x1_0 := (HLay.out.blk 1 rfl).cell 0
    have x1_1 := (HLay.out.blk 1 rfl).cell 1
    have l1_ := HLay.out.lt 1 rfl
    gi_wp2
    refine bodyPost_ret (v := .tuple #[.int .u8 0, .int .i64 0]) (by simp [results, Try.results21, go_sem]) rfl ?_
    exact ⟨lo, hi, 0, by unfold judgeI; rw [if_neg (by simpa using H1.out), if_neg (by simpa using H2.out)], HOF.out, HLay.out.1⟩
 ·
  have h0b : (ee != 0) = true := by simpa using h0
  have H0 := Lib.hid h0
  clear h0
  gi_wp2
  refine bodyPost_ret (v := .tuple #[.int .u8 0, .int .i64 ee]) (by simp [results, Try.results21, go_sem]) rfl ?_
  have he := of_err HOF.out H0.out
  exact ⟨lo, hi, ee, by rw [he.1, he.2]; rfl, HOF.out, HLay.out.1⟩

set_option maxRecDepth 100000 in
set_option maxHeartbeats 8000000 in
theorem rpure_in (Av : Option Addr) (nv cv : Nat) (Aa : Option Addr) (na ca : Nat) (At : Option Addr) (nt ct : Nat) (m : Mix) (vessel after fountain : Int) (w : World) (h : MixS w Av nv Aa na At nt m) :
  CallsIn Fence.wide 9 Try.prog 23 #[.agg #[.int .i64 m.fountains, .slice Av nv cv, .slice Aa na ca, .slice At nt ct], .int .i64 vessel, .int .i64 after, .int .i64 fountain] w (PureOut w m vessel after fountain) := by
 have HM := Lib.hid h
 clear h
 refine callsIn_of_wp Try.func23 rfl trivial ?_ rfl
 simp only [Try.ntmps23, List.size_toArray, List.length_cons, List.length_nil, Nat.reduceAdd, Nat.reduceSub, Array.replicate_succ, Array.replicate_zero, List.push_toArray, List.append_toArray, List.nil_append, List.cons_append]
 gi_upto_region 1 with fail
 have HLay := Lib.hid (Lay.one w 26 #[.int .i64 m.fountains, .slice Av nv cv, .slice Aa na ca, .slice At nt ct])
 generalize (w.alloc (.cells #[.int .i64 m.fountains, .slice Av nv cv, .slice Aa na ca, .slice At nt ct] 26)) = w0 at *
 have x0_0 := (HLay.out.blk 0 rfl).cell 0
 have x0_1 := (HLay.out.blk 0 rfl).cell 1
 have x0_2 := (HLay.out.blk 0 rfl).cell 2
 have x0_3 := (HLay.out.blk 0 rfl).cell 3
 have l0_ := HLay.out.lt 0 rfl
 gi_wp2
 clear x0_0 x0_1 x0_2 x0_3 l0_
 refine ⟨trivial, (callsIn_wide.2 (callsIn_wide.1 (rof_in Av nv cv Aa na ca At nt ct m vessel after fountain w0 (HM.out.up HLay.out.1)))).mono ?_⟩
 rintro e W1 ⟨lo, hi, ee, rfl, hof, hb⟩
 replace HLay := Lib.hid (HLay.out.below hb)
 clear hb
 have HOF := Lib.hid hof
 clear hof
 gi_upto_region 2 with fail
 obtain ⟨V2, hV⟩ : ∃ V, (W1.alloc (.cells #[.int .i64 lo, .int .i64 hi] 30)) = V := ⟨_, rfl⟩
 rw [hV]
 have hb := fbox_bel hV
 have hnew := fbox_blk hV
 have hge := HLay.out.bel.size
 replace HLay := Lib.hid (HLay.out.below hb)
 replace HLay := Lib.hid (HLay.out.add hge hnew)
 clear hnew hge hb hV
 obtain ⟨G3, hG⟩ : ∃ g, W1.heap.size = g := ⟨_, rfl⟩
 rw [hG] at HLay ⊢
 clear hG
 by_cases h0 : ee = 0
 ·
  subst h0
  have x0_0 := (HLay.out.blk 0 rfl).cell 0
  have x0_1 := (HLay.out.blk 0 rfl).cell 1
  have x0_2 := (HLay.out.blk 0 rfl).cell 2
  have x0_3 := (HLay.out.blk 0 rfl).cell 3
  have l0_ := HLay.out.lt 0 rfl
  gi_wp2
  clear x0_0 x0_1 x0_2 x0_3 l0_
  refine ⟨trivial, (callsIn_wide.2 (callsIn_wide.1 (rholds_in Av nv cv Aa na ca At nt ct m vessel after V2 (HM.out.up HLay.out.1)))).mono ?_⟩
  rintro e W4 ⟨n, e2, rfl, hho, hb⟩
  replace HLay := Lib.hid (HLay.out.below hb)
  clear hb
  obtain rfl : e2 = 0 := holds_zero hho (of_ask HOF.out)
  have HHO := Lib.hid hho
  clear hho
  by_cases h1 : lo = n
  ·
   have H1 := Lib.hid h1
   have h1b : (lo == n) = true := by simpa using h1
   clear h1
   have x1_0 := (HLay.out.blk 1 rfl).cell 0
   have x1_1 := (HLay.out.blk 1 rfl).cell 1
   have l1_ := HLay.out.lt 1 rfl
   gi_wp2
   refine bodyPost_ret (v := .tuple #[.int .u8 2, .int .i64 0]) (by simp [results, Try.results23, go_sem]) rfl ?_
   exact .inr ⟨lo, hi, n, by unfold judgeI; rw [if_pos (decide_eq_true H1.out)], HOF.out, HHO.out, HLay.out.1⟩
  ·
   have H1 := Lib.hid h1
   have h1b : (lo == n) = false := by simpa using h1
   clear h1
   by_cases h2 : hi = n
   ·
    have H2 := Lib.hid h2
    have h2b : (hi == n) = true := by simpa using h2
    clear h2
    have x1_0 := (HLay.out.blk 1 rfl).cell 0
    have x1_1 := (HLay.out.blk 1 rfl).cell 1
    have l1_ := HLay.out.lt 1 rfl
    gi_wp2
    refine bodyPost_ret (v := .tuple #[.int .u8 1, .int .i64 0]) (by simp [results, Try.results23, go_sem]) rfl ?_
    exact .inr ⟨lo, hi, n, by unfold judgeI; rw [if_neg (by simpa using H1.out), if_pos (decide_eq_true H2.out)], HOF.out, HHO.out, HLay.out.1⟩
   ·
    have H2 := Lib.hid h2
    have h2b : (hi == n) = false := by simpa using h2
    clear h2
    have x1_0 := (HLay.out.blk 1 rfl).cell 0
    have x1_1 := (HLay.out.blk 1 rfl).cell 1
    have l1_ := HLay.out.lt 1 rfl
    gi_wp2
    refine bodyPost_ret (v := .tuple #[.int .u8 0, .int .i64 0]) (by simp [results, Try.results23, go_sem]) rfl ?_
    exact .inr ⟨lo, hi, n, by unfold judgeI; rw [if_neg (by simpa using H1.out), if_neg (by simpa using H2.out)], HOF.out, HHO.out, HLay.out.1⟩
 ·
  have h0b : (ee != 0) = true := by simpa using h0
  have H0 := Lib.hid h0
  clear h0
  gi_wp2
  refine bodyPost_ret (v := .tuple #[.int .u8 0, .int .i64 ee]) (by simp [results, Try.results23, go_sem]) rfl ?_
  have he := of_err HOF.out H0.out
  exact .inl ⟨ee, rfl, H0.out, by have h9 := HOF.out; rwa [he.1, he.2] at h9, HLay.out.1⟩

end Go.Proofs.Ythofngceiecniaa
/- What Pure tells, as a predicate that one answer alone meets. -/
namespace Go.Proofs.Ythofngceiecniaa
open Go.RowKit

def PureIs (m : Mix) (v a f k e : Int) : Prop := (e ≠ 0 ∧ k = 0 ∧ OfIs m v a f (0, 0) e) ∨ (e = 0 ∧ ∃ lo hi n : Int, k = judgeI (decide (lo = n)) (decide (hi = n)) ∧ OfIs m v a f (lo, hi) 0 ∧ HoldsIs m v a n 0)
theorem PureIs.same {m : Mix} {v a f k e k' e' : Int} (h : PureIs m v a f k e) (h' : PureIs m v a f k' e') : k = k' ∧ e = e' := by
 rcases h with ⟨h0, rfl, h1⟩ | ⟨rfl, lo, hi, n, rfl, h1, h2⟩ <;> rcases h' with ⟨k0, rfl, k1⟩ | ⟨rfl, lo', hi', n', rfl, k1, k2⟩
 ·exact ⟨rfl, (OfIs.same h1 k1).2⟩
 ·exact absurd (OfIs.same h1 k1).2 h0
 ·exact absurd (OfIs.same k1 h1).2 k0
 ·obtain ⟨e1, _⟩ := OfIs.same h1 k1
  obtain ⟨rfl, _⟩ := HoldsIs.same h2 k2
  obtain ⟨rfl, rfl⟩ : lo = lo' ∧ hi = hi' := ⟨congrArg Prod.fst e1, congrArg Prod.snd e1⟩
  exact ⟨rfl, rfl⟩
theorem pure_form {w : World} {m : Mix} {v a f : Int} {e : Ending} {w' : World} (h : PureOut w m v a f e w') : ∃ k ee : Int, e = .returned (.tuple #[.int .u8 k, .int .i64 ee]) ∧ PureIs m v a f k ee ∧ Below w.heap.size w w' := by
 rcases h with ⟨ee, h1, h2, h3, h4⟩ | ⟨lo, hi, n, h1, h2, h3, h4⟩
 ·exact ⟨0, ee, h1, .inl ⟨h2, rfl, h3⟩, h4⟩
 ·exact ⟨_, 0, h1, .inr ⟨rfl, lo, hi, n, rfl, h2, h3⟩, h4⟩
end Go.Proofs.Ythofngceiecniaa
/- mix.copied. -/
namespace Go.Proofs.Ythofngceiecniaa
open Go.RowKit

def Apart (A B : Option Addr) : Prop := ∀ a b, A = some a → B = some b → a.block ≠ b.block
/-- Mixed water whose three slices the call owns, apart from each other. -/
structure MixOwn (w : World) (base : Nat) (A1 : Option Addr) (nv c1 : Nat) (A2 : Option Addr) (na c2 : Nat) (A3 : Option Addr) (nt c3 : Nat) (m : Mix) : Prop where
 v : Own w base 80 2 A1 nv c1 (m.vessels.flatMap Vess.vals)
 a : Own w base 67 4 A2 na c2 (m.acts.flatMap MAct.vals)
 t : Own w base 65 6 A3 nt c3 (m.tastes.flatMap Tast.vals)
 va : Apart A1 A2
 vt : Apart A1 A3
 at_ : Apart A2 A3
end Go.Proofs.Ythofngceiecniaa
/- Words for mixed water that is changed. -/
namespace Go.Proofs.Ythofngceiecniaa
open Go.RowKit

section
variable {w W W' : World} {base : Nat} {A1 A2 A3 : Option Addr} {nv c1 na c2 nt c3 : Nat} {m : Mix}
theorem MixOwn.s (h : MixOwn W base A1 nv c1 A2 na c2 A3 nt c3 m) (hv : nv ≤ 1000) (ha : na ≤ 1000) (ht : nt ≤ 1000) : MixS W A1 nv A2 na A3 nt m := ⟨⟨h.v.reads (Nat.le_refl _), h.a.reads (Nat.le_refl _), h.t.reads (Nat.le_refl _)⟩, hv, ha, ht⟩
theorem MixOwn.below (h : MixOwn W base A1 nv c1 A2 na c2 A3 nt c3 m) (hb : Below W.heap.size W W') : MixOwn W' base A1 nv c1 A2 na c2 A3 nt c3 m := ⟨h.v.below hb (Nat.le_refl _), h.a.below hb (Nat.le_refl _), h.t.below hb (Nat.le_refl _), h.va, h.vt, h.at_⟩
theorem MixOwn.mono (h : MixOwn W base A1 nv c1 A2 na c2 A3 nt c3 m) {b' : Nat} (hb : b' ≤ base) : MixOwn W b' A1 nv c1 A2 na c2 A3 nt c3 m := ⟨h.v.mono hb, h.a.mono hb, h.t.mono hb, h.va, h.vt, h.at_⟩
theorem own_off {e : TypeId} {size n cap g : Nat} {A : Option Addr} {xs : List Value} (h : Own W base e size A n cap xs) (hg : W.grownBy W' (some g)) (hlt : g < base) : Own W' base e size A n cap xs := h.grown hg (fun a ha e => by have := (h.lt ha).1; have := Option.some.inj e; omega)
theorem MixOwn.off {g : Nat} (h : MixOwn W base A1 nv c1 A2 na c2 A3 nt c3 m) (hg : W.grownBy W' (some g)) (hlt : g < base) : MixOwn W' base A1 nv c1 A2 na c2 A3 nt c3 m := ⟨own_off h.v hg hlt, own_off h.a hg hlt, own_off h.t hg hlt, h.va, h.vt, h.at_⟩
theorem MixOwn.nothing (W : World) (base : Nat) : MixOwn W base none 0 0 none 0 0 none 0 0 zeroMix := ⟨Own.none_ _ _ _ _, Own.none_ _ _ _ _, Own.none_ _ _ _ _, fun a b h => (by cases h), fun a b h => (by cases h), fun a b h => (by cases h)⟩
theorem apart_row {A B : Option Addr} (h : Apart A B) : ∀ a, A = some a → some a.block ≠ B.map (·.block) := by
 intro a ha e
 cases hB : B with
 | none => rw [hB] at e; cases e
 | some b => rw [hB] at e; exact h a b ha hB (Option.some.inj e)
theorem apart_grow {B A9 : Option Addr} {A : Option Addr} {e : TypeId} {size n cap : Nat} {xs : List Value} (h : Apart A B) (ho : Own W base e size A n cap xs) (hA : A9 = B ∨ A9 = some ⟨W.heap.size, 0, none⟩) : Apart A A9 := by
 intro a b ha hb
 rcases hA with e1 | e1
 ·exact h a b ha (e1 ▸ hb)
 ·rw [e1] at hb
  cases hb
  have := (ho.lt ha).2
  dsimp only
  omega
theorem Apart.symm {A B : Option Addr} (h : Apart A B) : Apart B A := fun a b ha hb e => h b a hb ha e.symm
/-- The acts grown. -/
theorem MixOwn.acts {A9 : Option Addr} {c9 : Nat} {x : MAct} (h : MixOwn W base A1 nv c1 A2 na c2 A3 nt c3 m) (hg : W.grownBy W' (A2.map (·.block))) (ho : Own W' base 67 4 A9 (na + 1) c9 (m.acts.flatMap MAct.vals ++ x.vals)) (hA : A9 = A2 ∨ A9 = some ⟨W.heap.size, 0, none⟩) :
  MixOwn W' base A1 nv c1 A9 (na + 1) c9 A3 nt c3 (withA m (m.acts ++ [x])) := by
 refine ⟨h.v.grown hg (apart_row h.va), ?_, h.t.grown hg (apart_row h.at_.symm), apart_grow h.va h.v hA, h.vt, (apart_grow h.at_.symm h.t hA).symm⟩
 show Own W' base _ 4 A9 (na + 1) c9 ((m.acts ++ [x]).flatMap MAct.vals)
 rw [List.flatMap_append]
 simpa using ho
end
end Go.Proofs.Ythofngceiecniaa
/- The insertion sort of tastes, all but the last of which rise: the last goes to its place (behind its equals). -/
namespace Go.Proofs.Ythofngceiecniaa
open Go.RowKit

instance : Inhabited Tast := ⟨⟨0, 0, 0, 0, 0, 0⟩⟩
end Go.Proofs.Ythofngceiecniaa
/- Words for the answer's changes. -/
namespace Go.Proofs.Ythofngceiecniaa
open Go.RowKit

section
variable {w W W' : World} {base : Nat} {A1 A2 A3 : Option Addr} {nv c1 na c2 nt c3 : Nat} {m : Mix}
theorem MixNew.below (h : MixNew W base A1 nv c1 A2 na c2 A3 nt c3 m) (hb : Below W.heap.size W W') : MixNew W' base A1 nv c1 A2 na c2 A3 nt c3 m := ⟨h.v.below hb (Nat.le_refl _), h.a.below hb (Nat.le_refl _), h.t.below hb (Nat.le_refl _)⟩
theorem MixNew.mono {b' : Nat} (h : MixNew W base A1 nv c1 A2 na c2 A3 nt c3 m) (hb : b' ≤ base) : MixNew W b' A1 nv c1 A2 na c2 A3 nt c3 m := ⟨h.v.mono hb, h.a.mono hb, h.t.mono hb⟩
theorem MixNew.off {g : Nat} (h : MixNew W base A1 nv c1 A2 na c2 A3 nt c3 m) (hg : W.grownBy W' (some g)) (hlt : g < base) : MixNew W' base A1 nv c1 A2 na c2 A3 nt c3 m := ⟨own_off h.v hg hlt, own_off h.a hg hlt, own_off h.t hg hlt⟩
theorem MixNew.s (h : MixNew W base A1 nv c1 A2 na c2 A3 nt c3 m) (hv : nv ≤ 1000) (ha : na ≤ 1000) (ht : nt ≤ 1000) : MixS W A1 nv A2 na A3 nt m := ⟨⟨h.v.reads (Nat.le_refl _), h.a.reads (Nat.le_refl _), h.t.reads (Nat.le_refl _)⟩, hv, ha, ht⟩
theorem MixNew.acts {A9 : Option Addr} {n9 c9 b9 : Nat} {l : List MAct} (h : MixNew W base A1 nv c1 A2 na c2 A3 nt c3 m) (hb : Below W.heap.size W W') (ho : Own W' b9 67 4 A9 n9 c9 (l.flatMap MAct.vals)) (h9 : base ≤ b9) : MixNew W' base A1 nv c1 A9 n9 c9 A3 nt c3 (withA m l) := ⟨(h.below hb).v, ho.mono h9, (h.below hb).t⟩
theorem MixS.nothing (W : World) : MixS W none 0 none 0 none 0 zeroMix := ⟨⟨Reads.none_, Reads.none_, Reads.none_⟩, by omega, by omega, by omega⟩
end
end Go.Proofs.Ythofngceiecniaa
/- Words for Mix' laws. -/
namespace Go.Proofs.Ythofngceiecniaa
open Go.RowKit

theorem greatB_false {nv na nt : Nat} (h : greatB nv na nt = false) : nv ≤ 8 ∧ na ≤ 24 ∧ nt ≤ 16 := by
 unfold greatB at h
 simp at h
 omega
def LawOut (w : World) (e : Ending) (w' : World) : Prop := e = .returned (.bool true) ∧ Below w.heap.size w w'
end Go.Proofs.Ythofngceiecniaa
/- aguadorlaw04.MixTells. -/
namespace Go.Proofs.Ythofngceiecniaa
open Go.RowKit

set_option maxRecDepth 100000 in
set_option maxHeartbeats 16000000 in
theorem mtells_in (Av : Option Addr) (nv cv : Nat) (Aa : Option Addr) (na ca : Nat) (At : Option Addr) (nt ct : Nat) (m : Mix) (vessel after fountain : Int) (w : World) (h : MixAt w w.heap.size Av nv Aa na At nt m) :
  CallsIn Fence.wide 9 Try.prog 4 #[.agg #[.int .i64 m.fountains, .slice Av nv cv, .slice Aa na ca, .slice At nt ct], .int .i64 vessel, .int .i64 after, .int .i64 fountain] w (LawOut w) := by
 refine callsIn_of_wp Try.func4 rfl trivial ?_ rfl
 simp only [Try.ntmps4, List.size_toArray, List.length_cons, List.length_nil, Nat.reduceAdd, Nat.reduceSub, Array.replicate_succ, Array.replicate_zero, List.push_toArray, List.append_toArray, List.nil_append, List.cons_append]
 gi_upto_region 1 with fail
 have HLay := Lib.hid (Lay.one w 26 #[.int .i64 m.fountains, .slice Av nv cv, .slice Aa na ca, .slice At nt ct])
 generalize (w.alloc (.cells #[.int .i64 m.fountains, .slice Av nv cv, .slice Aa na ca, .slice At nt ct] 26)) = w0 at *
 have x0_0 := (HLay.out.blk 0 rfl).cell 0
 have x0_1 := (HLay.out.blk 0 rfl).cell 1
 have x0_2 := (HLay.out.blk 0 rfl).cell 2
 have x0_3 := (HLay.out.blk 0 rfl).cell 3
 have l0_ := HLay.out.lt 0 rfl
 gi_wp2
 clear x0_0 x0_1 x0_2 x0_3 l0_
 refine ⟨trivial, (callsIn_wide.2 (great_any m.fountains Av nv cv Aa na ca At nt ct w0)).mono ?_⟩
 rintro e W1 ⟨rfl, hb⟩
 replace HLay := Lib.hid (HLay.out.below hb)
 clear hb
 cases hg : greatB nv na nt with
 | true =>
  gi_wp2
  refine bodyPost_ret (v := .bool true) (by simp [results, Try.results4, go_sem]) rfl ?_
  exact ⟨rfl, HLay.out.1⟩
 | false =>
  have hsm := greatB_false hg
  have hsx : MixS w Av nv Aa na At nt m := ⟨h, by omega, by omega, by omega⟩
  have HM := Lib.hid hsx
  have HSM := Lib.hid hsm
  clear hg h hsx hsm
  have x0_0 := (HLay.out.blk 0 rfl).cell 0
  have x0_1 := (HLay.out.blk 0 rfl).cell 1
  have x0_2 := (HLay.out.blk 0 rfl).cell 2
  have x0_3 := (HLay.out.blk 0 rfl).cell 3
  have l0_ := HLay.out.lt 0 rfl
  gi_wp2
  clear x0_0 x0_1 x0_2 x0_3 l0_
  refine ⟨trivial, (callsIn_wide.2 (callsIn_wide.1 (twin_in Av nv cv Aa na ca At nt ct m W1 (HM.out.up HLay.out.1)))).mono ?_⟩
  rintro e W2 ⟨A1, c1, A2, c2, A3, c3, rfl, hmo, hb⟩
  replace HLay := Lib.hid (HLay.out.below hb)
  clear hb
  have HTW := Lib.hid hmo
  clear hmo
  gi_upto_region 4 with fail
  obtain ⟨V3, hV⟩ : ∃ V, (W2.alloc (.cells #[.int .i64 m.fountains, .slice A1 nv c1, .slice A2 na c2, .slice A3 nt c3] 26)) = V := ⟨_, rfl⟩
  rw [hV]
  have hb := fbox_bel hV
  have hnew := fbox_blk hV
  have hge := HLay.out.bel.size
  replace HLay := Lib.hid (HLay.out.below hb)
  replace HTW := Lib.hid (HTW.out.below hb)
  replace HLay := Lib.hid (HLay.out.add hge hnew)
  clear hnew hge hb hV
  obtain ⟨G4, hG⟩ : ∃ g, W2.heap.size = g := ⟨_, rfl⟩
  rw [hG] at HLay ⊢
  clear hG
  have x1_0 := (HLay.out.blk 1 rfl).cell 0
  have x1_1 := (HLay.out.blk 1 rfl).cell 1
  have x1_2 := (HLay.out.blk 1 rfl).cell 2
  have x1_3 := (HLay.out.blk 1 rfl).cell 3
  have l1_ := HLay.out.lt 1 rfl
  gi_wp2
  clear x1_0 x1_1 x1_2 x1_3 l1_
  refine ⟨trivial, (callsIn_wide.2 (callsIn_wide.1 (holds_in A1 nv c1 A2 na c2 A3 nt c3 m vessel after V3 (HTW.out.s (by have := HSM.out; omega) (by have := HSM.out; omega) (by have := HSM.out; omega))))).mono ?_⟩
  rintro e W5 ⟨n, en, rfl, hma, hb⟩
  replace HLay := Lib.hid (HLay.out.below hb)
  replace HTW := Lib.hid (HTW.out.below hb)
  clear hb
  have HMA := Lib.hid hma
  clear hma
  have x0_0 := (HLay.out.blk 0 rfl).cell 0
  have x0_1 := (HLay.out.blk 0 rfl).cell 1
  have x0_2 := (HLay.out.blk 0 rfl).cell 2
  have x0_3 := (HLay.out.blk 0 rfl).cell 3
  have l0_ := HLay.out.lt 0 rfl
  gi_wp2
  clear x0_0 x0_1 x0_2 x0_3 l0_
  refine ⟨trivial, (callsIn_wide.2 (callsIn_wide.1 (rholds_in Av nv cv Aa na ca At nt ct m vessel after W5 (HM.out.up HLay.out.1)))).mono ?_⟩
  rintro e W6 ⟨n9, en9, rfl, hma9, hb⟩
  replace HLay := Lib.hid (HLay.out.below hb)
  replace HTW := Lib.hid (HTW.out.below hb)
  clear hb
  obtain ⟨rfl, rfl⟩ := HoldsIs.same hma9 HMA.out
  clear hma9 HMA
  have x1_0 := (HLay.out.blk 1 rfl).cell 0
  have x1_1 := (HLay.out.blk 1 rfl).cell 1
  have x1_2 := (HLay.out.blk 1 rfl).cell 2
  have x1_3 := (HLay.out.blk 1 rfl).cell 3
  have l1_ := HLay.out.lt 1 rfl
  gi_wp2
  clear x1_0 x1_1 x1_2 x1_3 l1_
  refine ⟨trivial, (callsIn_wide.2 (callsIn_wide.1 (of_any A1 nv c1 A2 na c2 A3 nt c3 m vessel after fountain W6 (HTW.out.s (by have := HSM.out; omega) (by have := HSM.out; omega) (by have := HSM.out; omega))))).mono ?_⟩
  rintro e W7 ⟨lo, hi, ea, rfl, hma, hb⟩
  replace HLay := Lib.hid (HLay.out.below hb)
  replace HTW := Lib.hid (HTW.out.below hb)
  clear hb
  have HMA := Lib.hid hma
  clear hma
  gi_upto_region 7 with fail
  obtain ⟨V8, hV⟩ : ∃ V, (W7.alloc (.cells #[.int .i64 lo, .int .i64 hi] 30)) = V := ⟨_, rfl⟩
  rw [hV]
  have hb := fbox_bel hV
  have hnew := fbox_blk hV
  have hge := HLay.out.bel.size
  replace HLay := Lib.hid (HLay.out.below hb)
  replace HTW := Lib.hid (HTW.out.below hb)
  replace HLay := Lib.hid (HLay.out.add hge hnew)
  clear hnew hge hb hV
  obtain ⟨G9, hG⟩ : ∃ g, W7.heap.size = g := ⟨_, rfl⟩
  rw [hG] at HLay ⊢
  clear hG
  replace HLay := Lib.hid (show Lay w V8 [(w.heap.size, 26, #[.int .i64 m.fountains, .slice Av nv cv, .slice Aa na ca, .slice At nt ct]), (G4, 26, #[.int .i64 m.fountains, .slice A1 nv c1, .slice A2 na c2, .slice A3 nt c3]), (G9, 30, #[.int .i64 lo, .int .i64 hi])] from HLay.out)
  have x0_0 := (HLay.out.blk 0 rfl).cell 0
  have x0_1 := (HLay.out.blk 0 rfl).cell 1
  have x0_2 := (HLay.out.blk 0 rfl).cell 2
  have x0_3 := (HLay.out.blk 0 rfl).cell 3
  have l0_ := HLay.out.lt 0 rfl
  gi_wp2
  clear x0_0 x0_1 x0_2 x0_3 l0_
  refine ⟨trivial, (callsIn_wide.2 (callsIn_wide.1 (rof_in Av nv cv Aa na ca At nt ct m vessel after fountain V8 (HM.out.up HLay.out.1)))).mono ?_⟩
  rintro e W10 ⟨lo9, hi9, ea9, rfl, hma9, hb⟩
  replace HLay := Lib.hid (HLay.out.below hb)
  replace HTW := Lib.hid (HTW.out.below hb)
  clear hb
  obtain ⟨e1, rfl⟩ := OfIs.same hma9 HMA.out
  obtain ⟨rfl, rfl⟩ : lo9 = lo ∧ hi9 = hi := ⟨congrArg Prod.fst e1, congrArg Prod.snd e1⟩
  have HOF := Lib.hid hma9
  clear e1 hma9 HMA
  gi_upto_region 8 with fail
  obtain ⟨V11, hV⟩ : ∃ V, (W10.alloc (.cells #[.int .i64 lo9, .int .i64 hi9] 30)) = V := ⟨_, rfl⟩
  rw [hV]
  have hb := fbox_bel hV
  have hnew := fbox_blk hV
  have hge := HLay.out.bel.size
  replace HLay := Lib.hid (HLay.out.below hb)
  replace HTW := Lib.hid (HTW.out.below hb)
  replace HLay := Lib.hid (HLay.out.add hge hnew)
  clear hnew hge hb hV
  obtain ⟨G12, hG⟩ : ∃ g, W10.heap.size = g := ⟨_, rfl⟩
  rw [hG] at HLay ⊢
  clear hG
  replace HLay := Lib.hid (show Lay w V11 [(w.heap.size, 26, #[.int .i64 m.fountains, .slice Av nv cv, .slice Aa na ca, .slice At nt ct]), (G4, 26, #[.int .i64 m.fountains, .slice A1 nv c1, .slice A2 na c2, .slice A3 nt c3]), (G9, 30, #[.int .i64 lo9, .int .i64 hi9]), (G12, 30, #[.int .i64 lo9, .int .i64 hi9])] from HLay.out)
  refine wpIn_flow_old [([true, false, true], 1), ([], 3)] [false, false, false, false, true, true, true, true, true, true, true, true, true, true, true, true, true, true, true, true, true, true, true, true, true] [] (by kernel_rfl) (by kernel_rfl) (by kernel_rfl) (below_drewN (Below.refl _ _) 1) ?_
  refine wpFlow_cons (A := ?AF1) rfl ?hq1 ?_
  case hq1 =>
   rintro σ hσ of hof hcl
   have HOF := Lib.hid hof
   have HCL := Lib.hid hcl
   clear hof hcl
   have c0_ : ∀ z, (of z).cell? ⟨w.heap.size, 0, none⟩ = some (.int .i64 m.fountains) := fun z => ((HLay.out.below (HOF.out z)).blk 0 rfl).cell 0
   have c1_ : ∀ z, (of z).cell? ⟨w.heap.size, 1, none⟩ = some (.slice Av nv cv) := fun z => ((HLay.out.below (HOF.out z)).blk 0 rfl).cell 1
   have c2_ : ∀ z, (of z).cell? ⟨w.heap.size, 2, none⟩ = some (.slice Aa na ca) := fun z => ((HLay.out.below (HOF.out z)).blk 0 rfl).cell 2
   have c3_ : ∀ z, (of z).cell? ⟨w.heap.size, 3, none⟩ = some (.slice At nt ct) := fun z => ((HLay.out.below (HOF.out z)).blk 0 rfl).cell 3
   have c4_ : ∀ z, (of z).cell? ⟨G4, 0, none⟩ = some (.int .i64 m.fountains) := fun z => ((HLay.out.below (HOF.out z)).blk 1 rfl).cell 0
   have c5_ : ∀ z, (of z).cell? ⟨G4, 1, none⟩ = some (.slice A1 nv c1) := fun z => ((HLay.out.below (HOF.out z)).blk 1 rfl).cell 1
   have c6_ : ∀ z, (of z).cell? ⟨G4, 2, none⟩ = some (.slice A2 na c2) := fun z => ((HLay.out.below (HOF.out z)).blk 1 rfl).cell 2
   have c7_ : ∀ z, (of z).cell? ⟨G4, 3, none⟩ = some (.slice A3 nt c3) := fun z => ((HLay.out.below (HOF.out z)).blk 1 rfl).cell 3
   have c8_ : ∀ z, (of z).cell? ⟨G9, 0, none⟩ = some (.int .i64 lo9) := fun z => ((HLay.out.below (HOF.out z)).blk 2 rfl).cell 0
   have c9_ : ∀ z, (of z).cell? ⟨G9, 1, none⟩ = some (.int .i64 hi9) := fun z => ((HLay.out.below (HOF.out z)).blk 2 rfl).cell 1
   have c10_ : ∀ z, (of z).cell? ⟨G12, 0, none⟩ = some (.int .i64 lo9) := fun z => ((HLay.out.below (HOF.out z)).blk 3 rfl).cell 0
   have c11_ : ∀ z, (of z).cell? ⟨G12, 1, none⟩ = some (.int .i64 hi9) := fun z => ((HLay.out.below (HOF.out z)).blk 3 rfl).cell 1
   have hfw : ∀ f, Fence.wide.fn f := fun _ => trivial
   simp only [pickB]
   iterate 2 (gi_big_quiet_step (fail))
   refine wpQuietIn_nil ?_
   exact rfl
  intro W13 hW
  replace HLay := Lib.hid (HLay.out.below hW)
  replace HTW := Lib.hid (HTW.out.below hW)
  clear hW
  gi_wp2
  refine ⟨trivial, (callsIn_wide.2 (check_any A1 nv c1 A2 na c2 A3 nt c3 m W13 (HTW.out.s (by have := HSM.out; omega) (by have := HSM.out; omega) (by have := HSM.out; omega)))).mono ?_⟩
  rintro e W14 ⟨rfl, hb⟩
  replace HLay := Lib.hid (HLay.out.below hb)
  replace HTW := Lib.hid (HTW.out.below hb)
  obtain ⟨ck, hck⟩ : ∃ ck, checkE m = ck := ⟨_, rfl⟩
  rw [hck]
  have HCK := Lib.hid hck
  clear hck
  gi_wp2
  refine ⟨trivial, hb, ?_⟩
  clear hb
  refine wpFlow_cons rfl Quietly.none ?_
  intro W15 hW
  replace HLay := Lib.hid (HLay.out.below hW)
  replace HTW := Lib.hid (HTW.out.below hW)
  clear hW
  gi_wp2
  refine ⟨trivial, (callsIn_wide.2 (callsIn_wide.1 (rcheck_in Av nv cv Aa na ca At nt ct m W15 (HM.out.up HLay.out.1)))).mono ?_⟩
  rintro e W16 ⟨rfl, hb⟩
  replace HLay := Lib.hid (HLay.out.below hb)
  replace HTW := Lib.hid (HTW.out.below hb)
  rw [HCK.out]
  gi_wp2
  refine ⟨trivial, hb, ?_⟩
  clear hb
  refine wpFlow_nil (A := ?AF2) ?hq2 ?_
  case hq2 =>
   rintro σ hσ of hof hcl
   have HOF := Lib.hid hof
   have HCL := Lib.hid hcl
   clear hof hcl
   have c0_ : ∀ z, (of z).cell? ⟨w.heap.size, 0, none⟩ = some (.int .i64 m.fountains) := fun z => ((HLay.out.below (HOF.out z)).blk 0 rfl).cell 0
   have c1_ : ∀ z, (of z).cell? ⟨w.heap.size, 1, none⟩ = some (.slice Av nv cv) := fun z => ((HLay.out.below (HOF.out z)).blk 0 rfl).cell 1
   have c2_ : ∀ z, (of z).cell? ⟨w.heap.size, 2, none⟩ = some (.slice Aa na ca) := fun z => ((HLay.out.below (HOF.out z)).blk 0 rfl).cell 2
   have c3_ : ∀ z, (of z).cell? ⟨w.heap.size, 3, none⟩ = some (.slice At nt ct) := fun z => ((HLay.out.below (HOF.out z)).blk 0 rfl).cell 3
   have c4_ : ∀ z, (of z).cell? ⟨G4, 0, none⟩ = some (.int .i64 m.fountains) := fun z => ((HLay.out.below (HOF.out z)).blk 1 rfl).cell 0
   have c5_ : ∀ z, (of z).cell? ⟨G4, 1, none⟩ = some (.slice A1 nv c1) := fun z => ((HLay.out.below (HOF.out z)).blk 1 rfl).cell 1
   have c6_ : ∀ z, (of z).cell? ⟨G4, 2, none⟩ = some (.slice A2 na c2) := fun z => ((HLay.out.below (HOF.out z)).blk 1 rfl).cell 2
   have c7_ : ∀ z, (of z).cell? ⟨G4, 3, none⟩ = some (.slice A3 nt c3) := fun z => ((HLay.out.below (HOF.out z)).blk 1 rfl).cell 3
   have c8_ : ∀ z, (of z).cell? ⟨G9, 0, none⟩ = some (.int .i64 lo9) := fun z => ((HLay.out.below (HOF.out z)).blk 2 rfl).cell 0
   have c9_ : ∀ z, (of z).cell? ⟨G9, 1, none⟩ = some (.int .i64 hi9) := fun z => ((HLay.out.below (HOF.out z)).blk 2 rfl).cell 1
   have c10_ : ∀ z, (of z).cell? ⟨G12, 0, none⟩ = some (.int .i64 lo9) := fun z => ((HLay.out.below (HOF.out z)).blk 3 rfl).cell 0
   have c11_ : ∀ z, (of z).cell? ⟨G12, 1, none⟩ = some (.int .i64 hi9) := fun z => ((HLay.out.below (HOF.out z)).blk 3 rfl).cell 1
   have hfw : ∀ f, Fence.wide.fn f := fun _ => trivial
   simp only [pickB]
   iterate 21 (gi_big_quiet_step (fail))
   refine wpQuietIn_nil ?_
   exact rfl
  intro W17 hW
  replace HLay := Lib.hid (HLay.out.below hW)
  replace HTW := Lib.hid (HTW.out.below hW)
  clear hW
  simp only [pickB]
  refine wpT_nil ?_
  have x1_0 := (HLay.out.blk 1 rfl).cell 0
  have x1_1 := (HLay.out.blk 1 rfl).cell 1
  have x1_2 := (HLay.out.blk 1 rfl).cell 2
  have x1_3 := (HLay.out.blk 1 rfl).cell 3
  have l1_ := HLay.out.lt 1 rfl
  gi_wp2
  clear x1_0 x1_1 x1_2 x1_3 l1_
  refine ⟨trivial, (callsIn_wide.2 (callsIn_wide.1 (known_any A1 nv c1 A2 na c2 A3 nt c3 m vessel after fountain W17 (HTW.out.s (by have := HSM.out; omega) (by have := HSM.out; omega) (by have := HSM.out; omega))))).mono ?_⟩
  rintro e W18 ⟨lo, hi, eb, rfl, hma, hb⟩
  replace HLay := Lib.hid (HLay.out.below hb)
  replace HTW := Lib.hid (HTW.out.below hb)
  clear hb
  obtain ⟨e1, rfl⟩ := OfIs.same hma HOF.out
  obtain ⟨rfl, rfl⟩ : lo = lo9 ∧ hi = hi9 := ⟨congrArg Prod.fst e1, congrArg Prod.snd e1⟩
  clear e1 hma
  obtain ⟨kn, hkn⟩ : ∃ k, judgeI (decide (0 < lo)) (decide (0 < hi)) = k := ⟨_, rfl⟩
  rw [hkn]
  have HKN := Lib.hid hkn
  clear hkn
  have x0_0 := (HLay.out.blk 0 rfl).cell 0
  have x0_1 := (HLay.out.blk 0 rfl).cell 1
  have x0_2 := (HLay.out.blk 0 rfl).cell 2
  have x0_3 := (HLay.out.blk 0 rfl).cell 3
  have l0_ := HLay.out.lt 0 rfl
  gi_wp2
  clear x0_0 x0_1 x0_2 x0_3 l0_
  refine ⟨trivial, (callsIn_wide.2 (callsIn_wide.1 (rknown_in Av nv cv Aa na ca At nt ct m vessel after fountain W18 (HM.out.up HLay.out.1)))).mono ?_⟩
  rintro e W19 ⟨lo8, hi8, eb8, rfl, hma, hb⟩
  replace HLay := Lib.hid (HLay.out.below hb)
  replace HTW := Lib.hid (HTW.out.below hb)
  clear hb
  obtain ⟨e1, rfl⟩ := OfIs.same HOF.out hma
  obtain ⟨rfl, rfl⟩ : lo = lo8 ∧ hi = hi8 := ⟨congrArg Prod.fst e1, congrArg Prod.snd e1⟩
  clear e1 hma
  rw [HKN.out]
  have x1_0 := (HLay.out.blk 1 rfl).cell 0
  have x1_1 := (HLay.out.blk 1 rfl).cell 1
  have x1_2 := (HLay.out.blk 1 rfl).cell 2
  have x1_3 := (HLay.out.blk 1 rfl).cell 3
  have l1_ := HLay.out.lt 1 rfl
  gi_wp2
  clear x1_0 x1_1 x1_2 x1_3 l1_
  refine ⟨trivial, (callsIn_wide.2 (callsIn_wide.1 ((pure_any A1 nv c1 A2 na c2 A3 nt c3 m vessel after fountain W19 (HTW.out.s (by have := HSM.out; omega) (by have := HSM.out; omega) (by have := HSM.out; omega))).mono fun _ _ h => pure_form h))).mono ?_⟩
  rintro e W20 ⟨kp, ep, rfl, hpu, hb⟩
  replace HLay := Lib.hid (HLay.out.below hb)
  replace HTW := Lib.hid (HTW.out.below hb)
  clear hb
  have HPU := Lib.hid hpu
  clear hpu
  have x0_0 := (HLay.out.blk 0 rfl).cell 0
  have x0_1 := (HLay.out.blk 0 rfl).cell 1
  have x0_2 := (HLay.out.blk 0 rfl).cell 2
  have x0_3 := (HLay.out.blk 0 rfl).cell 3
  have l0_ := HLay.out.lt 0 rfl
  gi_wp2
  clear x0_0 x0_1 x0_2 x0_3 l0_
  refine ⟨trivial, (callsIn_wide.2 (callsIn_wide.1 ((rpure_in Av nv cv Aa na ca At nt ct m vessel after fountain W20 (HM.out.up HLay.out.1)).mono fun _ _ h => pure_form h))).mono ?_⟩
  rintro e W21 ⟨kq, eq, rfl, hpv, hb⟩
  replace HLay := Lib.hid (HLay.out.below hb)
  replace HTW := Lib.hid (HTW.out.below hb)
  clear hb
  obtain ⟨rfl, rfl⟩ := PureIs.same hpv HPU.out
  clear hpv HPU
  have x0_0 := (HLay.out.blk 0 rfl).cell 0
  have x0_1 := (HLay.out.blk 0 rfl).cell 1
  have x0_2 := (HLay.out.blk 0 rfl).cell 2
  have x0_3 := (HLay.out.blk 0 rfl).cell 3
  have l0_ := HLay.out.lt 0 rfl
  have x1_0 := (HLay.out.blk 1 rfl).cell 0
  have x1_1 := (HLay.out.blk 1 rfl).cell 1
  have x1_2 := (HLay.out.blk 1 rfl).cell 2
  have x1_3 := (HLay.out.blk 1 rfl).cell 3
  have l1_ := HLay.out.lt 1 rfl
  gi_wp2
  clear x0_0 x0_1 x0_2 x0_3 l0_ x1_0 x1_1 x1_2 x1_3 l1_
  refine ⟨trivial, (callsIn_wide.2 (same_true A1 nv c1 A2 na c2 A3 nt c3 Av cv Aa ca At ct m W21 (HTW.out.s (by have := HSM.out; omega) (by have := HSM.out; omega) (by have := HSM.out; omega)) (HM.out.up HLay.out.1))).mono ?_⟩
  rintro e W22 ⟨rfl, hb⟩
  replace HLay := Lib.hid (HLay.out.below hb)
  replace HTW := Lib.hid (HTW.out.below hb)
  clear hb
  gi_wp2
  refine bodyPost_ret (v := .bool true) (by simp [results, Try.results4, go_sem]) rfl ?_
  exact ⟨rfl, HLay.out.1⟩

end Go.Proofs.Ythofngceiecniaa
/- The arguments of Mix' laws, opened: mixed water, a taste, an act, whole numbers. -/
namespace Go.Proofs.Ythofngceiecniaa
open Go.ChangeShapes Go.WideShapes Go.RowKit Go.Deep Go.Joins
set_option maxRecDepth 100000

theorem flatg_len {α : Type} {vals : α → List Value} {sz : Nat} (hk : ∀ x, (vals x).length = sz) : ∀ l : List α, (l.flatMap vals).length = l.length * sz
 | [] => by simp
 | x :: l => by rw [List.flatMap_cons, List.length_append, hk, flatg_len hk l, List.length_cons, Nat.succ_mul]; omega
theorem flatg_at {α : Type} {vals : α → List Value} {sz : Nat} (hk : ∀ x, (vals x).length = sz) : ∀ {l : List α} {i j : Nat} {x : α}, l[i]? = some x → j < sz → (l.flatMap vals)[i * sz + j]? = (vals x)[j]?
 | [], i, j, x, h, _ => by simp at h
 | y :: l, 0, j, x, h, hj => by
  have : y = x := by simpa using h
  subst this
  rw [List.flatMap_cons, Nat.zero_mul, Nat.zero_add, List.getElem?_append_left (by rw [hk]; exact hj)]
 | y :: l, i + 1, j, x, h, hj => by
  rw [List.flatMap_cons, List.getElem?_append_right (by rw [hk, Nat.succ_mul]; omega), hk, show (i + 1) * sz + j - sz = i * sz + j by rw [Nat.succ_mul]; omega]
  exact flatg_at hk (by simpa using h) hj
section
variable {H : Type} {enc : TypeId × Value → H} {w : World}
theorem cellsInt1 : Try.prog.cellsOf 3 = 1 := by kernel_rfl
theorem cellsMix4 : Try.prog.cellsOf 26 = 4 := by kernel_rfl

theorem vessUnd : ∃ f0 f1, Try.prog.underlying 80 = some (.struct #[f0, f1]) ∧ f0.type = 3 ∧ f1.type = 3 ∧ f0.offset = 0 ∧ f1.offset = 1 :=
 ⟨_, _, Try.underlying80, rfl, rfl, rfl, rfl⟩
theorem cellsVess : Try.prog.cellsOf 80 = 2 := by kernel_rfl
theorem vess_cells {fuel : Nat} {cs : List Value} {x : DataW H × List MemPlace} (h : DataW.trod enc Try.prog w 0 (fun _ => true) true fuel 80 cs = some x) (hl : cs.length = 2) : ∃ l : Vess, cs = l.vals := by
 obtain ⟨f0, f1, hu, t0, t1, z0, z1⟩ := vessUnd
 obtain ⟨xs, n, _, _, _, hlen, hg⟩ := DataW.trod_struct hu h
 match cs, hl, xs, hlen with
 | [c0, c1], _, [y0, y1], _ =>
  have h0 : DataW.trod enc Try.prog w 0 (fun _ => true) true n 3 [c0] = some y0 := by simpa [t0, z0, cellsInt1] using hg 0 f0 rfl
  have h1 : DataW.trod enc Try.prog w 0 (fun _ => true) true n 3 [c1] = some y1 := by simpa [t1, z1, cellsInt1] using hg 1 f1 rfl
  obtain ⟨n0, e0, _, _⟩ := DataW.trod_int Try.underlying3 h0
  obtain ⟨n1, e1, _, _⟩ := DataW.trod_int Try.underlying3 h1
  simp only [List.cons.injEq, and_true] at e0 e1
  subst e0 e1
  exact ⟨⟨n0, n1⟩, rfl⟩
theorem vesss_open {v : Value} {fuel : Nat} {x : DataW H × List MemPlace} (h : DataW.trod enc Try.prog w 0 (fun _ => true) true fuel 22 [v] = some x) :
  ∃ A n c, ∃ l : List Vess, v = .slice A n c ∧ n ≤ c ∧ n ≤ maxLen ∧ c ≤ maxLen ∧ Reads w w.heap.size 2 A n (l.flatMap Vess.vals) := by
 rcases open_slice Try.underlying22 h with ⟨e, _⟩ | ⟨a, len, cap, m, k, D, Pl, e, _, hl, hm, hmm, _, hx⟩
 ·simp only [List.cons.injEq, and_true] at e
  exact ⟨none, 0, 0, [], e, Nat.le_refl _, Nat.zero_le _, Nat.zero_le _, Reads.none_⟩
 ·simp only [List.cons.injEq, and_true] at e
  have hmc : m = cap := by simpa using hmm
  subst hmc
  have hn : ∀ i, i < m → ∃ z : Vess, ∀ j, j < 2 → w.cell? (a.add (i * 2 + j)) = z.vals[j]? := fun i hi => by
   obtain ⟨cs', h1, h2⟩ := hx i hi
   rw [cellsVess] at h1
   obtain ⟨_, hcl, hat⟩ := World.cells?_some h1
   obtain ⟨z, rfl⟩ := vess_cells h2 hcl
   exact ⟨z, fun j hj => by rw [← Go.Deep.add_add, hat j hj]⟩
  letI : Inhabited Vess := ⟨⟨0, 0⟩⟩
  obtain ⟨Z, hZ⟩ := choose_lt hn
  refine ⟨some a, len, m, (List.range len).map Z, e, hl, by omega, hm, by rw [flatg_len vess_k]; simp, fun h0 => ⟨a, rfl, ?_, fun j u hu => ?_⟩⟩
  ·have := World.block_lt_of_cell? w _ (hZ 0 (by omega) 0 (by omega))
   rwa [block_of_add] at this
  ·have hj : j < len * 2 := by
    rcases Nat.lt_or_ge j (len * 2) with h' | h'
    ·exact h'
    ·rw [List.getElem?_eq_none (by rw [flatg_len vess_k]; simpa using h')] at hu; cases hu
   have hz := hZ (j / 2) (by omega) (j % 2) (by omega)
   have ha : ((List.range len).map Z)[j / 2]? = some (Z (j / 2)) := by rw [List.getElem?_map, List.getElem?_range (by omega)]; rfl
   have hf := flatg_at vess_k ha (show j % 2 < 2 by omega)
   rw [show j / 2 * 2 + j % 2 = j by omega] at hf hz
   rw [hz, ← hf, hu]
theorem mactUnd : ∃ f0 f1 f2 f3, Try.prog.underlying 67 = some (.struct #[f0, f1, f2, f3]) ∧ f0.type = 3 ∧ f1.type = 3 ∧ f2.type = 3 ∧ f3.type = 3 ∧ f0.offset = 0 ∧ f1.offset = 1 ∧ f2.offset = 2 ∧ f3.offset = 3 :=
 ⟨_, _, _, _, Try.underlying67, rfl, rfl, rfl, rfl, rfl, rfl, rfl, rfl⟩
theorem cellsMAct : Try.prog.cellsOf 67 = 4 := by kernel_rfl
theorem mact_cells {fuel : Nat} {cs : List Value} {x : DataW H × List MemPlace} (h : DataW.trod enc Try.prog w 0 (fun _ => true) true fuel 67 cs = some x) (hl : cs.length = 4) : ∃ l : MAct, cs = l.vals := by
 obtain ⟨f0, f1, f2, f3, hu, t0, t1, t2, t3, z0, z1, z2, z3⟩ := mactUnd
 obtain ⟨xs, n, _, _, _, hlen, hg⟩ := DataW.trod_struct hu h
 match cs, hl, xs, hlen with
 | [c0, c1, c2, c3], _, [y0, y1, y2, y3], _ =>
  have h0 : DataW.trod enc Try.prog w 0 (fun _ => true) true n 3 [c0] = some y0 := by simpa [t0, z0, cellsInt1] using hg 0 f0 rfl
  have h1 : DataW.trod enc Try.prog w 0 (fun _ => true) true n 3 [c1] = some y1 := by simpa [t1, z1, cellsInt1] using hg 1 f1 rfl
  have h2 : DataW.trod enc Try.prog w 0 (fun _ => true) true n 3 [c2] = some y2 := by simpa [t2, z2, cellsInt1] using hg 2 f2 rfl
  have h3 : DataW.trod enc Try.prog w 0 (fun _ => true) true n 3 [c3] = some y3 := by simpa [t3, z3, cellsInt1] using hg 3 f3 rfl
  obtain ⟨n0, e0, _, _⟩ := DataW.trod_int Try.underlying3 h0
  obtain ⟨n1, e1, _, _⟩ := DataW.trod_int Try.underlying3 h1
  obtain ⟨n2, e2, _, _⟩ := DataW.trod_int Try.underlying3 h2
  obtain ⟨n3, e3, _, _⟩ := DataW.trod_int Try.underlying3 h3
  simp only [List.cons.injEq, and_true] at e0 e1 e2 e3
  subst e0 e1 e2 e3
  exact ⟨⟨n0, n1, n2, n3⟩, rfl⟩
theorem macts_open {v : Value} {fuel : Nat} {x : DataW H × List MemPlace} (h : DataW.trod enc Try.prog w 0 (fun _ => true) true fuel 23 [v] = some x) :
  ∃ A n c, ∃ l : List MAct, v = .slice A n c ∧ n ≤ c ∧ n ≤ maxLen ∧ c ≤ maxLen ∧ Reads w w.heap.size 4 A n (l.flatMap MAct.vals) := by
 rcases open_slice Try.underlying23 h with ⟨e, _⟩ | ⟨a, len, cap, m, k, D, Pl, e, _, hl, hm, hmm, _, hx⟩
 ·simp only [List.cons.injEq, and_true] at e
  exact ⟨none, 0, 0, [], e, Nat.le_refl _, Nat.zero_le _, Nat.zero_le _, Reads.none_⟩
 ·simp only [List.cons.injEq, and_true] at e
  have hmc : m = cap := by simpa using hmm
  subst hmc
  have hn : ∀ i, i < m → ∃ z : MAct, ∀ j, j < 4 → w.cell? (a.add (i * 4 + j)) = z.vals[j]? := fun i hi => by
   obtain ⟨cs', h1, h2⟩ := hx i hi
   rw [cellsMAct] at h1
   obtain ⟨_, hcl, hat⟩ := World.cells?_some h1
   obtain ⟨z, rfl⟩ := mact_cells h2 hcl
   exact ⟨z, fun j hj => by rw [← Go.Deep.add_add, hat j hj]⟩
  letI : Inhabited MAct := ⟨⟨0, 0, 0, 0⟩⟩
  obtain ⟨Z, hZ⟩ := choose_lt hn
  refine ⟨some a, len, m, (List.range len).map Z, e, hl, by omega, hm, by rw [flatg_len act_k]; simp, fun h0 => ⟨a, rfl, ?_, fun j u hu => ?_⟩⟩
  ·have := World.block_lt_of_cell? w _ (hZ 0 (by omega) 0 (by omega))
   rwa [block_of_add] at this
  ·have hj : j < len * 4 := by
    rcases Nat.lt_or_ge j (len * 4) with h' | h'
    ·exact h'
    ·rw [List.getElem?_eq_none (by rw [flatg_len act_k]; simpa using h')] at hu; cases hu
   have hz := hZ (j / 4) (by omega) (j % 4) (by omega)
   have ha : ((List.range len).map Z)[j / 4]? = some (Z (j / 4)) := by rw [List.getElem?_map, List.getElem?_range (by omega)]; rfl
   have hf := flatg_at act_k ha (show j % 4 < 4 by omega)
   rw [show j / 4 * 4 + j % 4 = j by omega] at hf hz
   rw [hz, ← hf, hu]
theorem tastUnd : ∃ f0 f1 f2 f3 f4, Try.prog.underlying 65 = some (.struct #[f0, f1, f2, f3, f4]) ∧ f0.type = 3 ∧ f1.type = 3 ∧ f2.type = 3 ∧ f3.type = 3 ∧ f4.type = 30 ∧ f0.offset = 0 ∧ f1.offset = 1 ∧ f2.offset = 2 ∧ f3.offset = 3 ∧ f4.offset = 4 :=
 ⟨_, _, _, _, _, Try.underlying65, rfl, rfl, rfl, rfl, rfl, rfl, rfl, rfl, rfl, rfl⟩
theorem spanUnd : ∃ f0 f1, Try.prog.underlying 30 = some (.struct #[f0, f1]) ∧ f0.type = 3 ∧ f1.type = 3 ∧ f0.offset = 0 ∧ f1.offset = 1 :=
 ⟨_, _, Try.underlying30, rfl, rfl, rfl, rfl⟩
theorem cellsTast : Try.prog.cellsOf 65 = 6 := by kernel_rfl
theorem cellsSpan : Try.prog.cellsOf 30 = 2 := by kernel_rfl
theorem tast_cells {fuel : Nat} {cs : List Value} {x : DataW H × List MemPlace} (h : DataW.trod enc Try.prog w 0 (fun _ => true) true fuel 65 cs = some x) (hl : cs.length = 6) : ∃ l : Tast, cs = l.vals := by
 obtain ⟨f0, f1, f2, f3, f4, hu, t0, t1, t2, t3, t4, z0, z1, z2, z3, z4⟩ := tastUnd
 obtain ⟨g0, g1, hu2, s0, s1, o0, o1⟩ := spanUnd
 obtain ⟨xs, n, _, _, _, hlen, hg⟩ := DataW.trod_struct hu h
 match cs, hl, xs, hlen with
 | [c0, c1, c2, c3, c4, c5], _, [y0, y1, y2, y3, y4], _ =>
  have h0 : DataW.trod enc Try.prog w 0 (fun _ => true) true n 3 [c0] = some y0 := by simpa [t0, z0, cellsInt1] using hg 0 f0 rfl
  have h1 : DataW.trod enc Try.prog w 0 (fun _ => true) true n 3 [c1] = some y1 := by simpa [t1, z1, cellsInt1] using hg 1 f1 rfl
  have h2 : DataW.trod enc Try.prog w 0 (fun _ => true) true n 3 [c2] = some y2 := by simpa [t2, z2, cellsInt1] using hg 2 f2 rfl
  have h3 : DataW.trod enc Try.prog w 0 (fun _ => true) true n 3 [c3] = some y3 := by simpa [t3, z3, cellsInt1] using hg 3 f3 rfl
  have h4 : DataW.trod enc Try.prog w 0 (fun _ => true) true n 30 [c4, c5] = some y4 := by simpa [t4, z4, cellsSpan] using hg 4 f4 rfl
  obtain ⟨xs', n', _, _, _, hlen', hg'⟩ := DataW.trod_struct hu2 h4
  match xs', hlen' with
  | [u0, u1], _ =>
   have k0 : DataW.trod enc Try.prog w 0 (fun _ => true) true n' 3 [c4] = some u0 := by simpa [s0, o0, cellsInt1] using hg' 0 g0 rfl
   have k1 : DataW.trod enc Try.prog w 0 (fun _ => true) true n' 3 [c5] = some u1 := by simpa [s1, o1, cellsInt1] using hg' 1 g1 rfl
   obtain ⟨n0, e0, _, _⟩ := DataW.trod_int Try.underlying3 h0
   obtain ⟨n1, e1, _, _⟩ := DataW.trod_int Try.underlying3 h1
   obtain ⟨n2, e2, _, _⟩ := DataW.trod_int Try.underlying3 h2
   obtain ⟨n3, e3, _, _⟩ := DataW.trod_int Try.underlying3 h3
   obtain ⟨n4, e4, _, _⟩ := DataW.trod_int Try.underlying3 k0
   obtain ⟨n5, e5, _, _⟩ := DataW.trod_int Try.underlying3 k1
   simp only [List.cons.injEq, and_true] at e0 e1 e2 e3 e4 e5
   subst e0 e1 e2 e3 e4 e5
   exact ⟨⟨n0, n1, n2, n3, n4, n5⟩, rfl⟩
theorem tasts_open {v : Value} {fuel : Nat} {x : DataW H × List MemPlace} (h : DataW.trod enc Try.prog w 0 (fun _ => true) true fuel 24 [v] = some x) :
  ∃ A n c, ∃ l : List Tast, v = .slice A n c ∧ n ≤ c ∧ n ≤ maxLen ∧ c ≤ maxLen ∧ Reads w w.heap.size 6 A n (l.flatMap Tast.vals) := by
 rcases open_slice Try.underlying24 h with ⟨e, _⟩ | ⟨a, len, cap, m, k, D, Pl, e, _, hl, hm, hmm, _, hx⟩
 ·simp only [List.cons.injEq, and_true] at e
  exact ⟨none, 0, 0, [], e, Nat.le_refl _, Nat.zero_le _, Nat.zero_le _, Reads.none_⟩
 ·simp only [List.cons.injEq, and_true] at e
  have hmc : m = cap := by simpa using hmm
  subst hmc
  have hn : ∀ i, i < m → ∃ z : Tast, ∀ j, j < 6 → w.cell? (a.add (i * 6 + j)) = z.vals[j]? := fun i hi => by
   obtain ⟨cs', h1, h2⟩ := hx i hi
   rw [cellsTast] at h1
   obtain ⟨_, hcl, hat⟩ := World.cells?_some h1
   obtain ⟨z, rfl⟩ := tast_cells h2 hcl
   exact ⟨z, fun j hj => by rw [← Go.Deep.add_add, hat j hj]⟩
  letI : Inhabited Tast := ⟨⟨0, 0, 0, 0, 0, 0⟩⟩
  obtain ⟨Z, hZ⟩ := choose_lt hn
  refine ⟨some a, len, m, (List.range len).map Z, e, hl, by omega, hm, by rw [flatg_len tast_k]; simp, fun h0 => ⟨a, rfl, ?_, fun j u hu => ?_⟩⟩
  ·have := World.block_lt_of_cell? w _ (hZ 0 (by omega) 0 (by omega))
   rwa [block_of_add] at this
  ·have hj : j < len * 6 := by
    rcases Nat.lt_or_ge j (len * 6) with h' | h'
    ·exact h'
    ·rw [List.getElem?_eq_none (by rw [flatg_len tast_k]; simpa using h')] at hu; cases hu
   have hz := hZ (j / 6) (by omega) (j % 6) (by omega)
   have ha : ((List.range len).map Z)[j / 6]? = some (Z (j / 6)) := by rw [List.getElem?_map, List.getElem?_range (by omega)]; rfl
   have hf := flatg_at tast_k ha (show j % 6 < 6 by omega)
   rw [show j / 6 * 6 + j % 6 = j by omega] at hf hz
   rw [hz, ← hf, hu]
theorem mixUnd : ∃ f0 f1 f2 f3, Try.prog.underlying 26 = some (.struct #[f0, f1, f2, f3]) ∧ (f0.type = 3 ∧ f1.type = 22 ∧ f2.type = 23 ∧ f3.type = 24) ∧ (f0.offset = 0 ∧ f1.offset = 1 ∧ f2.offset = 2 ∧ f3.offset = 3) :=
 ⟨_, _, _, _, Try.underlying26, ⟨rfl, rfl, rfl, rfl⟩, rfl, rfl, rfl, rfl⟩
theorem cellsSlV : Try.prog.cellsOf 22 = 1 := by kernel_rfl
theorem cellsSlA : Try.prog.cellsOf 23 = 1 := by kernel_rfl
theorem cellsSlT : Try.prog.cellsOf 24 = 1 := by kernel_rfl
theorem mix_open {r : Reach} {b0 : Nat} {v : Value} {d : DataW H} {p : List MemPlace} (hv : Value.okWide Try.prog w r b0 26 v) (h : DataW.Trod enc Try.prog w 0 (fun _ => true) true 26 v d p) :
  ∃ Av nv cv Aa na ca At nt ct m, v = .agg #[.int .i64 m.fountains, .slice Av nv cv, .slice Aa na ca, .slice At nt ct] ∧ (na ≤ ca ∧ ca ≤ maxLen) ∧ (nt ≤ ct ∧ ct ≤ maxLen) ∧ MixAt w w.heap.size Av nv Aa na At nt m := by
 obtain ⟨f0, f1, f2, f3, hu, ⟨t0, t1, t2, t3⟩, z0, z1, z2, z3⟩ := mixUnd
 obtain ⟨cs, rfl, hsz⟩ := okWide_struct hu hv
 obtain ⟨fuel, hf⟩ := h
 obtain ⟨xs, n, _, _, _, hlen, hg⟩ := DataW.trod_struct hu hf
 obtain ⟨l⟩ := cs
 match l, hsz.trans cellsMix4, xs, hlen with
 | [c0, c1, c2, c3], _, [y0, y1, y2, y3], _ =>
  have h0 : DataW.trod enc Try.prog w 0 (fun _ => true) true n 3 [c0] = some y0 := by simpa [t0, z0, cellsInt1, Value.cells] using hg 0 f0 rfl
  have h1 : DataW.trod enc Try.prog w 0 (fun _ => true) true n 22 [c1] = some y1 := by simpa [t1, z1, cellsSlV, Value.cells] using hg 1 f1 rfl
  have h2 : DataW.trod enc Try.prog w 0 (fun _ => true) true n 23 [c2] = some y2 := by simpa [t2, z2, cellsSlA, Value.cells] using hg 2 f2 rfl
  have h3 : DataW.trod enc Try.prog w 0 (fun _ => true) true n 24 [c3] = some y3 := by simpa [t3, z3, cellsSlT, Value.cells] using hg 3 f3 rfl
  obtain ⟨f, e0, _, _⟩ := DataW.trod_int Try.underlying3 h0
  simp only [List.cons.injEq, and_true] at e0
  obtain ⟨Av, nv, cv, lv, rfl, _, _, _, hv1⟩ := vesss_open h1
  obtain ⟨Aa, na, ca, la, rfl, ha1, _, ha2, hv2⟩ := macts_open h2
  obtain ⟨At, nt, ct, lt, rfl, ht1, _, ht2, hv3⟩ := tasts_open h3
  subst e0
  exact ⟨Av, nv, cv, Aa, na, ca, At, nt, ct, ⟨f, lv, la, lt⟩, rfl, ⟨ha1, ha2⟩, ⟨ht1, ht2⟩, ⟨hv1, hv2, hv3⟩⟩
end
end Go.Proofs.Ythofngceiecniaa
/- MixTells: whatever the mixed water and the whole numbers, the law answers true. No conditions. -/
namespace Go.Proofs.Ythofngceiecniaa
open Go.ChangeShapes Go.WideShapes Go.ChangeAt Go.RowKit Go.Joins

theorem ownT : ownKnob Try.prog.godebug = none := by kernel_rfl
theorem laidOutT : laidOutB Try.prog = true := by kernel_rfl

set_option maxRecDepth 100000 in
theorem mixTells_lifted (os : Os) (started : os.Started) (H : Type) (enc : TypeId × Value → H) :
  ReturnsInHanded {} Try.checked os 4 .any (Rows.mixTellsSpec.pre6 enc Try.prog Try.f4 Rows.mixTellsRow.domain false) (Rows.mixTellsSpec.post enc Try.prog Try.f4 false true false false) := by
 refine returnsInHanded_of_change (C := Try.checked) ownT started (by kernel_rfl) Try.func4
  (ChangeSpec.witness6 (enc := enc) (C := Try.checked) false ⟨#[], #[.agg #[.int .i64 0, .slice none 0 0, .slice none 0 0, .slice none 0 0], .int .i64 0, .int .i64 0, .int .i64 0], []⟩ 8 (by kernel_rfl) (by kernel_rfl) (by kernel_rfl) (by kernel_rfl)) ?_
 intro W base args ds gs before hval0 hW hcnd _
 have hval : ∀ (j : Nat) t v, Try.f4.params[j]? = some t → args[j]? = some v → Value.okWide Try.prog W .any base t v := hval0
 have hW' := hW
 obtain ⟨p, q, hA0, hV, rfl, hfz, hnd⟩ := hW
 have hA : DataW.TrodAll enc Try.prog W 0 (fun _ => true) true Try.f4.params.toList args.toList ds p := hA0
 rw [Try.params4] at hA hval
 obtain ⟨v0, vs0, d0, ds0, p0, q0, hargs, rfl, rfl, h0, r0⟩ := trodAll_cons hA
 obtain ⟨v1, vs1, d1, ds1, p1, q1, rfl, rfl, rfl, h1, r1⟩ := trodAll_cons r0
 obtain ⟨v2, vs2, d2, ds2, p2, q2, rfl, rfl, rfl, h2, r2⟩ := trodAll_cons r1
 obtain ⟨v3, vs3, d3, ds3, p3, q3, rfl, rfl, rfl, h3, r3⟩ := trodAll_cons r2
 obtain ⟨rfl, rfl, rfl⟩ := trodAll_nil r3
 obtain rfl : args = #[v0, v1, v2, v3] := by cases args; simp_all
 obtain ⟨rfl, rfl⟩ := trodVars_none hV
 have k0 := h0
 have lt0 : ∀ x ∈ p0, x.block < W.heap.size := by obtain ⟨m, hm⟩ := k0; exact DataW.trod_lt m _ _ _ hm
 have k1 := h1
 have lt1 : ∀ x ∈ p1, x.block < W.heap.size := by obtain ⟨m, hm⟩ := k1; exact DataW.trod_lt m _ _ _ hm
 have k2 := h2
 have lt2 : ∀ x ∈ p2, x.block < W.heap.size := by obtain ⟨m, hm⟩ := k2; exact DataW.trod_lt m _ _ _ hm
 have k3 := h3
 have lt3 : ∀ x ∈ p3, x.block < W.heap.size := by obtain ⟨m, hm⟩ := k3; exact DataW.trod_lt m _ _ _ hm
 obtain ⟨Av, nv, cv, Aa, na, ca, At, nt, ct, m, rfl, hca, hct, hm⟩ := mix_open (hval 0 26 v0 rfl rfl) h0
 obtain ⟨s1, e1⟩ := okWide_int Try.underlying3 (hval 1 3 v1 rfl rfl)
 subst e1
 obtain ⟨s2, e2⟩ := okWide_int Try.underlying3 (hval 2 3 v2 rfl rfl)
 subst e2
 obtain ⟨s3, e3⟩ := okWide_int Try.underlying3 (hval 3 3 v3 rfl rfl)
 subst e3
 clear hA0 hval0
 refine (callsIn_wide.1 (mtells_in Av nv cv Aa na ca At nt ct m s1 s2 s3 W hm)).mono fun e W' ⟨he, bel⟩ => ?_
 subst he
 exact ⟨_, rfl, _, _, _, [], _, [], hW', trodAll_mk1 (shut_bool Try.underlying4 _), (trodAll_cons_mk (Below.trod laidOutT (by kernel_rfl) (of_decide_eq_true (by kernel_rfl)) k0 bel lt0) (trodAll_cons_mk (Below.trod laidOutT (by kernel_rfl) (of_decide_eq_true (by kernel_rfl)) k1 bel lt1) (trodAll_cons_mk (Below.trod laidOutT (by kernel_rfl) (of_decide_eq_true (by kernel_rfl)) k2 bel lt2) (trodAll_cons_mk (Below.trod laidOutT (by kernel_rfl) (of_decide_eq_true (by kernel_rfl)) k3 bel lt3) (trodAll_mk0))))), rfl, bel.frame _, fun h => by cases h⟩

theorem mixTells_holds : Rows.MixTellsSaid :=
 OpenClaim.holds_of_wide 4 Try.f4 rfl rfl rfl rfl rfl rfl rfl ⟨rfl, rfl, rfl, rfl, rfl⟩ rfl rfl rfl rfl rfl (by kernel_rfl) Try.func4 (by kernel_rfl)
  (of_decide_eq_true (by kernel_rfl)) (by unfold Func.isWrapper; rw [if_neg (of_decide_eq_false (by kernel_rfl))]; exact ⟨rfl, rfl⟩)
  (fun os started H enc _ => mixTells_lifted os started H enc)
#print axioms mixTells_holds
end Go.Proofs.Ythofngceiecniaa
