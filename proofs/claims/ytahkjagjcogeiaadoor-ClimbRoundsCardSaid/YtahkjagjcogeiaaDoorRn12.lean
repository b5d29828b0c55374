/- ClimbRounds: whatever the arguments, the law answers true. The row, and the card. -/
import Derived.Test.YtahkjagjcogeiaaDoorRows
import Derived.ProofKit
import Derived.LaidMore
import Derived.LaidHandle
import Derived.Stop.Joined
import Derived.ChangeSame
import Derived.OpenShut
import Derived.Lib.SmallJoins
import Derived.ChangeArms
import Derived.SevenTiedAt
import Derived.Test.YtahkjagjcogeiaaDoorCards
import Derived.Test.YtahkjagjcogeiaaDoorTie
import Derived.Test.YtahkjagjcogeiaaDoorRn11
/- The answer's Round. -/
namespace Go.Proofs.YtahkjagjcogeiaaDoor
open Go.RowKit Go.Shelf
set_option linter.unusedVariables false

set_option maxRecDepth 100000 in
set_option maxHeartbeats 16000000 in
theorem rround_in (A : Option Addr) (n c : Nat) (A' : Option Addr) (m d : Nat) (t : Town) (u : Int) (A2 : Option Addr) (n2 c2 : Nat) (st : List Int) (dk : Bool) (w : World)
    (hn : n ≤ 1000) (hm : m ≤ 1000) (hn2 : n2 ≤ 1000) (ht : TownAt w w.heap.size A n A' m t) (hr : IntsAt w w.heap.size A2 n2 st) :
    CallsIn Fence.wide 9 Tryd.prog 44 #[.agg #[.slice A n c, .slice A' m d], .int .i64 u, .slice A2 n2 c2, .bool dk] w (RoundOut w (roundR t u st dk) (roundX t u st dk)) := by
  have HT := Lib.hid ht
  have HR := Lib.hid hr
  have HRL := Lib.hid hr.len
  clear ht hr
  refine callsIn_of_wp Tryd.func44 rfl trivial ?_ rfl
  simp only [Tryd.ntmps44, List.size_toArray, List.length_cons, List.length_nil, Nat.reduceAdd, Nat.reduceSub, Array.replicate_succ, Array.replicate_zero, List.push_toArray, List.append_toArray, List.nil_append, List.cons_append]
  gi_upto_region 1 with fail
  have HLay := Lib.hid (Lay.two w 25 #[.slice A n c, .slice A' m d] 59 #[.int .i64 0, .int .i64 0])
  generalize ((w.alloc (.cells #[.slice A n c, .slice A' m d] 25)).alloc (.cells #[.int .i64 0, .int .i64 0] 59)) = w0 at *
  have c0 := (HLay.out.blk 0 rfl).cell 0
  have c1 := (HLay.out.blk 0 rfl).cell 1
  have cl := HLay.out.lt 0 rfl
  gi_wp2
  refine ⟨trivial, (callsIn_wide.2 (rrounded_any A n c A' m d t u A2 n2 c2 st w0 hn hm hn2 ((HT.out.below HLay.out.1).more HLay.out.1.size) ((HR.out.below HLay.out.1).more HLay.out.1.size))).mono ?_⟩
  rintro e W1 ⟨rfl, hb1⟩
  replace HLay := Lib.hid (HLay.out.below hb1)
  clear hb1 c0 c1 cl
  obtain ⟨ee, hee⟩ : ∃ ee, roundE t u st = ee := ⟨_, rfl⟩
  rw [hee]
  have HEE := Lib.hid hee
  clear hee
  have c0 := (HLay.out.blk 0 rfl).cell 0
  have c1 := (HLay.out.blk 0 rfl).cell 1
  have cl := HLay.out.lt 0 rfl
  by_cases h0 : ee = 0
  · subst h0
    have hn26 : n2 ≤ 6 := by have := (roundE_zero HEE.out).2.1; have := HRL.out; omega
    have HSM := Lib.hid (same_round dk HEE.out)
    have HXR : Hid (roundR t u st dk = (betterI (legsM t dk (u :: upI st)) n2 n2 [] 0 (0, 0) none).map (toR (plOf u st))) := Lib.hid (by
      have h := best_same HSM.out (List.nodup_cons.1 (all_nodup HEE.out)).2
      rw [← HRL.out, h]
      unfold roundR
      rw [if_pos HEE.out])
    have HXE : Hid (roundX t u st dk = if (roundR t u st dk).isSome then 0 else 6) := Lib.hid (by unfold roundX; rw [if_pos HEE.out])
    have HO1 := Lib.hid (own_one W1 u)
    have HB1 := Lib.hid (show Below W1.heap.size W1 (W1.alloc (.cells #[.int .i64 u] 3)) from (Below.refl _ _).alloc (Nat.le_refl _) _)
    have HR1 := Lib.hid (ints_up HR.out (HLay.out.1.trans (HB1.out.mono HLay.out.1.size)))
    gi_wp2
    refine ⟨trivial, (callsIn_wide.2 (rsorted_any A2 n2 c2 st _ (by omega) HR1.out)).mono ?_⟩
    rintro e W2 ⟨g, q, rfl, hown, hb2⟩
    have HO2 := Lib.hid (HO1.out.below hb2 (Nat.le_refl _))
    have HB2 := Lib.hid (HB1.out.trans (hb2.mono HB1.out.size))
    have HRS := Lib.hid (ints_of_own hown (Nat.le_refl _))
    have hs2 := HB2.out.size
    clear hown hb2 HR1 c0 c1 cl
    gi_wp2_with (first | (gi_at_builtin; refine wpListIn_append_any rfl (.tmp 26) (.tmp 28) (by rfl) elem_int rfl HO2.out rfl HRS.out (ints_one _) (by unfold maxLen; omega) (by omega) hs2 ?_) | fail)
    rintro A9 q9 W3 hown hgr hA9
    simp only [Nat.add_comm 1 n2] at hown ⊢
    have HO3 := Lib.hid (show Own W3 W1.heap.size 3 1 A9 (n2 + 1) q9 ((u :: upI st).map (Value.int .i64)) from by simpa using hown)
    have HB3 := Lib.hid (HB2.out.grown hgr HB2.out.size (fun j hj => own_row HO2.out hj))
    have HI3 := Lib.hid (ints_of_own HO3.out (Nat.le_refl _))
    replace HLay := Lib.hid (HLay.out.below HB3.out)
    clear hown hgr hA9 HO1 HO2 HB1 HB2 hs2
    have c0 := (HLay.out.blk 0 rfl).cell 0
    have c1 := (HLay.out.blk 0 rfl).cell 1
    have cl := HLay.out.lt 0 rfl
    gi_wp2
    refine ⟨trivial, (callsIn_wide.2 (rlegs_any A n c A' m d t u st A9 (n2 + 1) q9 (u :: upI st) dk W3 HEE.out (fun v hv => by
      rcases List.mem_cons.1 hv with rfl | hv
      · simp
      · exact List.mem_cons_of_mem _ ((upI_perm st).mem_iff.1 hv)) hn hm (by omega) ((HT.out.below HLay.out.1).more HLay.out.1.size) HI3.out)).mono ?_⟩
    rintro e W4 ⟨BR, qr, rfl, hrow, hb4⟩
    have HROW := Lib.hid hrow
    have HB4 := Lib.hid hb4
    clear hrow hb4 c0 c1 cl
    have HBC := Lib.hid (rbetter_in (legsM t dk (u :: upI st)) n2 hn26 (by rw [(legsM_rows t dk _).1, List.length_cons, upI_len, HRL.out]) (by have := (legsM_rows t dk (u :: upI st)).2; simpa [List.length_cons, upI_len, HRL.out] using this) (at2_small (roundE_zero HEE.out).1 dk _) n2 none none 0 0 0 0 false BR qr none 0 0 [] 0 0 W4 rfl (fun h => absurd h (Nat.lt_irrefl _)) HROW.out Reads.none_ (by omega) (fun i hi => by cases hi) ⟨by omega, by omega⟩ ⟨by omega, by omega⟩)
    gi_wp2
    refine ⟨trivial, (callsIn_wide.2 (callsIn_wide.1 HBC.out)).mono ?_⟩
    rintro e W5 ⟨A5, n5, c5, x1, x2, f, rfl, hbest, hb5, hlow, _⟩
    have hbest' : BestIs W5 (betterI (legsM t dk (u :: upI st)) n2 n2 [] 0 (0, 0) none) A5 n5 x1 x2 f := hbest
    clear hbest HBC
    have HB5 := Lib.hid (show Below W3.heap.size W3 W5 from HB4.out.trans (hb5.mono HB4.out.size))
    clear hb5
    have HLE : Hid (∀ r, betterI (legsM t dk (u :: upI st)) n2 n2 [] 0 (0, 0) none = some r → (∀ i ∈ r.1, i ≤ n2) ∧ r.1.length = n2) := Lib.hid fun r h => betterI_le h
    obtain ⟨R, hR⟩ : ∃ R, betterI (legsM t dk (u :: upI st)) n2 n2 [] 0 (0, 0) none = R := ⟨_, rfl⟩
    rw [hR] at hbest' HXR HLE
    clear hR
    have HBE := Lib.hid hbest'
    clear hbest'
    have HI5 := Lib.hid (ints_up HI3.out HB5.out)
    replace HLay := Lib.hid ((HLay.out.below HB5.out).alloc 172 #[.slice A5 n5 c5, .int .i64 x1, .int .i64 x2, .bool f])
    have HB6 := Lib.hid (show Below W5.heap.size W5 (W5.alloc (.cells #[.slice A5 n5 c5, .int .i64 x1, .int .i64 x2, .bool f] 172)) from (Below.refl _ _).alloc (Nat.le_refl _) _)
    have HI6 := Lib.hid (ints_up HI5.out HB6.out)
    replace HBE := Lib.hid (HBE.out.up HB6.out)
    have hlow' : Low (W5.alloc (.cells #[.slice A5 n5 c5, .int .i64 x1, .int .i64 x2, .bool f] 172)) A5 n5 := fun h a ha => Nat.lt_of_lt_of_le (hlow h a ha) HB6.out.size
    clear hlow hlow' HROW HB4 HB5 HB3
    gi_upto_region 6 with fail
    generalize (W5.alloc (.cells #[.slice A5 n5 c5, .int .i64 x1, .int .i64 x2, .bool f] 172)) = W6 at *
    generalize W5.heap.size = g6 at *
    have x1_0 := (HLay.out.blk 1 rfl).cell 0
    have z1_0 := (HLay.out.blk 1 rfl).frozen 0
    have x1_1 := (HLay.out.blk 1 rfl).cell 1
    have z1_1 := (HLay.out.blk 1 rfl).frozen 1
    have l1_ := HLay.out.lt 1 rfl
    have x2_0 := (HLay.out.blk 2 rfl).cell 0
    have x2_1 := (HLay.out.blk 2 rfl).cell 1
    have x2_2 := (HLay.out.blk 2 rfl).cell 2
    have x2_3 := (HLay.out.blk 2 rfl).cell 3
    have l2_ := HLay.out.lt 2 rfl
    cases R with
    | none =>
      have hf : f = false := HBE.out
      subst hf
      gi_wp2
      have R1 := ret2 (HLay.out.blk 1 rfl) HLay.out.1 (by omega) (.int .i64 0) (.int .i64 0)
      have y0 := R1.1.cell 0
      have y1 := R1.1.cell 1
      have h2 : roundR t u st dk = none := HXR.out
      have h3 : roundX t u st dk = 6 := by rw [HXE.out, h2]; rfl
      exact bodyPost_ret (v := .tuple #[.slice none 0 0, .agg #[.int .i64 0, .int .i64 0], .int .i64 6]) (by simp [results, Tryd.results44, go_sem, y0, y1]) rfl ⟨none, 0, 0, by rw [h2, h3]; rfl, by rw [h2]; exact Reads.none_, R1.2⟩
    | some r =>
      obtain ⟨hf, hri, hr1, hr2⟩ := (show f = true ∧ IntsAt W6 W6.heap.size A5 n5 (ix r.1) ∧ x1 = r.2.1 ∧ x2 = r.2.2 from HBE.out)
      subst hf
      have HRI := Lib.hid hri
      have HRN := Lib.hid (show r.1.length = n5 from by have := hri.len; simpa [ix] using this)
      obtain rfl : n2 = n5 := by have := (HLE.out r rfl).2; have := HRN.out; omega
      have HRE := Lib.hid (show roundR t u st dk = some (r.1.map (plOf u st), (x1, x2)) from by rw [HXR.out, hr1, hr2]; rfl)
      clear hri hr1 hr2 HXR
      gi_wp2
      clear x1_0 z1_0 x1_1 z1_1 l1_ x2_0 x2_1 x2_2 x2_3 l2_
      gi_loopw [14, 44] (fun v14 v44 wr => ∃ (i : Nat) (BO : Option Addr) (qO : Nat), v14 = .slice BO i qO ∧ v44 = .int .i64 i ∧ i ≤ n2 ∧ Hid (Below W6.heap.size W6 wr ∧ Own wr W6.heap.size 3 1 BO i qO (((r.1.take i).map (plOf u st)).map (Value.int .i64)))) (fun _ v44 _ => n2 - (intOf v44).toNat)
      case atStart => exact ⟨0, none, 0, rfl, rfl, Nat.zero_le _, Lib.hid ⟨Below.refl _ _, Own.none_ _ _ _ _⟩⟩
      case round =>
        obtain ⟨i, BO, qO, rfl, rfl, hi, HS⟩ := hrel
        by_cases hlt : i < n2
        · obtain ⟨b, off, y, hA5, hb, hy, hc⟩ := (ints_up HRI.out HS.out.1).cell hlt
          subst hA5
          obtain ⟨yn, hyn, rfl⟩ := ix_get hy
          have hle := (HLE.out r rfl).1 yn (List.mem_of_getElem? hyn)
          obtain ⟨b9, off9, z, hA9, hb9, hz, hc9⟩ := (ints_up HI6.out HS.out.1).cell (k := yn) (by omega)
          subst hA9
          have HPL := Lib.hid (show plOf u st yn = z from by unfold plOf; rw [hz]; rfl)
          have HYN := Lib.hid hyn
          clear hy hyn hz
          have hyn' : yn < n2 + 1 := by omega
          have HO7 := Lib.hid (HS.out.2.alloc (.cells #[.int .i64 z] 3))
          have HB7 := Lib.hid (HS.out.1.alloc HS.out.1.size (.cells #[.int .i64 z] 3))
          have HN7 := Lib.hid (Blk.new wr 3 #[.int .i64 z])
          have hs7 := HB7.out.size
          gi_wp2_with (first | (gi_at_builtin; refine wpListIn_append_any rfl (.tmp 48) (.tmp 53) (by rfl) elem_int rfl HO7.out rfl (one_int HN7.out.lt (HN7.out.cell 0)) (ints_one _) (by unfold maxLen; omega) (by omega) hs7 ?_) | fail)
          rintro A8 q8 W8 hown hgr hA8
          have HB8 := Lib.hid (HB7.out.grown hgr HB7.out.size (fun j hj => own_row HO7.out hj))
          have HO8 := Lib.hid (show Own W8 W6.heap.size 3 1 A8 (i + 1) q8 (((r.1.take (i + 1)).map (plOf u st)).map (Value.int .i64)) from by
            have e : r.1.take (i + 1) = r.1.take i ++ [yn] := by rw [List.take_add_one, HYN.out]; rfl
            rw [e, List.map_append, List.map_append]
            have h := hown
            rw [show ([yn].map (plOf u st)).map (Value.int .i64) = [z].map (Value.int .i64) from by rw [List.map_cons, HPL.out]; rfl]
            simpa [List.map_take] using h)
          clear hown hgr hA8
          gi_wp2
          go_roundw
          case rel => exact ⟨i + 1, A8, q8, by first | rfl | go_num, by go_num, by omega, Lib.hid ⟨HB8.out, HO8.out⟩⟩
          case measure => simp [intOf] <;> omega
        · obtain rfl : n2 = i := by omega
          have HL6 := Lib.hid (HLay.out.below HS.out.1)
          have x2_1 := (HL6.out.blk 2 rfl).cell 1
          have x2_2 := (HL6.out.blk 2 rfl).cell 2
          have l2_ := HL6.out.lt 2 rfl
          gi_wp2
          refine Tr.wpIn_region_tree (G := Tr.Up) (V0 := wr) [([], [true, true, true, true, false, true], [])] 1 [false, false, false, false, true] (by kernel_rfl) (by kernel_rfl) (by kernel_rfl) (below_drewN (Below.refl _ _) 1) ?_
          refine Tr.wpTree_end (A := ?AF1) rfl ?hq1 ?_
          case hq1 =>
            rintro σ hσ of hof hcl
            have HOF := Lib.hid hof
            have HCL := Lib.hid hcl
            clear hof hcl
            have d1 := fun z => ((HOF.out z).cell (p := ⟨g6, 1, none⟩) l2_).trans x2_1
            have d2 := fun z => ((HOF.out z).cell (p := ⟨g6, 2, none⟩) l2_).trans x2_2
            have hfw : ∀ f, Fence.wide.fn f := fun _ => trivial
            simp only [pickB]
            repeat (gi_big_quiet_step (fail))
            refine wpQuietIn_nil ?_
            exact rfl
          intro W hW
          have HBW := Lib.hid (show Below wr.heap.size wr W from hW)
          clear hW x2_1 x2_2 l2_
          simp only [pickB]
          replace HL6 := Lib.hid (HL6.out.below HBW.out)
          have HO9 := Lib.hid (HS.out.2.below HBW.out (Nat.le_refl _))
          have x1_0 := (HL6.out.blk 1 rfl).cell 0
          have z1_0 := (HL6.out.blk 1 rfl).frozen 0
          have x1_1 := (HL6.out.blk 1 rfl).cell 1
          have z1_1 := (HL6.out.blk 1 rfl).frozen 1
          have l1_ := HL6.out.lt 1 rfl
          refine wpT_cons ?_
          gi_wp2
          refine wpT_nil ?_
          gi_wp2
          have hl1 := HLay.out.lt 1 rfl
          have R1 := ret2' (HL6.out.blk 1 rfl) HL6.out.1 (by omega) (.int .i64 x1) (.int .i64 x2)
          have y0 := R1.1.cell 0
          have y1 := R1.1.cell 1
          have h3 : roundX t u st dk = 0 := by rw [HXE.out, HRE.out]; rfl
          exact bodyPost_ret (v := .tuple #[.slice BO n2 qO, .agg #[.int .i64 x1, .int .i64 x2], .int .i64 0]) (by simp [results, Tryd.results44, go_sem, y0, y1]) rfl ⟨BO, n2, qO, by rw [HRE.out, h3]; rfl, by
            rw [HRE.out]
            have h := HO9.out
            rw [List.take_of_length_le (by rw [HRN.out]; exact Nat.le_refl _)] at h
            exact ints_off (ints_of_own h (Nat.le_refl _)) (fun a ha => by have := (h.lt ha).1; omega) R1.2.2, R1.2.1⟩
  · have h1 : (ee != 0) = true := by simpa using h0
    have H0 := Lib.hid h0
    clear h0
    have x1_0 := (HLay.out.blk 1 rfl).cell 0
    have z1_0 := (HLay.out.blk 1 rfl).frozen 0
    have x1_1 := (HLay.out.blk 1 rfl).cell 1
    have z1_1 := (HLay.out.blk 1 rfl).frozen 1
    have l1_ := HLay.out.lt 1 rfl
    gi_wp2
    have R1 := ret2 (HLay.out.blk 1 rfl) HLay.out.1 (by omega) (.int .i64 0) (.int .i64 0)
    have y0 := R1.1.cell 0
    have y1 := R1.1.cell 1
    have h2 : roundR t u st dk = none := by unfold roundR; rw [HEE.out, if_neg H0.out]
    have h3 : roundX t u st dk = ee := by unfold roundX; rw [HEE.out, if_neg H0.out]
    exact bodyPost_ret (v := .tuple #[.slice none 0 0, .agg #[.int .i64 0, .int .i64 0], .int .i64 ee]) (by simp [results, Tryd.results44, go_sem, y0, y1]) rfl ⟨none, 0, 0, by rw [h2, h3]; rfl, by rw [h2]; exact Reads.none_, R1.2⟩
theorem rround_any (A : Option Addr) (n c : Nat) (A' : Option Addr) (m d : Nat) (t : Town) (u : Int) (A2 : Option Addr) (n2 c2 : Nat) (st : List Int) (dk : Bool) (w : World)
    (hn : n ≤ 1000) (hm : m ≤ 1000) (hn2 : n2 ≤ 1000) (ht : TownAt w w.heap.size A n A' m t) (hr : IntsAt w w.heap.size A2 n2 st) :
    Calls Tryd.prog 44 #[.agg #[.slice A n c, .slice A' m d], .int .i64 u, .slice A2 n2 c2, .bool dk] w (RoundOut w (roundR t u st dk) (roundX t u st dk)) :=
  callsIn_wide.1 (rround_in A n c A' m d t u A2 n2 c2 st dk w hn hm hn2 ht hr)
end Go.Proofs.YtahkjagjcogeiaaDoor
/- Spans and toils compared. -/
namespace Go.Proofs.YtahkjagjcogeiaaDoor
open Go.RowKit
set_option linter.unusedVariables false
theorem sameT_refl' (t : Town) : sameT t t = true := by simp [sameT]
theorem sameI_refl' (l : List Int) : sameI l l = true := by simp [sameI]
theorem eqToil_run (a1 a2 b1 b2 : Int) (w : World) : (Op.equalIn 10000 59 (.agg #[.int .i64 a1, .int .i64 a2]) (.agg #[.int .i64 b1, .int .i64 b2])).run Tryd.prog w = .ok (a1 == b1 && a2 == b2) w := by
  rw [Op.equalIn]
  simp [go_sem, run_underlying Tryd.underlying59, eqi_run', Std.Legacy.Range.forIn_eq_forIn_range', part]
  by_cases h1 : a1 = b1 <;> by_cases h2 : a2 = b2 <;> simp [h1, h2]
theorem eqToil_same (a b : Int) (w : World) : (Op.equalIn 10000 59 (.agg #[.int .i64 a, .int .i64 b]) (.agg #[.int .i64 a, .int .i64 b])).run Tryd.prog w = .ok true w := by
  rw [eqToil_run]; simp
end Go.Proofs.YtahkjagjcogeiaaDoor
/- The law ClimbRounds, walked. -/
namespace Go.Proofs.YtahkjagjcogeiaaDoor
open Go.RowKit Go.Shelf
set_option linter.unusedVariables false

theorem roundR_len (t : Town) (u : Int) (st : List Int) (dk : Bool) : ((roundR t u st dk).getD ([], (0, 0))).1.length ≤ 6 := by
  by_cases h0 : roundE t u st = 0
  · have h := best_same (same_round dk h0) (List.nodup_cons.1 (all_nodup h0)).2
    have hR : roundR t u st dk = bestG (legF t dk) u (upI st) := by unfold roundR; rw [if_pos h0]
    rw [hR, ← h]
    cases hb : betterI (legsM t dk (u :: upI st)) st.length st.length [] 0 (0, 0) none with
    | none => simp
    | some r =>
      have h1 := (betterI_le hb).2
      have h2 := (roundE_zero h0).2.1
      simp only [Option.map_some, Option.getD_some, toR, List.length_map]
      omega
  · have hR : roundR t u st dk = none := by unfold roundR; rw [if_neg h0]
    rw [hR]
    simp

set_option maxRecDepth 100000 in
set_option maxHeartbeats 16000000 in
theorem rounds_walk_in (A : Option Addr) (n c : Nat) (A' : Option Addr) (m d : Nat) (t : Town) (u : Int) (A2 : Option Addr) (k2 c2 : Nat) (l : List Int) (dk : Bool) (w : World) (hn : n ≤ maxLen) (hm : m ≤ maxLen) (hk : k2 ≤ maxLen) (ht : TownAt w w.heap.size A n A' m t) (hr : IntsAt w w.heap.size A2 k2 l) (hL : Laid w) :
    CallsIn Fence.wide 9 Tryd.prog 8 #[.agg #[.slice A n c, .slice A' m d], .int .i64 u, .slice A2 k2 c2, .bool dk] w fun e w' => e = .returned (.bool true) ∧ Below w.heap.size w w' := by
  have HT := Lib.hid ht
  have HL := Lib.hid hL
  have hl0 := hL.2.2.2
  have HLn := Lib.hid ht.places.len
  have HLm := Lib.hid ht.links.len
  clear ht hL
  unfold maxLen at hn hm
  have HR := Lib.hid hr
  have HLk := Lib.hid hr.len
  clear hr
  unfold maxLen at hk
  refine callsIn_of_wp Tryd.func8 rfl trivial ?_ rfl
  simp only [Tryd.ntmps8, List.size_toArray, List.length_cons, List.length_nil, Nat.reduceAdd, Nat.reduceSub, Array.replicate_succ, Array.replicate_zero, List.push_toArray, List.append_toArray, List.nil_append, List.cons_append]
  gi_wp2
  have HLay := Lib.hid (Lay.one w 25 #[.slice A n c, .slice A' m d])
  generalize (w.alloc (.cells #[.slice A n c, .slice A' m d] 25)) = w0 at *
  refine ⟨trivial, (callsIn_wide.2 (great_any A n c A' m d w0)).mono ?_⟩
  rintro e W1 ⟨rfl, hb⟩
  replace HLay := Lib.hid (HLay.out.below hb)
  clear hb
  cases hgr : greatB n m with
  | true =>
    clear hgr
    gi_wp2
    exact bodyPost_ret (v := .bool true) (by simp [results, Tryd.results8, go_sem]) rfl ⟨rfl, HLay.out.bel⟩
  | false =>
  have hsz : n ≤ 20 ∧ m ≤ 40 := by unfold greatB at hgr; simp at hgr; omega
  clear hgr
  obtain ⟨hn20, hm40⟩ := hsz
  by_cases hk60 : (10 : Int) < (k2 : Int)
  · gi_wp2
    exact bodyPost_ret (v := .bool true) (by simp [results, Tryd.results8, go_sem]) rfl ⟨rfl, HLay.out.bel⟩
  have hk60' : k2 ≤ 10 := by omega
  have hk60d : decide ((10 : Int) < (k2 : Int)) = false := by simp; omega
  clear hk60
  have hk1 : k2 ≤ 1000 := by omega
  have hn1 : n ≤ 1000 := by omega
  have hm1 : m ≤ 1000 := by omega
  have x0_0 := (HLay.out.blk 0 rfl).cell 0
  have x0_1 := (HLay.out.blk 0 rfl).cell 1
  have l0_ := HLay.out.lt 0 rfl
  gi_wp2
  clear x0_0 x0_1 l0_
  have HLW := Lib.hid (HLay.out.bel.size)
  refine ⟨trivial, (callsIn_wide.2 (twin_any A n c A' m d t W1 hn1 hm1 ((HT.out.below HLay.out.bel).more HLay.out.bel.size))).mono ?_⟩
  rintro e W2 ⟨A1, c1, A1', c1', rfl, hO1, hO2, _, hb⟩
  replace HLay := Lib.hid (HLay.out.below hb)
  clear hb
  have HO1 := Lib.hid (hO1.mono (HLW.out))
  have HO2 := Lib.hid (hO2.mono (HLW.out))
  rw [HLn.out] at HO1
  rw [HLm.out] at HO2
  rw [HLn.out, HLm.out]
  clear hO1 hO2 HLW
  have HE : Hid (Own (W2.alloc (.cells #[] 3)) w.heap.size 3 1 (some ⟨W2.heap.size, 0, none⟩) 0 0 []) := Own.mk_ HLay.out.bel.size (Blk.new W2 _ _) (Nat.le_refl _) (Nat.zero_le _) rfl rfl (fun k hk => by omega)
  have HI : Hid (IntsAt (W2.alloc (.cells #[] 3)) (W2.alloc (.cells #[] 3)).heap.size A2 k2 l) := (HR.out.below (HLay.out.bel.alloc HLay.out.bel.size _)).more (HLay.out.bel.alloc HLay.out.bel.size _).size
  have HSZ : Hid (w.heap.size ≤ (W2.alloc (.cells #[] 3)).heap.size) := Lib.hid (by rw [World.size_alloc]; have := HLay.out.bel.size; omega)
  gi_wp2_with (first | (gi_at_builtin; refine wpListIn_append_any rfl (.tmp 30) (.tmp 31) (by rfl) elem_int rfl HE.out rfl HI.out (ints_one _) (by unfold maxLen; omega) (by omega) HSZ.out ?_) | fail)
  rintro A3 c3 W3 hown hg hA
  have HMi : Hid (Own W3 w.heap.size 3 1 A3 k2 c3 (l.map (Value.int .i64))) := Lib.hid (by
    have h := hown
    simpa using h)
  have hg' : W2.grownBy W3 (some W2.heap.size) := grown_trans (grown_of_below ((Below.refl W2.heap.size W2).alloc (Nat.le_refl _) (.cells #[] 3)) _) hg
  have hb : Below W2.heap.size W2 W3 := below_of_grown hg' (fun k hk => by cases hk; exact Nat.le_refl _) (Nat.le_refl _)
  replace HLay := Lib.hid (HLay.out.below hb)
  replace HO1 := Lib.hid (HO1.out.below hb (Nat.le_refl _))
  replace HO2 := Lib.hid (HO2.out.below hb (Nat.le_refl _))
  clear hown hg hg' hb HE HI HSZ hA
  have x0_0 := (HLay.out.blk 0 rfl).cell 0
  have x0_1 := (HLay.out.blk 0 rfl).cell 1
  have l0_ := HLay.out.lt 0 rfl
  gi_wp2
  clear x0_0 x0_1 l0_
  have hb : Below W3.heap.size W3 (W3.alloc (.cells #[.slice A1 n c1, .slice A1' m c1'] 25)) := (Below.refl _ _).alloc (Nat.le_refl _) _
  have hnew := Blk.new W3 25 #[.slice A1 n c1, .slice A1' m c1']
  have hge := HLay.out.bel.size
  replace HLay := Lib.hid (HLay.out.below hb)
  replace HO1 := Lib.hid (HO1.out.below hb (Nat.le_refl _))
  replace HO2 := Lib.hid (HO2.out.below hb (Nat.le_refl _))
  replace HMi := Lib.hid (HMi.out.below hb (Nat.le_refl _))
  replace HLay := Lib.hid (HLay.out.add hge hnew)
  clear hnew hge hb
  obtain ⟨G5, hG⟩ : ∃ g, W3.heap.size = g := ⟨_, rfl⟩
  rw [hG] at HLay ⊢
  generalize (W3.alloc (.cells #[.slice A1 n c1, .slice A1' m c1'] 25)) = V4 at *
  clear hG
  replace HLay := Lib.hid (show Lay w V4 [(w.heap.size, 25, #[.slice A n c, .slice A' m d]), (G5, 25, #[.slice A1 n c1, .slice A1' m c1'])] from HLay.out)
  refine ⟨trivial, (callsIn_wide.2 (round_any A1 n c1 A1' m c1' t u A3 k2 c3 l dk V4 hn1 hm1 hk1 ⟨ints_of_own HO1.out (Nat.le_refl _), links_of_own HO2.out (Nat.le_refl _)⟩ (ints_of_own HMi.out (Nat.le_refl _)) (HL.out.below HLay.out.bel hl0))).mono ?_⟩
  rintro e W6 ⟨AW, nW, cW, rfl, hi, hb⟩
  replace HLay := Lib.hid (HLay.out.below hb)
  replace HO1 := Lib.hid (HO1.out.below hb (Nat.le_refl _))
  replace HO2 := Lib.hid (HO2.out.below hb (Nat.le_refl _))
  replace HMi := Lib.hid (HMi.out.below hb (Nat.le_refl _))
  clear hb
  have hlen := roundR_len t u l dk
  obtain ⟨q1, hq1⟩ : ∃ y, (roundR t u l dk).getD ([], (0, 0)) = y := ⟨_, rfl⟩
  rw [hq1] at hi hlen ⊢
  have Hq1 := Lib.hid hq1
  clear hq1
  obtain ⟨e1, he1⟩ : ∃ y, roundX t u l dk = y := ⟨_, rfl⟩
  rw [he1]
  have He1 := Lib.hid he1
  clear he1
  have HW := Lib.hid hi
  clear hi
  have hnW : nW ≤ maxLen := by have := HW.out.len; unfold maxLen; omega
  clear hlen
  have x0_0 := (HLay.out.blk 0 rfl).cell 0
  have x0_1 := (HLay.out.blk 0 rfl).cell 1
  have l0_ := HLay.out.lt 0 rfl
  have x1_0 := (HLay.out.blk 1 rfl).cell 0
  have x1_1 := (HLay.out.blk 1 rfl).cell 1
  have l1_ := HLay.out.lt 1 rfl
  gi_wp2
  clear x0_0 x0_1 l0_ x1_0 x1_1 l1_
  have hb : Below W6.heap.size W6 (W6.alloc (.cells #[.int .i64 q1.2.1, .int .i64 q1.2.2] 59)) := (Below.refl _ _).alloc (Nat.le_refl _) _
  have hnew := Blk.new W6 59 #[.int .i64 q1.2.1, .int .i64 q1.2.2]
  have hge := HLay.out.bel.size
  replace HLay := Lib.hid (HLay.out.below hb)
  replace HO1 := Lib.hid (HO1.out.below hb (Nat.le_refl _))
  replace HO2 := Lib.hid (HO2.out.below hb (Nat.le_refl _))
  replace HMi := Lib.hid (HMi.out.below hb (Nat.le_refl _))
  replace HW := Lib.hid ((HW.out.below hb).more hb.size)
  replace HLay := Lib.hid (HLay.out.add hge hnew)
  clear hnew hge hb
  obtain ⟨G8, hG⟩ : ∃ g, W6.heap.size = g := ⟨_, rfl⟩
  rw [hG] at HLay ⊢
  generalize (W6.alloc (.cells #[.int .i64 q1.2.1, .int .i64 q1.2.2] 59)) = V7 at *
  clear hG
  replace HLay := Lib.hid (show Lay w V7 [(w.heap.size, 25, #[.slice A n c, .slice A' m d]), (G5, 25, #[.slice A1 n c1, .slice A1' m c1']), (G8, 59, #[.int .i64 q1.2.1, .int .i64 q1.2.2])] from HLay.out)
  refine ⟨trivial, (callsIn_wide.2 (rround_any A n c A' m d t u A2 k2 c2 l dk V7 hn1 hm1 hk1 ((HT.out.below HLay.out.bel).more HLay.out.bel.size) ((HR.out.below HLay.out.bel).more HLay.out.bel.size))).mono ?_⟩
  rintro e W9 ⟨AX, nX, cX, rfl, hi, hb⟩
  replace HLay := Lib.hid (HLay.out.below hb)
  replace HO1 := Lib.hid (HO1.out.below hb (Nat.le_refl _))
  replace HO2 := Lib.hid (HO2.out.below hb (Nat.le_refl _))
  replace HMi := Lib.hid (HMi.out.below hb (Nat.le_refl _))
  replace HW := Lib.hid ((HW.out.below hb).more hb.size)
  clear hb
  rw [Hq1.out] at hi ⊢
  rw [He1.out]
  have HX := Lib.hid hi
  clear hi
  have hnX : nX ≤ maxLen := by have h1 := HX.out.len; have h2 := HW.out.len; omega
  have x0_0 := (HLay.out.blk 0 rfl).cell 0
  have x0_1 := (HLay.out.blk 0 rfl).cell 1
  have l0_ := HLay.out.lt 0 rfl
  have x1_0 := (HLay.out.blk 1 rfl).cell 0
  have x1_1 := (HLay.out.blk 1 rfl).cell 1
  have l1_ := HLay.out.lt 1 rfl
  gi_wp2
  clear x0_0 x0_1 l0_ x1_0 x1_1 l1_
  have hb : Below W9.heap.size W9 (W9.alloc (.cells #[.int .i64 q1.2.1, .int .i64 q1.2.2] 59)) := (Below.refl _ _).alloc (Nat.le_refl _) _
  have hnew := Blk.new W9 59 #[.int .i64 q1.2.1, .int .i64 q1.2.2]
  have hge := HLay.out.bel.size
  replace HLay := Lib.hid (HLay.out.below hb)
  replace HO1 := Lib.hid (HO1.out.below hb (Nat.le_refl _))
  replace HO2 := Lib.hid (HO2.out.below hb (Nat.le_refl _))
  replace HMi := Lib.hid (HMi.out.below hb (Nat.le_refl _))
  replace HW := Lib.hid ((HW.out.below hb).more hb.size)
  replace HX := Lib.hid ((HX.out.below hb).more hb.size)
  replace HLay := Lib.hid (HLay.out.add hge hnew)
  clear hnew hge hb
  obtain ⟨G11, hG⟩ : ∃ g, W9.heap.size = g := ⟨_, rfl⟩
  rw [hG] at HLay ⊢
  generalize (W9.alloc (.cells #[.int .i64 q1.2.1, .int .i64 q1.2.2] 59)) = V10 at *
  clear hG
  replace HLay := Lib.hid (show Lay w V10 [(w.heap.size, 25, #[.slice A n c, .slice A' m d]), (G5, 25, #[.slice A1 n c1, .slice A1' m c1']), (G8, 59, #[.int .i64 q1.2.1, .int .i64 q1.2.2]), (G11, 59, #[.int .i64 q1.2.1, .int .i64 q1.2.2])] from HLay.out)
  refine ⟨trivial, (callsIn_wide.2 (order_any A1 n c1 A1' m c1' t u A3 k2 c3 l dk V10 hn1 hm1 hk1 ⟨ints_of_own HO1.out (Nat.le_refl _), links_of_own HO2.out (Nat.le_refl _)⟩ (ints_of_own HMi.out (Nat.le_refl _)) (HL.out.below HLay.out.bel hl0))).mono ?_⟩
  rintro e W12 ⟨rfl, hb⟩
  replace HLay := Lib.hid (HLay.out.below hb)
  replace HO1 := Lib.hid (HO1.out.below hb (Nat.le_refl _))
  replace HO2 := Lib.hid (HO2.out.below hb (Nat.le_refl _))
  replace HMi := Lib.hid (HMi.out.below hb (Nat.le_refl _))
  replace HW := Lib.hid ((HW.out.below hb).more hb.size)
  replace HX := Lib.hid ((HX.out.below hb).more hb.size)
  clear hb
  obtain ⟨q2, hq2⟩ : ∃ y, (orderR t u l dk).getD (0, 0) = y := ⟨_, rfl⟩
  rw [hq2]
  have Hq2 := Lib.hid hq2
  clear hq2
  obtain ⟨e2, he2⟩ : ∃ y, orderE t u l dk = y := ⟨_, rfl⟩
  rw [he2]
  have He2 := Lib.hid he2
  clear he2
  have x0_0 := (HLay.out.blk 0 rfl).cell 0
  have x0_1 := (HLay.out.blk 0 rfl).cell 1
  have l0_ := HLay.out.lt 0 rfl
  have x1_0 := (HLay.out.blk 1 rfl).cell 0
  have x1_1 := (HLay.out.blk 1 rfl).cell 1
  have l1_ := HLay.out.lt 1 rfl
  gi_wp2
  clear x0_0 x0_1 l0_ x1_0 x1_1 l1_
  have hb : Below W12.heap.size W12 (W12.alloc (.cells #[.int .i64 q2.1, .int .i64 q2.2] 59)) := (Below.refl _ _).alloc (Nat.le_refl _) _
  have hnew := Blk.new W12 59 #[.int .i64 q2.1, .int .i64 q2.2]
  have hge := HLay.out.bel.size
  replace HLay := Lib.hid (HLay.out.below hb)
  replace HO1 := Lib.hid (HO1.out.below hb (Nat.le_refl _))
  replace HO2 := Lib.hid (HO2.out.below hb (Nat.le_refl _))
  replace HMi := Lib.hid (HMi.out.below hb (Nat.le_refl _))
  replace HW := Lib.hid ((HW.out.below hb).more hb.size)
  replace HX := Lib.hid ((HX.out.below hb).more hb.size)
  replace HLay := Lib.hid (HLay.out.add hge hnew)
  clear hnew hge hb
  obtain ⟨G14, hG⟩ : ∃ g, W12.heap.size = g := ⟨_, rfl⟩
  rw [hG] at HLay ⊢
  generalize (W12.alloc (.cells #[.int .i64 q2.1, .int .i64 q2.2] 59)) = V13 at *
  clear hG
  replace HLay := Lib.hid (show Lay w V13 [(w.heap.size, 25, #[.slice A n c, .slice A' m d]), (G5, 25, #[.slice A1 n c1, .slice A1' m c1']), (G8, 59, #[.int .i64 q1.2.1, .int .i64 q1.2.2]), (G11, 59, #[.int .i64 q1.2.1, .int .i64 q1.2.2]), (G14, 59, #[.int .i64 q2.1, .int .i64 q2.2])] from HLay.out)
  refine ⟨trivial, (callsIn_wide.2 (rorderT_any A n c A' m d t u A2 k2 c2 l dk V13 hn1 hm1 hk1 ((HT.out.below HLay.out.bel).more HLay.out.bel.size) ((HR.out.below HLay.out.bel).more HLay.out.bel.size))).mono ?_⟩
  rintro e W15 ⟨rfl, hb⟩
  replace HLay := Lib.hid (HLay.out.below hb)
  replace HO1 := Lib.hid (HO1.out.below hb (Nat.le_refl _))
  replace HO2 := Lib.hid (HO2.out.below hb (Nat.le_refl _))
  replace HMi := Lib.hid (HMi.out.below hb (Nat.le_refl _))
  replace HW := Lib.hid ((HW.out.below hb).more hb.size)
  replace HX := Lib.hid ((HX.out.below hb).more hb.size)
  clear hb
  rw [Hq2.out, He2.out]
  have hs1 := eqToil_same q1.2.1 q1.2.2
  have hs2 := eqToil_same q2.1 q2.2
  have he1 : (e1 == e1) = true := by simp
  have he2 : (e2 == e2) = true := by simp
  have x0_0 := (HLay.out.blk 0 rfl).cell 0
  have x0_1 := (HLay.out.blk 0 rfl).cell 1
  have l0_ := HLay.out.lt 0 rfl
  have x1_0 := (HLay.out.blk 1 rfl).cell 0
  have x1_1 := (HLay.out.blk 1 rfl).cell 1
  have l1_ := HLay.out.lt 1 rfl
  gi_wp2
  clear x0_0 x0_1 l0_ x1_0 x1_1 l1_
  have hb : Below W15.heap.size W15 (W15.alloc (.cells #[.int .i64 q2.1, .int .i64 q2.2] 59)) := (Below.refl _ _).alloc (Nat.le_refl _) _
  have hnew := Blk.new W15 59 #[.int .i64 q2.1, .int .i64 q2.2]
  have hge := HLay.out.bel.size
  replace HLay := Lib.hid (HLay.out.below hb)
  replace HO1 := Lib.hid (HO1.out.below hb (Nat.le_refl _))
  replace HO2 := Lib.hid (HO2.out.below hb (Nat.le_refl _))
  replace HMi := Lib.hid (HMi.out.below hb (Nat.le_refl _))
  replace HW := Lib.hid ((HW.out.below hb).more hb.size)
  replace HX := Lib.hid ((HX.out.below hb).more hb.size)
  replace HLay := Lib.hid (HLay.out.add hge hnew)
  clear hnew hge hb
  obtain ⟨G17, hG⟩ : ∃ g, W15.heap.size = g := ⟨_, rfl⟩
  rw [hG] at HLay ⊢
  generalize (W15.alloc (.cells #[.int .i64 q2.1, .int .i64 q2.2] 59)) = V16 at *
  clear hG
  replace HLay := Lib.hid (show Lay w V16 [(w.heap.size, 25, #[.slice A n c, .slice A' m d]), (G5, 25, #[.slice A1 n c1, .slice A1' m c1']), (G8, 59, #[.int .i64 q1.2.1, .int .i64 q1.2.2]), (G11, 59, #[.int .i64 q1.2.1, .int .i64 q1.2.2]), (G14, 59, #[.int .i64 q2.1, .int .i64 q2.2]), (G17, 59, #[.int .i64 q2.1, .int .i64 q2.2])] from HLay.out)
  refine ⟨trivial, (callsIn_wide.2 (sameInts_any AW nW cW q1.1 AX nX cX q1.1 V16 hnW hnX HW.out HX.out)).mono ?_⟩
  rintro e W18 ⟨rfl, hb⟩
  replace HLay := Lib.hid (HLay.out.below hb)
  replace HO1 := Lib.hid (HO1.out.below hb (Nat.le_refl _))
  replace HO2 := Lib.hid (HO2.out.below hb (Nat.le_refl _))
  replace HMi := Lib.hid (HMi.out.below hb (Nat.le_refl _))
  replace HW := Lib.hid ((HW.out.below hb).more hb.size)
  replace HX := Lib.hid ((HX.out.below hb).more hb.size)
  clear hb
  rw [sameI_refl']
  have x0_0 := (HLay.out.blk 0 rfl).cell 0
  have x0_1 := (HLay.out.blk 0 rfl).cell 1
  have l0_ := HLay.out.lt 0 rfl
  have x1_0 := (HLay.out.blk 1 rfl).cell 0
  have x1_1 := (HLay.out.blk 1 rfl).cell 1
  have l1_ := HLay.out.lt 1 rfl
  have x2_0 := (HLay.out.blk 2 rfl).cell 0
  have x2_1 := (HLay.out.blk 2 rfl).cell 1
  have l2_ := HLay.out.lt 2 rfl
  have x3_0 := (HLay.out.blk 3 rfl).cell 0
  have x3_1 := (HLay.out.blk 3 rfl).cell 1
  have l3_ := HLay.out.lt 3 rfl
  have x4_0 := (HLay.out.blk 4 rfl).cell 0
  have x4_1 := (HLay.out.blk 4 rfl).cell 1
  have l4_ := HLay.out.lt 4 rfl
  have x5_0 := (HLay.out.blk 5 rfl).cell 0
  have x5_1 := (HLay.out.blk 5 rfl).cell 1
  have l5_ := HLay.out.lt 5 rfl
  gi_wp2
  clear x0_0 x0_1 l0_ x1_0 x1_1 l1_ x2_0 x2_1 l2_ x3_0 x3_1 l3_ x4_0 x4_1 l4_ x5_0 x5_1 l5_
  refine ⟨trivial, (callsIn_wide.2 (same_any A1 n c1 A1' m c1' t A n c A' m d t W18 (by unfold maxLen; omega) (by unfold maxLen; omega) (by unfold maxLen; omega) (by unfold maxLen; omega) ⟨ints_of_own HO1.out (Nat.le_refl _), links_of_own HO2.out (Nat.le_refl _)⟩ ((HT.out.below HLay.out.bel).more HLay.out.bel.size))).mono ?_⟩
  rintro e W19 ⟨rfl, hb⟩
  replace HLay := Lib.hid (HLay.out.below hb)
  replace HO1 := Lib.hid (HO1.out.below hb (Nat.le_refl _))
  replace HO2 := Lib.hid (HO2.out.below hb (Nat.le_refl _))
  replace HMi := Lib.hid (HMi.out.below hb (Nat.le_refl _))
  replace HW := Lib.hid ((HW.out.below hb).more hb.size)
  replace HX := Lib.hid ((HX.out.below hb).more hb.size)
  clear hb
  rw [sameT_refl']
  have x0_0 := (HLay.out.blk 0 rfl).cell 0
  have x0_1 := (HLay.out.blk 0 rfl).cell 1
  have l0_ := HLay.out.lt 0 rfl
  have x1_0 := (HLay.out.blk 1 rfl).cell 0
  have x1_1 := (HLay.out.blk 1 rfl).cell 1
  have l1_ := HLay.out.lt 1 rfl
  have x2_0 := (HLay.out.blk 2 rfl).cell 0
  have x2_1 := (HLay.out.blk 2 rfl).cell 1
  have l2_ := HLay.out.lt 2 rfl
  have x3_0 := (HLay.out.blk 3 rfl).cell 0
  have x3_1 := (HLay.out.blk 3 rfl).cell 1
  have l3_ := HLay.out.lt 3 rfl
  have x4_0 := (HLay.out.blk 4 rfl).cell 0
  have x4_1 := (HLay.out.blk 4 rfl).cell 1
  have l4_ := HLay.out.lt 4 rfl
  have x5_0 := (HLay.out.blk 5 rfl).cell 0
  have x5_1 := (HLay.out.blk 5 rfl).cell 1
  have l5_ := HLay.out.lt 5 rfl
  gi_wp2
  clear x0_0 x0_1 l0_ x1_0 x1_1 l1_ x2_0 x2_1 l2_ x3_0 x3_1 l3_ x4_0 x4_1 l4_ x5_0 x5_1 l5_
  refine ⟨trivial, (callsIn_wide.2 (sameInts_any A3 k2 c3 l A2 k2 c2 l W19 (by unfold maxLen; omega) (by unfold maxLen; omega) (ints_of_own HMi.out (Nat.le_refl _)) ((HR.out.below HLay.out.bel).more HLay.out.bel.size))).mono ?_⟩
  rintro e W20 ⟨rfl, hb⟩
  replace HLay := Lib.hid (HLay.out.below hb)
  replace HO1 := Lib.hid (HO1.out.below hb (Nat.le_refl _))
  replace HO2 := Lib.hid (HO2.out.below hb (Nat.le_refl _))
  replace HMi := Lib.hid (HMi.out.below hb (Nat.le_refl _))
  replace HW := Lib.hid ((HW.out.below hb).more hb.size)
  replace HX := Lib.hid ((HX.out.below hb).more hb.size)
  clear hb
  rw [sameI_refl']
  gi_wp2
  exact bodyPost_ret (v := .bool true) (by simp [results, Tryd.results8, go_sem]) rfl ⟨rfl, HLay.out.bel⟩
theorem rounds_walk (A : Option Addr) (n c : Nat) (A' : Option Addr) (m d : Nat) (t : Town) (u : Int) (A2 : Option Addr) (k2 c2 : Nat) (l : List Int) (dk : Bool) (w : World) (hn : n ≤ maxLen) (hm : m ≤ maxLen) (hk : k2 ≤ maxLen) (ht : TownAt w w.heap.size A n A' m t) (hr : IntsAt w w.heap.size A2 k2 l) (hL : Laid w) :
    Calls Tryd.prog 8 #[.agg #[.slice A n c, .slice A' m d], .int .i64 u, .slice A2 k2 c2, .bool dk] w fun e w' => e = .returned (.bool true) ∧ Below w.heap.size w w' :=
  callsIn_wide.1 (rounds_walk_in A n c A' m d t u A2 k2 c2 l dk w hn hm hk ht hr hL)
end Go.Proofs.YtahkjagjcogeiaaDoor
/- The table of checks as the row lists it: its three cells. The door's own heap meets the condition. -/
namespace Go.Proofs.YtahkjagjcogeiaaDoor
open Go.ChangeShapes Go.WideShapes Go.ChangeAt Go.RowKit
set_option linter.unusedVariables false
set_option maxRecDepth 100000

def laidL : List (String × DataW Unit) := [("aguador/climb.checks", Rows.laid_aguador_climb_checks)]
theorem gChecks : Tryd.prog.globalNamed "aguador/climb.checks" = some 0 := by kernel_rfl
theorem tChecks : (Tryd.prog.globals[0]?).map (·.type) = some 149 := by kernel_rfl
theorem cellsCheck : Tryd.prog.cellsOf 148 = 1 := by kernel_rfl
theorem cellsFuncB : Tryd.prog.cellsOf 30 = 1 := by kernel_rfl
theorem checkUnd : ∃ f, Tryd.prog.underlying 148 = some (.struct #[f]) ∧ f.type = 30 ∧ f.offset = 0 := ⟨_, Tryd.underlying148, rfl, rfl⟩

/-- The door's own heap meets the condition. -/
theorem door_met (os : Os) (args : Array Value) : laidMetH Tryd.prog laidL ((World.doorLaid Tryd.prog 800 os).forCall (fun _ _ => 0) ⟨#[], args, []⟩).memory :=
  laidMetH_of_parts3 (fuel := 8) (laidMet_of_run' 8 (by kernel_rfl) (by kernel_rfl)) (by kernel_rfl) (by kernel_rfl)

theorem check_cell {W : World} {fuel : Nat} {cs : List Value} {b : UInt8} {r : List UInt8} {q : List MemPlace} {f0 : FuncId} (h : DataW.trod (funcToken Tryd.prog) Tryd.prog W 0 (fun _ => true) true fuel 148 cs = some (.agg [.held (b :: r)], q))
    (hone : ((List.range Tryd.prog.funcs.size).filter fun f => (Tryd.prog.funcs[f]?).any (·.name.toUTF8.data.toList == b :: r)) = [f0]) : cs = [.func (.func f0) #[] #[]] := by
  obtain ⟨f, hu, ht, ho⟩ := checkUnd
  obtain ⟨y0, n, hx, hl, h0⟩ := trod_struct1 hu h
  rw [cellsCheck] at hl
  match cs, hl with
  | [c], _ =>
    have h1 : DataW.trod (funcToken Tryd.prog) Tryd.prog W 0 (fun _ => true) true n 30 [c] = some y0 := by simpa [ht, ho, cellsFuncB] using h0
    simp only [Prod.mk.injEq, DataW.agg.injEq, List.cons.injEq, and_true] at hx
    obtain ⟨z, p⟩ := y0
    obtain ⟨e1, e2⟩ := hx
    simp only at e1
    subst e1
    rw [func_of_trod Tryd.underlying30 hone h1]

theorem of_laid {W : World} (h : laidMetH Tryd.prog laidL W) : Laid W := by
  obtain ⟨g, t, cs, fuel, p, hg, ht, hv, hd⟩ := h.funcs (List.mem_singleton.2 rfl)
  obtain rfl := Option.some.inj (gChecks.symm.trans hg)
  obtain rfl := Option.some.inj (tChecks.symm.trans ht)
  obtain ⟨xs, m, _, hx, hlen, hn, hel⟩ := DataW.trod_array Tryd.underlying149 hd
  rw [cellsCheck] at hel
  match xs, hn with
  | [x0, x1, x2], _ =>
    have h0 := hel 0 (by decide)
    have h1 := hel 1 (by decide)
    have h2 := hel 2 (by decide)
    simp only [Prod.mk.injEq] at hx
    have hx1 := hx.1
    simp only [DataW.funcsOut, DataW.funcsOutAll, List.map_cons, List.map_nil, DataW.agg.injEq, List.cons.injEq, and_true] at hx1
    obtain ⟨e0, e1, e2⟩ := hx1
    obtain ⟨x0, p0⟩ := x0
    obtain ⟨x1, p1⟩ := x1
    obtain ⟨x2, p2⟩ := x2
    simp only at e0 e1 e2
    subst e0 e1 e2
    have k0 := check_cell (f0 := 182) h0 (by kernel_rfl)
    have k1 := check_cell (f0 := 183) h1 (by kernel_rfl)
    have k2 := check_cell (f0 := 184) h2 (by kernel_rfl)
    have at_ : ∀ i, W.cell? ⟨0, i, none⟩ = cs[i]? := fun i => by simpa using World.var?_cell hg hv i
    obtain ⟨l⟩ := cs
    have c0 : W.cell? ⟨0, 0, none⟩ = some (.func (.func 182) #[] #[]) := by
      rw [at_]
      have := congrArg (·[0]?) k0
      simpa [List.getElem?_take, List.getElem?_drop] using this
    have c1 : W.cell? ⟨0, 1, none⟩ = some (.func (.func 183) #[] #[]) := by
      rw [at_]
      have := congrArg (·[0]?) k1
      simpa [List.getElem?_take, List.getElem?_drop] using this
    have c2 : W.cell? ⟨0, 2, none⟩ = some (.func (.func 184) #[] #[]) := by
      rw [at_]
      have := congrArg (·[0]?) k2
      simpa [List.getElem?_take, List.getElem?_drop] using this
    exact ⟨c0, c1, c2, World.block_lt_of_cell? W _ c0⟩

end Go.Proofs.YtahkjagjcogeiaaDoor
/- The laws' arguments, opened: lists of whole numbers, lists of links, towns, a link; the table of checks. -/
namespace Go.Proofs.YtahkjagjcogeiaaDoor
open Go.ChangeShapes Go.WideShapes Go.RowKit Go.Deep Go.Joins
set_option linter.unusedVariables false
set_option maxRecDepth 100000

section
variable {H : Type} {enc : TypeId × Value → H} {P : Program} {w : World} {base : Nat} {spare : Nat → Bool} {held : Bool}
end

section
variable {H : Type} {enc : TypeId × Value → H} {w : World}

theorem linkUnd : ∃ f0 f1 f2 f3 f4, Tryd.prog.underlying 45 = some (.struct #[f0, f1, f2, f3, f4]) ∧ oneCellFields Tryd.prog #[f0, f1, f2, f3, f4] = true ∧ f0.type = 3 ∧ f1.type = 3 ∧ f2.type = 3 ∧ f3.type = 3 ∧ f4.type = 3 ∧ f0.offset = 0 ∧ f1.offset = 1 ∧ f2.offset = 2 ∧ f3.offset = 3 ∧ f4.offset = 4 :=
  ⟨_, _, _, _, _, Tryd.underlying45, by kernel_rfl, rfl, rfl, rfl, rfl, rfl, rfl, rfl, rfl, rfl, rfl⟩
theorem cellsLink : Tryd.prog.cellsOf 45 = 5 := by kernel_rfl
theorem cellsInt1 : Tryd.prog.cellsOf 3 = 1 := by kernel_rfl
theorem cellsTown2 : Tryd.prog.cellsOf 25 = 2 := by kernel_rfl

/-- A list of whole numbers. -/
theorem ints_open {v : Value} {fuel : Nat} {x : DataW H × List MemPlace} (h : DataW.trod enc Tryd.prog w 0 (fun _ => true) true fuel 22 [v] = some x) :
    ∃ A n c l, v = .slice A n c ∧ n ≤ c ∧ n ≤ maxLen ∧ c ≤ maxLen ∧ IntsAt w w.heap.size A n l := by
  rcases open_slice1 Tryd.underlying22 cellsInt1 h with ⟨e, _⟩ | ⟨a, len, cap, m, k, V, D, Pl, e, _, hl, hm, hmm, _, hx⟩
  · simp only [List.cons.injEq, and_true] at e
    exact ⟨none, 0, 0, [], e, Nat.le_refl _, Nat.zero_le _, Nat.zero_le _, Reads.none_⟩
  · simp only [List.cons.injEq, and_true] at e
    have hmc : m = cap := by simpa using hmm
    subst hmc
    have hn : ∀ i, i < m → ∃ z : Int, V i = .int .i64 z := fun i hi => by
      obtain ⟨z, f0, _, _⟩ := DataW.trod_int Tryd.underlying3 (hx i hi).2
      simp only [List.cons.injEq, and_true] at f0
      exact ⟨z, f0⟩
    obtain ⟨Z, hZ⟩ := choose_lt hn
    refine ⟨some a, len, m, (List.range len).map Z, e, hl, by omega, hm, by simp, fun h0 => ⟨a, rfl, ?_, fun j u hu => ?_⟩⟩
    · have := World.block_lt_of_cell? w _ (hx 0 (by omega)).1
      rwa [block_of_add] at this
    · simp only [List.getElem?_map, Option.map_map] at hu
      have hj : j < len := by
        rcases Nat.lt_or_ge j len with h' | h'
        · exact h'
        · rw [List.getElem?_eq_none (by simpa using h')] at hu; cases hu
      rw [List.getElem?_range hj] at hu
      simp only [Option.map_some, Option.some.injEq, Function.comp] at hu
      rw [(hx j (by omega)).1, hZ j (by omega), ← hu]

/-- A link's five cells. -/
theorem link_cells {fuel : Nat} {cs : List Value} {x : DataW H × List MemPlace} (h : DataW.trod enc Tryd.prog w 0 (fun _ => true) true fuel 45 cs = some x) (hl : cs.length = 5) : ∃ l : Link, cs = l.vals := by
  obtain ⟨f0, f1, f2, f3, f4, hu, hone, t0, t1, t2, t3, t4, z0, z1, z2, z3, z4⟩ := linkUnd
  obtain ⟨xs, n, _, _, _, hlen, hg⟩ := DataW.trod_struct hu h
  match cs, hl, xs, hlen with
  | [c0, c1, c2, c3, c4], _, [y0, y1, y2, y3, y4], _ =>
    have h0 : DataW.trod enc Tryd.prog w 0 (fun _ => true) true n 3 [c0] = some y0 := by simpa [t0, z0, cellsInt1] using hg 0 f0 rfl
    have h1 : DataW.trod enc Tryd.prog w 0 (fun _ => true) true n 3 [c1] = some y1 := by simpa [t1, z1, cellsInt1] using hg 1 f1 rfl
    have h2 : DataW.trod enc Tryd.prog w 0 (fun _ => true) true n 3 [c2] = some y2 := by simpa [t2, z2, cellsInt1] using hg 2 f2 rfl
    have h3 : DataW.trod enc Tryd.prog w 0 (fun _ => true) true n 3 [c3] = some y3 := by simpa [t3, z3, cellsInt1] using hg 3 f3 rfl
    have h4 : DataW.trod enc Tryd.prog w 0 (fun _ => true) true n 3 [c4] = some y4 := by simpa [t4, z4, cellsInt1] using hg 4 f4 rfl
    obtain ⟨n0, e0, _, _⟩ := DataW.trod_int Tryd.underlying3 h0
    obtain ⟨n1, e1, _, _⟩ := DataW.trod_int Tryd.underlying3 h1
    obtain ⟨n2, e2, _, _⟩ := DataW.trod_int Tryd.underlying3 h2
    obtain ⟨n3, e3, _, _⟩ := DataW.trod_int Tryd.underlying3 h3
    obtain ⟨n4, e4, _, _⟩ := DataW.trod_int Tryd.underlying3 h4
    simp only [List.cons.injEq, and_true] at e0 e1 e2 e3 e4
    subst e0 e1 e2 e3 e4
    exact ⟨⟨n0, n1, n2, n3, n4⟩, rfl⟩

/-- A list of links. -/
theorem links_open {v : Value} {fuel : Nat} {x : DataW H × List MemPlace} (h : DataW.trod enc Tryd.prog w 0 (fun _ => true) true fuel 23 [v] = some x) :
    ∃ A n c l, v = .slice A n c ∧ n ≤ c ∧ n ≤ maxLen ∧ c ≤ maxLen ∧ LinksAt w w.heap.size A n l := by
  rcases open_slice Tryd.underlying23 h with ⟨e, _⟩ | ⟨a, len, cap, m, k, D, Pl, e, _, hl, hm, hmm, _, hx⟩
  · simp only [List.cons.injEq, and_true] at e
    exact ⟨none, 0, 0, [], e, Nat.le_refl _, Nat.zero_le _, Nat.zero_le _, Reads.none_⟩
  · simp only [List.cons.injEq, and_true] at e
    have hmc : m = cap := by simpa using hmm
    subst hmc
    have hn : ∀ i, i < m → ∃ z : Link, ∀ j, j < 5 → w.cell? (a.add (i * 5 + j)) = z.vals[j]? := fun i hi => by
      obtain ⟨cs', h1, h2⟩ := hx i hi
      rw [cellsLink] at h1
      obtain ⟨_, hcl, hat⟩ := World.cells?_some h1
      obtain ⟨z, rfl⟩ := link_cells h2 hcl
      exact ⟨z, fun j hj => by rw [← Go.Deep.add_add, hat j hj]⟩
    letI : Inhabited Link := ⟨⟨0, 0, 0, 0, 0⟩⟩
    obtain ⟨Z, hZ⟩ := choose_lt hn
    refine ⟨some a, len, m, (List.range len).map Z, e, hl, by omega, hm, by rw [flat_len]; simp, fun h0 => ⟨a, rfl, ?_, fun j u hu => ?_⟩⟩
    · have := World.block_lt_of_cell? w _ (hZ 0 (by omega) 0 (by omega))
      rwa [block_of_add] at this
    · have hj : j < len * 5 := by
        rcases Nat.lt_or_ge j (len * 5) with h' | h'
        · exact h'
        · rw [List.getElem?_eq_none (by rw [flat_len]; simpa using h')] at hu; cases hu
      have hz := hZ (j / 5) (by omega) (j % 5) (by omega)
      have ha : ((List.range len).map Z)[j / 5]? = some (Z (j / 5)) := by rw [List.getElem?_map, List.getElem?_range (by omega)]; rfl
      have hf := flat_at ha (show j % 5 < 5 by omega)
      rw [show j / 5 * 5 + j % 5 = j by omega] at hf hz
      rw [hz, ← hf, hu]

/-- A town, by value. -/
theorem town_open {r : Reach} {b0 : Nat} {v : Value} {d : DataW H} {p : List MemPlace} (hv : Value.okWide Tryd.prog w r b0 25 v) (h : DataW.Trod enc Tryd.prog w 0 (fun _ => true) true 25 v d p) :
    ∃ A n c A' m d' t, v = .agg #[.slice A n c, .slice A' m d'] ∧ n ≤ maxLen ∧ m ≤ maxLen ∧ n ≤ c ∧ m ≤ d' ∧ TownAt w w.heap.size A n A' m t := by
  obtain ⟨v0, v1, y0, y1, k, rfl, _, _, h0, h1⟩ := open_agg2 Tryd.underlying25 (by kernel_rfl) cellsTown2 hv h
  obtain ⟨A, n, c, l, rfl, hn, hx, _, hr⟩ := ints_open h0
  obtain ⟨A', m, d', l', rfl, hm, hx', _, hr'⟩ := links_open h1
  exact ⟨A, n, c, A', m, d', ⟨l, l'⟩, rfl, hx, hx', hn, hm, ⟨hr, hr'⟩⟩
end

end Go.Proofs.YtahkjagjcogeiaaDoor
/- The laws' arguments, opened: skins and gaits. What every row's proof wants. -/
namespace Go.Proofs.YtahkjagjcogeiaaDoor
open Go.ChangeShapes Go.WideShapes Go.RowKit Go.Deep Go.Joins
set_option linter.unusedVariables false
set_option maxRecDepth 100000
theorem ownT' : ownKnob Tryd.prog.godebug = none := by kernel_rfl
theorem laidOutT' : laidOutB Tryd.prog = true := by kernel_rfl
section
variable {H : Type} {enc : TypeId × Value → H} {w : World}
end
end Go.Proofs.YtahkjagjcogeiaaDoor
/- ClimbRounds: whatever the arguments, the law answers true. The row, and the card. -/
namespace Go.Proofs.YtahkjagjcogeiaaDoor
open Go.ChangeShapes Go.WideShapes Go.ChangeAt Go.RowKit Go.Joins
set_option linter.unusedVariables false

set_option maxRecDepth 100000 in
theorem rounds_lifted (os : Os) (started : os.Started) (H : Type) (enc : TypeId × Value → H) :
    ReturnsInHanded {} Tryd.checked os 8 .any (fun w args => (Rows.climbRoundsSpec.pre enc Tryd.prog Tryd.f8 [] false w args ∧ laidMetH Tryd.prog laidL w) ∧ sizedMet enc Tryd.prog Tryd.f8 (OpenSpec.ofChange Rows.climbRoundsSpec) false w args)
      (Rows.climbRoundsSpec.post enc Tryd.prog Tryd.f8 false true false false) := by
  refine returnsInHanded_of_change_and (C := Tryd.checked) (X := fun w _ => laidMetH Tryd.prog laidL w) (fun _ _ _ hh h => h.of_heap hh) ownT' started (by kernel_rfl) Tryd.func8
    (ChangeSpec.witness_shaped (enc := enc) (C := Tryd.checked) (os := os) (X := fun w _ => laidMetH Tryd.prog laidL w) false (World.doorLaid Tryd.prog 800 os) #[.agg #[.slice none 0 0, .slice none 0 0], .int .i64 0, .slice none 0 0, .bool false] 8 rfl (World.shaped_of_RefB (by kernel_rfl) (by kernel_rfl)) (by kernel_rfl) (by kernel_rfl) (by kernel_rfl) (door_met os _)) ?_
  intro W base args ds gs before hval0 hW _ _ hL _
  have hval : ∀ (j : Nat) t v, Tryd.f8.params[j]? = some t → args[j]? = some v → Value.okWide Tryd.prog W .any base t v := hval0
  have hW' := hW
  obtain ⟨p, q, hA0, hV, rfl, hfz, hnd⟩ := hW
  have hA : DataW.TrodAll enc Tryd.prog W 0 (fun _ => true) true Tryd.f8.params.toList args.toList ds p := hA0
  rw [Tryd.params8] at hA hval
  obtain ⟨v0, vs0, d0, ds0, p0, q0, hargs, rfl, rfl, h0, r0⟩ := trodAll_cons hA
  obtain ⟨v1, vs1, d1, ds1, p1, q1, rfl, rfl, rfl, h1, r1⟩ := trodAll_cons r0
  obtain ⟨v2, vs2, d2, ds2, p2, q2, rfl, rfl, rfl, h2, r2⟩ := trodAll_cons r1
  obtain ⟨v3, vs3, d3, ds3, p3, q3, rfl, rfl, rfl, h3, r3⟩ := trodAll_cons r2
  obtain ⟨rfl, rfl, rfl⟩ := trodAll_nil r3
  obtain rfl : args = #[v0, v1, v2, v3] := by cases args; simp_all
  obtain ⟨rfl, rfl⟩ := trodVars_none hV
  have lt0 : ∀ x ∈ p0, x.block < W.heap.size := by obtain ⟨m, hm⟩ := h0; exact DataW.trod_lt m _ _ _ hm
  have lt1 : ∀ x ∈ p1, x.block < W.heap.size := by obtain ⟨m, hm⟩ := h1; exact DataW.trod_lt m _ _ _ hm
  have lt2 : ∀ x ∈ p2, x.block < W.heap.size := by obtain ⟨m, hm⟩ := h2; exact DataW.trod_lt m _ _ _ hm
  have lt3 : ∀ x ∈ p3, x.block < W.heap.size := by obtain ⟨m, hm⟩ := h3; exact DataW.trod_lt m _ _ _ hm
  have hl := of_laid hL
  obtain ⟨A, n, c, A', m, d, t, e0, hn, hm, hnc, hmd, ht⟩ := town_open (hval 0 25 v0 rfl rfl) h0
  obtain ⟨s1, e1⟩ := okWide_int Tryd.underlying3 (hval 1 3 v1 rfl rfl)
  obtain ⟨A2, k2, c2, e2⟩ := okWide_slice Tryd.underlying22 (hval 2 22 v2 rfl rfl)
  have hh2 := h2
  obtain ⟨fu, hf2⟩ := hh2
  rw [e2, show (Value.slice A2 k2 c2).cells = #[.slice A2 k2 c2] from rfl] at hf2
  obtain ⟨B2, j2, b2, l, e2', _, hk, _, hr⟩ := ints_open hf2
  rw [← e2] at e2'
  clear e2 hf2
  obtain ⟨s3, e3⟩ := okWide_bool Tryd.underlying4 (hval 3 4 v3 rfl rfl)
  clear hA0 hval0 hval
  subst e0 e1 e2' e3
  refine (rounds_walk A n c A' m d t s1 B2 j2 b2 l s3 W hn hm hk ht hr hl).mono fun e W' ⟨he, bel⟩ => ?_
  subst he
  exact ⟨_, rfl, _, _, _, [], _, [], hW', trodAll_mk1 (shut_bool Tryd.underlying4 _), (trodAll_cons_mk (Below.trod laidOutT' (by kernel_rfl) (of_decide_eq_true (by kernel_rfl)) h0 bel lt0) (trodAll_cons_mk (Below.trod laidOutT' (by kernel_rfl) (of_decide_eq_true (by kernel_rfl)) h1 bel lt1) (trodAll_cons_mk (Below.trod laidOutT' (by kernel_rfl) (of_decide_eq_true (by kernel_rfl)) h2 bel lt2) (trodAll_cons_mk (Below.trod laidOutT' (by kernel_rfl) (of_decide_eq_true (by kernel_rfl)) h3 bel lt3) trodAll_mk0)))), rfl, bel.frame _, fun h => by cases h⟩

theorem rounds_holds : Rows.ClimbRoundsSaid :=
  OpenClaim.holds_of_wide 8 Tryd.f8 rfl rfl rfl rfl rfl rfl rfl ⟨rfl, rfl, rfl, rfl, rfl⟩ rfl rfl rfl rfl rfl (by kernel_rfl) Tryd.func8 (by kernel_rfl)
    (of_decide_eq_true (by kernel_rfl)) (by unfold Func.isWrapper; first | (rw [if_pos (by decide +kernel)]; kernel_rfl) | (rw [if_neg (by decide +kernel)]; exact ⟨rfl, rfl⟩))
    (fun os started H enc _ => rounds_lifted os started H enc)

theorem rounds_card : Rows.ClimbRoundsCardSaid :=
  Claim7.holds_tied_plain_at .later [] [.funcs] true (true, "35db601371cf4e3db72291b0fffac302dc4738302ccce79cad216ebd535e90b1") false
    rounds_holds (fun _ h => by cases h) (by kernel_rfl) (fun _ h => by cases h) climbRounds_row_tie rfl ⟨rfl, rfl⟩ (by kernel_rfl) rfl
    (fun f fn hf hfn => by
      obtain rfl : f = 8 := Option.some.inj ((show Tryd.prog.funcNamed "aguador/aguadorlaw03.ClimbRounds" = some 8 by kernel_rfl).symm.trans hf) |>.symm
      obtain rfl : fn = Tryd.f8 := (Option.some.inj (Tryd.func8.symm.trans hfn)).symm
      exact ⟨by kernel_rfl, fun j t ht => by
        rw [Tryd.params8] at ht
        have hm : t ∈ [25, 3, 22, 4] := by simpa using Array.mem_of_getElem? ht
        have hall : ([25, 3, 22, 4].all fun u => !Tryd.prog.wantsStandIn u) = true := by kernel_rfl
        exact (show Tryd.prog.wantsStandIn t = false by simpa using List.all_eq_true.1 hall t hm)⟩)
    (by kernel_rfl)
#print axioms rounds_card
end Go.Proofs.YtahkjagjcogeiaaDoor
