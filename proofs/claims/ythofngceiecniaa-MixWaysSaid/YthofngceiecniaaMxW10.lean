/- Part 10 of the texts of this claim, joined. -/
import Derived.Sort.CutIn
import Derived.IntWalk
import Derived.Lib.Meet
import Derived.Test.YthofngceiecniaaRows
import Derived.RangeFuncNested
import Derived.RangeFuncBound
import Derived.Test.YthofngceiecniaaMxW9
set_option linter.unusedVariables false
/- The answer's Mix, and Check. -/
namespace Go.Proofs.Ythofngceiecniaa
section
open Go.RowKit
theorem bad_ids {m : Mix} (h : risB 0 (m.vessels.map (·.id)) = false) : okMix m = false := by unfold okMix; rw [h]; simp
theorem bad_nums {m : Mix} (h : risB 0 (m.tastes.map (·.num)) = false) : okMix m = false := by unfold okMix; rw [h]; simp
theorem ris_at {α : Type} {f : α → Int} {l : List α} {k : Nat} {x : α} (hx : l[k]? = some x) (h : risB 0 ((l.take k).map f) = true) : risB 0 ((l.take (k + 1)).map f) = wiB (f x) (((l.take k).map f).getLast?.getD 0 + 1) 9999 := by
 obtain ⟨hk, rfl⟩ := List.getElem?_eq_some_iff.1 hx
 rw [List.take_succ_eq_append_getElem hk, List.map_append, List.map_cons, List.map_nil, risB_snoc, h, Bool.true_and]
 rfl
theorem last_at {α : Type} {f : α → Int} {l : List α} {k : Nat} {x : α} (hx : l[k]? = some x) : ((l.take (k + 1)).map f).getLast?.getD 0 = f x := by
 obtain ⟨hk, rfl⟩ := List.getElem?_eq_some_iff.1 hx
 rw [List.take_succ_eq_append_getElem hk, List.map_append, List.map_cons, List.map_nil, List.getLast?_concat]
 rfl
theorem ris_take {α : Type} {f : α → Int} {l : List α} {k : Nat} (h : risB 0 ((l.take k).map f) = false) : risB 0 (l.map f) = false := by
 cases h0 : risB 0 (l.map f) with
 | false => rfl
 | true =>
  have := ris_pre (k := k) h0
  rw [← List.map_take] at this
  rw [this] at h
  cases h
theorem all_take {α : Type} {p : α → Bool} {l : List α} {k : Nat} (h : (l.take k).all p = false) : l.all p = false := by
 cases h0 : l.all p with
 | false => rfl
 | true => exact absurd ((all_pre (k := k) h0).symm.trans h) (by decide)
set_option maxRecDepth 100000 in
set_option maxHeartbeats 16000000 in
theorem rmix_any (Av : Option Addr) (nv cv : Nat) (Aa : Option Addr) (na ca : Nat) (At : Option Addr) (nt ct : Nat) (m : Mix) (w : World) (h : MixS w Av nv Aa na At nt m) :
  Calls Try.prog 45 #[.agg #[.int .i64 m.fountains, .slice Av nv cv, .slice Aa na ca, .slice At nt ct]] w fun e w' => e = .returned (.bool (okMix m)) ∧ Below w.heap.size w w' := by
 have HM := lh h
 have HLV := lh h.at_.lenV
 have HLA := lh h.at_.lenA
 have HLT := lh h.at_.lenT
 have hnv := h.hv
 have hna := h.ha
 have hnt := h.ht
 clear h
 go_enter Try.func45, Try.ntmps45
 go_upto_region 1 with fail
 have Ly := lh (Lay.one w 26 #[.int .i64 m.fountains, .slice Av nv cv, .slice Aa na ca, .slice At nt ct])
 generalize (w.alloc (.cells #[.int .i64 m.fountains, .slice Av nv cv, .slice Aa na ca, .slice At nt ct] 26)) = w0 at *
 obtain ⟨x0, x1, x2, x3⟩ := lyc4 Ly 0 rfl
 have xl := Ly.out.lt 0 rfl
 go_wp2_with fail
 refine (within_any m.fountains 1 4 w0).mono ?_
 rintro e W1 ⟨rfl, rfl⟩
 by_cases hG : (1 ≤ m.fountains ∧ m.fountains ≤ 4) ∧ m.vessels.length ≤ 4 ∧ m.acts.length ≤ 12 ∧ m.tastes.length ≤ 8
 ·have HG := lh hG
  have hi : wiB m.fountains 1 4 = true := decide_eq_true hG.1
  have hn4 : nv ≤ 4 := by have := HLV.out; omega
  have hn12 : na ≤ 12 := by have := HLA.out; omega
  have hn8 : nt ≤ 8 := by have := HLT.out; omega
  have d1 : (nv : Int) ≤ 4 := by omega
  have d2 : (na : Int) ≤ 12 := by omega
  have d3 : (nt : Int) ≤ 8 := by omega
  rw [hi]
  clear hi hG
  go_wp2_with fail
  clear d1 d2 d3 x0 x1 x2 x3 xl
  go_loopw [3, 35] (fun v3 i wr => ∃ k : Nat, k ≤ nv ∧ i = .int .i64 k ∧ v3 = .int .i64 (((m.vessels.take k).map (·.id)).getLast?.getD 0) ∧ Hid (Lay w wr [(w.heap.size, 26, #[.int .i64 m.fountains, .slice Av nv cv, .slice Aa na ca, .slice At nt ct])] ∧ (m.vessels.take k).all vessB = true ∧ risB 0 ((m.vessels.take k).map (·.id)) = true))
   (fun _ i _ => nv - (intOf i).toNat)
  case atStart => exact ⟨0, by omega, rfl, rfl, lh ⟨Ly.out, rfl, rfl⟩⟩
  case round =>
   clear Ly
   obtain ⟨k, hk, rfl, rfl, HS⟩ := hrel
   obtain ⟨hl0, hl1⟩ := ris_last HS.out.2.2
   obtain ⟨p, hp⟩ : ∃ p, ((m.vessels.take k).map (·.id)).getLast?.getD 0 = p := ⟨_, rfl⟩
   have Ly := lh HS.out.1
   rw [hp] at hl0 hl1 ⊢
   have HP := lh hp
   clear hp
   have x1 := lyc Ly 0 rfl 1
   have x3 := lyc Ly 0 rfl 3
   have xl := Ly.out.lt 0 rfl
   by_cases hlt : k < nv
   ·clear x1 x3 xl
    obtain ⟨b, off, x, rfl, hbB, hx, hc0, hc1⟩ := (HM.out.at_.below Ly.out.1).vess hlt
    have HX := lh hx
    clear hx
    go_upto_region 7 with fail
    have hb1 : Below wr.heap.size wr (wr.alloc (.cells #[.int .i64 x.id, .int .i64 x.size] 80)) := (Below.refl _ _).alloc (Nat.le_refl _) _
    have HN := lh (Blk.new wr 80 #[.int .i64 x.id, .int .i64 x.size])
    obtain ⟨g8, hg8⟩ : ∃ g, wr.heap.size = g := ⟨_, rfl⟩
    generalize wr.alloc (.cells #[.int .i64 x.id, .int .i64 x.size] 80) = wa at *
    have HB1 := lh hb1
    rw [hg8] at HN ⊢
    have y0 := HN.out.cell 0
    have y1 := HN.out.cell 1
    have yl := HN.out.lt
    clear hb1 hc0 hc1
    have HRS := lh (ris_at (f := (·.id)) HX.out HS.out.2.2)
    have HAS := lh (all_step HX.out HS.out.2.1)
    have HLST := lh (last_at (f := fun v : Vess => v.id) HX.out)
    rw [HP.out] at HRS
    go_wp2_with fail
    refine (within_any x.id (p + 1) 9999 wa).mono ?_
    rintro e W ⟨rfl, rfl⟩
    cases hi : wiB x.id (p + 1) 9999 with
    | false =>
     rw [hi] at HRS
     clear hi
     go_wp2_with fail
     go_ret
     exact ⟨ret_bool (bad_ids (ris_take HRS.out)).symm, Ly.out.1.trans (HB1.out.mono Ly.out.1.size)⟩
    | true =>
     rw [hi] at HRS
     clear hi
     go_wp2_with fail
     refine (within_any x.size 1 12 wa).mono ?_
     rintro e W ⟨rfl, rfl⟩
     have hvs : vessB x = wiB x.size 1 12 := rfl
     rw [hvs] at HAS
     clear hvs
     cases hi : wiB x.size 1 12 with
     | false =>
      rw [hi] at HAS
      clear hi
      go_wp2_with fail
      go_ret
      exact ⟨ret_bool (bad_vess (all_take HAS.out)).symm, Ly.out.1.trans (HB1.out.mono Ly.out.1.size)⟩
     | true =>
      rw [hi] at HAS
      clear hi
      go_wp2_with fail
      go_roundw
      case rel => exact ⟨k + 1, by omega, by go_num, by rw [HLST.out], lh ⟨Ly.out.below HB1.out, HAS.out, HRS.out⟩⟩
      case measure => simp [intOf]; omega
   ·obtain rfl : nv = k := by omega
    have hz : m.vessels.all vessB = true := by
     have := HS.out.2.1
     rwa [List.take_of_length_le (by have := HLV.out; omega)] at this
    have hr : risB 0 (m.vessels.map (·.id)) = true := by
     have := HS.out.2.2
     rwa [List.take_of_length_le (by have := HLV.out; omega)] at this
    have HZ := lh hz
    have HRI := lh hr
    clear hz hr
    go_wp2_with fail
    clear x1 x3 xl HP hl0 hl1
    obtain ⟨wo, rfl⟩ : ∃ wo, wo = wr := ⟨_, rfl⟩
    go_loopw [3, 57] (fun v3 i wr => ∃ k : Nat, k ≤ nt ∧ i = .int .i64 k ∧ v3 = .int .i64 (((m.tastes.take k).map (·.num)).getLast?.getD 0) ∧ Hid (Lay w wr [(w.heap.size, 26, #[.int .i64 m.fountains, .slice Av nv cv, .slice Aa na ca, .slice At nt ct])] ∧ (m.tastes.take k).all (tastB m) = true ∧ risB 0 ((m.tastes.take k).map (·.num)) = true))
     (fun _ i _ => nt - (intOf i).toNat)
    case atStart => exact ⟨0, by omega, rfl, rfl, lh ⟨Ly.out, rfl, rfl⟩⟩
    case round =>
     clear Ly HS
     obtain ⟨k, hk2, rfl, rfl, HS⟩ := hrel
     obtain ⟨hl0, hl1⟩ := ris_last HS.out.2.2
     obtain ⟨p, hp⟩ : ∃ p, ((m.tastes.take k).map (·.num)).getLast?.getD 0 = p := ⟨_, rfl⟩
     have Ly := lh HS.out.1
     rw [hp] at hl0 hl1 ⊢
     have HP := lh hp
     clear hp
     obtain ⟨x0, x1, x2, x3⟩ := lyc4 Ly 0 rfl
     have xl := Ly.out.lt 0 rfl
     by_cases hlt : k < nt
     ·clear x0 x1 x2 x3 xl
      obtain ⟨b, off, x, rfl, hbB, hx, hc0, hc1, hc2, hc3, hc4, hc5⟩ := (HM.out.at_.below Ly.out.1).tast hlt
      have HX := lh hx
      clear hx
      go_upto_region 15 with fail
      have hb1 : Below wr.heap.size wr (wr.alloc (.cells #[.int .i64 x.num, .int .i64 x.vessel, .int .i64 x.after, .int .i64 x.fountain, .int .i64 x.lo, .int .i64 x.hi] 65)) := (Below.refl _ _).alloc (Nat.le_refl _) _
      have HN := lh (Blk.new wr 65 #[.int .i64 x.num, .int .i64 x.vessel, .int .i64 x.after, .int .i64 x.fountain, .int .i64 x.lo, .int .i64 x.hi])
      obtain ⟨g8, hg8⟩ : ∃ g, wr.heap.size = g := ⟨_, rfl⟩
      generalize wr.alloc (.cells #[.int .i64 x.num, .int .i64 x.vessel, .int .i64 x.after, .int .i64 x.fountain, .int .i64 x.lo, .int .i64 x.hi] 65) = wa at *
      have HB1 := lh hb1
      rw [hg8] at HN ⊢
      have y0 := HN.out.cell 0
      have y1 := HN.out.cell 1
      have yl := HN.out.lt
      have HLA1 := lh (Ly.out.below HB1.out)
      have x0 := (HLA1.out.blk 0 rfl).cell 0
      have x1 := (HLA1.out.blk 0 rfl).cell 1
      have x2 := (HLA1.out.blk 0 rfl).cell 2
      have x3 := (HLA1.out.blk 0 rfl).cell 3
      have xl := HLA1.out.lt 0 rfl
      clear hb1 hc0 hc1 hc2 hc3 hc4 hc5
      have HRS := lh (ris_at (f := (·.num)) HX.out HS.out.2.2)
      have HAS := lh (all_step HX.out HS.out.2.1)
      have HLST := lh (last_at (f := fun v : Tast => v.num) HX.out)
      rw [HP.out] at HRS
      go_wp2_with fail
      refine (within_any x.num (p + 1) 9999 wa).mono ?_
      rintro e W ⟨rfl, rfl⟩
      cases hi : wiB x.num (p + 1) 9999 with
      | false =>
       rw [hi] at HRS
       clear hi
       go_wp2_with fail
       go_ret
       exact ⟨ret_bool (bad_nums (ris_take HRS.out)).symm, Ly.out.1.trans (HB1.out.mono Ly.out.1.size)⟩
      | true =>
       rw [hi] at HRS
       clear hi
       go_wp2_with fail
       refine (rindex_any Av nv cv Aa na ca (some ⟨b, off, none⟩) nt ct m x.vessel wa (HM.out.up HLA1.out.1)).mono ?_
       rintro e W ⟨rfl, hb⟩
       have HB := lh (HB1.out.trans (hb.mono HB1.out.size))
       have HN2 := lh (HN.out.below hb HN.out.lt)
       have HLA2 := lh (HLA1.out.below hb)
       clear hb y0 y1 yl x0 x1 x2 x3 xl HN HLA1 HB1
       have y2 := HN2.out.cell 2
       have y3 := HN2.out.cell 3
       have y4 := HN2.out.cell 4
       have y5 := HN2.out.cell 5
       have yl := HN2.out.lt
       have x0 := (HLA2.out.blk 0 rfl).cell 0
       have x2 := (HLA2.out.blk 0 rfl).cell 2
       have xl := HLA2.out.lt 0 rfl
       by_cases hj : idxV m.vessels x.vessel < 0
       ·have HTB : Hid (tastB m x = false) := lh (by unfold tastB; exact decide_eq_false (by omega))
        go_wp2_with fail
        go_ret
        exact ⟨ret_bool (bad_tast (tast_no HX.out HTB.out)).symm, Ly.out.1.trans (HB.out.mono Ly.out.1.size)⟩
       ·have hj2 : 0 ≤ idxV m.vessels x.vessel := by omega
        go_wp2_with fail
        refine (within_any x.after 0 na W).mono ?_
        rintro e W2 ⟨rfl, rfl⟩
        cases hi : wiB x.after 0 na with
        | false =>
         have HI := lh (of_decide_eq_false hi)
         have HTB : Hid (tastB m x = false) := lh (by unfold tastB; have := HLA.out; have := HI.out; exact decide_eq_false (by omega))
         clear hi
         go_wp2_with fail
         go_ret
         exact ⟨ret_bool (bad_tast (tast_no HX.out HTB.out)).symm, Ly.out.1.trans (HB.out.mono Ly.out.1.size)⟩
        | true =>
         have HI := lh (of_decide_eq_true hi)
         clear hi
         go_wp2_with fail
         refine (within_any x.fountain 1 m.fountains W).mono ?_
         rintro e W2 ⟨rfl, rfl⟩
         cases hi : wiB x.fountain 1 m.fountains with
         | false =>
          have HJ := lh (of_decide_eq_false hi)
          have HTB : Hid (tastB m x = false) := lh (by unfold tastB; have := HJ.out; exact decide_eq_false (by omega))
          clear hi
          go_wp2_with fail
          go_ret
          exact ⟨ret_bool (bad_tast (tast_no HX.out HTB.out)).symm, Ly.out.1.trans (HB.out.mono Ly.out.1.size)⟩
         | true =>
          have HJ := lh (of_decide_eq_true hi)
          clear hi
          go_wp2_with fail
          refine (within_any x.lo 0 x.hi W).mono ?_
          rintro e W2 ⟨rfl, rfl⟩
          cases hi : wiB x.lo 0 x.hi with
          | false =>
           have HK := lh (of_decide_eq_false hi)
           have HTB : Hid (tastB m x = false) := lh (by unfold tastB; have := HK.out; exact decide_eq_false (by omega))
           clear hi
           go_wp2_with fail
           go_ret
           exact ⟨ret_bool (bad_tast (tast_no HX.out HTB.out)).symm, Ly.out.1.trans (HB.out.mono Ly.out.1.size)⟩
          | true =>
           have HK := lh (of_decide_eq_true hi)
           have HTB : Hid (tastB m x = true) := lh (by unfold tastB; have := HK.out; have := HJ.out; have := HI.out; have := HLA.out; exact decide_eq_true (by omega))
           clear hi x0 x2 xl
           have y0 := HN2.out.cell 0
           rw [HTB.out] at HAS
           go_wp2_with fail
           go_roundw
           case rel => exact ⟨k + 1, by omega, by go_num, by rw [HLST.out], lh ⟨HLA2.out, HAS.out, HRS.out⟩⟩
           case measure => simp [intOf]; omega
     ·obtain rfl : nt = k := by omega
      have hz : m.tastes.all (tastB m) = true := by
       have := HS.out.2.1
       rwa [List.take_of_length_le (by have := HLT.out; omega)] at this
      have hr : risB 0 (m.tastes.map (·.num)) = true := by
       have := HS.out.2.2
       rwa [List.take_of_length_le (by have := HLT.out; omega)] at this
      have HZT := lh hz
      have HRN := lh hr
      clear hz hr
      go_wp2_with fail
      refine (callsIn_wide.1 (rplayed_in Av nv cv Aa na ca At nt ct m wr (HM.out.up Ly.out.1) (vesOk_of HZ.out) hn4 hna)).mono ?_
      rintro e W ⟨hb, A4, n4, c4, bb, L, rfl, hd⟩
      have HB := lh (Ly.out.1.trans (hb.mono Ly.out.1.size))
      have HD := lh hd
      clear hb hd x0 x1 x2 x3 xl
      go_wp2_with fail
      go_ret
      refine ⟨ret_bool ?_, HB.out⟩
      rcases HD.out with ⟨rfl, h1, _⟩ | ⟨rfl, _, h1⟩
      ·rw [ok_rest HG.out HZ.out HZT.out h1, HRI.out, HRN.out]; rfl
      ·exact (bad_acts h1).symm
 ·have HB := lh (bad_limits hG)
  cases hi : wiB m.fountains 1 4 with
  | false =>
   clear hi
   go_wp2_with fail
   go_ret
   exact ⟨ret_bool HB.out.symm, Ly.out.1⟩
  | true =>
   have h2 : ¬ (nv ≤ 4 ∧ na ≤ 12 ∧ nt ≤ 8) := by
    have := of_decide_eq_true hi
    rw [← HLV.out, ← HLA.out, ← HLT.out]
    exact fun h2 => hG ⟨this, h2⟩
   clear hi hG
   by_cases q1 : nv ≤ 4
   ·have d1 : (nv : Int) ≤ 4 := by omega
    by_cases q2 : na ≤ 12
    ·have d2 : (na : Int) ≤ 12 := by omega
     have d3 : ¬ (nt : Int) ≤ 8 := by omega
     clear h2
     go_wp2_with fail
     go_ret
     exact ⟨ret_bool HB.out.symm, Ly.out.1⟩
    ·have d2 : ¬ (na : Int) ≤ 12 := by omega
     clear h2
     go_wp2_with fail
     go_ret
     exact ⟨ret_bool HB.out.symm, Ly.out.1⟩
   ·have d1 : ¬ (nv : Int) ≤ 4 := by omega
    clear h2
    go_wp2_with fail
    go_ret
    exact ⟨ret_bool HB.out.symm, Ly.out.1⟩
end
section
open Go.RowKit
set_option maxRecDepth 100000 in
set_option maxHeartbeats 8000000 in
theorem rasked_in (Av : Option Addr) (nv cv : Nat) (Aa : Option Addr) (na ca : Nat) (At : Option Addr) (nt ct : Nat) (m : Mix) (vessel after fountain : Int) (w : World) (h : MixS w Av nv Aa na At nt m) :
  CallsIn Fence.wide 9 Try.prog 57 #[.agg #[.int .i64 m.fountains, .slice Av nv cv, .slice Aa na ca, .slice At nt ct], .int .i64 vessel, .int .i64 after, .int .i64 fountain] w (fun e w' => e = .returned (.int .i64 (askM m vessel after [fountain])) ∧ Below w.heap.size w w') := by
 have HM := lh h
 have HLA := lh h.at_.lenA
 clear h
 refine callsIn_of_wp Try.func57 rfl trivial ?_ rfl
 simp only [Try.ntmps57, List.size_toArray, List.length_cons, List.length_nil, Nat.reduceAdd, Nat.reduceSub, Array.replicate_succ, Array.replicate_zero, List.push_toArray, List.append_toArray, List.nil_append, List.cons_append]
 gi_upto_region 1 with fail
 have Ly := lh (Lay.one w 26 #[.int .i64 m.fountains, .slice Av nv cv, .slice Aa na ca, .slice At nt ct])
 generalize (w.alloc (.cells #[.int .i64 m.fountains, .slice Av nv cv, .slice Aa na ca, .slice At nt ct] 26)) = w0 at *
 obtain ⟨x0_0, x0_1, x0_2, x0_3⟩ := lyc4 Ly 0 rfl
 have l0_ := Ly.out.lt 0 rfl
 gi_wp2
 clear x0_0 x0_1 x0_2 x0_3 l0_
 refine ⟨trivial, (callsIn_wide.2 (rmix_any Av nv cv Aa na ca At nt ct m w0 (HM.out.up Ly.out.1))).mono ?_⟩
 rintro e W1 ⟨rfl, hb⟩
 replace Ly := lyb Ly hb
 clear hb
 cases hk : okMix m with
 | false =>
  have HK := lh hk
  clear hk
  gi_wp2
  refine bodyPost_ret (v := .int .i64 40) (by simp [results, Try.results57, go_sem]) rfl ?_
  exact ⟨ret_int (by unfold askM; rw [if_neg (by rw [HK.out]; decide)]), Ly.out.1⟩
 | true =>
  have HK := lh hk
  clear hk
  obtain ⟨x0_0, x0_1, x0_2, x0_3⟩ := lyc4 Ly 0 rfl
  have l0_ := Ly.out.lt 0 rfl
  gi_wp2
  clear x0_0 x0_1 x0_2 x0_3 l0_
  refine ⟨trivial, (callsIn_wide.2 (rindex_any Av nv cv Aa na ca At nt ct m vessel W1 (HM.out.up Ly.out.1))).mono ?_⟩
  rintro e W2 ⟨rfl, hb⟩
  replace Ly := lyb Ly hb
  clear hb
  obtain ⟨ix, hix⟩ : ∃ ix, idxV m.vessels vessel = ix := ⟨_, rfl⟩
  rw [hix]
  have HIX := lh hix
  clear hix
  by_cases h6 : ix < 0
  ·
   have H6 := lh h6
   have h6b : decide (ix < 0) = true := decide_eq_true h6
   clear h6
   gi_wp2
   refine bodyPost_ret (v := .int .i64 6) (by simp [results, Try.results57, go_sem]) rfl ?_
   exact ⟨ret_int (by unfold askM; rw [if_pos HK.out, HIX.out, if_pos H6.out]), Ly.out.1⟩
  ·
   have H6 := lh h6
   have h6b : decide (ix < 0) = false := decide_eq_false h6
   clear h6
   obtain ⟨x0_0, x0_1, x0_2, x0_3⟩ := lyc4 Ly 0 rfl
   have l0_ := Ly.out.lt 0 rfl
   gi_wp2
   clear x0_0 x0_1 x0_2 x0_3 l0_
   clear h6b
   refine ⟨trivial, (callsIn_wide.2 (within_any after 0 na W2)).mono ?_⟩
   rintro e W8 ⟨rfl, rfl⟩
   by_cases hr : 0 ≤ after ∧ after ≤ na
   ·
    have hi : wiB after 0 na = true := decide_eq_true hr
    rw [hi]
    have HR := lh hr
    clear hr hi
    obtain ⟨x0_0, x0_1, x0_2, x0_3⟩ := lyc4 Ly 0 rfl
    have l0_ := Ly.out.lt 0 rfl
    gi_wp2
    clear x0_0 x0_1 x0_2 x0_3 l0_
    refine ⟨trivial, (callsIn_wide.2 (within_any fountain 1 m.fountains W2)).mono ?_⟩
    rintro e W8 ⟨rfl, rfl⟩
    by_cases hq : 1 ≤ fountain ∧ fountain ≤ m.fountains
    ·
     have hi : wiB fountain 1 m.fountains = true := decide_eq_true hq
     rw [hi]
     have HQ := lh hq
     clear hq hi
     gi_wp2
     refine bodyPost_ret (v := .int .i64 0) (by simp [results, Try.results57, go_sem]) rfl ?_
     exact ⟨ret_int (by unfold askM; rw [if_pos HK.out, HIX.out, if_neg (by have := H6.out; omega), if_pos ⟨by rw [HLA.out]; exact HR.out, by simpa using HQ.out⟩]), Ly.out.1⟩
    ·
     have hi : wiB fountain 1 m.fountains = false := decide_eq_false hq
     rw [hi]
     have HQ := lh hq
     clear hq hi
     gi_wp2
     refine bodyPost_ret (v := .int .i64 2) (by simp [results, Try.results57, go_sem]) rfl ?_
     exact ⟨ret_int (by unfold askM; rw [if_pos HK.out, HIX.out, if_neg (by have := H6.out; omega), if_neg (fun h => HQ.out (by simpa using h.2))]), Ly.out.1⟩
   ·
    have hi : wiB after 0 na = false := decide_eq_false hr
    rw [hi]
    have HR := lh hr
    clear hr hi
    obtain ⟨x0_0, x0_1, x0_2, x0_3⟩ := lyc4 Ly 0 rfl
    have l0_ := Ly.out.lt 0 rfl
    gi_wp2
    clear x0_0 x0_1 x0_2 x0_3 l0_
    refine ⟨trivial, ?_⟩
    gi_wp2
    refine bodyPost_ret (v := .int .i64 2) (by simp [results, Try.results57, go_sem]) rfl ?_
    exact ⟨ret_int (by unfold askM; rw [if_pos HK.out, HIX.out, if_neg (by have := H6.out; omega), if_neg (fun h => HR.out (by rw [HLA.out] at h; exact h.1))]), Ly.out.1⟩
end
section
open Go.RowKit
def zsK (m : Mix) (k : Nat) : List Int := ((m.vessels.take k).map (·.size)).reverse
def zsM (m : Mix) : List Int := (m.vessels.map (·.size)).reverse
theorem zsK_all {m : Mix} {k : Nat} (h : m.vessels.length = k) : zsK m k = zsM m := by
 unfold zsK zsM
 rw [← h, List.take_length]
theorem zsK_succ {m : Mix} {k : Nat} {x : Vess} (hx : m.vessels[k]? = some x) : zsK m (k + 1) = x.size :: zsK m k := by
 obtain ⟨hk, rfl⟩ := List.getElem?_eq_some_iff.1 hx
 unfold zsK
 rw [List.take_succ_eq_append_getElem hk, List.map_append, List.reverse_append]
 rfl
end
section
open Go.RowKit
structure DecSt (m : Mix) (nv : Nat) (n : Int) (j : Nat) (nj : Int) (s : Held) : Prop where
 le : j ≤ nv
 pos : 0 ≤ nj
 top : nj ≤ 28561
 is : ∃ dn : List Int, dn.length = nv - j ∧ (decR (zsM m) n).reverse = (decR (zsK m j) nj).reverse ++ dn ∧ s = List.replicate j 0 ++ dn ++ List.replicate (4 - nv) 0
theorem DecSt.len {m : Mix} {nv : Nat} {n : Int} {j : Nat} {nj : Int} {s : Held} (h : DecSt m nv n j nj s) (hv : nv ≤ 4 := by omega) : s.length = 4 := by
 obtain ⟨dn, h1, _, rfl⟩ := h.is
 have := h.le
 simp
 omega
theorem DecSt.first {m : Mix} {nv : Nat} {n : Int} (hl : m.vessels.length = nv) (hn : 0 ≤ n ∧ n ≤ 28561) (hv : nv ≤ 4) : DecSt m nv n nv n zeroH := by
 refine ⟨Nat.le_refl _, hn.1, hn.2, [], by simp, by rw [zsK_all hl]; simp, ?_⟩
 rw [List.append_nil, List.replicate_append_replicate, show nv + (4 - nv) = 4 from by omega]
 rfl
theorem set_rep (i : Nat) (v : Int) (dn r : List Int) : (List.replicate (i + 1) 0 ++ dn ++ r).set i v = List.replicate i 0 ++ (v :: dn) ++ r := by
 rw [List.replicate_succ', List.append_assoc, List.append_assoc, List.append_assoc, List.set_append_right _ _ (by simp)]
 simp
theorem DecSt.next {m : Mix} {nv : Nat} {n : Int} {i : Nat} {nj : Int} {s : Held} {x : Vess} (h : DecSt m nv n (i + 1) nj s) (hx : m.vessels[i]? = some x) (hv : nv ≤ 4) (hs : 1 ≤ x.size := by omega) : DecSt m nv n i (nj / (x.size + 1)) (s.set i (nj % (x.size + 1))) := by
 obtain ⟨dn, h1, h2, rfl⟩ := h.is
 have hd1 : nj / (x.size + 1) ≤ nj := Int.ediv_le_self _ h.pos
 have := h.le
 have := h.top
 refine ⟨by omega, Int.ediv_nonneg h.pos (by omega), by omega, nj % (x.size + 1) :: dn, by simp; omega, ?_, set_rep i _ dn _⟩
 rw [h2, zsK_succ hx]
 show (nj % (x.size + 1) :: decR (zsK m i) (nj / (x.size + 1))).reverse ++ dn = _
 simp
def decH (m : Mix) (n : Int) : Held := (decR (zsM m) n).reverse ++ List.replicate (4 - m.vessels.length) 0
theorem DecSt.last {m : Mix} {nv : Nat} {n nj : Int} {s : Held} (h : DecSt m nv n 0 nj s) (hl : m.vessels.length = nv) : s = decH m n := by
 obtain ⟨dn, h1, h2, rfl⟩ := h.is
 unfold decH
 rw [h2, hl]
 simp [zsK, decR]
end
section
open Go.RowKit
attribute [local go_sem] Oper.semAt_some
open Go.Shelf
theorem TS.round {w W : World} {A : Option Addr} {n c : Nat} {rs : List Nat} {ms : List (List (D4 × Bool))} {bs : List (Nat × TypeId × Array Value)} {ds : List Deferred} (h : TS w A n c rs ms bs [] ds W) (k : Nat) :
  TS w A n c rs ms (bs ++ [(W.heap.size, 3, #[.int .i64 (k : Int)])] ++ [(W.heap.size + 1 + 1, 92, #[.map (some (W.heap.size + 1))])]) [(W.heap.size + 1, [])] ds (((W.alloc (.cells #[.int .i64 (k : Int)] 3)).alloc (.map #[] 0)).alloc (.cells #[.map (some (W.heap.size + 1))] 92)) := by
 have hz := h.bel.size
 have b1 : Below W.heap.size W (W.alloc (.cells #[.int .i64 (k : Int)] 3)) := (Below.refl _ _).alloc (Nat.le_refl _) _
 have h1 := (h.below b1).add (t := 3) (cs := #[.int .i64 (k : Int)]) hz (Blk.new W _ _) (h.new_row (Nat.le_refl _))
 have b2 : Below (W.alloc (.cells #[.int .i64 (k : Int)] 3)).heap.size (W.alloc (.cells #[.int .i64 (k : Int)] 3)) ((W.alloc (.cells #[.int .i64 (k : Int)] 3)).alloc (.map #[] 0)) := (Below.refl _ _).alloc (Nat.le_refl _) _
 have hm := MapIs.made (β := Bool) (encK := D4.key) (encV := Value.bool) (okK := okD) (W.alloc (.cells #[.int .i64 (k : Int)] 3))
 rw [World.size_alloc] at hm
 have hnr : W.heap.size + 1 ∉ rs := fun hr => by
  obtain ⟨⟨m, hm⟩, _⟩ := h.mapsAll _ hr
  have := hm.lt
  omega
 have h2 := (h1.below b2).addX hm (by omega) hnr
 have b3 : Below ((W.alloc (.cells #[.int .i64 (k : Int)] 3)).alloc (.map #[] 0)).heap.size ((W.alloc (.cells #[.int .i64 (k : Int)] 3)).alloc (.map #[] 0)) (((W.alloc (.cells #[.int .i64 (k : Int)] 3)).alloc (.map #[] 0)).alloc (.cells #[.map (some (W.heap.size + 1))] 92)) := (Below.refl _ _).alloc (Nat.le_refl _) _
 have hB := Blk.new ((W.alloc (.cells #[.int .i64 (k : Int)] 3)).alloc (.map #[] 0)) 92 #[.map (some (W.heap.size + 1))]
 rw [World.size_alloc, World.size_alloc] at hB
 exact (h2.below b3).add (by omega) hB (h.new_row (by omega))
theorem IterIs.obj {w : World} {it r : Nat} {m left : List (D4 × Bool)} (h : IterIs D4.key Value.bool okD w it r m left) : ∃ x1 x2 x3 x4, w.heap[it]? = some (.mapIter x1 x2 x3 x4) := by
 obtain ⟨es, clock, since, seen, c0, _, _, _, _, h5, _⟩ := h
 exact ⟨_, _, _, _, h5⟩
theorem TS.push {w W0 V : World} {A A' : Option Addr} {n c c' : Nat} {rs : List Nat} {ms : List (List (D4 × Bool))} {bs : List (Nat × TypeId × Array Value)} {ds : List Deferred} {r : Nat} {m : List (D4 × Bool)} (h : TS w A n c rs ms bs [(r, m)] ds W0) (hg : W0.grownBy V (A.map (·.block)))
  (hown : Own V w.heap.size 92 1 A' (n + 1) c' (rs.map canV ++ [canV r])) (hA : A' = A ∨ A' = some ⟨W0.heap.size, 0, none⟩) : TS w A' (n + 1) c' (rs ++ [r]) (ms ++ [m]) bs [] ds V := by
 have hx := h.xs (r, m) (by simp)
 dsimp only at hx
 have hrow : ∀ k, A.map (·.block) = some k → w.heap.size ≤ k := fun k hk => by
  cases hA2 : A with
  | none => rw [hA2] at hk; cases hk
  | some a => rw [hA2] at hk; cases hk; exact (h.own.lt hA2).1
 refine ⟨h.bel.grown hg h.bel.size hrow, by rw [List.map_append]; exact hown, by rw [List.length_append, h.len]; rfl, fun i q m2 hq hm2 => ?_, ?_, fun b hb => ⟨(h.bs b hb).1, (h.bs b hb).2.1.grown hg (h.bs b hb).2.2, ?_⟩, (fun x hx => by cases hx), ?_⟩
 ·have hl := h.mlen
  have hl2 := h.len
  by_cases hi : i < n
  ·rw [List.getElem?_append_left (by omega)] at hq hm2
   have := h.maps i q m2 hq hm2
   exact ⟨this.1.grown hg (h.mapRow this.1), this.2⟩
  ·rw [List.getElem?_append_right (by omega)] at hq hm2
   have h0 : i - rs.length = 0 := by have := (List.getElem?_eq_some_iff.1 hq).1; simp at this; omega
   have h1 : i - ms.length = 0 := by omega
   rw [h0] at hq
   rw [h1] at hm2
   obtain rfl : r = q := by simpa using hq
   obtain rfl : m = m2 := by simpa using hm2
   exact ⟨hx.1.grown hg (h.mapRow hx.1), hx.2.1⟩
 ·rw [List.nodup_append]
  exact ⟨h.nodup, by simp, fun a ha b hb e => by
   obtain rfl := List.mem_singleton.1 hb
   rw [e] at ha
   exact hx.2.2 ha⟩
 ·rcases hA with rfl | rfl
  ·exact (h.bs b hb).2.2
  ·have := (h.bs b hb).2.1.lt
   simp
   omega
 ·refine h.marks.keep fun d hd k hk h0' => (hg.block k (Array.getElem?_eq_some_iff.1 h0').1 (fun e => ?_)).trans h0'
  rcases h.own.form with ⟨e1, _⟩ | ⟨g', cur, e1, _, hbk, _⟩
  ·rw [e1] at e; cases e
  ·rw [e1] at e
   cases e
   unfold Blk at hbk
   rw [hbk] at h0'
   cases h0'
theorem CanMap.len {W : World} {r : Nat} {m : List (D4 × Bool)} (h : CanMap W r m) (ty : TypeId) : (Builtin.len_ #[92] ty #[.map (some r)]).run Try.prog W = .ok (.int .i64 (m.length : Int)) W := by
 obtain ⟨es, clock, hb, hm, _⟩ := h
 have he : es.size = m.length := by have := map_snd_set hm; simpa using this
 simp [Builtin.len_, run_underlying (P := Try.prog) Try.underlying92, MapKept.run_getObj_map hb, goInt, Result.andThen, he]
section
variable {m : Mix} {f : Int} {A : List Held} {i q : Nat} {left mi : List (D4 × Bool)} {y : D4} {v : Bool}
end
theorem IterIs.sub {w : World} {it r : Nat} {m left : List (D4 × Bool)} (h : IterIs D4.key Value.bool okD w it r m left) {p : D4 × Bool} (hp : p ∈ left) : ∃ v, (p.1, v) ∈ m := by
 obtain ⟨es, clock, since, seen, c0, _, hm, _, _, _, _, _, _, hl⟩ := h
 have h1 : (p.1.key, Value.bool p.2) ∈ (leftOf es seen).toList.map (fun e => (e.key, e.val)) := by rw [hl]; exact List.mem_map.2 ⟨p, hp, rfl⟩
 obtain ⟨e, he, e1⟩ := List.mem_map.1 h1
 have he2 : e ∈ es.toList := by
  unfold leftOf at he
  rw [Array.toList_filter] at he
  exact (List.mem_filter.1 he).1
 have h2 : (e.key, e.val) ∈ m.map (fun p => (p.1.key, Value.bool p.2)) := by rw [← hm]; exact List.mem_map.2 ⟨e, he2, rfl⟩
 rw [e1] at h2
 obtain ⟨p2, hp2, e2⟩ := List.mem_map.1 h2
 have e3 : p2.1.key = p.1.key := congrArg Prod.fst e2
 have e4 := canTy.inj _ _ e3
 exact ⟨p2.2, by rw [← e4]; exact hp2⟩
set_option maxRecDepth 100000
end
section
open Go.RowKit
def SeqOwn {α : Type} (F : Fence) (n : Nat) (P : Program) (g : Nat) (lb : Array Value) (encs : α → Array Value) (Kp : World → World → Prop) (S : List α → Prop) (N : Nat) (w : World) : Prop :=
 ∀ (l : Nat) (J : List α → World → Prop) (W : World), Below w.heap.size w W → OwnFrom W.heap.size J →
  (∀ pre x W1, J pre W1 → pre.length < N → YieldAt F (n - 1) P l (encs x) W1 fun e W' => e = .returned (.bool true) ∧ J (pre ++ [x]) W' ∧ Kp W1 W' ∧ KeepsFrom W.heap.size W1 W') →
  J [] W → CallsIn F n P g (#[.func (.yield l) #[] #[]] ++ lb) W fun e W' => (∃ v, e = .returned v) ∧ ∃ xs, S xs ∧ J xs W'
theorem SeqStopsK.own {α : Type} {F : Fence} {n : Nat} {P : Program} {g : Nat} {lb : Array Value} {encs : α → Array Value} {Kp : World → World → Prop} {S Sp : List α → Prop} {N : Nat} {w : World} (h : SeqStopsK F n P g lb encs Kp S Sp N w) : SeqOwn F n P g lb encs Kp S N w :=
 fun l J W hW hJ hY h0 => (h l J (fun _ _ => False) W hW (fun s A B row hs hg hr => hJ s A B row hs hg fun r e => ⟨(hr r e).1, by obtain ⟨o, h1, h2⟩ := (hr r e).2; exact ⟨o, h1, Obj.not_cells_of_walk h2⟩⟩) (fun s A B row hs _ _ => hs.elim)
  (fun pre x W1 hj hl => (hY pre x W1 hj hl).mono fun e W' h => .inl ⟨h.1, h.2.1, h.2.2.1⟩) h0).mono fun e W' ⟨h1, h2⟩ => ⟨h1, h2.resolve_right fun ⟨_, _, h⟩ => h.elim⟩
end
section
open Go.RowKit Go.Shelf
attribute [local go_sem] Oper.semAt_some
def KeepsT (W W' : World) : Prop := ∀ (b : Nat) (cs : Array Value) (t : TypeId) (fr : Nat × Nat), t ≠ 3 → t ≠ 57 → W.heap[b]? = some (.cells cs t fr) → W'.heap[b]? = some (.cells cs t fr)
def KeepB (n₀ : Nat) (W W' : World) : Prop := Below n₀ W W' ∧ KeepsWalks W W' ∧ KeepsT W W'
theorem KeepB.refl (n₀ : Nat) (W : World) : KeepB n₀ W W := ⟨Below.refl _ _, KeepsWalks.refl _, fun _ _ _ _ _ _ h => h⟩
theorem KeepB.trans {n₀ : Nat} {A B C : World} (h : KeepB n₀ A B) (k : KeepB n₀ B C) : KeepB n₀ A C := ⟨h.1.trans k.1, h.2.1.trans k.2.1, fun b cs t fr h1 h2 h3 => k.2.2 b cs t fr h1 h2 (h.2.2 b cs t fr h1 h2 h3)⟩
theorem KeepB.put {n₀ : Nat} {w : World} (hn : n₀ ≤ w.heap.size) (W : World) (l : Nat) (o o' : Obj) (hl : w.heap.size ≤ l) (h : W.heap[l]? = some o) (hc : o.isCells = false) (hw : o.isWalk = false) : KeepB n₀ W (W.putObj l o') :=
 ⟨belowK_b hn W l o o' hl h hc hw, walksK_b W l o o' hl h hc hw, fun b cs t fr _ _ hb => cells_put h hc b cs t fr hb⟩
theorem keepsT_below {W W' : World} (h : Below W.heap.size W W') : KeepsT W W' := fun b cs t fr _ _ hb => (h.block b (Array.getElem?_eq_some_iff.1 hb).1).trans hb
theorem SeqOwn.later {α : Type} {F : Fence} {n : Nat} {P : Program} {g : Nat} {lb : Array Value} {encs : α → Array Value} {Kp : World → World → Prop} {S : List α → Prop} {N : Nat} {w w' : World} (h : SeqOwn F n P g lb encs Kp S N w) (hb : Below w.heap.size w w') : SeqOwn F n P g lb encs Kp S N w' :=
 fun l J W hW => h l J W (hb.trans (hW.mono hb.size))
end
section
open Go.RowKit
def D4.num (x : D4) : Nat := x.a.toNat + 13 * x.b.toNat + 169 * x.c.toNat + 2197 * x.d.toNat
end
section
open Go.RowKit
attribute [local go_sem] Oper.semAt_some
def UpK (n₀ : Nat) (A C : World) : Prop := (n₀ ≤ A.heap.size → Below n₀ A C ∧ KeepsT A C) ∧ A.heap.size ≤ C.heap.size
instance upk_grows (n₀ : Nat) : Gr.Grows (UpK n₀) where
 refl := fun W => ⟨fun _ => ⟨Below.refl _ _, fun _ _ _ _ _ _ h => h⟩, Nat.le_refl _⟩
 trans := fun h k => ⟨fun hn => ⟨(h.1 hn).1.trans (k.1 (Nat.le_trans hn h.2)).1, fun b cs t fr h1 h2 h3 => (k.1 (Nat.le_trans hn h.2)).2 b cs t fr h1 h2 ((h.1 hn).2 b cs t fr h1 h2 h3)⟩, Nat.le_trans h.2 k.2⟩
 below := fun h => ⟨fun hn => ⟨h.mono hn, keepsT_below h⟩, h.size⟩
 size := fun h => h.2
end
section
section
variable {m : Mix} {s a : Held}
theorem truth_step {f : Int} {A : List Held} {t : Nat} {x : MAct} {all : Held} (hok : okMix m = true) (hA : allM m m.acts = some A) (hx : m.acts[t]? = some x) (ha : A[t]? = some all) (hao : ActOk m all x) :
  Truth m f A t s ↔ Fwd m f A t s ∧ ∃ k : Int, (spanR m x f all s).1 ≤ k ∧ k ≤ (spanR m x f all s).2 ∧ Truth m f A (t + 1) (movedR m x s k) := by
 have hv := (okMix_vess hok).1
 have ht : t < m.acts.length := (List.getElem?_eq_some_iff.1 hx).1
 have e : m.acts.length - t = (m.acts.length - (t + 1)) + 1 := by omega
 unfold Truth
 rw [e]
 constructor
 ·rintro ⟨h1, s', ⟨x2, all2, k, h2, h3, h4, h5, rfl⟩, h6⟩
  rw [hx] at h2
  cases h2
  rw [ha] at h3
  cases h3
  have hf := fwd_fits hA hv h1 ha
  rw [spans_same hao hf hv] at h4 h5
  rw [moved_same hao] at h6
  exact ⟨h1, k, h4, h5, h6⟩
 ·rintro ⟨h1, k, h4, h5, h6⟩
  have hf := fwd_fits hA hv h1 ha
  rw [← spans_same hao hf hv] at h4 h5
  rw [← moved_same hao] at h6
  exact ⟨h1, _, ⟨x, all, k, hx, ha, h4, h5, rfl⟩, h6⟩
end
end
section
open Go.RowKit
structure BR (w W : World) (N g : Nat) (rs : List Nat) (bs : List (List Bool)) : Prop where
 bel : Below w.heap.size w W
 top : Blk W g 109 (rs.map fun r => Value.slice (some ⟨r, 0, none⟩) N N).toArray
 ge : w.heap.size ≤ g
 len : rs.length = bs.length
 row : ∀ (i r : Nat) (b : List Bool), rs[i]? = some r → bs[i]? = some b → Blk W r 4 (b.map Value.bool).toArray ∧ b.length = N ∧ w.heap.size ≤ r ∧ r ≠ g
 nodup : rs.Nodup
section
variable {w W W' : World} {N g : Nat} {rs : List Nat} {bs : List (List Bool)}
theorem BR.below (h : BR w W N g rs bs) (hb : Below W.heap.size W W') : BR w W' N g rs bs :=
 ⟨h.bel.trans (hb.mono h.bel.size), h.top.below hb h.top.lt, h.ge, h.len, fun i r b h1 h2 => ⟨(h.row i r b h1 h2).1.below hb (h.row i r b h1 h2).1.lt, (h.row i r b h1 h2).2⟩, h.nodup⟩
theorem BR.cell (h : BR w W N g rs bs) {i r c : Nat} {b : List Bool} {v : Bool} (hr : rs[i]? = some r) (hb : bs[i]? = some b) (hc : b[c]? = some v) : W.cell? ⟨r, c, none⟩ = some (.bool v) := by
 rw [(h.row i r b hr hb).1.cell, List.getElem?_toArray, List.getElem?_map, hc]
 rfl
theorem BR.put (h : BR w W N g rs bs) {i r c : Nat} {b : List Bool} (hr : rs[i]? = some r) (hb : bs[i]? = some b) (v : Bool) : BR w (W.setCell ⟨r, c, none⟩ (.bool v)) N g rs (bs.set i (b.set c v)) := by
 have hrow := h.row i r b hr hb
 refine ⟨h.bel.setCell (p := ⟨r, c, none⟩) hrow.2.2.1 _, h.top.far (p := ⟨r, c, none⟩) (Ne.symm hrow.2.2.2) _, h.ge, by simp [h.len], fun j r' b' h1 h2 => ?_, h.nodup⟩
 by_cases hj : j = i
 ·subst hj
  rw [hr] at h1
  cases h1
  have hlt := (List.getElem?_eq_some_iff.1 hb).1
  rw [List.getElem?_set_self hlt] at h2
  cases h2
  refine ⟨?_, by simp [hrow.2.1], hrow.2.2⟩
  have := hrow.1.set_ c (.bool v)
  rw [List.setIfInBounds_toArray] at this
  rwa [List.map_set]
 ·rw [List.getElem?_set_ne (Ne.symm hj)] at h2
  have h3 := h.row j r' b' h1 h2
  refine ⟨h3.1.far (p := ⟨r, c, none⟩) (fun e => hj ?_) _, h3.2⟩
  have e2 : r' = r := e
  subst e2
  exact (List.getElem?_inj (List.getElem?_eq_some_iff.1 h1).1 h.nodup).1 (h1.trans hr.symm)
theorem BR.base {w0 : World} (h : BR w W N g rs bs) (hb : Below w0.heap.size w0 W) (hle : w0.heap.size ≤ w.heap.size) : BR w0 W N g rs bs :=
 ⟨hb, h.top, Nat.le_trans hle h.ge, h.len, fun i r c h1 h2 => by have h3 := h.row i r c h1 h2; exact ⟨h3.1, h3.2.1, Nat.le_trans hle h3.2.2.1, h3.2.2.2⟩, h.nodup⟩
structure BRp (w W : World) (N g n : Nat) (rs : List Nat) : Prop where
 bel : Below w.heap.size w W
 top : Blk W g 109 ((rs.map fun r => Value.slice (some ⟨r, 0, none⟩) N N) ++ List.replicate (n - rs.length) (Value.slice none 0 0)).toArray
 ge : w.heap.size ≤ g
 len : rs.length ≤ n
 row : ∀ r ∈ rs, Blk W r 4 ((List.replicate N false).map Value.bool).toArray ∧ w.heap.size ≤ r ∧ r ≠ g
 nodup : rs.Nodup
theorem BRp.done {n : Nat} (h : BRp w W N g n rs) (hn : rs.length = n) : BR w W N g rs (List.replicate n (List.replicate N false)) := by
 refine ⟨h.bel, ?_, h.ge, by simp [hn], fun i r b h1 h2 => ?_, h.nodup⟩
 ·have := h.top
  rwa [hn, Nat.sub_self, List.replicate_zero, List.append_nil] at this
 ·rw [List.getElem?_replicate] at h2
  split at h2
  ·cases h2
   have h3 := h.row r (List.mem_of_getElem? h1)
   exact ⟨h3.1, by simp, h3.2⟩
  ·cases h2
theorem BRp.step {n : Nat} (h : BRp w W N g n rs) (hn : rs.length < n) : BRp w ((W.alloc (.cells ((List.replicate N false).map Value.bool).toArray 4)).setCell ⟨g, rs.length, none⟩ (.slice (some ⟨W.heap.size, 0, none⟩) N N)) N g n (rs ++ [W.heap.size]) := by
 have hb : Below W.heap.size W (W.alloc (.cells ((List.replicate N false).map Value.bool).toArray 4)) := (Below.refl _ _).alloc (Nat.le_refl _) _
 have hgl := h.top.lt
 refine ⟨(h.bel.trans (hb.mono h.bel.size)).setCell (p := ⟨g, rs.length, none⟩) h.ge _, ?_, h.ge, by simp; omega, fun r hr => ?_, ?_⟩
 ·have h2 := (h.top.below hb hgl).set_ rs.length (.slice (some ⟨W.heap.size, 0, none⟩) N N)
  rw [List.setIfInBounds_toArray] at h2
  have e : ((rs.map fun r => Value.slice (some ⟨r, 0, none⟩) N N) ++ List.replicate (n - rs.length) (Value.slice none 0 0)).set rs.length (.slice (some ⟨W.heap.size, 0, none⟩) N N) = ((rs ++ [W.heap.size]).map fun r => Value.slice (some ⟨r, 0, none⟩) N N) ++ List.replicate (n - (rs ++ [W.heap.size]).length) (Value.slice none 0 0) := by
   rw [List.set_append_right _ _ (by simp), List.length_map, Nat.sub_self, show n - rs.length = (n - (rs ++ [W.heap.size]).length) + 1 from by simp; omega, List.replicate_succ, List.set_cons_zero, List.map_append]
   simp
  rwa [e] at h2
 ·rcases List.mem_append.1 hr with hr | hr
  ·have h3 := h.row r hr
   exact ⟨(h3.1.below hb h3.1.lt).far (p := ⟨g, rs.length, none⟩) h3.2.2 _, h3.2⟩
  ·obtain rfl := List.mem_singleton.1 hr
   have h3 := Blk.new W 4 ((List.replicate N false).map Value.bool).toArray
   exact ⟨h3.far (p := ⟨g, rs.length, none⟩) (by show W.heap.size ≠ g; omega) _, h.bel.size, by omega⟩
 ·rw [List.nodup_append]
  refine ⟨h.nodup, by simp, fun a ha b hb e => ?_⟩
  obtain rfl := List.mem_singleton.1 hb
  have := (h.row a ha).1.lt
  omega
theorem BRp.below {n : Nat} (h : BRp w W N g n rs) (hb : Below W.heap.size W W') : BRp w W' N g n rs :=
 ⟨h.bel.trans (hb.mono h.bel.size), h.top.below hb h.top.lt, h.ge, h.len, fun r hr => ⟨(h.row r hr).1.below hb (h.row r hr).1.lt, (h.row r hr).2⟩, h.nodup⟩
theorem BRp.cell {n : Nat} (h : BRp w W N g n rs) (hn : rs.length < n) : W.cell? ⟨g, rs.length, none⟩ = some (.slice none 0 0) := by
 rw [h.top.cell, List.getElem?_toArray, List.getElem?_append_right (by simp), List.length_map, Nat.sub_self, List.getElem?_replicate, if_pos (by omega)]
end
end
section
structure Tab (N n : Nat) (bs : List (List Bool)) (P : Nat → Nat → Prop) : Prop where
 len : bs.length = n
 rows : ∀ (i : Nat) (r : List Bool), bs[i]? = some r → r.length = N
 is : ∀ (i : Nat) (r : List Bool) (c : Nat) (b : Bool), bs[i]? = some r → r[c]? = some b → (b = true ↔ P i c)
section
variable {N n : Nat} {bs : List (List Bool)} {P P' : Nat → Nat → Prop}
theorem Tab.congr (h : Tab N n bs P) (e : ∀ i c, i < n → c < N → (P' i c ↔ P i c)) : Tab N n bs P' :=
 ⟨h.len, h.rows, fun i r c b h1 h2 => (h.is i r c b h1 h2).trans (e i c (by have := (List.getElem?_eq_some_iff.1 h1).1; have := h.len; omega) (by have := (List.getElem?_eq_some_iff.1 h2).1; have := h.rows i r h1; omega)).symm⟩
theorem Tab.look (h : Tab N n bs P) {i c : Nat} (hi : i < n) (hc : c < N) : ∃ r b, bs[i]? = some r ∧ r[c]? = some b ∧ (b = true ↔ P i c) := by
 have h1 : bs[i]? = some (bs[i]'(by rw [h.len]; exact hi)) := List.getElem?_eq_getElem _
 have h2 := h.rows i _ h1
 have h3 := List.getElem?_eq_getElem (l := bs[i]'(by rw [h.len]; exact hi)) (i := c) (by omega)
 exact ⟨_, _, h1, h3, h.is _ _ _ _ h1 h3⟩
theorem Tab.put (h : Tab N n bs P) {i c : Nat} {r : List Bool} {v : Bool} (hr : bs[i]? = some r) (hv : v = true ↔ P' i c) (ho : ∀ i' c', i' < n → c' < N → (i' ≠ i ∨ c' ≠ c) → (P' i' c' ↔ P i' c')) : Tab N n (bs.set i (r.set c v)) P' := by
 have hi := (List.getElem?_eq_some_iff.1 hr).1
 refine ⟨by simp [h.len], fun j r' h1 => ?_, fun j r' d b h1 h2 => ?_⟩
 ·by_cases e : j = i
  ·subst e
   rw [List.getElem?_set_self hi] at h1
   cases h1
   rw [List.length_set]
   exact h.rows _ _ hr
  ·rw [List.getElem?_set_ne (Ne.symm e)] at h1
   exact h.rows _ _ h1
 ·have hj : j < n := by have := (List.getElem?_eq_some_iff.1 h1).1; rw [List.length_set] at this; have := h.len; omega
  by_cases e : j = i
  ·subst e
   rw [List.getElem?_set_self hi] at h1
   cases h1
   have hrl := h.rows _ _ hr
   have hd : d < N := by have := (List.getElem?_eq_some_iff.1 h2).1; rw [List.length_set] at this; omega
   by_cases e2 : d = c
   ·subst e2
    rw [List.getElem?_set_self (by omega)] at h2
    cases h2
    exact hv
   ·rw [List.getElem?_set_ne (Ne.symm e2)] at h2
    exact (h.is _ _ _ _ hr h2).trans (ho j d hj hd (.inr e2)).symm
  ·rw [List.getElem?_set_ne (Ne.symm e)] at h1
   have hd : d < N := by have := (List.getElem?_eq_some_iff.1 h2).1; have := h.rows _ _ h1; omega
   exact (h.is _ _ _ _ h1 h2).trans (ho j d hj hd (.inl e)).symm
end
def decN (m : Mix) (c : Nat) : Held := decH m (c : Int)
def QM (m : Mix) (f : Int) (A : List Held) (t c0 i c : Nat) : Prop := if t < i ∨ (i = t ∧ c < c0) then Truth m f A i (decN m c) else Fwd m f A i (decN m c)
section
variable {m : Mix} {f : Int} {A : List Held} {x : MAct} {all : Held} {t c0 N n : Nat} {bs : List (List Bool)}
theorem QM.next {c : Nat} : QM m f A t c0 (t + 1) c ↔ Truth m f A (t + 1) (decN m c) := by
 unfold QM
 rw [if_pos (by omega)]
def LdTo (m : Mix) (f : Int) (A : List Held) (x : MAct) (all : Held) (t : Nat) (s : Held) (k0 : Int) : Prop := ∃ k : Int, (spanR m x f all s).1 ≤ k ∧ k < k0 ∧ Truth m f A (t + 1) (movedR m x s k)
theorem LdTo.zero {s : Held} : ¬ LdTo m f A x all t s (spanR m x f all s).1 := fun ⟨k, h1, h2, _⟩ => by omega
theorem LdTo.step {s : Held} {k0 : Int} (hl : (spanR m x f all s).1 ≤ k0) : LdTo m f A x all t s (k0 + 1) ↔ LdTo m f A x all t s k0 ∨ Truth m f A (t + 1) (movedR m x s k0) := by
 constructor
 ·rintro ⟨k, h1, h2, h3⟩
  rcases Int.lt_or_le k k0 with h5 | h5
  ·exact .inl ⟨k, h1, h5, h3⟩
  ·obtain rfl : k = k0 := by omega
   exact .inr h3
 ·rintro (⟨k, h1, h2, h3⟩ | h)
  ·exact ⟨k, h1, by omega, h3⟩
  ·exact ⟨k0, hl, by omega, h⟩
theorem LdTo.fin {s : Held} {k0 : Int} (hok : okMix m = true) (hA : allM m m.acts = some A) (hx : m.acts[t]? = some x) (ha : A[t]? = some all) (hao : ActOk m all x) (hf : Fwd m f A t s) (hk : (spanR m x f all s).2 < k0) (hk2 : k0 ≤ (spanR m x f all s).2 + 1 ∨ k0 = (spanR m x f all s).1) : LdTo m f A x all t s k0 ↔ Truth m f A t s := by
 rw [truth_step hok hA hx ha hao]
 constructor
 ·rintro ⟨k, h1, h2, h3⟩
  exact ⟨hf, k, h1, by omega, h3⟩
 ·rintro ⟨_, k, h1, h2, h3⟩
  exact ⟨k, h1, by omega, h3⟩
end
end
section
def SpanOf (P : Int → Prop) (s : Int × Int) : Prop := ((∀ n, ¬ P n) ∧ s = (0, -1)) ∨ IsSpan P s
section
variable {P P' : Int → Prop} {s : Int × Int} {k : Int}
theorem SpanOf.keep (h : SpanOf P s) (e : ∀ n, P' n ↔ P n) : SpanOf P' s := by
 rcases h with ⟨h, rfl⟩ | h
 ·exact .inl ⟨fun n hn => h n ((e n).1 hn), rfl⟩
 ·exact .inr (h.congr fun n => (e n).symm)
theorem SpanOf.add (h : SpanOf P s) (h0 : ∀ n, P n → 0 ≤ n) (hk : 0 ≤ k) (e : ∀ n, P' n ↔ P n ∨ n = k) : SpanOf P' (wideS s k) := by
 right
 unfold wideS
 rcases h with ⟨h, rfl⟩ | h
 ·rw [if_pos (by decide)]
  exact ⟨(e _).2 (.inr rfl), (e _).2 (.inr rfl), fun n hn => by
   rcases (e n).1 hn with h1 | h1
   ·exact absurd h1 (h n)
   ·dsimp only; omega⟩
 ·have h2 := h0 _ h.2.1
  rw [if_neg (by omega)]
  refine ⟨?_, ?_, fun n hn => ?_⟩
  ·dsimp only
   rcases Int.le_total s.1 k with e1 | e1
   ·rw [Int.min_eq_left e1]; exact (e _).2 (.inl h.1)
   ·rw [Int.min_eq_right e1]; exact (e _).2 (.inr rfl)
  ·dsimp only
   rcases Int.le_total s.2 k with e1 | e1
   ·rw [Int.max_eq_right e1]; exact (e _).2 (.inr rfl)
   ·rw [Int.max_eq_left e1]; exact (e _).2 (.inl h.2.1)
  ·dsimp only
   rcases (e n).1 hn with h1 | h1
   ·have := h.2.2 n h1
    omega
   ·omega
theorem SpanOf.all (h : SpanOf P s) (hn : ∃ n, P n) : IsSpan P s := by
 rcases h with ⟨h, _⟩ | h
 ·obtain ⟨n, hn⟩ := hn
  exact absurd hn (h n)
 ·exact h
end
section
variable {m : Mix} {f : Int} {A : List Held} {x : MAct} {all s : Held} {t c0 N q : Nat}
end
end
section
open Go.RowKit
theorem run_append_fresh {P : Program} (w : World) (ty : TypeId) {base : Nat} {t e : TypeId} {z : Value} {size bytes : Nat} (EE : ElemAt P t e z size bytes) {ad : Addr} (hown : Own w base e size (some ad) 0 0 [])
  {A2 : Option Addr} {m c B : Nat} {news : List Value} (hR : Reads w B size A2 m news) (h1 : ∀ u ∈ news, u.oneCell' = true) (h63 : m ≤ maxLen) (hbytes : m * bytes ≤ 140737488355328) (hbase : base ≤ w.heap.size) :
  ∃ A' cap' w', (Builtin.append_ #[t, t] ty #[.slice (some ad) 0 0, .slice A2 m c]).run P w = .ok (.slice A' m cap') w' ∧ Own w' base e size A' m cap' news ∧ Below w.heap.size w w' ∧ (A' = some ad ∨ A' = some ⟨w.heap.size, 0, none⟩) := by
 obtain ⟨A', cap', w', hr, h2, h3, h4⟩ := run_append_any (P := P) w ty EE hown hR (c := c) h1 (by omega) (by simpa using hbytes) hbase
 rw [Nat.zero_add] at hr h2
 rw [List.nil_append] at h2
 refine ⟨A', cap', w', hr, h2, ?_, h4⟩
 obtain ⟨i, E⟩ := EE
 rcases Nat.eq_zero_or_pos m with h0 | h0
 ·subst h0
  have hne : news = [] := List.eq_nil_of_length_eq_zero (by rw [hR.1]; simp)
  have hw : w' = w := by
   cases A2 with
   | none =>
    simp [Builtin.append_, run_underlying E.und, sizeOf, typeInfo, E.info, Builtin.lenOf, Builtin.firstCells, storeCells] at hr
    exact hr.2.symm
   | some a2 =>
    simp [Builtin.append_, run_underlying E.und, sizeOf, typeInfo, E.info, Builtin.lenOf, Builtin.firstCells, storeCells, loadCells, loadCellsFrom] at hr
    exact hr.2.symm
  rw [hw]
  exact Below.refl _ _
 ·obtain ⟨B1, cap1, w1, hr1, _, h31, _⟩ := run_append_any (P := P) w ty ⟨i, E⟩ (Own.none_ w base e size) hR (c := c) h1 (by omega) (by simpa using hbytes) hbase
  have hm0 : ¬ (m = 0) := by omega
  have h63i : ¬ (9223372036854775807 < (m : Int)) := by unfold maxLen at h63; omega
  have hcap : Builtin.nextslicecap m 0 = m := by unfold Builtin.nextslicecap; rw [if_pos (by omega)]
  have h48 : ¬ (281474976710656 < m * i.bytes) := by rw [E.ibytes]; omega
  have e1 : (Builtin.append_ #[t, t] ty #[.slice (some ad) 0 0, .slice A2 m c]).run P w = (Builtin.append_ #[t, t] ty #[.slice none 0 0, .slice A2 m c]).run P w := by
   simp [Builtin.append_, run_underlying E.und, sizeOf, typeInfo, E.info, Builtin.lenOf, Builtin.firstCells, hm0, h63i, hcap, h48, loadCells, loadCellsFrom]
  rw [e1] at hr
  rw [Nat.zero_add, hr] at hr1
  cases hr1
  exact (Below.refl _ _).grown h31 (Nat.le_refl _) (fun k hk => by cases hk)
theorem wpListIn_append_fresh {F : Fence} {nn : Nat} {P : Program} {w : World} {ops : Array Oper} {rest : List Oper} {o : Oper} {a : Act} {Q : Exit → Act → World → Prop} (hgd : o.guard = none) (s x : Operand) {t e : TypeId}
  (ho : o.op = .call { callee := .builtin .append, args := #[s, x], argTypes := #[t, t] })
  {z : Value} {size bytes : Nat} (EE : ElemAt P t e z size bytes) {base : Nat} {ad : Addr} (hs : a.eval s = .slice (some ad) 0 0) (hown : Own w base e size (some ad) 0 0 [])
  {A2 : Option Addr} {m c B : Nat} {news : List Value} (hx : a.eval x = .slice A2 m c) (hR : Reads w B size A2 m news) (h1 : ∀ u ∈ news, u.oneCell' = true) (h63 : m ≤ maxLen) (hbytes : m * bytes ≤ 140737488355328) (hbase : base ≤ w.heap.size)
  (h : ∀ A' cap' w', Own w' base e size A' m cap' news → Below w.heap.size w w' → (A' = some ad ∨ A' = some ⟨w.heap.size, 0, none⟩) → wpListIn F nn P ops Q rest (a.put o.dst (.slice A' m cap')) w') :
  wpListIn F nn P ops Q (o :: rest) a w := by
 refine wpListIn_plain hgd fun K hK => ?_
 obtain ⟨A', cap', w', hr, h2, h3, h4⟩ := run_append_fresh (P := P) w o.type EE hown hR (c := c) h1 h63 hbytes hbase
 unfold Oper.wpIn
 refine ⟨?_, ?_⟩
 ·simp [Oper.about, ho, resolve, Target.leads, Sem.run_pure]
 ·rw [Oper.semAt_plain F _ _ (by rw [ho]; intro c hc'; cases hc')]
  unfold execOp
  simp only [ho, resolve, invoke, builtin, Sem.run_bind, Sem.run_pure, Result.andThen_ok, List.map_toArray, List.map_cons, List.map_nil, hs, hx, hr]
  exact hK _ _ (h A' cap' w' h2 h3 h4)
end
section
open Go.RowKit
theorem BR.other {w W W' : World} {N g b : Nat} {rs : List Nat} {bs : List (List Bool)} {t : TypeId} {cs : Array Value} (h : BR w W N g rs bs) (hg : W.grownBy W' (some b)) (hb : Blk W b t cs) (h1 : t ≠ 4) (h2 : t ≠ 109) (hge : w.heap.size ≤ b) : BR w W' N g rs bs :=
 ⟨h.bel.grown hg h.bel.size (fun k e => by cases e; exact hge), h.top.grown hg (fun e => blk_ne hb h.top h2 (Option.some.inj e).symm), h.ge, h.len, fun i r c k1 k2 => ⟨(h.row i r c k1 k2).1.grown hg (fun e => blk_ne hb (h.row i r c k1 k2).1 h1 (Option.some.inj e).symm), (h.row i r c k1 k2).2⟩, h.nodup⟩
theorem ask_ok1 {m : Mix} {v a f : Int} (h : askM m v a [f] = 0) : okMix m = true ∧ 0 ≤ idxV m.vessels v ∧ (0 ≤ a ∧ a ≤ m.acts.length) ∧ 1 ≤ f ∧ f ≤ m.fountains := by
 unfold askM at h
 by_cases hk : okMix m = true
 ·rw [if_pos hk] at h
  by_cases hi : idxV m.vessels v < 0
  ·rw [if_pos hi] at h
   omega
  ·rw [if_neg hi] at h
   by_cases hr : (0 ≤ a ∧ a ≤ m.acts.length) ∧ ∀ g ∈ [f], 1 ≤ g ∧ g ≤ m.fountains
   ·exact ⟨hk, by omega, hr.1, by simpa using hr.2⟩
   ·rw [if_neg hr] at h
    omega
 ·rw [if_neg hk] at h
  omega
theorem rowAt {w W : World} {N g n i r c : Nat} {rs : List Nat} {bs : List (List Bool)} {row : List Bool} {P : Nat → Nat → Prop} (h : BR w W N g rs bs) (hT : Tab N n bs P) (hr : rs[i]? = some r) (hb : bs[i]? = some row) (hc : c < N) : ∃ v : Bool, W.cell? ⟨r, c, none⟩ = some (.bool v) ∧ (v = true ↔ P i c) ∧ r < W.heap.size := by
 have h1 := hT.rows _ _ hb
 have h2 : row[c]? = some (row[c]'(by omega)) := List.getElem?_eq_getElem _
 exact ⟨_, h.cell hr hb h2, hT.is _ _ _ _ hb h2, (h.row i r row hr hb).1.lt⟩
end
section
open Go.RowKit Go.Shelf
attribute [local go_sem] Oper.semAt_some
structure Er6 {α : Type} (P : α → Prop) : Prop where
 ex : ∃ a, P a
inductive FrMrA (v2 v3 v4 v5 v13 v15 v58 v59 v60 : Value) : Act → Prop
 | mk (u0 u1 u6 u7 u8 u9 u10 u11 u12 u14 u16 u17 u18 u19 u20 u21 u22 u23 u24 u25 u26 u27 u28 u29 u30 u31 u32 u33 u34 u35 u36 u37 u38 u39 u40 u41 u42 u43 u44 u45 u46 u47 u48 u49 u50 u51 u52 u53 u54 u55 u56 u57 u61 u62 u63 u64 u65 u66 u67 u68 u69 u70 u71 u72 u73 u74 u75 u76 u77 u78 u79 u80 u81 u82 u83 u84 u85 u86 u87 u88 u89 u90 u91 u92 u93 u94 u95 u96 u97 u98 u99 u100 u101 u102 u103 u104 u105 u106 u107 u108 u109 u110 u111 u112 u113 u114 u115 u116 u117 u118 u119 u120 u121 u122 u123 u124 u125 u126 u127 u128 u129 u130 u131 u132 u133 u134 u135 u136 u137 u138 u139 u140 u141 u142 u143 u144 u145 u146 u147 u148 u149 u150 u151 u152 u153 u154 u155 u156 u157 u158 u159 u160 u161 u162 u163 u164 u165 u166 u167 u168 u169 u170 : Value) : FrMrA v2 v3 v4 v5 v13 v15 v58 v59 v60 { tmps := #[u0, u1, v2, v3, v4, v5, u6, u7, u8, u9, u10, u11, u12, v13, u14, v15, u16, u17, u18, u19, u20, u21, u22, u23, u24, u25, u26, u27, u28, u29, u30, u31, u32, u33, u34, u35, u36, u37, u38, u39, u40, u41, u42, u43, u44, u45, u46, u47, u48, u49, u50, u51, u52, u53, u54, u55, u56, u57, v58, v59, v60, u61, u62, u63, u64, u65, u66, u67, u68, u69, u70, u71, u72, u73, u74, u75, u76, u77, u78, u79, u80, u81, u82, u83, u84, u85, u86, u87, u88, u89, u90, u91, u92, u93, u94, u95, u96, u97, u98, u99, u100, u101, u102, u103, u104, u105, u106, u107, u108, u109, u110, u111, u112, u113, u114, u115, u116, u117, u118, u119, u120, u121, u122, u123, u124, u125, u126, u127, u128, u129, u130, u131, u132, u133, u134, u135, u136, u137, u138, u139, u140, u141, u142, u143, u144, u145, u146, u147, u148, u149, u150, u151, u152, u153, u154, u155, u156, u157, u158, u159, u160, u161, u162, u163, u164, u165, u166, u167, u168, u169, u170], defers := [] }
inductive FrMrB (v2 v3 v4 v5 v13 v15 v16 v17 v58 v59 v60 v68 v69 v70 : Value) : Act → Prop
 | mk (u0 u1 u6 u7 u8 u9 u10 u11 u12 u14 u18 u19 u20 u21 u22 u23 u24 u25 u26 u27 u28 u29 u30 u31 u32 u33 u34 u35 u36 u37 u38 u39 u40 u41 u42 u43 u44 u45 u46 u47 u48 u49 u50 u51 u52 u53 u54 u55 u56 u57 u61 u62 u63 u64 u65 u66 u67 u71 u72 u73 u74 u75 u76 u77 u78 u79 u80 u81 u82 u83 u84 u85 u86 u87 u88 u89 u90 u91 u92 u93 u94 u95 u96 u97 u98 u99 u100 u101 u102 u103 u104 u105 u106 u107 u108 u109 u110 u111 u112 u113 u114 u115 u116 u117 u118 u119 u120 u121 u122 u123 u124 u125 u126 u127 u128 u129 u130 u131 u132 u133 u134 u135 u136 u137 u138 u139 u140 u141 u142 u143 u144 u145 u146 u147 u148 u149 u150 u151 u152 u153 u154 u155 u156 u157 u158 u159 u160 u161 u162 u163 u164 u165 u166 u167 u168 u169 u170 : Value) : FrMrB v2 v3 v4 v5 v13 v15 v16 v17 v58 v59 v60 v68 v69 v70 { tmps := #[u0, u1, v2, v3, v4, v5, u6, u7, u8, u9, u10, u11, u12, v13, u14, v15, v16, v17, u18, u19, u20, u21, u22, u23, u24, u25, u26, u27, u28, u29, u30, u31, u32, u33, u34, u35, u36, u37, u38, u39, u40, u41, u42, u43, u44, u45, u46, u47, u48, u49, u50, u51, u52, u53, u54, u55, u56, u57, v58, v59, v60, u61, u62, u63, u64, u65, u66, u67, v68, v69, v70, u71, u72, u73, u74, u75, u76, u77, u78, u79, u80, u81, u82, u83, u84, u85, u86, u87, u88, u89, u90, u91, u92, u93, u94, u95, u96, u97, u98, u99, u100, u101, u102, u103, u104, u105, u106, u107, u108, u109, u110, u111, u112, u113, u114, u115, u116, u117, u118, u119, u120, u121, u122, u123, u124, u125, u126, u127, u128, u129, u130, u131, u132, u133, u134, u135, u136, u137, u138, u139, u140, u141, u142, u143, u144, u145, u146, u147, u148, u149, u150, u151, u152, u153, u154, u155, u156, u157, u158, u159, u160, u161, u162, u163, u164, u165, u166, u167, u168, u169, u170], defers := [] }
inductive FrMrT (v2 v3 v4 v5 v13 v15 v16 v17 v18 v19 v20 v21 v58 v59 v60 v68 v69 v70 : Value) : Act → Prop
 | mk (u0 u1 u6 u7 u8 u9 u10 u11 u12 u14 u22 u23 u24 u25 u26 u27 u28 u29 u30 u31 u32 u33 u34 u35 u36 u37 u38 u39 u40 u41 u42 u43 u44 u45 u46 u47 u48 u49 u50 u51 u52 u53 u54 u55 u56 u57 u61 u62 u63 u64 u65 u66 u67 u71 u72 u73 u74 u75 u76 u77 u78 u79 u80 u81 u82 u83 u84 u85 u86 u87 u88 u89 u90 u91 u92 u93 u94 u95 u96 u97 u98 u99 u100 u101 u102 u103 u104 u105 u106 u107 u108 u109 u110 u111 u112 u113 u114 u115 u116 u117 u118 u119 u120 u121 u122 u123 u124 u125 u126 u127 u128 u129 u130 u131 u132 u133 u134 u135 u136 u137 u138 u139 u140 u141 u142 u143 u144 u145 u146 u147 u148 u149 u150 u151 u152 u153 u154 u155 u156 u157 u158 u159 u160 u161 u162 u163 u164 u165 u166 u167 u168 u169 u170 : Value) : FrMrT v2 v3 v4 v5 v13 v15 v16 v17 v18 v19 v20 v21 v58 v59 v60 v68 v69 v70 { tmps := #[u0, u1, v2, v3, v4, v5, u6, u7, u8, u9, u10, u11, u12, v13, u14, v15, v16, v17, v18, v19, v20, v21, u22, u23, u24, u25, u26, u27, u28, u29, u30, u31, u32, u33, u34, u35, u36, u37, u38, u39, u40, u41, u42, u43, u44, u45, u46, u47, u48, u49, u50, u51, u52, u53, u54, u55, u56, u57, v58, v59, v60, u61, u62, u63, u64, u65, u66, u67, v68, v69, v70, u71, u72, u73, u74, u75, u76, u77, u78, u79, u80, u81, u82, u83, u84, u85, u86, u87, u88, u89, u90, u91, u92, u93, u94, u95, u96, u97, u98, u99, u100, u101, u102, u103, u104, u105, u106, u107, u108, u109, u110, u111, u112, u113, u114, u115, u116, u117, u118, u119, u120, u121, u122, u123, u124, u125, u126, u127, u128, u129, u130, u131, u132, u133, u134, u135, u136, u137, u138, u139, u140, u141, u142, u143, u144, u145, u146, u147, u148, u149, u150, u151, u152, u153, u154, u155, u156, u157, u158, u159, u160, u161, u162, u163, u164, u165, u166, u167, u168, u169, u170], defers := [] }
inductive FrMrP (v2 v3 v4 v5 v13 v15 v16 v17 v18 v19 v20 v21 v22 v58 v59 v60 v68 v69 v70 v102 v103 v104 : Value) : Act → Prop
 | mk (u0 u1 u6 u7 u8 u9 u10 u11 u12 u14 u23 u24 u25 u26 u27 u28 u29 u30 u31 u32 u33 u34 u35 u36 u37 u38 u39 u40 u41 u42 u43 u44 u45 u46 u47 u48 u49 u50 u51 u52 u53 u54 u55 u56 u57 u61 u62 u63 u64 u65 u66 u67 u71 u72 u73 u74 u75 u76 u77 u78 u79 u80 u81 u82 u83 u84 u85 u86 u87 u88 u89 u90 u91 u92 u93 u94 u95 u96 u97 u98 u99 u100 u101 u105 u106 u107 u108 u109 u110 u111 u112 u113 u114 u115 u116 u117 u118 u119 u120 u121 u122 u123 u124 u125 u126 u127 u128 u129 u130 u131 u132 u133 u134 u135 u136 u137 u138 u139 u140 u141 u142 u143 u144 u145 u146 u147 u148 u149 u150 u151 u152 u153 u154 u155 u156 u157 u158 u159 u160 u161 u162 u163 u164 u165 u166 u167 u168 u169 u170 : Value) : FrMrP v2 v3 v4 v5 v13 v15 v16 v17 v18 v19 v20 v21 v22 v58 v59 v60 v68 v69 v70 v102 v103 v104 { tmps := #[u0, u1, v2, v3, v4, v5, u6, u7, u8, u9, u10, u11, u12, v13, u14, v15, v16, v17, v18, v19, v20, v21, v22, u23, u24, u25, u26, u27, u28, u29, u30, u31, u32, u33, u34, u35, u36, u37, u38, u39, u40, u41, u42, u43, u44, u45, u46, u47, u48, u49, u50, u51, u52, u53, u54, u55, u56, u57, v58, v59, v60, u61, u62, u63, u64, u65, u66, u67, v68, v69, v70, u71, u72, u73, u74, u75, u76, u77, u78, u79, u80, u81, u82, u83, u84, u85, u86, u87, u88, u89, u90, u91, u92, u93, u94, u95, u96, u97, u98, u99, u100, u101, v102, v103, v104, u105, u106, u107, u108, u109, u110, u111, u112, u113, u114, u115, u116, u117, u118, u119, u120, u121, u122, u123, u124, u125, u126, u127, u128, u129, u130, u131, u132, u133, u134, u135, u136, u137, u138, u139, u140, u141, u142, u143, u144, u145, u146, u147, u148, u149, u150, u151, u152, u153, u154, u155, u156, u157, u158, u159, u160, u161, u162, u163, u164, u165, u166, u167, u168, u169, u170], defers := [] }
inductive FrMrQ (v2 v3 v4 v5 v13 v15 v16 v17 v18 v19 v20 v21 v22 v58 v59 v60 v68 v69 v70 v102 v103 v104 v122 v123 v124 : Value) : Act → Prop
 | mk (u0 u1 u6 u7 u8 u9 u10 u11 u12 u14 u23 u24 u25 u26 u27 u28 u29 u30 u31 u32 u33 u34 u35 u36 u37 u38 u39 u40 u41 u42 u43 u44 u45 u46 u47 u48 u49 u50 u51 u52 u53 u54 u55 u56 u57 u61 u62 u63 u64 u65 u66 u67 u71 u72 u73 u74 u75 u76 u77 u78 u79 u80 u81 u82 u83 u84 u85 u86 u87 u88 u89 u90 u91 u92 u93 u94 u95 u96 u97 u98 u99 u100 u101 u105 u106 u107 u108 u109 u110 u111 u112 u113 u114 u115 u116 u117 u118 u119 u120 u121 u125 u126 u127 u128 u129 u130 u131 u132 u133 u134 u135 u136 u137 u138 u139 u140 u141 u142 u143 u144 u145 u146 u147 u148 u149 u150 u151 u152 u153 u154 u155 u156 u157 u158 u159 u160 u161 u162 u163 u164 u165 u166 u167 u168 u169 u170 : Value) : FrMrQ v2 v3 v4 v5 v13 v15 v16 v17 v18 v19 v20 v21 v22 v58 v59 v60 v68 v69 v70 v102 v103 v104 v122 v123 v124 { tmps := #[u0, u1, v2, v3, v4, v5, u6, u7, u8, u9, u10, u11, u12, v13, u14, v15, v16, v17, v18, v19, v20, v21, v22, u23, u24, u25, u26, u27, u28, u29, u30, u31, u32, u33, u34, u35, u36, u37, u38, u39, u40, u41, u42, u43, u44, u45, u46, u47, u48, u49, u50, u51, u52, u53, u54, u55, u56, u57, v58, v59, v60, u61, u62, u63, u64, u65, u66, u67, v68, v69, v70, u71, u72, u73, u74, u75, u76, u77, u78, u79, u80, u81, u82, u83, u84, u85, u86, u87, u88, u89, u90, u91, u92, u93, u94, u95, u96, u97, u98, u99, u100, u101, v102, v103, v104, u105, u106, u107, u108, u109, u110, u111, u112, u113, u114, u115, u116, u117, u118, u119, u120, u121, v122, v123, v124, u125, u126, u127, u128, u129, u130, u131, u132, u133, u134, u135, u136, u137, u138, u139, u140, u141, u142, u143, u144, u145, u146, u147, u148, u149, u150, u151, u152, u153, u154, u155, u156, u157, u158, u159, u160, u161, u162, u163, u164, u165, u166, u167, u168, u169, u170], defers := [] }
inductive FrMrF (v2 v3 v4 v5 v13 v15 v16 v17 v18 v19 v58 v59 v60 v68 v69 v70 v152 v153 v154 : Value) : Act → Prop
 | mk (u0 u1 u6 u7 u8 u9 u10 u11 u12 u14 u20 u21 u22 u23 u24 u25 u26 u27 u28 u29 u30 u31 u32 u33 u34 u35 u36 u37 u38 u39 u40 u41 u42 u43 u44 u45 u46 u47 u48 u49 u50 u51 u52 u53 u54 u55 u56 u57 u61 u62 u63 u64 u65 u66 u67 u71 u72 u73 u74 u75 u76 u77 u78 u79 u80 u81 u82 u83 u84 u85 u86 u87 u88 u89 u90 u91 u92 u93 u94 u95 u96 u97 u98 u99 u100 u101 u102 u103 u104 u105 u106 u107 u108 u109 u110 u111 u112 u113 u114 u115 u116 u117 u118 u119 u120 u121 u122 u123 u124 u125 u126 u127 u128 u129 u130 u131 u132 u133 u134 u135 u136 u137 u138 u139 u140 u141 u142 u143 u144 u145 u146 u147 u148 u149 u150 u151 u155 u156 u157 u158 u159 u160 u161 u162 u163 u164 u165 u166 u167 u168 u169 u170 : Value) : FrMrF v2 v3 v4 v5 v13 v15 v16 v17 v18 v19 v58 v59 v60 v68 v69 v70 v152 v153 v154 { tmps := #[u0, u1, v2, v3, v4, v5, u6, u7, u8, u9, u10, u11, u12, v13, u14, v15, v16, v17, v18, v19, u20, u21, u22, u23, u24, u25, u26, u27, u28, u29, u30, u31, u32, u33, u34, u35, u36, u37, u38, u39, u40, u41, u42, u43, u44, u45, u46, u47, u48, u49, u50, u51, u52, u53, u54, u55, u56, u57, v58, v59, v60, u61, u62, u63, u64, u65, u66, u67, v68, v69, v70, u71, u72, u73, u74, u75, u76, u77, u78, u79, u80, u81, u82, u83, u84, u85, u86, u87, u88, u89, u90, u91, u92, u93, u94, u95, u96, u97, u98, u99, u100, u101, u102, u103, u104, u105, u106, u107, u108, u109, u110, u111, u112, u113, u114, u115, u116, u117, u118, u119, u120, u121, u122, u123, u124, u125, u126, u127, u128, u129, u130, u131, u132, u133, u134, u135, u136, u137, u138, u139, u140, u141, u142, u143, u144, u145, u146, u147, u148, u149, u150, u151, v152, v153, v154, u155, u156, u157, u158, u159, u160, u161, u162, u163, u164, u165, u166, u167, u168, u169, u170], defers := [] }
section
variable {m : Mix} {v a f0 f1 e : Int} {L : List Held} {k q i j t : Nat} {x : MAct}
theorem met_bad (h : askM m v a [f0] = e) (h0 : e ≠ 0) : metM m v a f0 f1 = e := by
 have h1 : askM m v a [f0, f1] = e := by
  subst h
  unfold askM at h0 ⊢
  by_cases hk : okMix m = true
  ·rw [if_pos hk] at h0 ⊢
   rw [if_pos hk]
   by_cases h6 : idxV m.vessels v < 0
   ·rw [if_pos h6, if_pos h6]
   ·rw [if_neg h6] at h0 ⊢
    rw [if_neg h6]
    by_cases h2 : (0 ≤ a ∧ a ≤ m.acts.length) ∧ ∀ f ∈ [f0], 1 ≤ f ∧ f ≤ m.fountains
    ·rw [if_pos h2] at h0; exact absurd rfl h0
    ·rw [if_neg h2, if_neg (fun h3 => h2 ⟨h3.1, fun f hf => h3.2 f (by simp at hf ⊢; exact .inl hf)⟩)]
  ·rw [if_neg hk, if_neg hk]
 unfold metM
 rw [h1, if_neg h0]
theorem ask_two (h : askM m v a [f0] = 0) : askM m v a [f0, f1] = if 1 ≤ f1 ∧ f1 ≤ m.fountains then 0 else 2 := by
 obtain ⟨hk, hi, ha, h1, h2⟩ := ask_ok1 h
 unfold askM
 rw [if_pos hk, if_neg (by omega)]
 by_cases hq : 1 ≤ f1 ∧ f1 ≤ m.fountains
 ·rw [if_pos hq, if_pos ⟨ha, fun f hf => by simp at hf; rcases hf with rfl | rfl; exact ⟨h1, h2⟩; exact hq⟩]
 ·rw [if_neg hq, if_neg (fun h3 => hq (h3.2 f1 (by simp)))]
theorem met_arg (h : askM m v a [f0] = 0) (h2 : ¬ (1 ≤ f1 ∧ f1 ≤ m.fountains) ∨ f0 = f1) : metM m v a f0 f1 = 2 := by
 unfold metM
 rw [ask_two h]
 by_cases hq : 1 ≤ f1 ∧ f1 ≤ m.fountains
 ·rw [if_pos hq, if_pos rfl, if_pos (h2.resolve_left (fun h => h hq))]
 ·rw [if_neg hq, if_neg (by decide)]
theorem met_ok (h : askM m v a [f0] = 0) (hq : 1 ≤ f1 ∧ f1 ≤ m.fountains) (hn : ¬ f0 = f1) : metM m v a f0 f1 = 0 := by
 unfold metM
 rw [ask_two h, if_pos hq, if_pos rfl, if_neg hn]
def NotMet (m : Mix) (L : List Held) (f0 f1 : Int) (k q i j : Nat) : Prop := ∀ i' j', (i' < i ∧ j' < k) ∨ (i' = i ∧ j' < j) → ¬ (Fills m f0 i' ∧ Fills m f1 j' ∧ NowR m L i' j' k ((q : Int), (q : Int)))
theorem not_met_zero : NotMet m L f0 f1 k q 0 0 := fun i' j' h => by omega
theorem not_met_no (h : NotMet m L f0 f1 k q i j) (h2 : Fills m f0 i → Fills m f1 j → False) : NotMet m L f0 f1 k q i (j + 1) := fun i' j' hh => by
 by_cases e : i' = i ∧ j' = j
 ·obtain ⟨rfl, rfl⟩ := e
  exact fun h3 => h2 h3.1 h3.2.1
 ·exact h i' j' (by omega)
theorem not_met_now (h : NotMet m L f0 f1 k q i j) (h2 : ¬ NowR m L i j k ((q : Int), (q : Int))) : NotMet m L f0 f1 k q i (j + 1) := fun i' j' hh => by
 by_cases e : i' = i ∧ j' = j
 ·obtain ⟨rfl, rfl⟩ := e
  exact fun h3 => h2 h3.2.2
 ·exact h i' j' (by omega)
theorem not_met_row (h : NotMet m L f0 f1 k q i k) : NotMet m L f0 f1 k q (i + 1) 0 := fun i' j' hh => h i' j' (by omega)
theorem fills_at (hx : m.acts[i]? = some x) : (x.kind = 1 ∧ x.fr = f0) ↔ Fills m f0 i := ⟨fun h => ⟨x, hx, h.1, h.2⟩, fun ⟨y, hy, h1, h2⟩ => by
 rw [hx] at hy
 cases hy
 exact ⟨h1, h2⟩⟩
def updR (m : Mix) (x : MAct) (t i j : Nat) (u : Int × Int) : Int × Int := (if t = i then toI m x else u.1, if t = j then toI m x else u.2)
def NextR (m : Mix) (all : Held) (x : MAct) (t i j : Nat) (ps : List (Int × Int)) (d : Int × Int) : Prop :=
 ∃ p ∈ ps, ∃ u, StepR (fromI m x) (toI m x) (sizeA m all x) (heldAt all (fromI m x)) p u ∧ d = updR m x t i j u
theorem next_nil {all : Held} {d : Int × Int} : ¬ NextR m all x t i j [] d := fun ⟨p, hp, _⟩ => by cases hp
theorem upd_more {P : Prop} {gs : List (Int × Int)} {u d : Int × Int} : ((P ∨ ∃ v ∈ gs, d = updR m x t i j v) ∨ d = updR m x t i j u) ↔ (P ∨ ∃ v ∈ gs ++ [u], d = updR m x t i j v) := by
 constructor
 ·rintro ((h | ⟨v, h1, h2⟩) | h)
  ·exact .inl h
  ·exact .inr ⟨v, by simp [h1], h2⟩
  ·exact .inr ⟨u, by simp, h⟩
 ·rintro (h | ⟨v, h1, h2⟩)
  ·exact .inl (.inl h)
  ·rcases List.mem_append.1 h1 with h1 | h1
   ·exact .inl (.inr ⟨v, h1, h2⟩)
   ·rw [List.mem_singleton.1 h1] at h2; exact .inr h2
theorem next_snoc {all : Held} {ps gs : List (Int × Int)} {p d : Int × Int} (hg : ∀ u, u ∈ gs ↔ StepR (fromI m x) (toI m x) (sizeA m all x) (heldAt all (fromI m x)) p u) :
  (NextR m all x t i j ps d ∨ ∃ u ∈ gs, d = updR m x t i j u) ↔ NextR m all x t i j (ps ++ [p]) d := by
 constructor
 ·rintro (⟨p', h1, h2⟩ | ⟨u, h1, h2⟩)
  ·exact ⟨p', by simp [h1], h2⟩
  ·exact ⟨p, by simp, u, (hg u).1 h1, h2⟩
 ·rintro ⟨p', h1, u, h2, h3⟩
  rcases List.mem_append.1 h1 with h1 | h1
  ·exact .inl ⟨p', h1, u, h2, h3⟩
  ·rw [List.mem_singleton.1 h1] at h2; exact .inr ⟨u, (hg u).2 h2, h3⟩
theorem now_next {all : Held} {rs : List (Int × Int)} {d : Int × Int} (hx : m.acts[t]? = some x) (ha : L[t]? = some all) (hr : ∀ p, p ∈ rs ↔ NowR m L i j t p) : NextR m all x t i j rs d ↔ NowR m L i j (t + 1) d := by
 constructor
 ·rintro ⟨p, h1, u, h2, h3⟩
  exact ⟨p, u, x, all, (hr p).1 h1, hx, ha, h2, h3⟩
 ·rintro ⟨p, u, x', all', h1, hx', ha', h2, h3⟩
  rw [hx] at hx'
  rw [ha] at ha'
  cases hx'
  cases ha'
  exact ⟨p, (hr p).2 h1, u, h2, h3⟩
end
set_option maxRecDepth 100000 in
set_option maxHeartbeats 32000000 in
theorem rmet_in (Av : Option Addr) (nv cv : Nat) (Aa : Option Addr) (na ca : Nat) (At : Option Addr) (nt ct : Nat) (m : Mix) (vessel after one other : Int) (w : World) (h : MixS w Av nv Aa na At nt m) (hca : na ≤ ca ∧ ca ≤ maxLen) :
  CallsIn Fence.wide 9 Try.prog 25 #[.agg #[.int .i64 m.fountains, .slice Av nv cv, .slice Aa na ca, .slice At nt ct], .int .i64 vessel, .int .i64 after, .int .i64 one, .int .i64 other] w (MetOut w m vessel after one other) := by
 have HM := lh h
 have HCA := lh hca
 have HLA := lh h.at_.lenA
 have HLV := lh h.at_.lenV
 clear h hca
 refine callsIn_of_wp Try.func25 rfl trivial ?_ rfl
 simp only [Try.ntmps25, List.size_toArray, List.length_cons, List.length_nil, Nat.reduceAdd, Nat.reduceSub, Array.replicate_succ, Array.replicate_zero, List.push_toArray, List.append_toArray, List.nil_append, List.cons_append]
 gi_upto_region 1 with fail
 have Ly := lh (Lay.one w 26 #[.int .i64 m.fountains, .slice Av nv cv, .slice Aa na ca, .slice At nt ct])
 generalize (w.alloc (.cells #[.int .i64 m.fountains, .slice Av nv cv, .slice Aa na ca, .slice At nt ct] 26)) = w0 at *
 obtain ⟨x0_0, x0_1, x0_2, x0_3⟩ := lyc4 Ly 0 rfl
 have l0_ := Ly.out.lt 0 rfl
 gi_wp2
 clear x0_0 x0_1 x0_2 x0_3 l0_
 refine ⟨trivial, (callsIn_wide.2 (callsIn_wide.1 (rasked_in Av nv cv Aa na ca At nt ct m vessel after one w0 (HM.out.up Ly.out.1)))).mono ?_⟩
 rintro e W1 ⟨rfl, hb⟩
 replace Ly := lyb Ly hb
 clear hb
 obtain ⟨ee, hee⟩ : ∃ e, askM m vessel after [one] = e := ⟨_, rfl⟩
 rw [hee]
 have HEE := lh hee
 clear hee
 by_cases h0 : ee = 0
 ·
  subst h0
  have hok := ask_ok1 HEE.out
  have HOK := lh hok
  have HV := lh (okMix_vess hok.1)
  clear hok
  obtain ⟨x0_0, x0_1, x0_2, x0_3⟩ := lyc4 Ly 0 rfl
  have l0_ := Ly.out.lt 0 rfl
  gi_wp2
  clear x0_0 x0_1 x0_2 x0_3 l0_
  refine ⟨trivial, (callsIn_wide.2 (within_any other 1 m.fountains W1)).mono ?_⟩
  rintro e W8 ⟨rfl, rfl⟩
  by_cases hq : 1 ≤ other ∧ other ≤ m.fountains
  ·
   have hi : wiB other 1 m.fountains = true := decide_eq_true hq
   rw [hi]
   have HQ := lh hq
   clear hq hi
   by_cases hoo : one = other
   ·
    have hob : (one == other) = true := by simpa using hoo
    have HOO := lh hoo
    clear hoo
    gi_wp2
    refine bodyPost_ret (v := .tuple #[.bool false, .int .i64 2]) (by simp [results, Try.results25, go_sem]) rfl ?_
    exact ⟨false, 2, rfl, .inl ⟨by rw [met_arg HEE.out (.inr HOO.out)]; decide, rfl, (met_arg HEE.out (.inr HOO.out)).symm⟩, Ly.out.1⟩
   ·
    have hob : (one == other) = false := by simpa using hoo
    have HOO := lh hoo
    clear hoo
    obtain ⟨L, hL⟩ := okMix_all HOK.out.1
    have HL := lh hL
    obtain ⟨k, hk⟩ : ∃ k : Nat, after = (k : Int) := ⟨after.toNat, by have := HOK.out.2.2.1; omega⟩
    obtain ⟨q, hq⟩ : ∃ q : Nat, idxV m.vessels vessel = (q : Int) := ⟨(idxV m.vessels vessel).toNat, by have := HOK.out.2.1; omega⟩
    subst hk
    have HIQ := lh hq
    have HME : Hid (metM m vessel (k : Int) one other = 0) := lh (met_ok HEE.out HQ.out HOO.out)
    clear hL hq
    obtain ⟨x0_0, x0_1, x0_2, x0_3⟩ := lyc4 Ly 0 rfl
    have l0_ := Ly.out.lt 0 rfl
    gi_wp2
    clear x0_0 x0_1 x0_2 x0_3 l0_
    refine ⟨trivial, (callsIn_wide.2 (callsIn_wide.1 (rplayed_in Av nv cv Aa na ca At nt ct m W1 (HM.out.up Ly.out.1) (okMix_ves HOK.out.1) (by have h1 := HLV.out; have h2 := HV.out; omega) (by have h1 := HLA.out; have h2 := HV.out; omega)))).mono ?_⟩
    rintro e W2 ⟨hb, Ap, np, cp, bb, L2, rfl, hpl⟩
    replace Ly := lyb Ly hb
    clear hb
    obtain ⟨rfl, hR⟩ : bb = true ∧ Reads W2 W2.heap.size 4 Ap np (L.flatMap heldC) := by
     rcases hpl with ⟨h1, h2, h3⟩ | ⟨_, _, h3⟩
     ·rw [HL.out] at h2
      obtain rfl := Option.some.inj h2
      exact ⟨h1, h3⟩
     ·rw [HL.out] at h3
      cases h3
    have HR2 := lh hR
    clear hpl hR
    obtain ⟨x0_0, x0_1, x0_2, x0_3⟩ := lyc4 Ly 0 rfl
    have l0_ := Ly.out.lt 0 rfl
    gi_wp2
    clear x0_0 x0_1 x0_2 x0_3 l0_
    refine ⟨trivial, (callsIn_wide.2 (rindex_any Av nv cv Aa na ca At nt ct m vessel W2 (HM.out.up Ly.out.1))).mono ?_⟩
    rintro e W3 ⟨rfl, hb⟩
    replace HR2 := lh ((HR2.out.below hb).more hb.size)
    replace Ly := lyb Ly hb
    clear hb
    rw [HIQ.out]
    have x9 := lyc Ly 0 rfl 2
    have x9l := Ly.out.lt 0 rfl
    change _ = some (Value.slice Aa na ca) at x9
    have hkm : k ≤ m.acts.length := by have := HOK.out.2.2.1; omega
    have hkna : k ≤ na := by have h2 := HLA.out; omega
    have hk12 : k ≤ 12 := by have h1 := HV.out; omega
    have hkc : k ≤ ca := by have := HCA.out; omega
    have hca := HCA.out
    gi_wp2
    clear x9 x9l
    refine wpIn_loop (fun ac W => ∃ (i : Nat), Hid (i ≤ k ∧ NotMet m L one other k q i 0 ∧ Below W3.heap.size W3 W) ∧ FrMrA (.int .i64 (k : Int)) (.int .i64 one) (.int .i64 other) (.pointer (some ⟨w.heap.size, 0, none⟩)) (.slice Ap np cp) (.int .i64 (q : Int)) (.slice Aa k ca) (.int .i64 (k : Int)) (.int .i64 (i : Int)) ac) (fun ac _ => k - (intOf (ac.tmps.getD 60 undef)).toNat) ?_ ?_
    ·exact ⟨0, lh ⟨Nat.zero_le _, not_met_zero, Below.refl _ _⟩, by constructor⟩
    rintro ac W ⟨i, HS, ha⟩
    cases ha
    have HBA := lh HS.out.2.2
    by_cases hik : i < k
    ·
     obtain ⟨bx, obx, x, hAx, hbx, hx, c0, c1, c2, c3⟩ := (HM.out.at_.below (Ly.out.1.trans (HBA.out.mono Ly.out.1.size))).act (i := i) (by omega)
     have hlx : bx < W.heap.size := Nat.lt_of_lt_of_le hbx (Ly.out.1.trans (HBA.out.mono Ly.out.1.size)).size
     have HX := lh hx
     have HAX := lh hAx
     rw [hAx]
     clear hx hbx
     gi_upto_region 11 with fail
     rw [← HAX.out]
     clear hAx c0 c1 c2 c3 hlx
     have HGX := lh (Blk.new W 67 #[.int .i64 x.kind, .int .i64 x.fr, .int .i64 x.to, .int .i64 x.drops])
     have hb := (Below.refl W.heap.size W).alloc (Nat.le_refl _) (.cells #[.int .i64 x.kind, .int .i64 x.fr, .int .i64 x.to, .int .i64 x.drops] 67)
     generalize (W.alloc (.cells #[.int .i64 x.kind, .int .i64 x.fr, .int .i64 x.to, .int .i64 x.drops] 67)) = V1 at *
     obtain ⟨gx, hgx⟩ : ∃ g, W.heap.size = g := ⟨_, rfl⟩
     rw [hgx] at HGX ⊢
     clear hgx
     have HB1 := lh (HBA.out.trans (hb.mono HBA.out.size))
     have HW1 := lh hb
     clear hb
     have z := (Ly.out.blk 0 rfl).below HB1.out (Ly.out.lt 0 rfl)
     have x9 := z.cell 2
     have x9l := z.lt
     change _ = some (Value.slice Aa na ca) at x9
     clear z
     gi_wp2
     clear x9 x9l
     refine wpIn_loop (fun ac W2 => ∃ (j : Nat), Hid (j ≤ k ∧ NotMet m L one other k q i j ∧ Below V1.heap.size V1 W2) ∧ FrMrB (.int .i64 (k : Int)) (.int .i64 one) (.int .i64 other) (.pointer (some ⟨w.heap.size, 0, none⟩)) (.slice Ap np cp) (.int .i64 (q : Int)) (.int .i64 (i : Int)) (.pointer (some ⟨gx, 0, none⟩)) (.slice Aa k ca) (.int .i64 (k : Int)) (.int .i64 (i : Int)) (.slice Aa k ca) (.int .i64 (k : Int)) (.int .i64 (j : Int)) ac) (fun ac _ => k - (intOf (ac.tmps.getD 70 undef)).toNat) ?_ ?_
     ·exact ⟨0, lh ⟨Nat.zero_le _, HS.out.2.1, Below.refl _ _⟩, by constructor⟩
     rintro ac W2 ⟨j, HJ, ha⟩
     cases ha
     have HB2 := lh (HB1.out.trans (HJ.out.2.2.mono HB1.out.size))
     by_cases hjk : j < k
     ·
      have HGX2 := lh (HGX.out.below HJ.out.2.2 HGX.out.lt)
      obtain ⟨by_, oby_, y, hAy, hby, hy, c0, c1, c2, c3⟩ := (HM.out.at_.below (Ly.out.1.trans (HB2.out.mono Ly.out.1.size))).act (i := j) (by omega)
      have hly : by_ < W2.heap.size := Nat.lt_of_lt_of_le hby (Ly.out.1.trans (HB2.out.mono Ly.out.1.size)).size
      have HY := lh hy
      have HAY := lh hAy
      rw [hAy]
      clear hy hby
      gi_upto_region 14 with fail
      rw [← HAY.out]
      clear hAy c0 c1 c2 c3 hly
      have HGY := lh (Blk.new W2 67 #[.int .i64 y.kind, .int .i64 y.fr, .int .i64 y.to, .int .i64 y.drops])
      have hb := (Below.refl W2.heap.size W2).alloc (Nat.le_refl _) (.cells #[.int .i64 y.kind, .int .i64 y.fr, .int .i64 y.to, .int .i64 y.drops] 67)
      generalize (W2.alloc (.cells #[.int .i64 y.kind, .int .i64 y.fr, .int .i64 y.to, .int .i64 y.drops] 67)) = V3 at *
      obtain ⟨gy, hgy⟩ : ∃ g, W2.heap.size = g := ⟨_, rfl⟩
      rw [hgy] at HGY ⊢
      clear hgy
      have HB3 := lh (HB2.out.trans (hb.mono HB2.out.size))
      have HV13 := lh (HJ.out.2.2.trans (hb.mono HJ.out.2.2.size))
      have HGX3 := lh (HGX2.out.below hb HGX2.out.lt)
      clear hb HGX2
      gi_cut [94] from 95 (fun v94 wx => ∃ b : Bool, v94 = .bool b ∧ Hid ((b = false ↔ (x.kind = 1 ∧ x.fr = one) ∧ y.kind = 1 ∧ y.fr = other) ∧ V3 = wx))
      case first =>
       have x0 := HGX3.out.cell 0
       have x1 := HGX3.out.cell 1
       have xl := HGX3.out.lt
       have y0 := HGY.out.cell 0
       have y1 := HGY.out.cell 1
       have yl := HGY.out.lt
       by_cases h1 : x.kind = 1
       ·have h1b : (x.kind != 1) = false := by rw [h1]; rfl
        by_cases h2 : x.fr = one
        ·have h2b : (x.fr != one) = false := by rw [h2]; simp
         by_cases h3 : y.kind = 1
         ·have h3b : (y.kind != 1) = false := by rw [h3]; rfl
          by_cases h4 : y.fr = other
          ·have h4b : (y.fr != other) = false := by rw [h4]; simp
           have HH := lh (show (x.kind = 1 ∧ x.fr = one) ∧ y.kind = 1 ∧ y.fr = other from ⟨⟨h1, h2⟩, h3, h4⟩)
           clear h1 h2 h3 h4
           gi_wp2
           gi_meet
           exact ⟨_, rfl, lh ⟨⟨fun _ => HH.out, fun _ => rfl⟩, rfl⟩⟩
          ·have h4b : (y.fr != other) = true := by simpa using h4
           have HH := lh h4
           clear h1 h2 h3 h4
           gi_wp2
           gi_meet
           exact ⟨true, rfl, lh ⟨⟨(fun h => by cases h), (fun h => absurd h.2.2 HH.out)⟩, rfl⟩⟩
         ·have h3b : (y.kind != 1) = true := by simpa using h3
          have HH := lh h3
          clear h1 h2 h3
          gi_wp2
          gi_meet
          exact ⟨true, rfl, lh ⟨⟨(fun h => by cases h), (fun h => absurd h.2.1 HH.out)⟩, rfl⟩⟩
        ·have h2b : (x.fr != one) = true := by simpa using h2
         have HH := lh h2
         clear h1 h2
         gi_wp2
         gi_meet
         exact ⟨true, rfl, lh ⟨⟨(fun h => by cases h), (fun h => absurd h.1.2 HH.out)⟩, rfl⟩⟩
       ·have h1b : (x.kind != 1) = true := by simpa using h1
        have HH := lh h1
        clear h1
        gi_wp2
        gi_meet
        exact ⟨true, rfl, lh ⟨⟨(fun h => by cases h), (fun h => absurd h.1.1 HH.out)⟩, rfl⟩⟩
      case rest =>
       obtain ⟨b, rfl, hc⟩ := hcut
       have HBF := lh hc.out.1
       obtain rfl := hc.out.2
       clear hc
       cases b with
       | true =>
        gi_wp2
        refine ⟨⟨j + 1, lh ⟨hjk, not_met_no HJ.out.2.1 (fun hi hj => by have h9 := HBF.out.2 ⟨(fills_at HX.out).2 hi, (fills_at HY.out).2 hj⟩; first | cases h9 | exact h9), HV13.out⟩, by rw [show ((j + 1 : Nat) : Int) = (j : Int) + 1 from by omega]; first | constructor | (rw [HAY.out]; constructor)⟩, ?_⟩
        simp [intOf] <;> omega
       | false =>
        have HFX : Hid ((x.kind = 1 ∧ x.fr = one) ∧ y.kind = 1 ∧ y.fr = other) := lh (HBF.out.1 (by first | rfl | trivial))
        clear HBF
        gi_upto_region 16 with fail
        have HRN := lh (reads_new V3 129 (k := 2) (n := 1) [.int .i64 (-1), .int .i64 (-1)] rfl)
        have hb := (Below.refl V3.heap.size V3).alloc (Nat.le_refl _) (.cells #[.int .i64 (-1), .int .i64 (-1)] 129)
        have HB4 := lh (HB3.out.trans (hb.mono HB3.out.size))
        have HV14 := lh (HV13.out.trans (hb.mono HV13.out.size))
        have HGX4 := lh (HGX3.out.below hb HGX3.out.lt)
        have HGY4 := lh (HGY.out.below hb HGY.out.lt)
        change Hid (Reads (V3.alloc (.cells #[.int .i64 (-1), .int .i64 (-1)] 129)) (V3.alloc (.cells #[.int .i64 (-1), .int .i64 (-1)] 129)).heap.size 2 (some ⟨V3.heap.size, 0, none⟩) 1 ([((-1 : Int), (-1 : Int))].flatMap prC)) at HRN
        generalize (V3.alloc (.cells #[.int .i64 (-1), .int .i64 (-1)] 129)) = V4 at *
        obtain ⟨gn, hgn⟩ : ∃ g, V3.heap.size = g := ⟨_, rfl⟩
        rw [hgn] at HRN ⊢
        clear hgn hb HGX3 HGY
        gi_wp2
        refine wpIn_loop (fun ac W5 => ∃ (t : Nat) (nA : Option Addr) (nn nc : Nat), Hid (Er6 fun (rs : List (Int × Int)) => t ≤ k ∧ rs.length = nn ∧ nn ≤ 4 ^ t ∧ (∀ d, d ∈ rs ↔ NowR m L i j t d) ∧ Reads W5 W5.heap.size 2 nA nn (rs.flatMap prC) ∧ Below V4.heap.size V4 W5) ∧ FrMrT (.int .i64 (k : Int)) (.int .i64 one) (.int .i64 other) (.pointer (some ⟨w.heap.size, 0, none⟩)) (.slice Ap np cp) (.int .i64 (q : Int)) (.int .i64 (i : Int)) (.pointer (some ⟨gx, 0, none⟩)) (.int .i64 (j : Int)) (.pointer (some ⟨gy, 0, none⟩)) (.slice nA nn nc) (.int .i64 (t : Int)) (.slice Aa k ca) (.int .i64 (k : Int)) (.int .i64 (i : Int)) (.slice Aa k ca) (.int .i64 (k : Int)) (.int .i64 (j : Int)) ac) (fun ac _ => k - (intOf (ac.tmps.getD 21 undef)).toNat) ?_ ?_
        ·exact ⟨0, _, _, _, lh ⟨[((-1 : Int), (-1 : Int))], Nat.zero_le _, rfl, by decide, fun d => by rw [List.mem_singleton]; exact Iff.rfl, HRN.out, Below.refl _ _⟩, by constructor⟩
        clear HRN
        rintro ac W5 ⟨t, nA, nn, nc, HT, ha⟩
        cases ha
        obtain ⟨rs, hs9⟩ := HT.out
        replace HT := lh hs9
        clear hs9
        have HB5 := lh (HB4.out.trans (HT.out.2.2.2.2.2.mono HB4.out.size))
        have hnn : nn ≤ 16777216 := Nat.le_trans HT.out.2.2.1 (Nat.le_trans (Nat.pow_le_pow_right (by omega) (show t ≤ 12 by have := HT.out.1; omega)) (by decide))
        by_cases htk : t < k
        ·
         obtain ⟨bt, ot, xt, hAt, hbt, hxt, d0, d1, d2, d3⟩ := (HM.out.at_.below (Ly.out.1.trans (HB5.out.mono Ly.out.1.size))).act (i := t) (by omega)
         obtain ⟨bp, op_, all, hAp, hbp, hall, hcp⟩ := recs_cell heldC_k (by omega) ((HR2.out.below HB5.out).more HB5.out.size) (i := t) (by have h1 := recs_n heldC_k (by omega) HR2.out; have h2 := allM_len _ _ _ HL.out; omega)
         have HXT := lh hxt
         have HALL := lh hall
         have hao := act_ok HL.out HV.out.1 hxt hall
         have HAO := lh hao.1
         have HRG := lh (allM_range HL.out HV.out.1 (okMix_ves HOK.out.1) hall)
         have HAT := lh hAt
         have HAP := lh hAp
         have HCT : Hid (bt < W5.heap.size ∧ W5.cell? ⟨bt, ot + t * 4, none⟩ = some (.int .i64 xt.kind) ∧ W5.cell? ⟨bt, ot + t * 4 + 1, none⟩ = some (.int .i64 xt.fr) ∧ W5.cell? ⟨bt, ot + t * 4 + 2, none⟩ = some (.int .i64 xt.to) ∧ W5.cell? ⟨bt, ot + t * 4 + 3, none⟩ = some (.int .i64 xt.drops)) :=
          lh ⟨Nat.lt_of_lt_of_le hbt (Ly.out.1.trans (HB5.out.mono Ly.out.1.size)).size, d0, d1, d2, d3⟩
         have HCP : Hid (bp < W5.heap.size ∧ W5.cell? ⟨bp, op_ + t * 4, none⟩ = some (.int .i64 (heldAt all 0)) ∧ W5.cell? ⟨bp, op_ + t * 4 + 1, none⟩ = some (.int .i64 (heldAt all 1)) ∧ W5.cell? ⟨bp, op_ + t * 4 + 2, none⟩ = some (.int .i64 (heldAt all 2)) ∧ W5.cell? ⟨bp, op_ + t * 4 + 3, none⟩ = some (.int .i64 (heldAt all 3))) :=
          lh ⟨hbp, hcp 0 _ rfl, hcp 1 _ rfl, hcp 2 _ rfl, hcp 3 _ rfl⟩
         have HTOX : Hid (t = i → toI m xt = idxV m.vessels x.to) := lh (fun e => by
          subst e
          have h1 := HX.out
          rw [hxt] at h1
          cases h1
          unfold toI
          rw [if_pos (.inl HFX.out.1.1)])
         have HTOY : Hid (t = j → toI m xt = idxV m.vessels y.to) := lh (fun e => by
          subst e
          have h1 := HY.out
          rw [hxt] at h1
          cases h1
          unfold toI
          rw [if_pos (.inl HFX.out.2.1)])
         have hnp : t < np := by have h1 := recs_n heldC_k (by omega) HR2.out; have h2 := allM_len _ _ _ HL.out; omega
         clear hxt hall hao hbt hbp hcp d0 d1 d2 d3 hAt hAp
         gi_wp2
         refine wpIn_loop (fun ac W6 => ∃ (f : Nat) (xA : Option Addr) (xn xc : Nat), Hid (Er6 fun (ns : List (Int × Int)) => f ≤ nn ∧ ns.length = xn ∧ xn ≤ 4 * f ∧ (∀ d, d ∈ ns ↔ NextR m all xt t i j (rs.take f) d) ∧ Own W6 W5.heap.size 129 2 xA xn xc (ns.flatMap prC) ∧ Below W5.heap.size W5 W6) ∧ FrMrP (.int .i64 (k : Int)) (.int .i64 one) (.int .i64 other) (.pointer (some ⟨w.heap.size, 0, none⟩)) (.slice Ap np cp) (.int .i64 (q : Int)) (.int .i64 (i : Int)) (.pointer (some ⟨gx, 0, none⟩)) (.int .i64 (j : Int)) (.pointer (some ⟨gy, 0, none⟩)) (.slice nA nn nc) (.int .i64 (t : Int)) (.slice xA xn xc) (.slice Aa k ca) (.int .i64 (k : Int)) (.int .i64 (i : Int)) (.slice Aa k ca) (.int .i64 (k : Int)) (.int .i64 (j : Int)) (.slice nA nn nc) (.int .i64 (nn : Int)) (.int .i64 (f : Int)) ac) (fun ac _ => nn - (intOf (ac.tmps.getD 104 undef)).toNat) ?_ ?_
         ·exact ⟨0, none, 0, 0, lh ⟨[], Nat.zero_le _, rfl, Nat.le_refl _, fun d => ⟨(fun h => by cases h), (fun h => absurd h next_nil)⟩, Own.none_ _ _ _ _, Below.refl _ _⟩, by constructor⟩
         rintro ac W6 ⟨f, xA, xn, xc, HP, ha⟩
         cases ha
         obtain ⟨ns, hs9⟩ := HP.out
         replace HP := lh hs9
         clear hs9
         have HB6 := lh (HB5.out.trans (HP.out.2.2.2.2.2.mono HB5.out.size))
         by_cases hfn : f < nn
         ·
          obtain ⟨b6, o6, pr, hA6, hb6, hp6, hc6⟩ := recs_cell prC_k (by omega) (HT.out.2.2.2.2.1.below HP.out.2.2.2.2.2) hfn
          obtain ⟨pa, pb⟩ := pr
          have c0 : W6.cell? ⟨b6, o6 + f * 2, none⟩ = some (.int .i64 pa) := hc6 0 _ rfl
          have c1 : W6.cell? ⟨b6, o6 + f * 2 + 1, none⟩ = some (.int .i64 pb) := hc6 1 _ rfl
          have hl6 : b6 < W6.heap.size := Nat.lt_of_lt_of_le hb6 HP.out.2.2.2.2.2.size
          have HA6 := lh hA6
          have HTK : Hid (rs.take (f + 1) = rs.take f ++ [(pa, pb)]) := lh (by rw [List.take_add_one, hp6]; rfl)
          rw [hA6]
          clear hp6 hc6 hb6
          gi_upto_region 23 with fail
          rw [← HA6.out]
          clear c0 c1 hl6 hA6
          have HGP := lh (Blk.new W6 129 #[.int .i64 pa, .int .i64 pb])
          have HBV7 := lh (show Below W5.heap.size W5 (W6.alloc (.cells #[.int .i64 pa, .int .i64 pb] 129)) from HP.out.2.2.2.2.2.alloc HP.out.2.2.2.2.2.size _)
          have HON := lh (HP.out.2.2.2.2.1.alloc (.cells #[.int .i64 pa, .int .i64 pb] 129))
          generalize (W6.alloc (.cells #[.int .i64 pa, .int .i64 pb] 129)) = V7 at *
          obtain ⟨gp, hgp⟩ : ∃ g, W6.heap.size = g := ⟨_, rfl⟩
          rw [hgp] at HGP ⊢
          clear hgp
          have HBW7 := lh (HB5.out.trans (HBV7.out.mono HB5.out.size))
          have HMB := lh ((Ly.out.blk 0 rfl).below HBW7.out (Ly.out.lt 0 rfl))
          rw [HAP.out]
          refine wpIn_flow_old [([true, true, true, true, true, true, true, true, true, true, true, true, true, true, false, false, true], 14)] [false, false, false, false, false, false, false, false, false, false, false, false, false, false, false, true] [] (by kernel_rfl) (by kernel_rfl) (by kernel_rfl) (below_drewN (Below.refl _ _) 1) ?_
          refine wpFlow_cons (A := ?AM1) rfl ?hm1 ?_
          case hm1 =>
           rintro σ hσ of hof hcl
           have HOF := lh hof
           clear hof hcl
           have hnp_ := hnp
           have hxa : t < na := by omega
           have y0 : ∀ z, (of z).cell? ⟨w.heap.size, 0, none⟩ = some (.int .i64 m.fountains) := fun z => (HMB.out.below (HOF.out z) HMB.out.lt).cell 0
           have y1 : ∀ z, (of z).cell? ⟨w.heap.size, 1, none⟩ = some (.slice Av nv cv) := fun z => (HMB.out.below (HOF.out z) HMB.out.lt).cell 1
           have y2 : ∀ z, (of z).cell? ⟨w.heap.size, 2, none⟩ = some (.slice Aa na ca) := fun z => (HMB.out.below (HOF.out z) HMB.out.lt).cell 2
           have y3 : ∀ z, (of z).cell? ⟨w.heap.size, 3, none⟩ = some (.slice At nt ct) := fun z => (HMB.out.below (HOF.out z) HMB.out.lt).cell 3
           have g0 : ∀ z, (of z).cell? ⟨gp, 0, none⟩ = some (.int .i64 pa) := fun z => (HGP.out.below (HOF.out z) HGP.out.lt).cell 0
           have g1 : ∀ z, (of z).cell? ⟨gp, 1, none⟩ = some (.int .i64 pb) := fun z => (HGP.out.below (HOF.out z) HGP.out.lt).cell 1
           simp only [HAT.out] at y2
           have d0 : ∀ z, (of z).cell? ⟨bt, ot + t * 4, none⟩ = some (.int .i64 xt.kind) := fun z => ((HBV7.out.trans ((HOF.out z).mono HBV7.out.size)).cell (p := ⟨bt, ot + t * 4, none⟩) HCT.out.1).trans HCT.out.2.1
           have d1 : ∀ z, (of z).cell? ⟨bt, ot + t * 4 + 1, none⟩ = some (.int .i64 xt.fr) := fun z => ((HBV7.out.trans ((HOF.out z).mono HBV7.out.size)).cell (p := ⟨bt, ot + t * 4 + 1, none⟩) HCT.out.1).trans HCT.out.2.2.1
           have d2 : ∀ z, (of z).cell? ⟨bt, ot + t * 4 + 2, none⟩ = some (.int .i64 xt.to) := fun z => ((HBV7.out.trans ((HOF.out z).mono HBV7.out.size)).cell (p := ⟨bt, ot + t * 4 + 2, none⟩) HCT.out.1).trans HCT.out.2.2.2.1
           have d3 : ∀ z, (of z).cell? ⟨bt, ot + t * 4 + 3, none⟩ = some (.int .i64 xt.drops) := fun z => ((HBV7.out.trans ((HOF.out z).mono HBV7.out.size)).cell (p := ⟨bt, ot + t * 4 + 3, none⟩) HCT.out.1).trans HCT.out.2.2.2.2
           have e0 : ∀ z, (of z).cell? ⟨bp, op_ + t * 4, none⟩ = some (.int .i64 (heldAt all 0)) := fun z => ((HBV7.out.trans ((HOF.out z).mono HBV7.out.size)).cell (p := ⟨bp, op_ + t * 4, none⟩) HCP.out.1).trans HCP.out.2.1
           have e1 : ∀ z, (of z).cell? ⟨bp, op_ + t * 4 + 1, none⟩ = some (.int .i64 (heldAt all 1)) := fun z => ((HBV7.out.trans ((HOF.out z).mono HBV7.out.size)).cell (p := ⟨bp, op_ + t * 4 + 1, none⟩) HCP.out.1).trans HCP.out.2.2.1
           have e2 : ∀ z, (of z).cell? ⟨bp, op_ + t * 4 + 2, none⟩ = some (.int .i64 (heldAt all 2)) := fun z => ((HBV7.out.trans ((HOF.out z).mono HBV7.out.size)).cell (p := ⟨bp, op_ + t * 4 + 2, none⟩) HCP.out.1).trans HCP.out.2.2.2.1
           have e3 : ∀ z, (of z).cell? ⟨bp, op_ + t * 4 + 3, none⟩ = some (.int .i64 (heldAt all 3)) := fun z => ((HBV7.out.trans ((HOF.out z).mono HBV7.out.size)).cell (p := ⟨bp, op_ + t * 4 + 3, none⟩) HCP.out.1).trans HCP.out.2.2.2.2
           have hfw := hfT
           simp only [pickB]
           repeat (gi_big_quiet_step (fail))
           refine wpQuietIn_nil ?_
           exact rfl
          rw [← HAP.out]
          rw [← HAT.out]
          intro W8 hW
          have HB8 := lh (HBW7.out.trans (hW.mono HBW7.out.size))
          have HBV8 := lh (HBV7.out.trans (hW.mono HBV7.out.size))
          have HON8 := lh (HON.out.below hW (Nat.le_refl _))
          clear hW
          gi_wp2
          refine ⟨trivial, (callsIn_wide.2 (callsIn_wide.1 (rgoes_in Av nv cv Aa na ca At nt ct m xt all pa pb W8 (HM.out.up (Ly.out.1.trans (HB8.out.mono Ly.out.1.size))) HAO.out HV.out.1 HRG.out.2))).mono ?_⟩
          rintro e W9 ⟨gA, gn', gc, gs, rfl, hgl, hg4, hgm, hgo, hb⟩
          have HB9 := lh (HB8.out.trans (hb.mono HB8.out.size))
          have HBV9 := lh (HBV8.out.trans (hb.mono HBV8.out.size))
          have HON9 := lh (HON8.out.below hb (Nat.le_refl _))
          have HGL := lh hgl
          have HG4 := lh hg4
          have HGM := lh hgm
          have HGO := lh hgo
          clear hgl hg4 hgm hgo
          gi_wp2
          refine ⟨trivial, hb, ?_⟩
          clear hb
          refine wpFlow_nil (A := ?AM2)  ?hm2 ?_
          case hm2 =>
           rintro σ hσ of hof hcl
           have HOF := lh hof
           clear hof hcl
           have hnp_ := hnp
           have hfw := hfT
           simp only [pickB]
           repeat (gi_big_quiet_step (fail))
           refine wpQuietIn_nil ?_
           exact rfl
          intro W10 hW
          simp only [pickB]
          refine wpT_nil ?_
          replace HB9 := lh (HB9.out.trans (hW.mono HB9.out.size))
          replace HBV9 := lh (HBV9.out.trans (hW.mono HBV9.out.size))
          replace HON9 := lh (HON9.out.below hW (Nat.le_refl _))
          have hrx : ∀ r, xA.map (·.block) = some r → r < W8.heap.size ∨ W10.heap.size ≤ r := fun r hr => .inl (own_row HON8.out r hr).2
          have HRX := lh hrx
          replace HGO := lh (HGO.out.below hW (Nat.le_refl _))
          have HGW := lh (fun r hr => own_row HGO.out r hr)
          clear hW hrx HON HON8 HB8 HBV8 HBV7 HBW7 HMB HGP
          gi_wp2
          refine wpIn_loop (fun ac W11 => ∃ (l : Nat) (xA : Option Addr) (xn xc : Nat), Hid (Er6 fun (ns : List (Int × Int)) => l ≤ gn' ∧ ns.length = xn ∧ xn ≤ 4 * f + l ∧ (∀ d, d ∈ ns ↔ (NextR m all xt t i j (rs.take f) d ∨ ∃ u ∈ gs.take l, d = updR m xt t i j u)) ∧ Own W11 W5.heap.size 129 2 xA xn xc (ns.flatMap prC) ∧ Below W5.heap.size W5 W11 ∧ Own W11 W8.heap.size 129 2 gA gn' gc (gs.flatMap prC) ∧ (∀ r, xA.map (·.block) = some r → r < W8.heap.size ∨ W10.heap.size ≤ r) ∧ W10.heap.size ≤ W11.heap.size) ∧ FrMrQ (.int .i64 (k : Int)) (.int .i64 one) (.int .i64 other) (.pointer (some ⟨w.heap.size, 0, none⟩)) (.slice Ap np cp) (.int .i64 (q : Int)) (.int .i64 (i : Int)) (.pointer (some ⟨gx, 0, none⟩)) (.int .i64 (j : Int)) (.pointer (some ⟨gy, 0, none⟩)) (.slice nA nn nc) (.int .i64 (t : Int)) (.slice xA xn xc) (.slice Aa k ca) (.int .i64 (k : Int)) (.int .i64 (i : Int)) (.slice Aa k ca) (.int .i64 (k : Int)) (.int .i64 (j : Int)) (.slice nA nn nc) (.int .i64 (nn : Int)) (.int .i64 (f : Int)) (.slice gA gn' gc) (.int .i64 (gn' : Int)) (.int .i64 (l : Int)) ac) (fun ac _ => gn' - (intOf (ac.tmps.getD 124 undef)).toNat) ?_ ?_
          ·exact ⟨0, _, _, _, lh ⟨ns, Nat.zero_le _, HP.out.2.1, by have := HP.out.2.2.1; omega, fun d => by rw [HP.out.2.2.2.1 d]; simp, HON9.out, HBV9.out, HGO.out, HRX.out, Nat.le_refl _⟩, by constructor⟩
          clear HON9 HGO HRX
          rintro ac W11 ⟨l, xA, xn, xc, HQL, ha⟩
          cases ha
          clear HP ns
          obtain ⟨ns, hs9⟩ := HQL.out
          replace HQL := lh hs9
          clear hs9
          have HBV11 := lh HQL.out.2.2.2.2.2.1
          have HB11 := lh (HB5.out.trans (HBV11.out.mono HB5.out.size))
          by_cases hlg : l < gn'
          ·
           obtain ⟨b6, o6, pr, hA7, hb6, hp6, hc6⟩ := recs_cell prC_k (by omega) (HQL.out.2.2.2.2.2.2.1.reads (Nat.le_refl _)) hlg
           obtain ⟨qa, qb⟩ := pr
           have c0 : W11.cell? ⟨b6, o6 + l * 2, none⟩ = some (.int .i64 qa) := hc6 0 _ rfl
           have c1 : W11.cell? ⟨b6, o6 + l * 2 + 1, none⟩ = some (.int .i64 qb) := hc6 1 _ rfl
           have hl6 : b6 < W11.heap.size := hb6
           have HA7 := lh hA7
           have HTG : Hid (gs.take (l + 1) = gs.take l ++ [(qa, qb)]) := lh (by rw [List.take_add_one, hp6]; rfl)
           rw [hA7]
           clear hp6 hc6 hb6
           gi_upto_region 26 with fail
           rw [← HA7.out]
           clear c0 c1 hl6 hA7
           have HGQ := lh (Blk.new W11 129 #[.int .i64 qa, .int .i64 qb])
           have HBW := lh (show Below W11.heap.size W11 (W11.alloc (.cells #[.int .i64 qa, .int .i64 qb] 129)) from (Below.refl _ _).alloc (Nat.le_refl _) _)
           generalize (W11.alloc (.cells #[.int .i64 qa, .int .i64 qb] 129)) = V12 at *
           obtain ⟨gq, hgq⟩ : ∃ g, W11.heap.size = g := ⟨_, rfl⟩
           have HGQS := lh hgq
           rw [hgq] at HGQ ⊢
           clear hgq
           have HON11 := lh HQL.out.2.2.2.2.1
           gi_upto_if 130 with fail
           gi_cut [] from 128 (fun wx => Hid (Below W11.heap.size W11 wx ∧ Blk wx gq 129 #[.int .i64 (if t = i then toI m xt else qa), .int .i64 qb]))
           case first =>
            by_cases hti : t = i
            ·
             have htb : ((t : Int) == (i : Int)) = true := by rw [hti]; simp
             have HTI := lh hti
             clear hti
             have HBZ := lh (HB11.out.trans (HBW.out.mono HB11.out.size))
             have hz := (Ly.out.blk 0 rfl).below HBZ.out (Ly.out.lt 0 rfl)
             have y0 := hz.cell 0
             have y1 := hz.cell 1
             have y2 := hz.cell 2
             have y3 := hz.cell 3
             have yl := hz.lt
             have hx3 := HGX4.out.below ((HT.out.2.2.2.2.2.trans (HBV11.out.mono HT.out.2.2.2.2.2.size)).trans (HBW.out.mono (Nat.le_trans HT.out.2.2.2.2.2.size HBV11.out.size))) HGX4.out.lt
             have z2 := hx3.cell 2
             have z2l := hx3.lt
             clear hz hx3
             gi_wp2
             clear y0 y1 y2 y3 yl z2 z2l
             refine ⟨trivial, (callsIn_wide.2 (rindex_any Av nv cv Aa na ca At nt ct m x.to V12 (HM.out.up (Ly.out.1.trans (HBZ.out.mono Ly.out.1.size))))).mono ?_⟩
             rintro e W13 ⟨rfl, hb⟩
             have hgq3 := HGQ.out.below hb HGQ.out.lt
             have HBW3 := lh (HBW.out.trans (hb.mono HBW.out.size))
             have HGQ3 := lh hgq3
             clear hb
             have c0 := hgq3.cell 0
             have c1 := hgq3.cell 1
             have f0 := hgq3.frozen 0
             have cl := hgq3.lt
             clear hgq3
             gi_wp2
             gi_meet
             refine lh ⟨HBW3.out.setCell (p := ⟨gq, 0, none⟩) (by rw [HGQS.out]; exact Nat.le_refl _) _, ?_⟩
             have h9 := HGQ3.out.set_ 0 (.int .i64 (idxV m.vessels x.to))
             rw [if_pos HTI.out]
             rw [← HTOX.out HTI.out] at h9 ⊢
             exact h9
            ·
             have htb : ((t : Int) == (i : Int)) = false := by rw [beq_eq_false_iff_ne]; omega
             have HTI := lh hti
             clear hti
             gi_wp2
             gi_meet
             exact lh ⟨HBW.out, by rw [if_neg HTI.out]; exact HGQ.out⟩
           case rest =>
            rename World => V13
            have HBW := lh hcut.out.1
            have HGQ := lh hcut.out.2
            clear hcut
            gi_upto_if 138 with fail
            gi_cut [] from 128 (fun wx => Hid (Below W11.heap.size W11 wx ∧ Blk wx gq 129 #[.int .i64 (if t = i then toI m xt else qa), .int .i64 (if t = j then toI m xt else qb)]))
            case first =>
             by_cases hti : t = j
             ·
              have htb : ((t : Int) == (j : Int)) = true := by rw [hti]; simp
              have HTI := lh hti
              clear hti
              have HBZ := lh (HB11.out.trans (HBW.out.mono HB11.out.size))
              have hz := (Ly.out.blk 0 rfl).below HBZ.out (Ly.out.lt 0 rfl)
              have y0 := hz.cell 0
              have y1 := hz.cell 1
              have y2 := hz.cell 2
              have y3 := hz.cell 3
              have yl := hz.lt
              have hx3 := HGY4.out.below ((HT.out.2.2.2.2.2.trans (HBV11.out.mono HT.out.2.2.2.2.2.size)).trans (HBW.out.mono (Nat.le_trans HT.out.2.2.2.2.2.size HBV11.out.size))) HGY4.out.lt
              have z2 := hx3.cell 2
              have z2l := hx3.lt
              clear hz hx3
              gi_wp2
              clear y0 y1 y2 y3 yl z2 z2l
              refine ⟨trivial, (callsIn_wide.2 (rindex_any Av nv cv Aa na ca At nt ct m y.to V13 (HM.out.up (Ly.out.1.trans (HBZ.out.mono Ly.out.1.size))))).mono ?_⟩
              rintro e W13 ⟨rfl, hb⟩
              have hgq3 := HGQ.out.below hb HGQ.out.lt
              have HBW3 := lh (HBW.out.trans (hb.mono HBW.out.size))
              have HGQ3 := lh hgq3
              clear hb
              have c0 := hgq3.cell 0
              have c1 := hgq3.cell 1
              have f0 := hgq3.frozen 1
              have cl := hgq3.lt
              clear hgq3
              gi_wp2
              gi_meet
              refine lh ⟨HBW3.out.setCell (p := ⟨gq, 1, none⟩) (by rw [HGQS.out]; exact Nat.le_refl _) _, ?_⟩
              have h9 := HGQ3.out.set_ 1 (.int .i64 (idxV m.vessels y.to))
              rw [if_pos HTI.out]
              rw [← HTOY.out HTI.out] at h9 ⊢
              exact h9
             ·
              have htb : ((t : Int) == (j : Int)) = false := by rw [beq_eq_false_iff_ne]; omega
              have HTI := lh hti
              clear hti
              gi_wp2
              gi_meet
              exact lh ⟨HBW.out, by rw [if_neg HTI.out]; exact HGQ.out⟩
            case rest =>
             rename World => V14
             have HBW := lh hcut.out.1
             have HGQ := lh hcut.out.2
             clear hcut
             have HON14 := lh (HON11.out.below HBW.out (Nat.le_refl _))
             obtain ⟨u0, hu0⟩ : ∃ u, (if t = i then toI m xt else qa) = u := ⟨_, rfl⟩
             obtain ⟨u1, hu1⟩ : ∃ u, (if t = j then toI m xt else qb) = u := ⟨_, rfl⟩
             have HUR : Hid (updR m xt t i j (qa, qb) = (u0, u1)) := lh (by unfold updR; rw [← hu0, ← hu1])
             rw [hu0, hu1] at HGQ
             clear hu0 hu1
             have c0 := HGQ.out.cell 0
             have c1 := HGQ.out.cell 1
             have cl := HGQ.out.lt
             obtain rfl := HQL.out.2.1
             have hxl := HQL.out.2.2.1
             have hg4 := HG4.out
             have hsz : W5.heap.size ≤ V14.heap.size := Nat.le_trans HBV11.out.size HBW.out.size
             gi_wp2_with (first | (gi_at_builtin; refine wpListIn_append_any rfl (.tmp 144) (.tmp 146) (by rfl) elem_pr rfl (HON14.out.alloc _) rfl (reads_new V14 129 (k := 2) (n := 1) [.int .i64 u0, .int .i64 u1] rfl) (pr_one _ _) (by unfold maxLen; omega) (by omega) (by simp; omega) ?_) | fail)
             rintro A9 c9 V15 hown hg hA
             have hb9 : Below W11.heap.size W11 (V14.alloc (.cells #[.int .i64 u0, .int .i64 u1] 129)) := HBW.out.alloc HBW.out.size _
             have HO9 := lh hown
             have HG9 := lh hg
             have HA9 := lh hA
             clear hown hg hA c0 c1 cl
             gi_wp2
             have HO15 := lh (show Own V15 W5.heap.size 129 2 A9 (ns.length + 1) c9 ((ns ++ [(u0, u1)]).flatMap prC) from by rw [List.flatMap_append]; exact HO9.out)
             have HB15 := lh (show Below W5.heap.size W5 V15 from (HBV11.out.trans (hb9.mono HBV11.out.size)).grown HG9.out (Nat.le_trans HBV11.out.size hb9.size) (fun r e => (own_row HON14.out r e).1))
             have HG15 := lh ((HQL.out.2.2.2.2.2.2.1.below hb9 (Nat.le_refl _)).grown HG9.out (fun a ha e => by
              have h1 := HGW.out a.block (by rw [ha]; rfl)
              rcases HQL.out.2.2.2.2.2.2.2.1 a.block (by first | exact e.symm | exact e) with h2 | h2 <;> omega))
             have HR15 : Hid (∀ r, A9.map (·.block) = some r → r < W8.heap.size ∨ W10.heap.size ≤ r) := lh (fun r hr => by
              rcases HA9.out with e | e
              ·rw [e] at hr
               exact HQL.out.2.2.2.2.2.2.2.1 r hr
              ·rw [e] at hr
               have h1 := HQL.out.2.2.2.2.2.2.2.2
               have h2 := HBW.out.size
               have h3 : V14.heap.size + 1 = r := Option.some.inj hr
               omega)
             have HS15 : Hid (W10.heap.size ≤ V15.heap.size) := lh (Nat.le_trans HQL.out.2.2.2.2.2.2.2.2 (Nat.le_trans hb9.size HG9.out.size))
             refine ⟨⟨l + 1, A9, ns.length + 1, c9, lh ⟨ns ++ [(u0, u1)], hlg, by simp, by omega, fun d => ?_, HO15.out, HB15.out, by first | exact HG15.out | (rw [← HA7.out]; exact HG15.out), HR15.out, HS15.out⟩, by rw [show ((l + 1 : Nat) : Int) = (l : Int) + 1 from by omega]; first | constructor | (rw [HA7.out]; constructor)⟩, ?_⟩
             ·rw [HTG.out, List.mem_append, List.mem_singleton, HQL.out.2.2.2.1 d, ← HUR.out]
              exact upd_more
             ·simp [intOf] <;> omega
          ·
           obtain rfl : gn' = l := by have := HQL.out.1; omega
           have hxl := HQL.out.2.2.1
           have hg4 := HG4.out
           have hgl := HGL.out
           gi_wp2
           refine ⟨⟨f + 1, xA, xn, xc, lh ⟨ns, hfn, HQL.out.2.1, by omega, fun d => ?_, HQL.out.2.2.2.2.1, HBV11.out⟩, by rw [show ((f + 1 : Nat) : Int) = (f : Int) + 1 from by omega]; first | constructor | (rw [HA6.out]; constructor)⟩, ?_⟩
           ·rw [HTK.out, HQL.out.2.2.2.1 d, List.take_of_length_le (l := gs) (i := gn') (by omega)]
            exact next_snoc HGM.out
           ·simp [intOf] <;> omega
         ·
          obtain rfl : nn = f := by have := HP.out.1; omega
          have hrl := HT.out.2.1
          have HNX : Hid (∀ d, d ∈ ns ↔ NowR m L i j (t + 1) d) := lh (fun d => by
           rw [HP.out.2.2.2.1 d, List.take_of_length_le (by omega)]
           exact now_next HXT.out HALL.out HT.out.2.2.2.1)
          have hx4 := HP.out.2.2.1
          have HRD := lh (HP.out.2.2.2.2.1.reads (Nat.le_refl _))
          gi_wp2
          refine ⟨trivial, (callsIn_wide.2 (callsIn_wide.1 (rdistinct_in xA xn xc ns W6 HRD.out (by omega)))).mono ?_⟩
          rintro e W9 ⟨dA, dn, dc, ds, rfl, hdl, hdn, hdm, hdo, hb⟩
          have HDM := lh hdm
          have HDO := lh (hdo.reads (Nat.le_refl _))
          have HBD := lh (HT.out.2.2.2.2.2.trans ((HP.out.2.2.2.2.2.trans (hb.mono HP.out.2.2.2.2.2.size)).mono HT.out.2.2.2.2.2.size))
          have HDL := lh hdl
          have h4t := HT.out.2.2.1
          clear hdl hdm hdo hb
          gi_wp2
          refine ⟨⟨t + 1, dA, dn, dc, lh ⟨ds, htk, HDL.out, by rw [Nat.pow_succ]; omega, fun d => by rw [HDM.out d]; exact HNX.out d, HDO.out, HBD.out⟩, by rw [show ((t + 1 : Nat) : Int) = (t : Int) + 1 from by omega]; first | constructor | (rw [HAT.out]; constructor)⟩, ?_⟩
          simp [intOf] <;> omega
        ·
         obtain rfl : k = t := by have := HT.out.1; omega
         gi_wp2
         refine wpIn_loop (fun ac W6 => ∃ (f : Nat), Hid (f ≤ nn ∧ ((q : Int), (q : Int)) ∉ rs.take f ∧ Below W5.heap.size W5 W6) ∧ FrMrF (.int .i64 (k : Int)) (.int .i64 one) (.int .i64 other) (.pointer (some ⟨w.heap.size, 0, none⟩)) (.slice Ap np cp) (.int .i64 (q : Int)) (.int .i64 (i : Int)) (.pointer (some ⟨gx, 0, none⟩)) (.int .i64 (j : Int)) (.pointer (some ⟨gy, 0, none⟩)) (.slice Aa k ca) (.int .i64 (k : Int)) (.int .i64 (i : Int)) (.slice Aa k ca) (.int .i64 (k : Int)) (.int .i64 (j : Int)) (.slice nA nn nc) (.int .i64 (nn : Int)) (.int .i64 (f : Int)) ac) (fun ac _ => nn - (intOf (ac.tmps.getD 154 undef)).toNat) ?_ ?_
         ·exact ⟨0, lh ⟨Nat.zero_le _, by simp, Below.refl _ _⟩, by constructor⟩
         rintro ac W6 ⟨f, HP, ha⟩
         cases ha
         have HB6 := lh (HB5.out.trans (HP.out.2.2.mono HB5.out.size))
         by_cases hfn : f < nn
         ·
          obtain ⟨b6, o6, pr, hA6, hb6, hp6, hc6⟩ := recs_cell prC_k (by omega) (HT.out.2.2.2.2.1.below HP.out.2.2) hfn
          obtain ⟨pa, pb⟩ := pr
          have c0 : W6.cell? ⟨b6, o6 + f * 2, none⟩ = some (.int .i64 pa) := hc6 0 _ rfl
          have c1 : W6.cell? ⟨b6, o6 + f * 2 + 1, none⟩ = some (.int .i64 pb) := hc6 1 _ rfl
          have hl6 : b6 < W6.heap.size := Nat.lt_of_lt_of_le hb6 HP.out.2.2.size
          have HA6 := lh hA6
          have HTK : Hid (rs.take (f + 1) = rs.take f ++ [(pa, pb)]) := lh (by rw [List.take_add_one, hp6]; rfl)
          have HPM := lh (List.mem_of_getElem? hp6)
          rw [hA6]
          clear hp6 hc6 hb6
          gi_upto_region 37 with fail
          rw [← HA6.out]
          clear c0 c1 hl6 hA6
          have HGP := lh (Blk.new W6 129 #[.int .i64 pa, .int .i64 pb])
          have HBV7 := lh (show Below W5.heap.size W5 (W6.alloc (.cells #[.int .i64 pa, .int .i64 pb] 129)) from HP.out.2.2.alloc HP.out.2.2.size _)
          generalize (W6.alloc (.cells #[.int .i64 pa, .int .i64 pb] 129)) = V7 at *
          obtain ⟨gp, hgp⟩ : ∃ g, W6.heap.size = g := ⟨_, rfl⟩
          rw [hgp] at HGP ⊢
          clear hgp
          have c0 := HGP.out.cell 0
          have c1 := HGP.out.cell 1
          have cl := HGP.out.lt
          by_cases ha : pa = (q : Int)
          ·
           have hab : (pa == (q : Int)) = true := by simpa using ha
           by_cases hb : pb = (q : Int)
           ·
            have hbb : (pb == (q : Int)) = true := by simpa using hb
            have HE := lh (show (pa, pb) = ((q : Int), (q : Int)) from by rw [ha, hb])
            clear ha hb
            gi_wp2
            refine bodyPost_ret (v := .tuple #[.bool true, .int .i64 0]) (by simp [results, Try.results25, go_sem]) rfl ?_
            refine ⟨true, 0, rfl, .inr ⟨HME.out, rfl, L, HL.out, ⟨fun _ => ?_, fun _ => rfl⟩⟩, Ly.out.1.trans ((HB5.out.trans (HBV7.out.mono HB5.out.size)).mono Ly.out.1.size)⟩
            rw [HIQ.out, Int.toNat_natCast]
            refine (met_same HL.out HV.out.1 (Int.natCast_nonneg _)).2 ⟨i, j, hik, hjk, (fills_at HX.out).1 HFX.out.1, (fills_at HY.out).1 HFX.out.2, ?_⟩
            have h9 := HPM.out
            rw [HE.out] at h9
            exact (HT.out.2.2.2.1 _).1 h9
           ·
            have hbb : (pb == (q : Int)) = false := by simpa using hb
            have HE := lh hb
            clear ha hb
            gi_wp2
            refine ⟨⟨f + 1, lh ⟨hfn, by rw [HTK.out]; simp only [List.mem_append, List.mem_singleton, not_or]; exact ⟨HP.out.2.1, fun e => HE.out (congrArg Prod.snd e).symm⟩, HBV7.out⟩, by rw [show ((f + 1 : Nat) : Int) = (f : Int) + 1 from by omega]; first | constructor | (rw [HA6.out]; constructor)⟩, ?_⟩
            simp [intOf] <;> omega
          ·
           have hab : (pa == (q : Int)) = false := by simpa using ha
           have HE := lh ha
           clear ha
           gi_wp2
           refine ⟨⟨f + 1, lh ⟨hfn, by rw [HTK.out]; simp only [List.mem_append, List.mem_singleton, not_or]; exact ⟨HP.out.2.1, fun e => HE.out (congrArg Prod.fst e).symm⟩, HBV7.out⟩, by rw [show ((f + 1 : Nat) : Int) = (f : Int) + 1 from by omega]; first | constructor | (rw [HA6.out]; constructor)⟩, ?_⟩
           simp [intOf] <;> omega
         ·
          obtain rfl : nn = f := by have := HP.out.1; omega
          have hrl := HT.out.2.1
          have HNO : Hid (¬ NowR m L i j k ((q : Int), (q : Int))) := lh (fun h => HP.out.2.1 (by rw [List.take_of_length_le (by omega)]; exact (HT.out.2.2.2.1 _).2 h))
          have HBN := lh (HV14.out.trans ((HT.out.2.2.2.2.2.trans (HP.out.2.2.mono HT.out.2.2.2.2.2.size)).mono HV14.out.size))
          gi_wp2
          refine ⟨⟨j + 1, lh ⟨hjk, not_met_now HJ.out.2.1 HNO.out, HBN.out⟩, by rw [show ((j + 1 : Nat) : Int) = (j : Int) + 1 from by omega]; first | constructor | (rw [HAY.out]; constructor)⟩, ?_⟩
          simp [intOf] <;> omega
     ·
      obtain rfl : k = j := by have := HJ.out.1; omega
      have HBN := lh (HBA.out.trans ((show Below W.heap.size W W2 from HW1.out.trans (HJ.out.2.2.mono HW1.out.size)).mono HBA.out.size))
      gi_wp2
      refine ⟨⟨i + 1, lh ⟨hik, not_met_row HJ.out.2.1, HBN.out⟩, by rw [show ((i + 1 : Nat) : Int) = (i : Int) + 1 from by omega]; first | constructor | (rw [HAX.out]; constructor)⟩, ?_⟩
      simp [intOf] <;> omega
    ·
     obtain rfl : k = i := by have := HS.out.1; omega
     gi_wp2
     refine bodyPost_ret (v := .tuple #[.bool false, .int .i64 0]) (by simp [results, Try.results25, go_sem]) rfl ?_
     refine ⟨false, 0, rfl, .inr ⟨HME.out, rfl, L, HL.out, ⟨(fun h => by cases h), fun h => ?_⟩⟩, Ly.out.1.trans (HBA.out.mono Ly.out.1.size)⟩
     rw [HIQ.out, Int.toNat_natCast] at h
     obtain ⟨i', j', h1, h2, h3, h4, h5⟩ := (met_same HL.out HV.out.1 (Int.natCast_nonneg _)).1 h
     exact absurd ⟨h3, h4, h5⟩ (HS.out.2.1 i' j' (.inl ⟨h1, h2⟩))
  ·
   have hi : wiB other 1 m.fountains = false := decide_eq_false hq
   rw [hi]
   have HQ := lh hq
   clear hq hi
   gi_wp2
   refine bodyPost_ret (v := .tuple #[.bool false, .int .i64 2]) (by simp [results, Try.results25, go_sem]) rfl ?_
   exact ⟨false, 2, rfl, .inl ⟨by rw [met_arg HEE.out (.inl HQ.out)]; decide, rfl, (met_arg HEE.out (.inl HQ.out)).symm⟩, Ly.out.1⟩
 ·
  have h0b : (ee != 0) = true := by simpa using h0
  have H0 := lh h0
  clear h0
  gi_wp2
  refine bodyPost_ret (v := .tuple #[.bool false, .int .i64 ee]) (by simp [results, Try.results25, go_sem]) rfl ?_
  exact ⟨false, ee, rfl, .inl ⟨by rw [met_bad HEE.out H0.out]; exact H0.out, rfl, (met_bad HEE.out H0.out).symm⟩, Ly.out.1⟩
end
section
open Go.RowKit
def SeqAt {α : Type} (F : Fence) (n : Nat) (P : Program) (g : Nat) (lb : Array Value) (encs : α → Array Value) (At : α → World → Prop) (Kp : World → World → Prop) (S : List α → Prop) (w : World) : Prop :=
 ∀ (l : Nat) (J : List α → World → Prop) (W : World), Below w.heap.size w W → (∀ s A B, J s A → Below A.heap.size A B → J s B) →
  (∀ pre x W1, J pre W1 → At x W1 → YieldAt F (n - 1) P l (encs x) W1 fun e W' => e = .returned (.bool true) ∧ J (pre ++ [x]) W' ∧ Kp W1 W') →
  J [] W → CallsIn F n P g (#[.func (.yield l) #[] #[]] ++ lb) W fun e W' => (∃ v, e = .returned v) ∧ ∃ xs, S xs ∧ J xs W'
theorem wpIn_rangeAt {α : Type} {F : Fence} {n : Nat} {P : Program} {g : Operand} {ps : Array Tmp} {assign body : Code} {Q : Exit → Act → World → Prop} {a : Act} {w : World}
  (hro : F.round = none) (h1 : 1 ≤ n) {gf : Nat} {lb : Array Value} (hg : a.eval g = .func (.func gf) #[] lb) (hFg : F.fn gf) (eg : ∀ args w, (callFunc gf args).run P w = .ok (.enter gf args) w)
  {encs : α → Array Value} {At : α → World → Prop} {Kp : World → World → Prop} {S : List α → Prop} (hseq : SeqAt F (n - 1) P gf lb encs At Kp S w)
  (hKt : ∀ {A B C : World}, Kp A B → Kp B C → Kp A C) (hKb : ∀ (W : World) (l : Nat) (o o' : Obj), w.heap.size ≤ l → W.heap[l]? = some o → o.isCells = false → o.isWalk = false → Kp W (W.putObj l o')) (hps : ∀ x, (encs x).size = ps.size)
  (I : List α → World → Prop) (hI : OwnFrom w.heap.size I) (hIB : ∀ s A B, I s A → Below A.heap.size A B → I s B) (h0 : I [] w) (Ax : α → Act → World → Prop) (hAx : ∀ x a', OwnFrom w.heap.size (fun (_ : Unit) W => Ax x a' W))
  (hassign : ∀ (l : Nat) (pre : List α) (x : α) (W : World) (K : Act → World → Prop), I pre W → At x W → (∀ a' W', KeepsFrom w.heap.size W W' → Kp W W' → I pre W' → Ax x a' W' → K a' W') →
   assign.wpIn (F.inRound l) (n - 1 - 1) P (Exit.then K (fun _ _ _ => False)) { tmps := (ps.zip (encs x)).foldl (fun t (p, v) => t.setIfInBounds p v) a.tmps, defers := [] } W)
  (hbody : ∀ (l : Nat) (pre : List α) (x : α) (a' : Act) (W : World), I pre W → Ax x a' W → body.wpIn (F.inRound l) (n - 1 - 1) P (fun e _ W3 => e = .normal ∧ KeepsFrom w.heap.size W W3 ∧ Kp W W3 ∧ I (pre ++ [x]) W3) a' W)
  (hdone : ∀ (D : Nat) (xs : List α) (W : World), w.heap.size ≤ D → S xs → I xs W → W.heap[D]? = some (.deferred (some [])) → Q .normal { a with defers := { target := .collected D, args := #[] } :: a.defers } W) :
  (Code.rangeFunc g ps assign body).wpIn F n P Q a w := by
 refine wpIn_rangeFunc fun fn hfn => ?_
 rw [hro]
 obtain ⟨rec, hrec⟩ : ∃ rec : LoopState → Loop, rec = fun st => { state := st, pending := none, fn, tmps := a.tmps, params := ps, assign, body, defers := w.heap.size } := ⟨_, rfl⟩
 have e1 : ((w.alloc (.deferred (some []))).alloc (.loop (rec .ready))).heap[w.heap.size + 1]? = some (.loop (rec .ready)) := by
  have h := World.alloc_heap_new (w.alloc (.deferred (some []))) (.loop (rec .ready))
  rwa [World.size_alloc] at h
 have e0 : ((w.alloc (.deferred (some []))).alloc (.loop (rec .ready))).heap[w.heap.size]? = some (.deferred (some [])) :=
  (Below.heap_alloc _ _ _ (by simp)).trans (World.alloc_heap_new w _)
 have i1 := hI.alloc (.loop (rec .ready)) (hI.alloc (.deferred (some [])) h0)
 have b1 : Below w.heap.size w ((w.alloc (.deferred (some []))).alloc (.loop (rec .ready))) := ((Below.refl _ w).alloc (Nat.le_refl _) _).alloc (by simp) _
 have z1 : ((w.alloc (.deferred (some []))).alloc (.loop (rec .ready))).heap.size = w.heap.size + 1 + 1 := by simp
 have en : (Instr.enterLoop fn a.tmps ps assign body none).run P w = .ok (w.heap.size + 1, [{ target := .collected w.heap.size, args := #[] }]) ((w.alloc (.deferred (some []))).alloc (.loop (rec .ready))) := by
  rw [hrec]
  exact run_enterLoop_outer _ _ _ _ _
 generalize (w.alloc (.deferred (some []))).alloc (.loop (rec .ready)) = W0 at *
 refine ⟨w.heap.size + 1, [{ target := .collected w.heap.size, args := #[] }], W0, { target := .fn (.func gf) lb, args := #[.func (.yield (w.heap.size + 1)) #[] #[]] }, W0, gf,
  #[.func (.yield (w.heap.size + 1)) #[] #[]] ++ lb, W0, en, ?_, ?_, ?_, fun _ => h1, ?_⟩
 ·simp only [resolve, hg]
  simp [go_sem]
 ·intro f hf
  simp [Target.leads] at hf
  subst hf
  exact hFg
 ·simp [invoke, go_sem, eg]
 ·refine (hseq (w.heap.size + 1) (fun pre W => I pre W ∧ W.heap[w.heap.size + 1]? = some (.loop (rec .ready)) ∧ W.heap[w.heap.size]? = some (.deferred (some []))) W0 b1
   (fun s A B hs hb => ⟨hIB s A B hs.1 hb, (hb.block _ (Array.getElem?_eq_some_iff.1 hs.2.1).1).trans hs.2.1, (hb.block _ (Array.getElem?_eq_some_iff.1 hs.2.2).1).trans hs.2.2⟩)
   ?_ ⟨i1, e1, e0⟩).mono ?_
  ·rintro pre x W ⟨hi, hl, hk⟩ hat
   have hy := run_yield (P := P) (args := encs x) hl (by rw [hrec]; exact hps x)
   rw [hrec] at hy
   refine ⟨fn, _, assign, body, hy, roundIn_of_wpIn hfn (hassign _ pre x W _ hi hat fun a' V kf kp hiV hax => ?_)⟩
   have lV := kf.same _ _ (Nat.le_succ _) hl rfl
   have kV := kf.same _ _ (Nat.le_refl _) hk rfl
   have ltV := (Array.getElem?_eq_some_iff.1 lV).1
   refine ⟨_, run_beginRound lV (by rw [hrec]), ?_⟩
   have lU : (V.putObj (w.heap.size + 1) (.loop { rec .ready with state := .busy })).heap[w.heap.size + 1]? = some (.loop { rec .ready with state := .busy }) := World.putObj_heap_same ltV
   have kU : (V.putObj (w.heap.size + 1) (.loop { rec .ready with state := .busy })).heap[w.heap.size]? = some (.deferred (some [])) := (World.putObj_heap_other (by omega)).trans kV
   refine wpIn_mono (hbody _ pre x a' _ (hI.putObj _ hiV (Nat.le_succ _) lV rfl) ((hAx x a').putObj (s := ()) _ hax (Nat.le_succ _) lV rfl)) ?_
   rintro e a3 W3 ⟨rfl, kf3, kp3, hi3⟩
   have l3 := kf3.same _ _ (Nat.le_succ _) lU rfl
   have k3 := kf3.same _ _ (Nat.le_refl _) kU rfl
   have er := run_endRound (P := P) none l3
   refine ⟨_, _, er, rfl, ⟨hI.putObj _ hi3 (Nat.le_succ _) l3 rfl, ?_, (World.putObj_heap_other (by omega)).trans k3⟩, hKt kp (hKt (hKt (hKb _ _ _ _ (Nat.le_succ _) lV rfl rfl) kp3) (hKb _ _ _ _ (Nat.le_succ _) l3 rfl rfl))⟩
   rw [World.putObj_heap_same (Array.getElem?_eq_some_iff.1 l3).1, hrec]
   rfl
  ·rintro e W2 ⟨⟨v, rfl⟩, xs, hS, hi, hl, hk⟩
   have el := run_endLoop (P := P) hl (by rw [hrec]; simp)
   rw [hrec] at el
   exact ⟨none, _, el, hdone _ xs _ (Nat.le_refl _) hS (hI.putObj _ hi (Nat.le_succ _) hl rfl) ((World.putObj_heap_other (by omega)).trans hk)⟩
end
section
open Go.RowKit
def rowObj : Obj → Prop
 | .cells _ t _ => t ≠ 57 ∧ t ≠ 143
 | _ => True
def KpR (n0 n1 : Nat) (W W' : World) : Prop := W.heap.size ≤ W'.heap.size ∧ ∀ (k : Nat) (o : Obj), (k < n0 ∨ (n1 ≤ k ∧ rowObj o)) → W.heap[k]? = some o → (o.isCells = true ∨ o.isWalk = true) → W'.heap[k]? = some o
theorem KpR.trans {n0 n1 : Nat} {A B C : World} (h : KpR n0 n1 A B) (k : KpR n0 n1 B C) : KpR n0 n1 A C := ⟨Nat.le_trans h.1 k.1, fun i o hi ho hc => k.2 i o hi (h.2 i o hi ho hc) hc⟩
theorem KpR.of_below {n0 n1 : Nat} {A B : World} (h : Below A.heap.size A B) : KpR n0 n1 A B := ⟨h.size, fun k o _ ho _ => (h.block k (Array.getElem?_eq_some_iff.1 ho).1).trans ho⟩
theorem KpR.put {n0 n1 : Nat} (W : World) (l : Nat) (o o' : Obj) (h : W.heap[l]? = some o) (hc : o.isCells = false) (hw : o.isWalk = false) : KpR n0 n1 W (W.putObj l o') :=
 ⟨by simp, fun k o2 _ ho hk => (World.putObj_heap_other (fun e => by
  subst e
  rw [h] at ho
  cases ho
  rw [hc, hw] at hk
  rcases hk with hk | hk <;> cases hk)).trans ho⟩
theorem KpR.setCell {n0 n1 : Nat} (W : World) (p : Addr) (v : Value) (h0 : n0 ≤ p.block) (h1 : p.block < n1) : KpR n0 n1 W (W.setCell p v) :=
 ⟨by simp, fun k o hk ho _ => (Below.heap_setCell W p v k (by rcases hk with hk | ⟨hk, _⟩ <;> omega)).trans ho⟩
theorem KpR.blk {n0 n1 g : Nat} {W W' : World} {t : TypeId} {cs : Array Value} (h : KpR n0 n1 W W') (hg : g < n0 ∨ n1 ≤ g) (b : Blk W g t cs) (ht : t ≠ 57 ∧ t ≠ 143 := by decide) : Blk W' g t cs := h.2 g _ (hg.imp id fun x => ⟨x, ht⟩) b (.inl rfl)
instance kpr_grows (n0 n1 : Nat) : Gr.Grows (KpR n0 n1) where
 refl := fun W => ⟨Nat.le_refl _, fun _ _ _ h _ => h⟩
 trans := fun h k => KpR.trans h k
 below := fun h => KpR.of_below h
 size := fun h => h.1
def Safe (n1 : Nat) (W : World) (A : Option Addr) : Prop := ∀ a, A = some a → n1 ≤ a.block ∧ ∃ cs, Blk W a.block 3 cs
theorem Safe.kp {n0 n1 : Nat} {W W' : World} {A : Option Addr} (h : Safe n1 W A) (hk : KpR n0 n1 W W') : Safe n1 W' A := fun a e => ⟨(h a e).1, by
 obtain ⟨h1, cs, hb⟩ := h a e
 exact ⟨cs, hk.blk (.inr h1) hb⟩⟩
theorem Safe.none_ {n1 : Nat} {W : World} : Safe n1 W none := fun a e => by cases e
theorem Safe.own {w : World} {base n1 n cap : Nat} {A : Option Addr} {xs : List Value} (h : Own w base 3 1 A n cap xs) (hb : n1 ≤ base) : Safe n1 w A := fun a e => by
 subst e
 rcases h.form with ⟨h1, _⟩ | ⟨g, cur, h1, h2, h3, _⟩
 ·cases h1
 ·cases h1
  exact ⟨Nat.le_trans hb h2, cur, h3⟩
theorem YieldAt.deep {m : Nat} (m' : Nat) {P : Program} {l : Nat} {args : Array Value} {W : World} {R : Ending → World → Prop} (h : YieldAt Fence.wide m P l args W R) : YieldAt Fence.wide m' P l args W R := by
 obtain ⟨fn, tmps, assign, body, hy, hR⟩ := h
 exact ⟨fn, tmps, assign, body, hy, hR.1, fun c cs _ => hR.2 c cs (fun d hd => by cases hd)⟩
theorem Reads.hold {w w' : World} {B size n : Nat} {A : Option Addr} {xs : List Value} (h : Reads w B size A n xs) (hk : ∀ (b : Nat) (o : Obj), w.heap[b]? = some o → o.isCells = true → (∀ a, A = some a → a.block = b → w'.heap[b]? = some o)) : Reads w' B size A n xs := by
 refine ⟨h.1, fun hn => ?_⟩
 obtain ⟨ad, e, hb, hc⟩ := h.2 hn
 refine ⟨ad, e, hb, fun j u hu => ?_⟩
 have h1 := hc j u hu
 obtain ⟨o, ho, hcell⟩ := cells_of_cell h1
 rw [← h1]
 refine World.cell?_of_block ?_
 rw [ho]
 exact hk _ _ ho hcell ad e (by rw [block_of_add])
theorem Reads.low {w w' : World} {n0 n1 B size n : Nat} {A : Option Addr} {xs : List Value} (h : Reads w B size A n xs) (hB : B ≤ n0) (hk : KpR n0 n1 w w') : Reads w' B size A n xs := by
 by_cases hn : n = 0
 ·subst hn
  exact ⟨h.1, fun h0 => absurd h0 (by omega)⟩
 ·obtain ⟨ad, e, hb, _⟩ := h.2 (by omega)
  exact h.hold fun b o ho hc a ha hab => hk.2 b o (.inl (by rw [e] at ha; cases ha; omega)) ho (.inl hc)
theorem Reads.safe {w w' : World} {n0 n1 size n : Nat} {A : Option Addr} {xs : List Value} (h : Reads w w.heap.size size A n xs) (hs : Safe n1 w A) (hk : KpR n0 n1 w w') : Reads w' w'.heap.size size A n xs :=
 Reads.more (h.hold fun b o ho hc a ha hab => by
  obtain ⟨h1, cs, hb⟩ := hs a ha
  rw [hab] at h1 hb
  unfold Blk at hb
  rw [ho] at hb
  cases hb
  exact hk.2 b _ (.inr ⟨h1, by decide, by decide⟩) ho (.inl hc)) hk.1
end
section
open Go.RowKit
set_option maxRecDepth 100000 in
set_option maxHeartbeats 2000000 in
theorem clone_int (A : Option Addr) (n c : Nat) (l : List Int) (w : World) (hr : IntsAt w w.heap.size A n l) (hn : n ≤ maxLen) (hby : n * 8 ≤ 140737488355328) :
  Calls Try.prog 75 #[.slice A n c] w fun e w' => ∃ A' c', e = .returned (.slice A' n c') ∧ Own w' w.heap.size 3 1 A' n c' (l.map (Value.int .i64)) ∧ (A = none ↔ A' = none) ∧ Below w.heap.size w w' := by
 have HR := lh hr
 have hq := eql_nil_int
 cases A with
 | none =>
  have h0 : n = 0 := by
   rcases Nat.eq_zero_or_pos n with h | h
   ·exact h
   ·obtain ⟨_, h', _⟩ := hr.2 h; cases h'
  have hl : l = [] := List.eq_nil_of_length_eq_zero (by rw [hr.len]; exact h0)
  subst h0 hl
  go_enter Try.func75, Try.ntmps75
  go_wp2_with fail
  go_ret
  exact ⟨none, 0, rfl, Own.none_ _ _ _ _, by simp, Below.refl _ _⟩
 | some ad =>
  clear hr
  go_enter Try.func75, Try.ntmps75
  go_wp2_with (at_builtin; refine wpList_append_any _ rfl _ _ rfl elem_int rfl (World.ownsRow_made w #[] 0 (Nat.le_refl _) (Nat.zero_le _) (by simp)) rfl (Reads.alloc HR.out (Nat.le_refl _) _) (ints_one l) (by simpa using hn) (by simpa using hby) (by simp) ?_)
  rintro A' cap' w' hown hg hA
  go_wp2
  go_ret
  have hB : Below w.heap.size w w' := ((Below.refl _ _).alloc (Nat.le_refl _) _).grown hg (by simp) (by intro k hk; simp at hk; omega)
  refine ⟨A', cap', by simp, by simpa using hown, ?_, hB⟩
  constructor
  ·intro h; cases h
  ·intro h
   rcases hA with hA | hA <;> rw [hA] at h <;> cases h
end
end Go.Proofs.Ythofngceiecniaa
