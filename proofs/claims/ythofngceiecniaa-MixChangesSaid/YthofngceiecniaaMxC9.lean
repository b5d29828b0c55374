/- Part 9 of the texts of this claim, joined. -/
import Derived.Sort.CutIn
import Derived.Test.YthofngceiecniaaMxC8
set_option linter.unusedVariables false
/- The answer's Mix, and Check. -/
namespace Go.Proofs.Ythofngceiecniaa
open Go.RowKit

theorem bad_ids {m : Mix} (h : risB 0 (m.vessels.map (·.id)) = false) : okMix m = false := by unfold okMix; rw [h]; simp
theorem bad_nums {m : Mix} (h : risB 0 (m.tastes.map (·.num)) = false) : okMix m = false := by unfold okMix; rw [h]; simp
theorem ris_at {α : Type} {f : α → Int} {l : List α} {k : Nat} {x : α} (hx : l[k]? = some x) (h : risB 0 ((l.take k).map f) = true) : risB 0 ((l.take (k + 1)).map f) = wiB (f x) (((l.take k).map f).getLast?.getD 0 + 1) 9999 := by
 obtain ⟨hk, rfl⟩ := List.getElem?_eq_some_iff.1 hx
 rw [List.take_succ_eq_append_getElem hk, List.map_append, List.map_cons, List.map_nil, risB_snoc, h, Bool.true_and]
 rfl
theorem last_at {α : Type} {f : α → Int} {l : List α} {k : Nat} {x : α} (hx : l[k]? = some x) : ((l.take (k + 1)).map f).getLast?.getD 0 = f x := by
 obtain ⟨hk, rfl⟩ := List.getElem?_eq_some_iff.1 hx
 rw [List.take_succ_eq_append_getElem hk, List.map_append, List.map_cons, List.map_nil, List.getLast?_concat]
 rfl
theorem ris_take {α : Type} {f : α → Int} {l : List α} {k : Nat} (h : risB 0 ((l.take k).map f) = false) : risB 0 (l.map f) = false := by
 cases h0 : risB 0 (l.map f) with
 | false => rfl
 | true =>
  have := ris_pre (k := k) h0
  rw [← List.map_take] at this
  rw [this] at h
  cases h
theorem all_take {α : Type} {p : α → Bool} {l : List α} {k : Nat} (h : (l.take k).all p = false) : l.all p = false := by
 cases h0 : l.all p with
 | false => rfl
 | true => exact absurd ((all_pre (k := k) h0).symm.trans h) (by decide)
set_option maxRecDepth 100000 in
set_option maxHeartbeats 16000000 in
theorem rmix_any (Av : Option Addr) (nv cv : Nat) (Aa : Option Addr) (na ca : Nat) (At : Option Addr) (nt ct : Nat) (m : Mix) (w : World) (h : MixS w Av nv Aa na At nt m) :
  Calls Try.prog 45 #[.agg #[.int .i64 m.fountains, .slice Av nv cv, .slice Aa na ca, .slice At nt ct]] w fun e w' => e = .returned (.bool (okMix m)) ∧ Below w.heap.size w w' := by
 have HM := Lib.hid h
 have HLV := Lib.hid h.at_.lenV
 have HLA := Lib.hid h.at_.lenA
 have HLT := Lib.hid h.at_.lenT
 have hnv := h.hv
 have hna := h.ha
 have hnt := h.ht
 clear h
 go_enter Try.func45, Try.ntmps45
 go_upto_region 1 with fail
 have HLay := Lib.hid (Lay.one w 26 #[.int .i64 m.fountains, .slice Av nv cv, .slice Aa na ca, .slice At nt ct])
 generalize (w.alloc (.cells #[.int .i64 m.fountains, .slice Av nv cv, .slice Aa na ca, .slice At nt ct] 26)) = w0 at *
 have x0 := (HLay.out.blk 0 rfl).cell 0
 have x1 := (HLay.out.blk 0 rfl).cell 1
 have x2 := (HLay.out.blk 0 rfl).cell 2
 have x3 := (HLay.out.blk 0 rfl).cell 3
 have xl := HLay.out.lt 0 rfl
 go_wp2_with fail
 refine (within_any m.fountains 1 4 w0).mono ?_
 rintro e W1 ⟨rfl, rfl⟩
 by_cases hG : (1 ≤ m.fountains ∧ m.fountains ≤ 4) ∧ m.vessels.length ≤ 4 ∧ m.acts.length ≤ 12 ∧ m.tastes.length ≤ 8
 ·have HG := Lib.hid hG
  have hi : wiB m.fountains 1 4 = true := decide_eq_true hG.1
  have hn4 : nv ≤ 4 := by have := HLV.out; omega
  have hn12 : na ≤ 12 := by have := HLA.out; omega
  have hn8 : nt ≤ 8 := by have := HLT.out; omega
  have d1 : (nv : Int) ≤ 4 := by omega
  have d2 : (na : Int) ≤ 12 := by omega
  have d3 : (nt : Int) ≤ 8 := by omega
  rw [hi]
  clear hi hG
  go_wp2_with fail
  clear d1 d2 d3 x0 x1 x2 x3 xl
  go_loopw [3, 35] (fun v3 i wr => ∃ k : Nat, k ≤ nv ∧ i = .int .i64 k ∧ v3 = .int .i64 (((m.vessels.take k).map (·.id)).getLast?.getD 0) ∧ Hid (Lay w wr [(w.heap.size, 26, #[.int .i64 m.fountains, .slice Av nv cv, .slice Aa na ca, .slice At nt ct])] ∧ (m.vessels.take k).all vessB = true ∧ risB 0 ((m.vessels.take k).map (·.id)) = true))
   (fun _ i _ => nv - (intOf i).toNat)
  case atStart => exact ⟨0, by omega, rfl, rfl, Lib.hid ⟨HLay.out, rfl, rfl⟩⟩
  case round =>
   clear HLay
   obtain ⟨k, hk, rfl, rfl, HS⟩ := hrel
   obtain ⟨hl0, hl1⟩ := ris_last HS.out.2.2
   obtain ⟨p, hp⟩ : ∃ p, ((m.vessels.take k).map (·.id)).getLast?.getD 0 = p := ⟨_, rfl⟩
   have HLay := Lib.hid HS.out.1
   rw [hp] at hl0 hl1 ⊢
   have HP := Lib.hid hp
   clear hp
   have x1 := (HLay.out.blk 0 rfl).cell 1
   have x3 := (HLay.out.blk 0 rfl).cell 3
   have xl := HLay.out.lt 0 rfl
   by_cases hlt : k < nv
   ·clear x1 x3 xl
    obtain ⟨b, off, x, rfl, hbB, hx, hc0, hc1⟩ := (HM.out.at_.below HLay.out.1).vess hlt
    have HX := Lib.hid hx
    clear hx
    go_upto_region 7 with fail
    have hb1 : Below wr.heap.size wr (wr.alloc (.cells #[.int .i64 x.id, .int .i64 x.size] 80)) := (Below.refl _ _).alloc (Nat.le_refl _) _
    have HN := Lib.hid (Blk.new wr 80 #[.int .i64 x.id, .int .i64 x.size])
    obtain ⟨g8, hg8⟩ : ∃ g, wr.heap.size = g := ⟨_, rfl⟩
    generalize wr.alloc (.cells #[.int .i64 x.id, .int .i64 x.size] 80) = wa at *
    have HB1 := Lib.hid hb1
    rw [hg8] at HN ⊢
    have y0 := HN.out.cell 0
    have y1 := HN.out.cell 1
    have yl := HN.out.lt
    clear hb1 hc0 hc1
    have HRS := Lib.hid (ris_at (f := (·.id)) HX.out HS.out.2.2)
    have HAS := Lib.hid (all_step HX.out HS.out.2.1)
    have HLST := Lib.hid (last_at (f := fun v : Vess => v.id) HX.out)
    rw [HP.out] at HRS
    go_wp2_with fail
    refine (within_any x.id (p + 1) 9999 wa).mono ?_
    rintro e W ⟨rfl, rfl⟩
    cases hi : wiB x.id (p + 1) 9999 with
    | false =>
     rw [hi] at HRS
     clear hi
     go_wp2_with fail
     go_ret
     exact ⟨ret_bool (bad_ids (ris_take HRS.out)).symm, HLay.out.1.trans (HB1.out.mono HLay.out.1.size)⟩
    | true =>
     rw [hi] at HRS
     clear hi
     go_wp2_with fail
     refine (within_any x.size 1 12 wa).mono ?_
     rintro e W ⟨rfl, rfl⟩
     have hvs : vessB x = wiB x.size 1 12 := rfl
     rw [hvs] at HAS
     clear hvs
     cases hi : wiB x.size 1 12 with
     | false =>
      rw [hi] at HAS
      clear hi
      go_wp2_with fail
      go_ret
      exact ⟨ret_bool (bad_vess (all_take HAS.out)).symm, HLay.out.1.trans (HB1.out.mono HLay.out.1.size)⟩
     | true =>
      rw [hi] at HAS
      clear hi
      go_wp2_with fail
      go_roundw
      case rel => exact ⟨k + 1, by omega, by go_num, by rw [HLST.out], Lib.hid ⟨HLay.out.below HB1.out, HAS.out, HRS.out⟩⟩
      case measure => simp [intOf]; omega
   ·obtain rfl : nv = k := by omega
    have hz : m.vessels.all vessB = true := by
     have := HS.out.2.1
     rwa [List.take_of_length_le (by have := HLV.out; omega)] at this
    have hr : risB 0 (m.vessels.map (·.id)) = true := by
     have := HS.out.2.2
     rwa [List.take_of_length_le (by have := HLV.out; omega)] at this
    have HZ := Lib.hid hz
    have HRI := Lib.hid hr
    clear hz hr
    go_wp2_with fail
    clear x1 x3 xl HP hl0 hl1
    obtain ⟨wo, rfl⟩ : ∃ wo, wo = wr := ⟨_, rfl⟩
    go_loopw [3, 57] (fun v3 i wr => ∃ k : Nat, k ≤ nt ∧ i = .int .i64 k ∧ v3 = .int .i64 (((m.tastes.take k).map (·.num)).getLast?.getD 0) ∧ Hid (Lay w wr [(w.heap.size, 26, #[.int .i64 m.fountains, .slice Av nv cv, .slice Aa na ca, .slice At nt ct])] ∧ (m.tastes.take k).all (tastB m) = true ∧ risB 0 ((m.tastes.take k).map (·.num)) = true))
     (fun _ i _ => nt - (intOf i).toNat)
    case atStart => exact ⟨0, by omega, rfl, rfl, Lib.hid ⟨HLay.out, rfl, rfl⟩⟩
    case round =>
     clear HLay HS
     obtain ⟨k, hk2, rfl, rfl, HS⟩ := hrel
     obtain ⟨hl0, hl1⟩ := ris_last HS.out.2.2
     obtain ⟨p, hp⟩ : ∃ p, ((m.tastes.take k).map (·.num)).getLast?.getD 0 = p := ⟨_, rfl⟩
     have HLay := Lib.hid HS.out.1
     rw [hp] at hl0 hl1 ⊢
     have HP := Lib.hid hp
     clear hp
     have x0 := (HLay.out.blk 0 rfl).cell 0
     have x1 := (HLay.out.blk 0 rfl).cell 1
     have x2 := (HLay.out.blk 0 rfl).cell 2
     have x3 := (HLay.out.blk 0 rfl).cell 3
     have xl := HLay.out.lt 0 rfl
     by_cases hlt : k < nt
     ·clear x0 x1 x2 x3 xl
      obtain ⟨b, off, x, rfl, hbB, hx, hc0, hc1, hc2, hc3, hc4, hc5⟩ := (HM.out.at_.below HLay.out.1).tast hlt
      have HX := Lib.hid hx
      clear hx
      go_upto_region 15 with fail
      have hb1 : Below wr.heap.size wr (wr.alloc (.cells #[.int .i64 x.num, .int .i64 x.vessel, .int .i64 x.after, .int .i64 x.fountain, .int .i64 x.lo, .int .i64 x.hi] 65)) := (Below.refl _ _).alloc (Nat.le_refl _) _
      have HN := Lib.hid (Blk.new wr 65 #[.int .i64 x.num, .int .i64 x.vessel, .int .i64 x.after, .int .i64 x.fountain, .int .i64 x.lo, .int .i64 x.hi])
      obtain ⟨g8, hg8⟩ : ∃ g, wr.heap.size = g := ⟨_, rfl⟩
      generalize wr.alloc (.cells #[.int .i64 x.num, .int .i64 x.vessel, .int .i64 x.after, .int .i64 x.fountain, .int .i64 x.lo, .int .i64 x.hi] 65) = wa at *
      have HB1 := Lib.hid hb1
      rw [hg8] at HN ⊢
      have y0 := HN.out.cell 0
      have y1 := HN.out.cell 1
      have yl := HN.out.lt
      have HLA1 := Lib.hid (HLay.out.below HB1.out)
      have x0 := (HLA1.out.blk 0 rfl).cell 0
      have x1 := (HLA1.out.blk 0 rfl).cell 1
      have x2 := (HLA1.out.blk 0 rfl).cell 2
      have x3 := (HLA1.out.blk 0 rfl).cell 3
      have xl := HLA1.out.lt 0 rfl
      clear hb1 hc0 hc1 hc2 hc3 hc4 hc5
      have HRS := Lib.hid (ris_at (f := (·.num)) HX.out HS.out.2.2)
      have HAS := Lib.hid (all_step HX.out HS.out.2.1)
      have HLST := Lib.hid (last_at (f := fun v : Tast => v.num) HX.out)
      rw [HP.out] at HRS
      go_wp2_with fail
      refine (within_any x.num (p + 1) 9999 wa).mono ?_
      rintro e W ⟨rfl, rfl⟩
      cases hi : wiB x.num (p + 1) 9999 with
      | false =>
       rw [hi] at HRS
       clear hi
       go_wp2_with fail
       go_ret
       exact ⟨ret_bool (bad_nums (ris_take HRS.out)).symm, HLay.out.1.trans (HB1.out.mono HLay.out.1.size)⟩
      | true =>
       rw [hi] at HRS
       clear hi
       go_wp2_with fail
       refine (rindex_any Av nv cv Aa na ca (some ⟨b, off, none⟩) nt ct m x.vessel wa (HM.out.up HLA1.out.1)).mono ?_
       rintro e W ⟨rfl, hb⟩
       have HB := Lib.hid (HB1.out.trans (hb.mono HB1.out.size))
       have HN2 := Lib.hid (HN.out.below hb HN.out.lt)
       have HLA2 := Lib.hid (HLA1.out.below hb)
       clear hb y0 y1 yl x0 x1 x2 x3 xl HN HLA1 HB1
       have y2 := HN2.out.cell 2
       have y3 := HN2.out.cell 3
       have y4 := HN2.out.cell 4
       have y5 := HN2.out.cell 5
       have yl := HN2.out.lt
       have x0 := (HLA2.out.blk 0 rfl).cell 0
       have x2 := (HLA2.out.blk 0 rfl).cell 2
       have xl := HLA2.out.lt 0 rfl
       by_cases hj : idxV m.vessels x.vessel < 0
       ·have HTB : Hid (tastB m x = false) := Lib.hid (by unfold tastB; exact decide_eq_false (by omega))
        go_wp2_with fail
        go_ret
        exact ⟨ret_bool (bad_tast (tast_no HX.out HTB.out)).symm, HLay.out.1.trans (HB.out.mono HLay.out.1.size)⟩
       ·have hj2 : 0 ≤ idxV m.vessels x.vessel := by omega
        go_wp2_with fail
        refine (within_any x.after 0 na W).mono ?_
        rintro e W2 ⟨rfl, rfl⟩
        cases hi : wiB x.after 0 na with
        | false =>
         have HI := Lib.hid (of_decide_eq_false hi)
         have HTB : Hid (tastB m x = false) := Lib.hid (by unfold tastB; have := HLA.out; have := HI.out; exact decide_eq_false (by omega))
         clear hi
         go_wp2_with fail
         go_ret
         exact ⟨ret_bool (bad_tast (tast_no HX.out HTB.out)).symm, HLay.out.1.trans (HB.out.mono HLay.out.1.size)⟩
        | true =>
         have HI := Lib.hid (of_decide_eq_true hi)
         clear hi
         go_wp2_with fail
         refine (within_any x.fountain 1 m.fountains W).mono ?_
         rintro e W2 ⟨rfl, rfl⟩
         cases hi : wiB x.fountain 1 m.fountains with
         | false =>
          have HJ := Lib.hid (of_decide_eq_false hi)
          have HTB : Hid (tastB m x = false) := Lib.hid (by unfold tastB; have := HJ.out; exact decide_eq_false (by omega))
          clear hi
          go_wp2_with fail
          go_ret
          exact ⟨ret_bool (bad_tast (tast_no HX.out HTB.out)).symm, HLay.out.1.trans (HB.out.mono HLay.out.1.size)⟩
         | true =>
          have HJ := Lib.hid (of_decide_eq_true hi)
          clear hi
          go_wp2_with fail
          refine (within_any x.lo 0 x.hi W).mono ?_
          rintro e W2 ⟨rfl, rfl⟩
          cases hi : wiB x.lo 0 x.hi with
          | false =>
           have HK := Lib.hid (of_decide_eq_false hi)
           have HTB : Hid (tastB m x = false) := Lib.hid (by unfold tastB; have := HK.out; exact decide_eq_false (by omega))
           clear hi
           go_wp2_with fail
           go_ret
           exact ⟨ret_bool (bad_tast (tast_no HX.out HTB.out)).symm, HLay.out.1.trans (HB.out.mono HLay.out.1.size)⟩
          | true =>
           have HK := Lib.hid (of_decide_eq_true hi)
           have HTB : Hid (tastB m x = true) := Lib.hid (by unfold tastB; have := HK.out; have := HJ.out; have := HI.out; have := HLA.out; exact decide_eq_true (by omega))
           clear hi x0 x2 xl
           have y0 := HN2.out.cell 0
           rw [HTB.out] at HAS
           go_wp2_with fail
           go_roundw
           case rel => exact ⟨k + 1, by omega, by go_num, by rw [HLST.out], Lib.hid ⟨HLA2.out, HAS.out, HRS.out⟩⟩
           case measure => simp [intOf]; omega
     ·obtain rfl : nt = k := by omega
      have hz : m.tastes.all (tastB m) = true := by
       have := HS.out.2.1
       rwa [List.take_of_length_le (by have := HLT.out; omega)] at this
      have hr : risB 0 (m.tastes.map (·.num)) = true := by
       have := HS.out.2.2
       rwa [List.take_of_length_le (by have := HLT.out; omega)] at this
      have HZT := Lib.hid hz
      have HRN := Lib.hid hr
      clear hz hr
      go_wp2_with fail
      refine (callsIn_wide.1 (rplayed_in Av nv cv Aa na ca At nt ct m wr (HM.out.up HLay.out.1) (vesOk_of HZ.out) hn4 hna)).mono ?_
      rintro e W ⟨hb, A4, n4, c4, bb, L, rfl, hd⟩
      have HB := Lib.hid (HLay.out.1.trans (hb.mono HLay.out.1.size))
      have HD := Lib.hid hd
      clear hb hd x0 x1 x2 x3 xl
      go_wp2_with fail
      go_ret
      refine ⟨ret_bool ?_, HB.out⟩
      rcases HD.out with ⟨rfl, h1, _⟩ | ⟨rfl, _, h1⟩
      ·rw [ok_rest HG.out HZ.out HZT.out h1, HRI.out, HRN.out]; rfl
      ·exact (bad_acts h1).symm
 ·have HB := Lib.hid (bad_limits hG)
  cases hi : wiB m.fountains 1 4 with
  | false =>
   clear hi
   go_wp2_with fail
   go_ret
   exact ⟨ret_bool HB.out.symm, HLay.out.1⟩
  | true =>
   have h2 : ¬ (nv ≤ 4 ∧ na ≤ 12 ∧ nt ≤ 8) := by
    have := of_decide_eq_true hi
    rw [← HLV.out, ← HLA.out, ← HLT.out]
    exact fun h2 => hG ⟨this, h2⟩
   clear hi hG
   by_cases q1 : nv ≤ 4
   ·have d1 : (nv : Int) ≤ 4 := by omega
    by_cases q2 : na ≤ 12
    ·have d2 : (na : Int) ≤ 12 := by omega
     have d3 : ¬ (nt : Int) ≤ 8 := by omega
     clear h2
     go_wp2_with fail
     go_ret
     exact ⟨ret_bool HB.out.symm, HLay.out.1⟩
    ·have d2 : ¬ (na : Int) ≤ 12 := by omega
     clear h2
     go_wp2_with fail
     go_ret
     exact ⟨ret_bool HB.out.symm, HLay.out.1⟩
   ·have d1 : ¬ (nv : Int) ≤ 4 := by omega
    clear h2
    go_wp2_with fail
    go_ret
    exact ⟨ret_bool HB.out.symm, HLay.out.1⟩
end Go.Proofs.Ythofngceiecniaa
/- Words for the answer's changes. -/
namespace Go.Proofs.Ythofngceiecniaa
open Go.RowKit

section
variable {w W W' : World} {base : Nat} {A1 A2 A3 : Option Addr} {nv c1 na c2 nt c3 : Nat} {m : Mix}
theorem MixNew.below (h : MixNew W base A1 nv c1 A2 na c2 A3 nt c3 m) (hb : Below W.heap.size W W') : MixNew W' base A1 nv c1 A2 na c2 A3 nt c3 m := ⟨h.v.below hb (Nat.le_refl _), h.a.below hb (Nat.le_refl _), h.t.below hb (Nat.le_refl _)⟩
theorem MixNew.mono {b' : Nat} (h : MixNew W base A1 nv c1 A2 na c2 A3 nt c3 m) (hb : b' ≤ base) : MixNew W b' A1 nv c1 A2 na c2 A3 nt c3 m := ⟨h.v.mono hb, h.a.mono hb, h.t.mono hb⟩
theorem MixNew.off {g : Nat} (h : MixNew W base A1 nv c1 A2 na c2 A3 nt c3 m) (hg : W.grownBy W' (some g)) (hlt : g < base) : MixNew W' base A1 nv c1 A2 na c2 A3 nt c3 m := ⟨own_off h.v hg hlt, own_off h.a hg hlt, own_off h.t hg hlt⟩
theorem MixNew.s (h : MixNew W base A1 nv c1 A2 na c2 A3 nt c3 m) (hv : nv ≤ 1000) (ha : na ≤ 1000) (ht : nt ≤ 1000) : MixS W A1 nv A2 na A3 nt m := ⟨⟨h.v.reads (Nat.le_refl _), h.a.reads (Nat.le_refl _), h.t.reads (Nat.le_refl _)⟩, hv, ha, ht⟩
theorem MixNew.acts {A9 : Option Addr} {n9 c9 b9 : Nat} {l : List MAct} (h : MixNew W base A1 nv c1 A2 na c2 A3 nt c3 m) (hb : Below W.heap.size W W') (ho : Own W' b9 67 4 A9 n9 c9 (l.flatMap MAct.vals)) (h9 : base ≤ b9) : MixNew W' base A1 nv c1 A9 n9 c9 A3 nt c3 (withA m l) := ⟨(h.below hb).v, ho.mono h9, (h.below hb).t⟩
theorem MixNew.tasts {A9 : Option Addr} {n9 c9 b9 : Nat} {l : List Tast} (h : MixNew W base A1 nv c1 A2 na c2 A3 nt c3 m) (hb : Below W.heap.size W W') (ho : Own W' b9 65 6 A9 n9 c9 (l.flatMap Tast.vals)) (h9 : base ≤ b9) : MixNew W' base A1 nv c1 A2 na c2 A9 n9 c9 (withT m l) := ⟨(h.below hb).v, (h.below hb).a, ho.mono h9⟩
theorem own_offB {e t : TypeId} {size n cap g : Nat} {A : Option Addr} {xs : List Value} {cs : Array Value} (h : Own W base e size A n cap xs) (hB : Blk W g t cs) (ht : t ≠ e) (hg : W.grownBy W' (some g)) : Own W' base e size A n cap xs := by
 refine h.grown hg (fun a ha e' => ?_)
 rcases h.form with ⟨h0, _⟩ | ⟨g', cur, h1, _, hb, _⟩
 ·rw [h0] at ha; cases ha
 ·rw [h1] at ha
  cases ha
  exact blk_ne hB hb ht (Option.some.inj e').symm
theorem MixNew.offB {g : Nat} {cs : Array Value} (h : MixNew W base A1 nv c1 A2 na c2 A3 nt c3 m) (hB : Blk W g 26 cs) (hg : W.grownBy W' (some g)) : MixNew W' base A1 nv c1 A2 na c2 A3 nt c3 m := ⟨own_offB h.v hB (by decide) hg, own_offB h.a hB (by decide) hg, own_offB h.t hB (by decide) hg⟩
theorem own_types {e t : TypeId} {size n cap size' n' cap' : Nat} {A B : Option Addr} {xs ys : List Value} (h : Own W base e size A n cap xs) (h' : Own W base t size' B n' cap' ys) (ht : e ≠ t) : ∀ a, A = some a → some a.block ≠ B.map (·.block) := by
 intro a ha e'
 rcases h.form with ⟨h0, _⟩ | ⟨g, cur, h1, _, hb, _⟩
 ·rw [h0] at ha; cases ha
 ·rcases h'.form with ⟨h0, _⟩ | ⟨g', cur', h1', _, hb', _⟩
  ·rw [h0] at e'; cases e'
  ·rw [h1] at ha
   cases ha
   rw [h1'] at e'
   exact blk_ne hb hb' ht (Option.some.inj e')
theorem MixNew.growT {A9 : Option Addr} {n9 c9 : Nat} {l : List Tast} (h : MixNew W base A1 nv c1 A2 na c2 A3 nt c3 m) (hg : W.grownBy W' (A3.map (·.block))) (ho : Own W' base 65 6 A9 n9 c9 (l.flatMap Tast.vals)) : MixNew W' base A1 nv c1 A2 na c2 A9 n9 c9 (withT m l) :=
 ⟨h.v.grown hg (own_types h.v h.t (by decide)), h.a.grown hg (own_types h.a h.t (by decide)), ho⟩
theorem ne_rowT {base' size n cap g : Nat} {e t : TypeId} {A : Option Addr} {xs : List Value} {cs : Array Value} (hB : Blk W g t cs) (h : Own W base' e size A n cap xs) (ht : t ≠ e) : ∀ r, A.map (·.block) = some r → g ≠ r := by
 intro r hr
 rcases h.form with ⟨h0, _⟩ | ⟨g', cur', h1', _, hb', _⟩
 ·rw [h0] at hr; cases hr
 ·rw [h1'] at hr
  have : g' = r := Option.some.inj hr
  rw [← this]
  exact blk_ne hB hb' ht
theorem MixS.nothing (W : World) : MixS W none 0 none 0 none 0 zeroMix := ⟨⟨Reads.none_, Reads.none_, Reads.none_⟩, by omega, by omega, by omega⟩
theorem reads_take {w : World} {B size n k : Nat} {A : Option Addr} {xs : List Value} (h : Reads w B size A n xs) (hk : k ≤ n) : Reads w B size A k (xs.take (k * size)) := by
 refine ⟨by rw [List.length_take, h.1, Nat.min_eq_left (Nat.mul_le_mul_right _ hk)], fun h0 => ?_⟩
 obtain ⟨a, e, hb, hc⟩ := h.2 (by omega)
 refine ⟨a, e, hb, fun j u hu => hc j u ?_⟩
 rw [List.getElem?_take] at hu
 split at hu
 ·exact hu
 ·cases hu
end
theorem addr_add2 (a : Addr) (i j : Nat) : (a.add i).add j = a.add (i + j) := by
 unfold Addr.add
 by_cases hi : i = 0
 ·simp [hi]
 ·by_cases hj : j = 0
  ·simp [hi, hj]
  ·simp [hi, hj, Nat.add_assoc]
theorem reads_hi {w : World} {B size n k c : Nat} {A : Option Addr} {xs : List Value} (h : Reads w B size A n xs) (hk : k ≤ n) (hn : n ≤ c) : Reads w B size (if c = k then A else A.map (fun x => x.add (k * size))) (n - k) (xs.drop (k * size)) := by
 have hl : (xs.drop (k * size)).length = (n - k) * size := by rw [List.length_drop, h.1, Nat.sub_mul]
 refine ⟨hl, fun h0 => ?_⟩
 obtain ⟨a, e, hb, hc⟩ := h.2 (by omega)
 rw [if_neg (by omega)]
 refine ⟨a.add (k * size), by rw [e]; rfl, by rw [block_of_add]; exact hb, fun j u hu => ?_⟩
 rw [addr_add2]
 rw [List.getElem?_drop] at hu
 exact hc _ u hu
theorem ins_split {l : List Tast} {x : Tast} {k : Nat} (h1 : ∀ y ∈ l.take k, y.num < x.num) (h2 : ∀ y, l[k]? = some y → ¬ y.num < x.num) : insT l x = l.take k ++ [x] ++ l.drop k := by
 have hp : ∀ y ∈ l.take k, decide (y.num < x.num) = true := fun y hy => by simpa using h1 y hy
 have e : l = l.take k ++ l.drop k := (List.take_append_drop k l).symm
 unfold insT
 have key : l.takeWhile (fun y => decide (y.num < x.num)) = l.take k ∧ l.dropWhile (fun y => decide (y.num < x.num)) = l.drop k := by
  conv => lhs; lhs; rw [e]
  conv => rhs; lhs; rw [e]
  rw [List.takeWhile_append_of_pos hp, List.dropWhile_append_of_pos hp]
  cases hd : l.drop k with
  | nil => simp
  | cons y t =>
   have hy : l[k]? = some y := by
    have := congrArg (fun r : List Tast => r[0]?) hd
    simpa using this
   have h0 : decide (y.num < x.num) = false := by simpa using h2 y hy
   rw [List.takeWhile_cons_of_neg (by rw [h0]; simp), List.dropWhile_cons_of_neg (by rw [h0]; simp)]
   simp
 rw [key.1, key.2]
theorem flat_drop {α : Type} {vals : α → List Value} {sz : Nat} (hk : ∀ x, (vals x).length = sz) : ∀ (l : List α) (k : Nat), (l.drop k).flatMap vals = (l.flatMap vals).drop (k * sz)
 | [], k => by simp
 | x :: l, 0 => by simp
 | x :: l, k + 1 => by
  rw [List.drop_succ_cons, List.flatMap_cons, flat_drop hk l k, List.drop_append, hk]
  have e : (vals x).drop ((k + 1) * sz) = [] := List.drop_eq_nil_of_le (by rw [hk, Nat.succ_mul]; exact Nat.le_add_left _ _)
  rw [e, Nat.succ_mul, Nat.add_sub_cancel, List.nil_append]
structure RpGh where
 e1 : Nat
 e2 : Nat
 A1 : Option Addr
 k1 : Nat
 A2 : Option Addr
 k2 : Nat
 A9 : Option Addr
 k9 : Nat
theorem doM_bad {m : Mix} {x : MAct} (h : okMix m = false) : doM m x = (zeroMix, 40) := by unfold doM; rw [h]; rfl
theorem doM_ok {m : Mix} {x : MAct} (h : okMix m = true) : doM m x = if m.acts.length = 12 then (zeroMix, 9) else if okMix (withA m (m.acts ++ [x])) = true then (withA m (m.acts ++ [x]), 0) else (zeroMix, 41) := by unfold doM; rw [if_pos h]
theorem putM_bad {m : Mix} {x : Tast} (h : okMix m = false) : putM m x = (zeroMix, 40) := by unfold putM; rw [h]; rfl
theorem putM_ok {m : Mix} {x : Tast} (h : okMix m = true) : putM m x = if m.tastes.length = 8 then (zeroMix, 9) else if okMix (withT m (insT m.tastes x)) = true then (withT m (insT m.tastes x), 0) else (zeroMix, 42) := by unfold putM; rw [if_pos h]
structure RdGh where
 e1 : Nat
 e2 : Nat
 A1 : Option Addr
 k1 : Nat
 A9 : Option Addr
 k9 : Nat
/-- What an answer's change hands back: mixed water that can be read, and an error. -/
def RefOut (w : World) (r : Mix × Int) (e : Ending) (w' : World) : Prop :=
 ∃ A1 n1 c1 A2 n2 c2 A3 n3 c3, e = .returned (.tuple #[.agg #[.int .i64 r.1.fountains, .slice A1 n1 c1, .slice A2 n2 c2, .slice A3 n3 c3], .int .i64 r.2]) ∧ MixS w' A1 n1 A2 n2 A3 n3 r.1 ∧ Below w.heap.size w w'
end Go.Proofs.Ythofngceiecniaa
/- aguadorref04.Undo. -/
namespace Go.Proofs.Ythofngceiecniaa
open Go.RowKit

set_option maxRecDepth 100000 in
set_option maxHeartbeats 16000000 in
theorem rundo_in (Av : Option Addr) (nv cv : Nat) (Aa : Option Addr) (na ca : Nat) (At : Option Addr) (nt ct : Nat) (m : Mix)  (w : World) (h : MixS w Av nv Aa na At nt m) (hcl : na ≤ ca ∧ ca ≤ maxLen) :
  CallsIn Fence.wide 9 Try.prog 38 #[.agg #[.int .i64 m.fountains, .slice Av nv cv, .slice Aa na ca, .slice At nt ct]] w (RefOut w (undoM m)) := by
 have HM := Lib.hid h
 have HLV := Lib.hid h.at_.lenV
 have HLA := Lib.hid h.at_.lenA
 have HLT := Lib.hid h.at_.lenT
 have hnv := h.hv
 have hna := h.ha
 have hnt := h.ht
 clear h
 refine callsIn_of_wp Try.func38 rfl trivial ?_ rfl
 simp only [Try.ntmps38, List.size_toArray, List.length_cons, List.length_nil, Nat.reduceAdd, Nat.reduceSub, Array.replicate_succ, Array.replicate_zero, List.push_toArray, List.append_toArray, List.nil_append, List.cons_append]
 gi_upto_region 1 with fail
 have HLay := Lib.hid (Lay.two w 26 #[.int .i64 m.fountains, .slice Av nv cv, .slice Aa na ca, .slice At nt ct] 26 #[.int .i64 0, .slice none 0 0, .slice none 0 0, .slice none 0 0])
 generalize ((w.alloc (.cells #[.int .i64 m.fountains, .slice Av nv cv, .slice Aa na ca, .slice At nt ct] 26)).alloc (.cells #[.int .i64 0, .slice none 0 0, .slice none 0 0, .slice none 0 0] 26)) = w0 at *
 have HBL1 : Hid (w.heap.size + 1 < w0.heap.size) := Lib.hid (HLay.out.lt 1 rfl)
 have x0_0 := (HLay.out.blk 0 rfl).cell 0
 have x0_1 := (HLay.out.blk 0 rfl).cell 1
 have x0_2 := (HLay.out.blk 0 rfl).cell 2
 have x0_3 := (HLay.out.blk 0 rfl).cell 3
 have l0_ := HLay.out.lt 0 rfl
 gi_wp2
 clear x0_0 x0_1 x0_2 x0_3 l0_
 refine ⟨trivial, (callsIn_wide.2 (rmix_any Av nv cv Aa na ca At nt ct m w0 (HM.out.up HLay.out.1))).mono ?_⟩
 rintro e W1 ⟨rfl, hb⟩
 have HBC := Lib.hid hb
 replace HLay := Lib.hid (HLay.out.below hb)
 clear hb
 cases hk : okMix m with
 | false =>
  have HF : Hid (undoM m = (zeroMix, 40)) := Lib.hid (by unfold undoM; rw [hk]; rfl)
  clear hk
  have x1_0 := (HLay.out.blk 1 rfl).cell 0
  have z1_0 := (HLay.out.blk 1 rfl).frozen 0
  have x1_1 := (HLay.out.blk 1 rfl).cell 1
  have z1_1 := (HLay.out.blk 1 rfl).frozen 1
  have x1_2 := (HLay.out.blk 1 rfl).cell 2
  have z1_2 := (HLay.out.blk 1 rfl).frozen 2
  have x1_3 := (HLay.out.blk 1 rfl).cell 3
  have z1_3 := (HLay.out.blk 1 rfl).frozen 3
  have l1_ := HLay.out.lt 1 rfl
  gi_wp2
  have R4 := ret4' (HLay.out.blk 1 rfl) HLay.out.1 (HLay.out.ge 1 rfl) (.int .i64 0) (.slice none 0 0) (.slice none 0 0) (.slice none 0 0)
  have v0 := R4.1.cell 0
  have v1 := R4.1.cell 1
  have v2 := R4.1.cell 2
  have v3 := R4.1.cell 3
  refine bodyPost_ret (v := .tuple #[.agg #[.int .i64 0, .slice none 0 0, .slice none 0 0, .slice none 0 0], .int .i64 40]) (by simp [results, Try.results38, go_sem, v0, v1, v2, v3]) rfl ?_
  rw [HF.out]
  exact ⟨none, 0, 0, none, 0, 0, none, 0, 0, rfl, MixS.nothing _, R4.2.1⟩
 | true =>
  replace HBL1 : Hid (w.heap.size + 1 < W1.heap.size) := Lib.hid (HLay.out.lt 1 rfl)
  have HK := Lib.hid hk
  have hlim := okMix_vess hk
  have hv4 : nv ≤ 4 := by have := HLV.out; omega
  have ha12 : na ≤ 12 := by have := HLA.out; omega
  have ht8 : nt ≤ 8 := by have := HLT.out; omega
  clear hlim hk
  by_cases h12 : na = 0
  ·
   have HF : Hid (undoM m = (zeroMix, 6)) := Lib.hid (by unfold undoM; rw [if_pos HK.out, if_pos (by rw [HLA.out]; exact h12)])
   have h12a : ((na : Int) == 0) = true := by simp; omega
   have H12 := Lib.hid h12
   clear h12
   have x0_0 := (HLay.out.blk 0 rfl).cell 0
   have x0_1 := (HLay.out.blk 0 rfl).cell 1
   have x0_2 := (HLay.out.blk 0 rfl).cell 2
   have x0_3 := (HLay.out.blk 0 rfl).cell 3
   have l0_ := HLay.out.lt 0 rfl
   have x1_0 := (HLay.out.blk 1 rfl).cell 0
   have z1_0 := (HLay.out.blk 1 rfl).frozen 0
   have x1_1 := (HLay.out.blk 1 rfl).cell 1
   have z1_1 := (HLay.out.blk 1 rfl).frozen 1
   have x1_2 := (HLay.out.blk 1 rfl).cell 2
   have z1_2 := (HLay.out.blk 1 rfl).frozen 2
   have x1_3 := (HLay.out.blk 1 rfl).cell 3
   have z1_3 := (HLay.out.blk 1 rfl).frozen 3
   have l1_ := HLay.out.lt 1 rfl
   gi_wp2
   have R4 := ret4' (HLay.out.blk 1 rfl) HLay.out.1 (HLay.out.ge 1 rfl) (.int .i64 0) (.slice none 0 0) (.slice none 0 0) (.slice none 0 0)
   have v0 := R4.1.cell 0
   have v1 := R4.1.cell 1
   have v2 := R4.1.cell 2
   have v3 := R4.1.cell 3
   refine bodyPost_ret (v := .tuple #[.agg #[.int .i64 0, .slice none 0 0, .slice none 0 0, .slice none 0 0], .int .i64 6]) (by simp [results, Try.results38, go_sem, v0, v1, v2, v3]) rfl ?_
   rw [HF.out]
   exact ⟨none, 0, 0, none, 0, 0, none, 0, 0, rfl, MixS.nothing _, R4.2.1⟩
  ·
   obtain ⟨k, rfl⟩ : ∃ k, na = k + 1 := ⟨na - 1, by omega⟩
   have h12a : (((k + 1 : Nat) : Int) == 0) = false := by simp; omega
   have HF : Hid (undoM m = if okMix (withA m (m.acts.take (m.acts.length - 1))) = true then ((withA m (m.acts.take (m.acts.length - 1))), 0) else (zeroMix, 42)) := Lib.hid (by unfold undoM; rw [if_pos HK.out, if_neg (by rw [HLA.out]; exact h12)])
   have H12 := Lib.hid h12
   clear h12
   have x0_0 := (HLay.out.blk 0 rfl).cell 0
   have x0_1 := (HLay.out.blk 0 rfl).cell 1
   have x0_2 := (HLay.out.blk 0 rfl).cell 2
   have x0_3 := (HLay.out.blk 0 rfl).cell 3
   have l0_ := HLay.out.lt 0 rfl
   gi_wp2
   clear x0_0 x0_1 x0_2 x0_3 l0_
   have HBS := Lib.hid (HLay.out.1.size)
   have HBLL := Lib.hid (HLay.out.lt 1 rfl)
   refine ⟨trivial, (callsIn_wide.2 (callsIn_wide.1 (twin_in Av nv cv Aa (k + 1) ca At nt ct m W1 (HM.out.up HLay.out.1)))).mono ?_⟩
   rintro e W2 ⟨A1, c1, A2, c2, A3, c3, rfl, hmo, hb⟩
   have HWW := Lib.hid hb.size
   replace HLay := Lib.hid (HLay.out.below hb)
   clear hb
   have HMO := Lib.hid hmo
   clear hmo
   gi_upto_region 7 with fail
   obtain ⟨V3, hV⟩ : ∃ V, (W2.alloc (.cells #[.int .i64 m.fountains, .slice A1 nv c1, .slice A2 (k + 1) c2, .slice A3 nt c3] 26)) = V := ⟨_, rfl⟩
   rw [hV]
   have hb := fbox_bel hV
   have hnew := fbox_blk hV
   have hge := HLay.out.bel.size
   replace HLay := Lib.hid (HLay.out.below hb)
   replace HMO := Lib.hid (HMO.out.below hb)
   replace HLay := Lib.hid (HLay.out.add hge hnew)
   clear hnew hge hb hV
   obtain ⟨G4, hG⟩ : ∃ g, W2.heap.size = g := ⟨_, rfl⟩
   rw [hG] at HLay ⊢
   have HG_ := Lib.hid hG
   clear hG
   have x0_0 := (HLay.out.blk 0 rfl).cell 0
   have x0_1 := (HLay.out.blk 0 rfl).cell 1
   have x0_2 := (HLay.out.blk 0 rfl).cell 2
   have x0_3 := (HLay.out.blk 0 rfl).cell 3
   have l0_ := HLay.out.lt 0 rfl
   have x2_0 := (HLay.out.blk 2 rfl).cell 0
   have z2_0 := (HLay.out.blk 2 rfl).frozen 0
   have x2_1 := (HLay.out.blk 2 rfl).cell 1
   have z2_1 := (HLay.out.blk 2 rfl).frozen 1
   have x2_2 := (HLay.out.blk 2 rfl).cell 2
   have z2_2 := (HLay.out.blk 2 rfl).frozen 2
   have x2_3 := (HLay.out.blk 2 rfl).cell 3
   have z2_3 := (HLay.out.blk 2 rfl).frozen 3
   have l2_ := HLay.out.lt 2 rfl
   have hkc : k ≤ ca := by omega
   have hcm : ca ≤ 9223372036854775807 := by unfold maxLen at hcl; omega
   have HAK := Lib.hid (reads_take (k := k) (HM.out.up HLay.out.1).at_.acts (Nat.le_succ k))
   gi_wp2_with (first | (gi_at_builtin; refine wpListIn_append_fresh rfl (.tmp 18) (.tmp 23) (by rfl) elem_act rfl (World.ownsRow_made V3 #[] 0 (Nat.le_refl _) (Nat.zero_le _) (by simp)) rfl (Reads.alloc HAK.out (Nat.le_refl _) _) (fun u hu => act_one m.acts u (List.mem_of_mem_take hu)) (by unfold maxLen; omega) (by omega) (by simp) ?_) | fail)
   clear x0_0 x0_1 x0_2 x0_3 l0_ x2_0 z2_0 x2_1 z2_1 x2_2 z2_2 x2_3 z2_3 l2_
   rintro A9 c9 V5 hown hb hA
   have hbv : Below V3.heap.size V3 V5 := ((Below.refl _ _).alloc (Nat.le_refl _) _).trans (hb.mono (by simp))
   have hwv : W1.heap.size ≤ V3.heap.size := by have := HWW.out; have := HG_.out; have := HLay.out.lt 2 rfl; omega
   have HMO2 := Lib.hid (HMO.out.acts (l := (m.acts.take (m.acts.length - 1))) hbv (by rw [HLA.out, Nat.add_sub_cancel, flat_take act_k]; exact hown) hwv)
   replace HLay := Lib.hid (HLay.out.below hbv)
   clear hown hb hA hbv hwv
   have x2_0 := (HLay.out.blk 2 rfl).cell 0
   have z2_0 := (HLay.out.blk 2 rfl).frozen 0
   have x2_1 := (HLay.out.blk 2 rfl).cell 1
   have z2_1 := (HLay.out.blk 2 rfl).frozen 1
   have x2_2 := (HLay.out.blk 2 rfl).cell 2
   have z2_2 := (HLay.out.blk 2 rfl).frozen 2
   have x2_3 := (HLay.out.blk 2 rfl).cell 3
   have z2_3 := (HLay.out.blk 2 rfl).frozen 3
   have l2_ := HLay.out.lt 2 rfl
   gi_upto_region 8 with fail
   clear x2_0 z2_0 x2_1 z2_1 x2_2 z2_2 x2_3 z2_3 l2_
   have hne : ∀ b ∈ ([(w.heap.size, 26, #[.int .i64 m.fountains, .slice Av nv cv, .slice Aa (k + 1) ca, .slice At nt ct]), (w.heap.size + 1, 26, #[.int .i64 0, .slice none 0 0, .slice none 0 0, .slice none 0 0])] : List (Nat × TypeId × Array Value)), b.1 ≠ G4 := fun b hb => by
    have := HWW.out; have := HG_.out; have := HBLL.out
    simp only [List.mem_cons, List.not_mem_nil, or_false] at hb
    rcases hb with rfl | rfl <;> dsimp only <;> omega
   have hgs := grown_setCell (row := some G4) (grown_refl V5 _) (p := ⟨G4, 2, none⟩) (.inl rfl) (.slice A9 k c9)
   have HMO3 := Lib.hid (HMO2.out.offB (HLay.out.blk 2 rfl) hgs)
   have hl := Lay.setLast HLay.out hne 2 (.slice A9 k c9)
   generalize V5.setCell ⟨G4, 2, none⟩ (.slice A9 k c9) = V6 at *
   replace HLay := Lib.hid (show Lay w V6 [(w.heap.size, 26, #[.int .i64 m.fountains, .slice Av nv cv, .slice Aa (k + 1) ca, .slice At nt ct]), (w.heap.size + 1, 26, #[.int .i64 0, .slice none 0 0, .slice none 0 0, .slice none 0 0]), (G4, 26, #[.int .i64 m.fountains, .slice A1 nv c1, .slice A9 k c9, .slice A3 nt c3])] from hl)
   replace HMO := HMO3
   clear hgs hl HMO2 HMO3 hne
   have x2_0 := (HLay.out.blk 2 rfl).cell 0
   have x2_1 := (HLay.out.blk 2 rfl).cell 1
   have x2_2 := (HLay.out.blk 2 rfl).cell 2
   have x2_3 := (HLay.out.blk 2 rfl).cell 3
   have l2_ := HLay.out.lt 2 rfl
   gi_wp2
   clear x2_0 x2_1 x2_2 x2_3 l2_
   refine ⟨trivial, (callsIn_wide.2 (rmix_any A1 nv c1 A9 k c9 A3 nt c3 (withA m (m.acts.take (m.acts.length - 1))) V6 (HMO.out.s hnv (by omega) hnt))).mono ?_⟩
   rintro e W7 ⟨rfl, hb⟩
   have HBC := Lib.hid hb
   replace HLay := Lib.hid (HLay.out.below hb)
   clear hb
   cases hk : okMix (withA m (m.acts.take (m.acts.length - 1))) with
   | false =>
    replace HF : Hid (undoM m = (zeroMix, 42)) := Lib.hid (by rw [HF.out, hk]; rfl)
    clear hk HMO
    have x1_0 := (HLay.out.blk 1 rfl).cell 0
    have z1_0 := (HLay.out.blk 1 rfl).frozen 0
    have x1_1 := (HLay.out.blk 1 rfl).cell 1
    have z1_1 := (HLay.out.blk 1 rfl).frozen 1
    have x1_2 := (HLay.out.blk 1 rfl).cell 2
    have z1_2 := (HLay.out.blk 1 rfl).frozen 2
    have x1_3 := (HLay.out.blk 1 rfl).cell 3
    have z1_3 := (HLay.out.blk 1 rfl).frozen 3
    have l1_ := HLay.out.lt 1 rfl
    gi_wp2
    have R4 := ret4' (HLay.out.blk 1 rfl) HLay.out.1 (HLay.out.ge 1 rfl) (.int .i64 0) (.slice none 0 0) (.slice none 0 0) (.slice none 0 0)
    have v0 := R4.1.cell 0
    have v1 := R4.1.cell 1
    have v2 := R4.1.cell 2
    have v3 := R4.1.cell 3
    refine bodyPost_ret (v := .tuple #[.agg #[.int .i64 0, .slice none 0 0, .slice none 0 0, .slice none 0 0], .int .i64 42]) (by simp [results, Try.results38, go_sem, v0, v1, v2, v3]) rfl ?_
    rw [HF.out]
    exact ⟨none, 0, 0, none, 0, 0, none, 0, 0, rfl, MixS.nothing _, R4.2.1⟩
   | true =>
    replace HF : Hid (undoM m = ((withA m (m.acts.take (m.acts.length - 1))), 0)) := Lib.hid (by rw [HF.out, hk]; rfl)
    replace HMO := Lib.hid (HMO.out.below HBC.out)
    clear hk
    have x2_0 := (HLay.out.blk 2 rfl).cell 0
    have x2_1 := (HLay.out.blk 2 rfl).cell 1
    have x2_2 := (HLay.out.blk 2 rfl).cell 2
    have x2_3 := (HLay.out.blk 2 rfl).cell 3
    have l2_ := HLay.out.lt 2 rfl
    have r0 := (HLay.out.blk 1 rfl).cell 0
    have rz0 := (HLay.out.blk 1 rfl).frozen 0
    have r1 := (HLay.out.blk 1 rfl).cell 1
    have rz1 := (HLay.out.blk 1 rfl).frozen 1
    have r2 := (HLay.out.blk 1 rfl).cell 2
    have rz2 := (HLay.out.blk 1 rfl).frozen 2
    have r3 := (HLay.out.blk 1 rfl).cell 3
    have rz3 := (HLay.out.blk 1 rfl).frozen 3
    have rl := HLay.out.lt 1 rfl
    gi_wp2
    have R4 := ret4' (HLay.out.blk 1 rfl) HLay.out.1 (HLay.out.ge 1 rfl) (.int .i64 m.fountains) (.slice A1 nv c1) (.slice A9 k c9) (.slice A3 nt c3)
    have v0 := R4.1.cell 0
    have v1 := R4.1.cell 1
    have v2 := R4.1.cell 2
    have v3 := R4.1.cell 3
    refine bodyPost_ret (v := .tuple #[.agg #[.int .i64 m.fountains, .slice A1 nv c1, .slice A9 k c9, .slice A3 nt c3], .int .i64 0]) (by simp [results, Try.results38, go_sem, v0, v1, v2, v3]) rfl ?_
    rw [HF.out]
    exact ⟨_, _, _, _, _, _, _, _, _, rfl, (HMO.out.offB (HLay.out.blk 1 rfl) R4.2.2).s (by omega) (by omega) (by omega), R4.2.1⟩

end Go.Proofs.Ythofngceiecniaa
/- aguadorref04.Do. -/
namespace Go.Proofs.Ythofngceiecniaa
open Go.RowKit

set_option maxRecDepth 100000 in
set_option maxHeartbeats 16000000 in
theorem rdo_in (Av : Option Addr) (nv cv : Nat) (Aa : Option Addr) (na ca : Nat) (At : Option Addr) (nt ct : Nat) (m : Mix) (x : MAct) (w : World) (h : MixS w Av nv Aa na At nt m) :
  CallsIn Fence.wide 9 Try.prog 36 #[.agg #[.int .i64 m.fountains, .slice Av nv cv, .slice Aa na ca, .slice At nt ct], .agg #[.int .i64 x.kind, .int .i64 x.fr, .int .i64 x.to, .int .i64 x.drops]] w (RefOut w (doM m x)) := by
 have HM := Lib.hid h
 have HLV := Lib.hid h.at_.lenV
 have HLA := Lib.hid h.at_.lenA
 have HLT := Lib.hid h.at_.lenT
 have hnv := h.hv
 have hna := h.ha
 have hnt := h.ht
 clear h
 refine callsIn_of_wp Try.func36 rfl trivial ?_ rfl
 simp only [Try.ntmps36, List.size_toArray, List.length_cons, List.length_nil, Nat.reduceAdd, Nat.reduceSub, Array.replicate_succ, Array.replicate_zero, List.push_toArray, List.append_toArray, List.nil_append, List.cons_append]
 gi_upto_region 1 with fail
 have HLay := Lib.hid (Lay.three w 26 #[.int .i64 m.fountains, .slice Av nv cv, .slice Aa na ca, .slice At nt ct] 67 #[.int .i64 x.kind, .int .i64 x.fr, .int .i64 x.to, .int .i64 x.drops] 26 #[.int .i64 0, .slice none 0 0, .slice none 0 0, .slice none 0 0])
 generalize (((w.alloc (.cells #[.int .i64 m.fountains, .slice Av nv cv, .slice Aa na ca, .slice At nt ct] 26)).alloc (.cells #[.int .i64 x.kind, .int .i64 x.fr, .int .i64 x.to, .int .i64 x.drops] 67)).alloc (.cells #[.int .i64 0, .slice none 0 0, .slice none 0 0, .slice none 0 0] 26)) = w0 at *
 have x0_0 := (HLay.out.blk 0 rfl).cell 0
 have x0_1 := (HLay.out.blk 0 rfl).cell 1
 have x0_2 := (HLay.out.blk 0 rfl).cell 2
 have x0_3 := (HLay.out.blk 0 rfl).cell 3
 have l0_ := HLay.out.lt 0 rfl
 gi_wp2
 clear x0_0 x0_1 x0_2 x0_3 l0_
 refine ⟨trivial, (callsIn_wide.2 (rmix_any Av nv cv Aa na ca At nt ct m w0 (HM.out.up HLay.out.1))).mono ?_⟩
 rintro e W1 ⟨rfl, hb⟩
 have HBC := Lib.hid hb
 replace HLay := Lib.hid (HLay.out.below hb)
 clear hb
 cases hk : okMix m with
 | false =>
  have HF : Hid (doM m x = (zeroMix, 40)) := Lib.hid (by rw [doM_bad hk])
  clear hk
  have x2_0 := (HLay.out.blk 2 rfl).cell 0
  have z2_0 := (HLay.out.blk 2 rfl).frozen 0
  have x2_1 := (HLay.out.blk 2 rfl).cell 1
  have z2_1 := (HLay.out.blk 2 rfl).frozen 1
  have x2_2 := (HLay.out.blk 2 rfl).cell 2
  have z2_2 := (HLay.out.blk 2 rfl).frozen 2
  have x2_3 := (HLay.out.blk 2 rfl).cell 3
  have z2_3 := (HLay.out.blk 2 rfl).frozen 3
  have l2_ := HLay.out.lt 2 rfl
  gi_wp2
  have R4 := ret4' (HLay.out.blk 2 rfl) HLay.out.1 (HLay.out.ge 2 rfl) (.int .i64 0) (.slice none 0 0) (.slice none 0 0) (.slice none 0 0)
  have v0 := R4.1.cell 0
  have v1 := R4.1.cell 1
  have v2 := R4.1.cell 2
  have v3 := R4.1.cell 3
  refine bodyPost_ret (v := .tuple #[.agg #[.int .i64 0, .slice none 0 0, .slice none 0 0, .slice none 0 0], .int .i64 40]) (by simp [results, Try.results36, go_sem, v0, v1, v2, v3]) rfl ?_
  rw [HF.out]
  exact ⟨none, 0, 0, none, 0, 0, none, 0, 0, rfl, MixS.nothing _, R4.2.1⟩
 | true =>
  have HK := Lib.hid hk
  have hlim := okMix_vess hk
  have HRI := Lib.hid (okMix_rise hk)
  have hv4 : nv ≤ 4 := by have := HLV.out; omega
  have ha12 : na ≤ 12 := by have := HLA.out; omega
  have ht8 : nt ≤ 8 := by have := HLT.out; omega
  clear hlim hk
  by_cases h12 : na = 12
  ·
   have HF : Hid (doM m x = (zeroMix, 9)) := Lib.hid (by rw [doM_ok HK.out, if_pos (by rw [HLA.out]; exact h12)])
   have h12a : ((na : Int) == 12) = true := by simp; omega
   have H12 := Lib.hid h12
   clear h12
   have x0_0 := (HLay.out.blk 0 rfl).cell 0
   have x0_1 := (HLay.out.blk 0 rfl).cell 1
   have x0_2 := (HLay.out.blk 0 rfl).cell 2
   have x0_3 := (HLay.out.blk 0 rfl).cell 3
   have l0_ := HLay.out.lt 0 rfl
   have x2_0 := (HLay.out.blk 2 rfl).cell 0
   have z2_0 := (HLay.out.blk 2 rfl).frozen 0
   have x2_1 := (HLay.out.blk 2 rfl).cell 1
   have z2_1 := (HLay.out.blk 2 rfl).frozen 1
   have x2_2 := (HLay.out.blk 2 rfl).cell 2
   have z2_2 := (HLay.out.blk 2 rfl).frozen 2
   have x2_3 := (HLay.out.blk 2 rfl).cell 3
   have z2_3 := (HLay.out.blk 2 rfl).frozen 3
   have l2_ := HLay.out.lt 2 rfl
   gi_wp2
   have R4 := ret4' (HLay.out.blk 2 rfl) HLay.out.1 (HLay.out.ge 2 rfl) (.int .i64 0) (.slice none 0 0) (.slice none 0 0) (.slice none 0 0)
   have v0 := R4.1.cell 0
   have v1 := R4.1.cell 1
   have v2 := R4.1.cell 2
   have v3 := R4.1.cell 3
   refine bodyPost_ret (v := .tuple #[.agg #[.int .i64 0, .slice none 0 0, .slice none 0 0, .slice none 0 0], .int .i64 9]) (by simp [results, Try.results36, go_sem, v0, v1, v2, v3]) rfl ?_
   rw [HF.out]
   exact ⟨none, 0, 0, none, 0, 0, none, 0, 0, rfl, MixS.nothing _, R4.2.1⟩
  ·
   have h12a : ((na : Int) == 12) = false := by simp; omega
   have HF : Hid (doM m x = if okMix (withA m (m.acts ++ [x])) = true then ((withA m (m.acts ++ [x])), 0) else (zeroMix, 41)) := Lib.hid (by rw [doM_ok HK.out, if_neg (by rw [HLA.out]; exact h12)])
   have H12 := Lib.hid h12
   clear h12
   have x0_0 := (HLay.out.blk 0 rfl).cell 0
   have x0_1 := (HLay.out.blk 0 rfl).cell 1
   have x0_2 := (HLay.out.blk 0 rfl).cell 2
   have x0_3 := (HLay.out.blk 0 rfl).cell 3
   have l0_ := HLay.out.lt 0 rfl
   gi_wp2
   clear x0_0 x0_1 x0_2 x0_3 l0_
   have HBS := Lib.hid (HLay.out.1.size)
   have HBLL := Lib.hid (HLay.out.lt 2 rfl)
   refine ⟨trivial, (callsIn_wide.2 (callsIn_wide.1 (twin_in Av nv cv Aa na ca At nt ct m W1 (HM.out.up HLay.out.1)))).mono ?_⟩
   rintro e W2 ⟨A1, c1, A2, c2, A3, c3, rfl, hmo, hb⟩
   have HWW := Lib.hid hb.size
   replace HLay := Lib.hid (HLay.out.below hb)
   clear hb
   have HMO := Lib.hid hmo
   clear hmo
   gi_upto_region 6 with fail
   obtain ⟨V3, hV⟩ : ∃ V, (W2.alloc (.cells #[.int .i64 m.fountains, .slice A1 nv c1, .slice A2 na c2, .slice A3 nt c3] 26)) = V := ⟨_, rfl⟩
   rw [hV]
   have hb := fbox_bel hV
   have hnew := fbox_blk hV
   have hge := HLay.out.bel.size
   replace HLay := Lib.hid (HLay.out.below hb)
   replace HMO := Lib.hid (HMO.out.below hb)
   replace HLay := Lib.hid (HLay.out.add hge hnew)
   clear hnew hge hb hV
   obtain ⟨G4, hG⟩ : ∃ g, W2.heap.size = g := ⟨_, rfl⟩
   rw [hG] at HLay ⊢
   have HG_ := Lib.hid hG
   clear hG
   refine wpIn_region_stepsD (by kernel_rfl) (by kernel_rfl) (fun σ : RdGh × (Nat → Value) => { tmps := #[.agg #[.int .i64 m.fountains, .slice Av nv cv, .slice Aa na ca, .slice At nt ct], .agg #[.int .i64 x.kind, .int .i64 x.fr, .int .i64 x.to, .int .i64 x.drops], .pointer (some ⟨w.heap.size, 0, none⟩), .pointer (some ⟨w.heap.size + 1, 0, none⟩), .pointer (some ⟨w.heap.size + 1 + 1, 0, none⟩), .int .i64 0, .pointer (some ⟨G4, 0, none⟩), .agg #[.int .i64 m.fountains, .slice Av nv cv, .slice Aa na ca, .slice At nt ct], .bool true, .bool false, undef, .pointer (some ⟨w.heap.size, 2, none⟩), .slice Aa na ca, .int .i64 na, .bool false, undef, .agg #[.int .i64 m.fountains, .slice Av nv cv, .slice Aa na ca, .slice At nt ct], .agg #[.int .i64 m.fountains, .slice A1 nv c1, .slice A2 na c2, .slice A3 nt c3], σ.2 18, σ.2 19, σ.2 20, σ.2 21, σ.2 22, σ.2 23, σ.2 24, σ.2 25, undef, undef, undef, undef, undef], defers := [] })
    (fun L σ W => (L 8 = false → Below V3.heap.size V3 W) ∧ (L 0 = true → L 3 = false → Own W V3.heap.size 67 4 (some ⟨σ.1.e1, 0, none⟩) 0 0 []) ∧ (L 3 = true → L 6 = false → Own W V3.heap.size 67 4 σ.1.A1 na σ.1.k1 (m.acts.flatMap MAct.vals)) ∧ (L 5 = true → L 6 = false → Reads W W.heap.size 4 (some ⟨σ.1.e2, 0, none⟩) 1 x.vals) ∧ (L 6 = true → L 8 = false → Own W V3.heap.size 67 4 σ.1.A9 (na + 1) σ.1.k9 ((m.acts.flatMap MAct.vals) ++ x.vals)) ∧ (L 8 = true → ∃ V, Below V3.heap.size V3 V ∧ Own V V3.heap.size 67 4 σ.1.A9 (na + 1) σ.1.k9 ((m.acts.flatMap MAct.vals) ++ x.vals) ∧ W = V.setCell ⟨G4, 2, none⟩ (.slice σ.1.A9 (na + 1) σ.1.k9)) ∧ (L 0 = true → σ.2 18 = .slice (some ⟨σ.1.e1, 0, none⟩) 0 0) ∧ (L 1 = true → σ.2 19 = .pointer (some ⟨w.heap.size, 2, none⟩)) ∧ (L 2 = true → σ.2 20 = .slice Aa na ca) ∧ (L 3 = true → σ.2 21 = .slice σ.1.A1 na σ.1.k1) ∧ (L 4 = true → σ.2 22 = .agg #[.int .i64 x.kind, .int .i64 x.fr, .int .i64 x.to, .int .i64 x.drops]) ∧ (L 5 = true → σ.2 23 = .slice (some ⟨σ.1.e2, 0, none⟩) 1 1) ∧ (L 6 = true → σ.2 24 = .slice σ.1.A9 (na + 1) σ.1.k9) ∧ (L 7 = true → σ.2 25 = .pointer (some ⟨G4, 2, none⟩)))
    (⟨0, 0, none, 0, none, 0⟩, fun k => undef) rfl ?_ ?_ ?_
   ·exact ⟨(fun _ => below_drewN (Below.refl _ _) 1), (fun h => by cases h), (fun h => by cases h), (fun h => by cases h), (fun h => by cases h), (fun h => by cases h), (fun h => by cases h), (fun h => by cases h), (fun h => by cases h), (fun h => by cases h), (fun h => by cases h), (fun h => by cases h), (fun h => by cases h), (fun h => by cases h)⟩
   ·refine ⟨?_, ?_, ?_, ?_, ?_, ?_, ?_, ?_, ?_, trivial⟩
    ·rintro L ⟨gh, s⟩ W hu hd hdn ⟨g1, q1, a1, n1, a9, r8, f0, f1, f2, f3, f4, f5, f6, f7⟩ K Q hK
     try dsimp only at g1 q1 a1 n1 a9 r8 f0 f1 f2 f3 f4 f5 f6 f7 ⊢
     have h8 : L 8 = false := by
      cases hc : L 8 with
      | false => rfl
      | true => exact hdn.no 8 0 hc rfl hu
     have HSZ8 := Lib.hid (g1 h8).size
     have HF := Lib.hid (show (L 8 = false → Below V3.heap.size V3 W) ∧ (L 0 = true → L 3 = false → Own W V3.heap.size 67 4 (some ⟨gh.e1, 0, none⟩) 0 0 []) ∧ (L 3 = true → L 6 = false → Own W V3.heap.size 67 4 gh.A1 na gh.k1 (m.acts.flatMap MAct.vals)) ∧ (L 5 = true → L 6 = false → Reads W W.heap.size 4 (some ⟨gh.e2, 0, none⟩) 1 x.vals) ∧ (L 6 = true → L 8 = false → Own W V3.heap.size 67 4 gh.A9 (na + 1) gh.k9 ((m.acts.flatMap MAct.vals) ++ x.vals)) ∧ (L 8 = true → ∃ V, Below V3.heap.size V3 V ∧ Own V V3.heap.size 67 4 gh.A9 (na + 1) gh.k9 ((m.acts.flatMap MAct.vals) ++ x.vals) ∧ W = V.setCell ⟨G4, 2, none⟩ (.slice gh.A9 (na + 1) gh.k9)) ∧ (L 0 = true → s 18 = .slice (some ⟨gh.e1, 0, none⟩) 0 0) ∧ (L 1 = true → s 19 = .pointer (some ⟨w.heap.size, 2, none⟩)) ∧ (L 2 = true → s 20 = .slice Aa na ca) ∧ (L 3 = true → s 21 = .slice gh.A1 na gh.k1) ∧ (L 4 = true → s 22 = .agg #[.int .i64 x.kind, .int .i64 x.fr, .int .i64 x.to, .int .i64 x.drops]) ∧ (L 5 = true → s 23 = .slice (some ⟨gh.e2, 0, none⟩) 1 1) ∧ (L 6 = true → s 24 = .slice gh.A9 (na + 1) gh.k9) ∧ (L 7 = true → s 25 = .pointer (some ⟨G4, 2, none⟩)) from ⟨g1, q1, a1, n1, a9, r8, f0, f1, f2, f3, f4, f5, f6, f7⟩)
     clear f7 f6 f5 f4 f3 f2 f1 f0 r8 a9 n1 a1 q1 g1 hd
     try simp only
     gi_wp2
     obtain ⟨g1, q1, a1, n1, a9, r8, f0, f1, f2, f3, f4, f5, f6, f7⟩ := HF.out
     have hb : Below W.heap.size W (W.alloc (.cells #[] 67)) := (Below.refl _ _).alloc (Nat.le_refl _) _
     exact hK ({ gh with e1 := W.heap.size }, (upd s 18 (.slice (some ⟨W.heap.size, 0, none⟩) 0 0))) _ ⟨(fun h => (g1 h).trans (hb.mono (g1 h).size)), (fun _ _ => World.ownsRow_made W #[] 0 HSZ8.out (Nat.zero_le _) (by simp)), (fun h q => (a1 h q).below hb (Nat.le_refl _)), (fun h q => ((n1 h q).below hb).more hb.size), (fun h q => (a9 h q).below hb (Nat.le_refl _)), (fun h => absurd (h8.symm.trans h) (by decide)), (fun _ => rfl), f1, f2, f3, f4, f5, f6, f7⟩
    ·rintro L ⟨gh, s⟩ W hu hd hdn ⟨g1, q1, a1, n1, a9, r8, f0, f1, f2, f3, f4, f5, f6, f7⟩ K Q hK
     try dsimp only at g1 q1 a1 n1 a9 r8 f0 f1 f2 f3 f4 f5 f6 f7 ⊢
     have tl0 := HLay.out.lt 0 rfl
     have HF := Lib.hid (show (L 8 = false → Below V3.heap.size V3 W) ∧ (L 0 = true → L 3 = false → Own W V3.heap.size 67 4 (some ⟨gh.e1, 0, none⟩) 0 0 []) ∧ (L 3 = true → L 6 = false → Own W V3.heap.size 67 4 gh.A1 na gh.k1 (m.acts.flatMap MAct.vals)) ∧ (L 5 = true → L 6 = false → Reads W W.heap.size 4 (some ⟨gh.e2, 0, none⟩) 1 x.vals) ∧ (L 6 = true → L 8 = false → Own W V3.heap.size 67 4 gh.A9 (na + 1) gh.k9 ((m.acts.flatMap MAct.vals) ++ x.vals)) ∧ (L 8 = true → ∃ V, Below V3.heap.size V3 V ∧ Own V V3.heap.size 67 4 gh.A9 (na + 1) gh.k9 ((m.acts.flatMap MAct.vals) ++ x.vals) ∧ W = V.setCell ⟨G4, 2, none⟩ (.slice gh.A9 (na + 1) gh.k9)) ∧ (L 0 = true → s 18 = .slice (some ⟨gh.e1, 0, none⟩) 0 0) ∧ (L 1 = true → s 19 = .pointer (some ⟨w.heap.size, 2, none⟩)) ∧ (L 2 = true → s 20 = .slice Aa na ca) ∧ (L 3 = true → s 21 = .slice gh.A1 na gh.k1) ∧ (L 4 = true → s 22 = .agg #[.int .i64 x.kind, .int .i64 x.fr, .int .i64 x.to, .int .i64 x.drops]) ∧ (L 5 = true → s 23 = .slice (some ⟨gh.e2, 0, none⟩) 1 1) ∧ (L 6 = true → s 24 = .slice gh.A9 (na + 1) gh.k9) ∧ (L 7 = true → s 25 = .pointer (some ⟨G4, 2, none⟩)) from ⟨g1, q1, a1, n1, a9, r8, f0, f1, f2, f3, f4, f5, f6, f7⟩)
     clear f7 f6 f5 f4 f3 f2 f1 f0 r8 a9 n1 a1 q1 g1 hd
     try simp only
     gi_wp2
     obtain ⟨g1, q1, a1, n1, a9, r8, f0, f1, f2, f3, f4, f5, f6, f7⟩ := HF.out
     exact hK (gh, (upd s 19 (.pointer (some ⟨w.heap.size, 2, none⟩)))) _ ⟨g1, q1, a1, n1, a9, r8, f0, (fun _ => rfl), f2, f3, f4, f5, f6, f7⟩
    ·rintro L ⟨gh, s⟩ W hu hd hdn ⟨g1, q1, a1, n1, a9, r8, f0, f1, f2, f3, f4, f5, f6, f7⟩ K Q hK
     try dsimp only at g1 q1 a1 n1 a9 r8 f0 f1 f2 f3 f4 f5 f6 f7 ⊢
     have e1 := f1 (hd.at_ 1 rfl)
     have h8 : L 8 = false := by
      cases hc : L 8 with
      | false => rfl
      | true => exact hdn.no 8 2 hc rfl hu
     have c0 : W.cell? ⟨w.heap.size, 2, none⟩ = some (.slice Aa na ca) := ((HLay.out.below (g1 h8)).blk 0 rfl).cell 2
     have HF := Lib.hid (show (L 8 = false → Below V3.heap.size V3 W) ∧ (L 0 = true → L 3 = false → Own W V3.heap.size 67 4 (some ⟨gh.e1, 0, none⟩) 0 0 []) ∧ (L 3 = true → L 6 = false → Own W V3.heap.size 67 4 gh.A1 na gh.k1 (m.acts.flatMap MAct.vals)) ∧ (L 5 = true → L 6 = false → Reads W W.heap.size 4 (some ⟨gh.e2, 0, none⟩) 1 x.vals) ∧ (L 6 = true → L 8 = false → Own W V3.heap.size 67 4 gh.A9 (na + 1) gh.k9 ((m.acts.flatMap MAct.vals) ++ x.vals)) ∧ (L 8 = true → ∃ V, Below V3.heap.size V3 V ∧ Own V V3.heap.size 67 4 gh.A9 (na + 1) gh.k9 ((m.acts.flatMap MAct.vals) ++ x.vals) ∧ W = V.setCell ⟨G4, 2, none⟩ (.slice gh.A9 (na + 1) gh.k9)) ∧ (L 0 = true → s 18 = .slice (some ⟨gh.e1, 0, none⟩) 0 0) ∧ (L 1 = true → s 19 = .pointer (some ⟨w.heap.size, 2, none⟩)) ∧ (L 2 = true → s 20 = .slice Aa na ca) ∧ (L 3 = true → s 21 = .slice gh.A1 na gh.k1) ∧ (L 4 = true → s 22 = .agg #[.int .i64 x.kind, .int .i64 x.fr, .int .i64 x.to, .int .i64 x.drops]) ∧ (L 5 = true → s 23 = .slice (some ⟨gh.e2, 0, none⟩) 1 1) ∧ (L 6 = true → s 24 = .slice gh.A9 (na + 1) gh.k9) ∧ (L 7 = true → s 25 = .pointer (some ⟨G4, 2, none⟩)) from ⟨g1, q1, a1, n1, a9, r8, f0, f1, f2, f3, f4, f5, f6, f7⟩)
     clear f7 f6 f5 f4 f3 f2 f1 f0 r8 a9 n1 a1 q1 g1 hd
     try simp only at e1 ⊢
     gi_wp2
     obtain ⟨g1, q1, a1, n1, a9, r8, f0, f1, f2, f3, f4, f5, f6, f7⟩ := HF.out
     exact hK (gh, (upd (upd s 19 (.pointer (some ⟨w.heap.size, 2, none⟩))) 20 (.slice Aa na ca))) _ ⟨g1, q1, a1, n1, a9, r8, f0, (fun _ => rfl), (fun _ => rfl), f3, f4, f5, f6, f7⟩
    ·rintro L ⟨gh, s⟩ W hu hd hdn ⟨g1, q1, a1, n1, a9, r8, f0, f1, f2, f3, f4, f5, f6, f7⟩ K Q hK
     try dsimp only at g1 q1 a1 n1 a9 r8 f0 f1 f2 f3 f4 f5 f6 f7 ⊢
     have e0 := f0 (hd.at_ 0 rfl)
     have e2 := f2 (hd.at_ 2 rfl)
     have h6 : L 6 = false := by
      cases hc : L 6 with
      | false => rfl
      | true => exact hdn.no 6 3 hc rfl hu
     have h8 : L 8 = false := by
      cases hc : L 8 with
      | false => rfl
      | true => exact hdn.no 8 3 hc rfl hu
     have HE := Lib.hid (q1 (hd.at_ 0 rfl) hu)
     have HG1 := Lib.hid (g1 h8)
     have HSZ8 := Lib.hid (g1 h8).size
     have HF := Lib.hid (show (L 8 = false → Below V3.heap.size V3 W) ∧ (L 0 = true → L 3 = false → Own W V3.heap.size 67 4 (some ⟨gh.e1, 0, none⟩) 0 0 []) ∧ (L 3 = true → L 6 = false → Own W V3.heap.size 67 4 gh.A1 na gh.k1 (m.acts.flatMap MAct.vals)) ∧ (L 5 = true → L 6 = false → Reads W W.heap.size 4 (some ⟨gh.e2, 0, none⟩) 1 x.vals) ∧ (L 6 = true → L 8 = false → Own W V3.heap.size 67 4 gh.A9 (na + 1) gh.k9 ((m.acts.flatMap MAct.vals) ++ x.vals)) ∧ (L 8 = true → ∃ V, Below V3.heap.size V3 V ∧ Own V V3.heap.size 67 4 gh.A9 (na + 1) gh.k9 ((m.acts.flatMap MAct.vals) ++ x.vals) ∧ W = V.setCell ⟨G4, 2, none⟩ (.slice gh.A9 (na + 1) gh.k9)) ∧ (L 0 = true → s 18 = .slice (some ⟨gh.e1, 0, none⟩) 0 0) ∧ (L 1 = true → s 19 = .pointer (some ⟨w.heap.size, 2, none⟩)) ∧ (L 2 = true → s 20 = .slice Aa na ca) ∧ (L 3 = true → s 21 = .slice gh.A1 na gh.k1) ∧ (L 4 = true → s 22 = .agg #[.int .i64 x.kind, .int .i64 x.fr, .int .i64 x.to, .int .i64 x.drops]) ∧ (L 5 = true → s 23 = .slice (some ⟨gh.e2, 0, none⟩) 1 1) ∧ (L 6 = true → s 24 = .slice gh.A9 (na + 1) gh.k9) ∧ (L 7 = true → s 25 = .pointer (some ⟨G4, 2, none⟩)) from ⟨g1, q1, a1, n1, a9, r8, f0, f1, f2, f3, f4, f5, f6, f7⟩)
     clear f7 f6 f5 f4 f3 f2 f1 f0 r8 a9 n1 a1 q1 g1 hd
     try simp only at e0 e2 ⊢
     gi_wp2_with (first | (gi_at_builtin; refine wpListIn_append_fresh rfl (.tmp 18) (.tmp 20) (by rfl) elem_act e0 HE.out e2 ((HM.out.up (HLay.out.below HG1.out).1).at_.acts) (act_one m.acts) (by unfold maxLen; omega) (by omega) HSZ8.out ?_) | fail)
     rintro AN cN W1 hO hb hA
     gi_wp2
     obtain ⟨g1, q1, a1, n1, a9, r8, f0, f1, f2, f3, f4, f5, f6, f7⟩ := HF.out
     exact hK ({ gh with A1 := AN, k1 := cN }, (upd (upd (upd s 18 (.slice (some ⟨gh.e1, 0, none⟩) 0 0)) 20 (.slice Aa na ca)) 21 (.slice AN na cN))) _ ⟨(fun h => (g1 h).trans (hb.mono (g1 h).size)), (fun _ h => by cases h), (fun _ _ => hO), (fun h q => ((n1 h q).below hb).more hb.size), (fun h => absurd (h6.symm.trans h) (by decide)), (fun h => absurd (h8.symm.trans h) (by decide)), (fun _ => rfl), f1, (fun _ => rfl), (fun _ => rfl), f4, f5, f6, f7⟩
    ·rintro L ⟨gh, s⟩ W hu hd hdn ⟨g1, q1, a1, n1, a9, r8, f0, f1, f2, f3, f4, f5, f6, f7⟩ K Q hK
     try dsimp only at g1 q1 a1 n1 a9 r8 f0 f1 f2 f3 f4 f5 f6 f7 ⊢
     have h8 : L 8 = false := by
      cases hc : L 8 with
      | false => rfl
      | true => exact hdn.no 8 4 hc rfl hu
     have c0 : W.cell? ⟨w.heap.size + 1, 0, none⟩ = some (.int .i64 x.kind) := ((HLay.out.below (g1 h8)).blk 1 rfl).cell 0
     have c1 : W.cell? ⟨w.heap.size + 1, 1, none⟩ = some (.int .i64 x.fr) := ((HLay.out.below (g1 h8)).blk 1 rfl).cell 1
     have c2 : W.cell? ⟨w.heap.size + 1, 2, none⟩ = some (.int .i64 x.to) := ((HLay.out.below (g1 h8)).blk 1 rfl).cell 2
     have c3 : W.cell? ⟨w.heap.size + 1, 3, none⟩ = some (.int .i64 x.drops) := ((HLay.out.below (g1 h8)).blk 1 rfl).cell 3
     have HF := Lib.hid (show (L 8 = false → Below V3.heap.size V3 W) ∧ (L 0 = true → L 3 = false → Own W V3.heap.size 67 4 (some ⟨gh.e1, 0, none⟩) 0 0 []) ∧ (L 3 = true → L 6 = false → Own W V3.heap.size 67 4 gh.A1 na gh.k1 (m.acts.flatMap MAct.vals)) ∧ (L 5 = true → L 6 = false → Reads W W.heap.size 4 (some ⟨gh.e2, 0, none⟩) 1 x.vals) ∧ (L 6 = true → L 8 = false → Own W V3.heap.size 67 4 gh.A9 (na + 1) gh.k9 ((m.acts.flatMap MAct.vals) ++ x.vals)) ∧ (L 8 = true → ∃ V, Below V3.heap.size V3 V ∧ Own V V3.heap.size 67 4 gh.A9 (na + 1) gh.k9 ((m.acts.flatMap MAct.vals) ++ x.vals) ∧ W = V.setCell ⟨G4, 2, none⟩ (.slice gh.A9 (na + 1) gh.k9)) ∧ (L 0 = true → s 18 = .slice (some ⟨gh.e1, 0, none⟩) 0 0) ∧ (L 1 = true → s 19 = .pointer (some ⟨w.heap.size, 2, none⟩)) ∧ (L 2 = true → s 20 = .slice Aa na ca) ∧ (L 3 = true → s 21 = .slice gh.A1 na gh.k1) ∧ (L 4 = true → s 22 = .agg #[.int .i64 x.kind, .int .i64 x.fr, .int .i64 x.to, .int .i64 x.drops]) ∧ (L 5 = true → s 23 = .slice (some ⟨gh.e2, 0, none⟩) 1 1) ∧ (L 6 = true → s 24 = .slice gh.A9 (na + 1) gh.k9) ∧ (L 7 = true → s 25 = .pointer (some ⟨G4, 2, none⟩)) from ⟨g1, q1, a1, n1, a9, r8, f0, f1, f2, f3, f4, f5, f6, f7⟩)
     clear f7 f6 f5 f4 f3 f2 f1 f0 r8 a9 n1 a1 q1 g1 hd
     try simp only
     gi_wp2
     obtain ⟨g1, q1, a1, n1, a9, r8, f0, f1, f2, f3, f4, f5, f6, f7⟩ := HF.out
     exact hK (gh, (upd s 22 (.agg #[.int .i64 x.kind, .int .i64 x.fr, .int .i64 x.to, .int .i64 x.drops]))) _ ⟨g1, q1, a1, n1, a9, r8, f0, f1, f2, f3, (fun _ => rfl), f5, f6, f7⟩
    ·rintro L ⟨gh, s⟩ W hu hd hdn ⟨g1, q1, a1, n1, a9, r8, f0, f1, f2, f3, f4, f5, f6, f7⟩ K Q hK
     try dsimp only at g1 q1 a1 n1 a9 r8 f0 f1 f2 f3 f4 f5 f6 f7 ⊢
     have e4 := f4 (hd.at_ 4 rfl)
     have h8 : L 8 = false := by
      cases hc : L 8 with
      | false => rfl
      | true => exact hdn.no 8 5 hc rfl hu
     have h6 : L 6 = false := by
      cases hc : L 6 with
      | false => rfl
      | true => exact hdn.no 6 5 hc rfl hu
     have HF := Lib.hid (show (L 8 = false → Below V3.heap.size V3 W) ∧ (L 0 = true → L 3 = false → Own W V3.heap.size 67 4 (some ⟨gh.e1, 0, none⟩) 0 0 []) ∧ (L 3 = true → L 6 = false → Own W V3.heap.size 67 4 gh.A1 na gh.k1 (m.acts.flatMap MAct.vals)) ∧ (L 5 = true → L 6 = false → Reads W W.heap.size 4 (some ⟨gh.e2, 0, none⟩) 1 x.vals) ∧ (L 6 = true → L 8 = false → Own W V3.heap.size 67 4 gh.A9 (na + 1) gh.k9 ((m.acts.flatMap MAct.vals) ++ x.vals)) ∧ (L 8 = true → ∃ V, Below V3.heap.size V3 V ∧ Own V V3.heap.size 67 4 gh.A9 (na + 1) gh.k9 ((m.acts.flatMap MAct.vals) ++ x.vals) ∧ W = V.setCell ⟨G4, 2, none⟩ (.slice gh.A9 (na + 1) gh.k9)) ∧ (L 0 = true → s 18 = .slice (some ⟨gh.e1, 0, none⟩) 0 0) ∧ (L 1 = true → s 19 = .pointer (some ⟨w.heap.size, 2, none⟩)) ∧ (L 2 = true → s 20 = .slice Aa na ca) ∧ (L 3 = true → s 21 = .slice gh.A1 na gh.k1) ∧ (L 4 = true → s 22 = .agg #[.int .i64 x.kind, .int .i64 x.fr, .int .i64 x.to, .int .i64 x.drops]) ∧ (L 5 = true → s 23 = .slice (some ⟨gh.e2, 0, none⟩) 1 1) ∧ (L 6 = true → s 24 = .slice gh.A9 (na + 1) gh.k9) ∧ (L 7 = true → s 25 = .pointer (some ⟨G4, 2, none⟩)) from ⟨g1, q1, a1, n1, a9, r8, f0, f1, f2, f3, f4, f5, f6, f7⟩)
     clear f7 f6 f5 f4 f3 f2 f1 f0 r8 a9 n1 a1 q1 g1 hd
     try simp only at e4 ⊢
     gi_wp2
     obtain ⟨g1, q1, a1, n1, a9, r8, f0, f1, f2, f3, f4, f5, f6, f7⟩ := HF.out
     have hb : Below W.heap.size W (W.alloc (.cells #[.int .i64 x.kind, .int .i64 x.fr, .int .i64 x.to, .int .i64 x.drops] 67)) := (Below.refl _ _).alloc (Nat.le_refl _) _
     exact hK ({ gh with e2 := W.heap.size }, (upd (upd s 22 (.agg #[.int .i64 x.kind, .int .i64 x.fr, .int .i64 x.to, .int .i64 x.drops])) 23 (.slice (some ⟨W.heap.size, 0, none⟩) 1 1))) _ ⟨(fun h => (g1 h).trans (hb.mono (g1 h).size)), (fun h q => (q1 h q).below hb (Nat.le_refl _)), (fun h q => (a1 h q).below hb (Nat.le_refl _)), (fun _ _ => reads_new W 67 x.vals rfl), (fun h q => (a9 h q).below hb (Nat.le_refl _)), (fun h => absurd (h8.symm.trans h) (by decide)), f0, f1, f2, f3, (fun _ => rfl), (fun _ => rfl), f6, f7⟩
    ·rintro L ⟨gh, s⟩ W hu hd hdn ⟨g1, q1, a1, n1, a9, r8, f0, f1, f2, f3, f4, f5, f6, f7⟩ K Q hK
     try dsimp only at g1 q1 a1 n1 a9 r8 f0 f1 f2 f3 f4 f5 f6 f7 ⊢
     have e3 := f3 (hd.at_ 3 rfl)
     have e5 := f5 (hd.at_ 5 rfl)
     have h8 : L 8 = false := by
      cases hc : L 8 with
      | false => rfl
      | true => exact hdn.no 8 6 hc rfl hu
     have HE := Lib.hid (a1 (hd.at_ 3 rfl) hu)
     have HN1 := Lib.hid (n1 (hd.at_ 5 rfl) hu)
     have HSZ8 := Lib.hid (g1 h8).size
     have HD3 := Lib.hid (hd.at_ 3 rfl)
     have HF := Lib.hid (show (L 8 = false → Below V3.heap.size V3 W) ∧ (L 0 = true → L 3 = false → Own W V3.heap.size 67 4 (some ⟨gh.e1, 0, none⟩) 0 0 []) ∧ (L 3 = true → L 6 = false → Own W V3.heap.size 67 4 gh.A1 na gh.k1 (m.acts.flatMap MAct.vals)) ∧ (L 5 = true → L 6 = false → Reads W W.heap.size 4 (some ⟨gh.e2, 0, none⟩) 1 x.vals) ∧ (L 6 = true → L 8 = false → Own W V3.heap.size 67 4 gh.A9 (na + 1) gh.k9 ((m.acts.flatMap MAct.vals) ++ x.vals)) ∧ (L 8 = true → ∃ V, Below V3.heap.size V3 V ∧ Own V V3.heap.size 67 4 gh.A9 (na + 1) gh.k9 ((m.acts.flatMap MAct.vals) ++ x.vals) ∧ W = V.setCell ⟨G4, 2, none⟩ (.slice gh.A9 (na + 1) gh.k9)) ∧ (L 0 = true → s 18 = .slice (some ⟨gh.e1, 0, none⟩) 0 0) ∧ (L 1 = true → s 19 = .pointer (some ⟨w.heap.size, 2, none⟩)) ∧ (L 2 = true → s 20 = .slice Aa na ca) ∧ (L 3 = true → s 21 = .slice gh.A1 na gh.k1) ∧ (L 4 = true → s 22 = .agg #[.int .i64 x.kind, .int .i64 x.fr, .int .i64 x.to, .int .i64 x.drops]) ∧ (L 5 = true → s 23 = .slice (some ⟨gh.e2, 0, none⟩) 1 1) ∧ (L 6 = true → s 24 = .slice gh.A9 (na + 1) gh.k9) ∧ (L 7 = true → s 25 = .pointer (some ⟨G4, 2, none⟩)) from ⟨g1, q1, a1, n1, a9, r8, f0, f1, f2, f3, f4, f5, f6, f7⟩)
     clear f7 f6 f5 f4 f3 f2 f1 f0 r8 a9 n1 a1 q1 g1 hd
     try simp only at e3 e5 ⊢
     gi_wp2_with (first | (gi_at_builtin; refine wpListIn_append_any rfl (.tmp 21) (.tmp 23) (by rfl) elem_act e3 HE.out e5 HN1.out (act_one1 x) (by unfold maxLen; omega) (by omega) HSZ8.out ?_) | fail)
     rintro AN cN W1 hO hg hA
     gi_wp2
     obtain ⟨g1, q1, a1, n1, a9, r8, f0, f1, f2, f3, f4, f5, f6, f7⟩ := HF.out
     have hgb : Below V3.heap.size V3 W1 := (g1 h8).grown hg (g1 h8).size (fun k hk => (own_row HE.out k hk).1)
     exact hK ({ gh with A9 := AN, k9 := cN }, (upd (upd (upd s 21 (.slice gh.A1 na gh.k1)) 23 (.slice (some ⟨gh.e2, 0, none⟩) 1 1)) 24 (.slice AN (na + 1) cN))) _ ⟨(fun _ => hgb), (fun _ h => absurd (HD3.out.symm.trans h) (by decide)), (fun _ h => by cases h), (fun _ h => by cases h), (fun _ _ => hO), (fun h => absurd (h8.symm.trans h) (by decide)), f0, f1, f2, (fun _ => rfl), f4, (fun _ => rfl), (fun _ => rfl), f7⟩
    ·rintro L ⟨gh, s⟩ W hu hd hdn ⟨g1, q1, a1, n1, a9, r8, f0, f1, f2, f3, f4, f5, f6, f7⟩ K Q hK
     try dsimp only at g1 q1 a1 n1 a9 r8 f0 f1 f2 f3 f4 f5 f6 f7 ⊢
     have tlx := HLay.out.lt 3 rfl
     have HF := Lib.hid (show (L 8 = false → Below V3.heap.size V3 W) ∧ (L 0 = true → L 3 = false → Own W V3.heap.size 67 4 (some ⟨gh.e1, 0, none⟩) 0 0 []) ∧ (L 3 = true → L 6 = false → Own W V3.heap.size 67 4 gh.A1 na gh.k1 (m.acts.flatMap MAct.vals)) ∧ (L 5 = true → L 6 = false → Reads W W.heap.size 4 (some ⟨gh.e2, 0, none⟩) 1 x.vals) ∧ (L 6 = true → L 8 = false → Own W V3.heap.size 67 4 gh.A9 (na + 1) gh.k9 ((m.acts.flatMap MAct.vals) ++ x.vals)) ∧ (L 8 = true → ∃ V, Below V3.heap.size V3 V ∧ Own V V3.heap.size 67 4 gh.A9 (na + 1) gh.k9 ((m.acts.flatMap MAct.vals) ++ x.vals) ∧ W = V.setCell ⟨G4, 2, none⟩ (.slice gh.A9 (na + 1) gh.k9)) ∧ (L 0 = true → s 18 = .slice (some ⟨gh.e1, 0, none⟩) 0 0) ∧ (L 1 = true → s 19 = .pointer (some ⟨w.heap.size, 2, none⟩)) ∧ (L 2 = true → s 20 = .slice Aa na ca) ∧ (L 3 = true → s 21 = .slice gh.A1 na gh.k1) ∧ (L 4 = true → s 22 = .agg #[.int .i64 x.kind, .int .i64 x.fr, .int .i64 x.to, .int .i64 x.drops]) ∧ (L 5 = true → s 23 = .slice (some ⟨gh.e2, 0, none⟩) 1 1) ∧ (L 6 = true → s 24 = .slice gh.A9 (na + 1) gh.k9) ∧ (L 7 = true → s 25 = .pointer (some ⟨G4, 2, none⟩)) from ⟨g1, q1, a1, n1, a9, r8, f0, f1, f2, f3, f4, f5, f6, f7⟩)
     clear f7 f6 f5 f4 f3 f2 f1 f0 r8 a9 n1 a1 q1 g1 hd
     try simp only
     gi_wp2
     obtain ⟨g1, q1, a1, n1, a9, r8, f0, f1, f2, f3, f4, f5, f6, f7⟩ := HF.out
     exact hK (gh, (upd s 25 (.pointer (some ⟨G4, 2, none⟩)))) _ ⟨g1, q1, a1, n1, a9, r8, f0, f1, f2, f3, f4, f5, f6, (fun _ => rfl)⟩
    ·rintro L ⟨gh, s⟩ W hu hd hdn ⟨g1, q1, a1, n1, a9, r8, f0, f1, f2, f3, f4, f5, f6, f7⟩ K Q hK
     try dsimp only at g1 q1 a1 n1 a9 r8 f0 f1 f2 f3 f4 f5 f6 f7 ⊢
     have e7 := f7 (hd.at_ 7 rfl)
     have e6 := f6 (hd.at_ 6 rfl)
     have MB := (HLay.out.below (g1 hu)).blk 3 rfl
     have y2 := MB.cell 2
     have z2 := MB.frozen 2
     have tlx := MB.lt
     clear MB
     have HV := Lib.hid (And.intro (g1 hu) (a9 (hd.at_ 6 rfl) hu))
     have HD3 := Lib.hid (hd.at_ 3 rfl)
     have HD6 := Lib.hid (hd.at_ 6 rfl)
     have HF := Lib.hid (show (L 8 = false → Below V3.heap.size V3 W) ∧ (L 0 = true → L 3 = false → Own W V3.heap.size 67 4 (some ⟨gh.e1, 0, none⟩) 0 0 []) ∧ (L 3 = true → L 6 = false → Own W V3.heap.size 67 4 gh.A1 na gh.k1 (m.acts.flatMap MAct.vals)) ∧ (L 5 = true → L 6 = false → Reads W W.heap.size 4 (some ⟨gh.e2, 0, none⟩) 1 x.vals) ∧ (L 6 = true → L 8 = false → Own W V3.heap.size 67 4 gh.A9 (na + 1) gh.k9 ((m.acts.flatMap MAct.vals) ++ x.vals)) ∧ (L 8 = true → ∃ V, Below V3.heap.size V3 V ∧ Own V V3.heap.size 67 4 gh.A9 (na + 1) gh.k9 ((m.acts.flatMap MAct.vals) ++ x.vals) ∧ W = V.setCell ⟨G4, 2, none⟩ (.slice gh.A9 (na + 1) gh.k9)) ∧ (L 0 = true → s 18 = .slice (some ⟨gh.e1, 0, none⟩) 0 0) ∧ (L 1 = true → s 19 = .pointer (some ⟨w.heap.size, 2, none⟩)) ∧ (L 2 = true → s 20 = .slice Aa na ca) ∧ (L 3 = true → s 21 = .slice gh.A1 na gh.k1) ∧ (L 4 = true → s 22 = .agg #[.int .i64 x.kind, .int .i64 x.fr, .int .i64 x.to, .int .i64 x.drops]) ∧ (L 5 = true → s 23 = .slice (some ⟨gh.e2, 0, none⟩) 1 1) ∧ (L 6 = true → s 24 = .slice gh.A9 (na + 1) gh.k9) ∧ (L 7 = true → s 25 = .pointer (some ⟨G4, 2, none⟩)) from ⟨g1, q1, a1, n1, a9, r8, f0, f1, f2, f3, f4, f5, f6, f7⟩)
     clear f7 f6 f5 f4 f3 f2 f1 f0 r8 a9 n1 a1 q1 g1 hd
     try simp only at e7 e6 ⊢
     gi_wp2
     obtain ⟨g1, q1, a1, n1, a9, r8, f0, f1, f2, f3, f4, f5, f6, f7⟩ := HF.out
     exact hK (gh, (upd (upd s 25 (.pointer (some ⟨G4, 2, none⟩))) 24 (.slice gh.A9 (na + 1) gh.k9))) _ ⟨(fun h => by cases h), (fun _ h => absurd (HD3.out.symm.trans h) (by decide)), (fun _ h => absurd (HD6.out.symm.trans h) (by decide)), (fun _ h => absurd (HD6.out.symm.trans h) (by decide)), (fun _ h => by cases h), (fun _ => ⟨W, HV.out.1, HV.out.2, rfl⟩), f0, f1, f2, f3, f4, f5, (fun _ => rfl), (fun _ => rfl)⟩
   ·rintro L ⟨gh, s⟩ W hall ⟨g1, q1, a1, n1, a9, r8, f0, f1, f2, f3, f4, f5, f6, f7⟩
    obtain ⟨V, hB, hO, rfl⟩ := r8 (hall 8 (by decide))
    clear f7 f6 f5 f4 f3 f2 f1 f0 r8 a9 n1 a1 q1 g1 hall
    simp only
    obtain ⟨ea, eb, A8, k8, A9, c9⟩ := gh
    dsimp only at hO ⊢
    have hwv : W1.heap.size ≤ V3.heap.size := by have := HWW.out; have := HG_.out; have := HLay.out.lt 3 rfl; omega
    have HMO2 := Lib.hid (HMO.out.acts (l := (m.acts ++ [x])) hB (by rw [List.flatMap_append]; simpa using hO) hwv)
    replace HLay := Lib.hid (HLay.out.below hB)
    clear hO hB hwv
    have hne : ∀ b ∈ ([(w.heap.size, 26, #[.int .i64 m.fountains, .slice Av nv cv, .slice Aa na ca, .slice At nt ct]), (w.heap.size + 1, 67, #[.int .i64 x.kind, .int .i64 x.fr, .int .i64 x.to, .int .i64 x.drops]), (w.heap.size + 1 + 1, 26, #[.int .i64 0, .slice none 0 0, .slice none 0 0, .slice none 0 0])] : List (Nat × TypeId × Array Value)), b.1 ≠ G4 := fun b hb => by
     have := HWW.out; have := HG_.out; have := HBLL.out
     simp only [List.mem_cons, List.not_mem_nil, or_false] at hb
     rcases hb with rfl | rfl | rfl <;> dsimp only <;> omega
    have hgs := grown_setCell (row := some G4) (grown_refl V _) (p := ⟨G4, 2, none⟩) (.inl rfl) (.slice A9 (na + 1) c9)
    have HMO3 := Lib.hid (HMO2.out.offB (HLay.out.blk 3 rfl) hgs)
    have hl := Lay.setLast HLay.out hne 2 (.slice A9 (na + 1) c9)
    generalize V.setCell ⟨G4, 2, none⟩ (.slice A9 (na + 1) c9) = V5 at *
    replace HLay := Lib.hid (show Lay w V5 [(w.heap.size, 26, #[.int .i64 m.fountains, .slice Av nv cv, .slice Aa na ca, .slice At nt ct]), (w.heap.size + 1, 67, #[.int .i64 x.kind, .int .i64 x.fr, .int .i64 x.to, .int .i64 x.drops]), (w.heap.size + 1 + 1, 26, #[.int .i64 0, .slice none 0 0, .slice none 0 0, .slice none 0 0]), (G4, 26, #[.int .i64 m.fountains, .slice A1 nv c1, .slice A9 (na + 1) c9, .slice A3 nt c3])] from hl)
    replace HMO := HMO3
    clear hgs hl HMO2 HMO3 hne
    have x3_0 := (HLay.out.blk 3 rfl).cell 0
    have x3_1 := (HLay.out.blk 3 rfl).cell 1
    have x3_2 := (HLay.out.blk 3 rfl).cell 2
    have x3_3 := (HLay.out.blk 3 rfl).cell 3
    have l3_ := HLay.out.lt 3 rfl
    gi_wp2
    clear x3_0 x3_1 x3_2 x3_3 l3_
    refine ⟨trivial, (callsIn_wide.2 (rmix_any A1 nv c1 A9 (na + 1) c9 A3 nt c3 (withA m (m.acts ++ [x])) V5 (HMO.out.s hnv (by omega) hnt))).mono ?_⟩
    rintro e W6 ⟨rfl, hb⟩
    have HBC := Lib.hid hb
    replace HLay := Lib.hid (HLay.out.below hb)
    clear hb
    cases hk : okMix (withA m (m.acts ++ [x])) with
    | false =>
     replace HF : Hid (doM m x = (zeroMix, 41)) := Lib.hid (by rw [HF.out, hk]; rfl)
     clear hk HMO
     have x2_0 := (HLay.out.blk 2 rfl).cell 0
     have z2_0 := (HLay.out.blk 2 rfl).frozen 0
     have x2_1 := (HLay.out.blk 2 rfl).cell 1
     have z2_1 := (HLay.out.blk 2 rfl).frozen 1
     have x2_2 := (HLay.out.blk 2 rfl).cell 2
     have z2_2 := (HLay.out.blk 2 rfl).frozen 2
     have x2_3 := (HLay.out.blk 2 rfl).cell 3
     have z2_3 := (HLay.out.blk 2 rfl).frozen 3
     have l2_ := HLay.out.lt 2 rfl
     gi_wp2
     have R4 := ret4' (HLay.out.blk 2 rfl) HLay.out.1 (HLay.out.ge 2 rfl) (.int .i64 0) (.slice none 0 0) (.slice none 0 0) (.slice none 0 0)
     have v0 := R4.1.cell 0
     have v1 := R4.1.cell 1
     have v2 := R4.1.cell 2
     have v3 := R4.1.cell 3
     refine bodyPost_ret (v := .tuple #[.agg #[.int .i64 0, .slice none 0 0, .slice none 0 0, .slice none 0 0], .int .i64 41]) (by simp [results, Try.results36, go_sem, v0, v1, v2, v3]) rfl ?_
     rw [HF.out]
     exact ⟨none, 0, 0, none, 0, 0, none, 0, 0, rfl, MixS.nothing _, R4.2.1⟩
    | true =>
     replace HF : Hid (doM m x = ((withA m (m.acts ++ [x])), 0)) := Lib.hid (by rw [HF.out, hk]; rfl)
     replace HMO := Lib.hid (HMO.out.below HBC.out)
     clear hk
     have x3_0 := (HLay.out.blk 3 rfl).cell 0
     have x3_1 := (HLay.out.blk 3 rfl).cell 1
     have x3_2 := (HLay.out.blk 3 rfl).cell 2
     have x3_3 := (HLay.out.blk 3 rfl).cell 3
     have l3_ := HLay.out.lt 3 rfl
     have r0 := (HLay.out.blk 2 rfl).cell 0
     have rz0 := (HLay.out.blk 2 rfl).frozen 0
     have r1 := (HLay.out.blk 2 rfl).cell 1
     have rz1 := (HLay.out.blk 2 rfl).frozen 1
     have r2 := (HLay.out.blk 2 rfl).cell 2
     have rz2 := (HLay.out.blk 2 rfl).frozen 2
     have r3 := (HLay.out.blk 2 rfl).cell 3
     have rz3 := (HLay.out.blk 2 rfl).frozen 3
     have rl := HLay.out.lt 2 rfl
     gi_wp2
     have R4 := ret4' (HLay.out.blk 2 rfl) HLay.out.1 (HLay.out.ge 2 rfl) (.int .i64 m.fountains) (.slice A1 nv c1) (.slice A9 (na + 1) c9) (.slice A3 nt c3)
     have v0 := R4.1.cell 0
     have v1 := R4.1.cell 1
     have v2 := R4.1.cell 2
     have v3 := R4.1.cell 3
     refine bodyPost_ret (v := .tuple #[.agg #[.int .i64 m.fountains, .slice A1 nv c1, .slice A9 (na + 1) c9, .slice A3 nt c3], .int .i64 0]) (by simp [results, Try.results36, go_sem, v0, v1, v2, v3]) rfl ?_
     rw [HF.out]
     exact ⟨_, _, _, _, _, _, _, _, _, rfl, (HMO.out.offB (HLay.out.blk 2 rfl) R4.2.2).s (by omega) (by omega) (by omega), R4.2.1⟩

end Go.Proofs.Ythofngceiecniaa
