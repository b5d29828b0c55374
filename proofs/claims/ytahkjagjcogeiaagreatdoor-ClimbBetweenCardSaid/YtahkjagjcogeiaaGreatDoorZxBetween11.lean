/- ClimbBetween: whatever the arguments, the law answers true. The row, and the card. -/
import Derived.Sort.CutIn
import Derived.Test.YtahkjagjcogeiaaGreatDoorRows
import Derived.ProofKit
import Derived.LaidMore
import Derived.LaidHandle
import Derived.Stop.Joined
import Derived.ChangeSame
import Derived.OpenShut
import Derived.Lib.SmallJoins
import Derived.ChangeArms
import Derived.SevenTiedAt
import Derived.Test.YtahkjagjcogeiaaGreatDoorCards
import Derived.Test.YtahkjagjcogeiaaGreatDoorTie
import Derived.Test.YtahkjagjcogeiaaGreatDoorZxBetween10
set_option linter.unusedVariables false
/- The law's follow: links followed by their Ids. And ahead. -/
namespace Go.Proofs.YtahkjagjcogeiaaGreatDoor
open Go.RowKit

theorem fold_succ {dk : Bool} {id : Int} {ls : List Link} {s : Gone × Bool} {j : Nat} {x : Link} (hx : ls[j]? = some x) : (ls.take (j + 1)).foldl (stepFo dk id) s = stepFo dk id ((ls.take j).foldl (stepFo dk id) s) x := by
 obtain ⟨hk, rfl⟩ := List.getElem?_eq_some_iff.1 hx
 rw [List.take_succ_eq_append_getElem hk, List.foldl_append]
 rfl
theorem goesP_in {t : Town} {dk : Bool} {g : Gone} {x : Link} {k : Nat} (h : g.In k) (ht : Fine t) (hx : x ∈ t.links) : ∃ q, q ≤ k + 1 ∧ (goesP dk x g).1.In q := by
 unfold goesP
 cases hg : goesF dk x g with
 | none => exact ⟨k, by omega, h⟩
 | some g' => exact ⟨k + 1, Nat.le_refl _, goes_in h ht hx hg⟩
theorem stepFo_goes {dk : Bool} {id : Int} {s : Gone × Bool} {x : Link} (h : x.id = id) : stepFo dk id s x = goesP dk x s.1 := by
 unfold stepFo goesP
 rw [if_pos h]
 try (cases goesF dk x s.1 <;> rfl)
theorem stepFo_not {dk : Bool} {id : Int} {s : Gone × Bool} {x : Link} (h : ¬ x.id = id) : stepFo dk id s x = s := by
 unfold stepFo
 rw [if_neg h]

set_option maxRecDepth 100000 in
set_option maxHeartbeats 8000000 in
theorem follow_any (A : Option Addr) (n c : Nat) (A' : Option Addr) (m d : Nat) (t : Town) (u : Int) (A2 : Option Addr) (k2 c2 : Nat) (l : List Int) (dk : Bool) (w : World) (hm : m ≤ 20) (hk : k2 ≤ 40) (ht : LinksAt w w.heap.size A' m t.links) (hf : Fine t) (hr : IntsAt w w.heap.size A2 k2 l) :
  Calls Tryz.prog 20 #[.agg #[.slice A n c, .slice A' m d], .int .i64 u, .slice A2 k2 c2, .bool dk] w (GoesOut w (followF t dk (startG u) l)) := by
 have HT := Lib.hid ht
 have HR := Lib.hid hr
 have HF := Lib.hid hf
 have HLm := Lib.hid ht.len
 have HLl := Lib.hid hr.len
 clear ht hr hf
 have HLay := Lib.hid (Lay.three w 25 #[.slice A n c, .slice A' m d] 39 #[.int .i64 0, .int .i64 0, .int .i64 0, .int .i64 0, .int .i64 0, .int .i64 0, .int .i64 0] 39 #[.int .i64 u, .int .i64 0, .int .i64 0, .int .i64 0, .int .i64 0, .int .i64 0, .int .i64 0])
 go_enter Tryz.func20, Tryz.ntmps20
 go_upto_region 2 with fail
 generalize (((w.alloc (.cells #[.slice A n c, .slice A' m d] 25)).alloc (.cells #[.int .i64 0, .int .i64 0, .int .i64 0, .int .i64 0, .int .i64 0, .int .i64 0, .int .i64 0] 39)).alloc (.cells #[.int .i64 u, .int .i64 0, .int .i64 0, .int .i64 0, .int .i64 0, .int .i64 0, .int .i64 0] 39)) = w0 at *
 go_wp2_with fail
 go_loopw [20] (fun vi wr => ∃ (i q : Nat) (g : Gone), i ≤ k2 ∧ vi = .int .i64 i ∧ Hid (Lay w wr [(w.heap.size, 25, #[.slice A n c, .slice A' m d]), (w.heap.size + 1, 39, #[.int .i64 0, .int .i64 0, .int .i64 0, .int .i64 0, .int .i64 0, .int .i64 0, .int .i64 0]), (w.heap.size + 1 + 1, 39, g.vals)] ∧ followF t dk (startG u) l = followF t dk g (l.drop i) ∧ g.In q ∧ q ≤ i * 20))
  (fun vi _ => k2 - (intOf vi).toNat)
 case atStart => exact ⟨0, 0, startG u, by omega, rfl, Lib.hid ⟨HLay.out, rfl, startG_in u, by omega⟩⟩
 case round =>
  obtain ⟨i, q, g, hi, rfl, HS⟩ := hrel
  by_cases hlt : i < k2
  ·obtain ⟨b, off, id, rfl, hbB, hid, hc⟩ := ((HR.out.below HS.out.1.1)).cell hlt
   have HID := Lib.hid hid
   clear hid
   have y0 := (HS.out.1.blk 0 rfl).cell 0
   have y1 := (HS.out.1.blk 0 rfl).cell 1
   have ly := HS.out.1.lt 0 rfl
   go_wp2_with fail
   go_loopw [13, 27] (fun vf vj wr2 => ∃ (j q2 : Nat) (g2 : Gone) (f2 : Bool), j ≤ m ∧ vj = .int .i64 j ∧ vf = .bool f2 ∧ Hid (Lay w wr2 [(w.heap.size, 25, #[.slice A n c, .slice A' m d]), (w.heap.size + 1, 39, #[.int .i64 0, .int .i64 0, .int .i64 0, .int .i64 0, .int .i64 0, .int .i64 0, .int .i64 0]), (w.heap.size + 1 + 1, 39, g2.vals)] ∧ (t.links.take j).foldl (stepFo dk id) (g, false) = (g2, f2) ∧ g2.In q2 ∧ q2 ≤ i * 20 + j))
    (fun _ vj _ => m - (intOf vj).toNat)
   case atStart => exact ⟨0, q, g, false, by omega, rfl, rfl, Lib.hid ⟨HS.out.1, rfl, HS.out.2.2.1, HS.out.2.2.2⟩⟩
   case round =>
    rename World => wr2
    obtain ⟨j, q2, g2, f2, hj, rfl, rfl, HJ⟩ := hrel
    by_cases hjm : j < m
    ·obtain ⟨b2, off2, x, rfl, hb2, hx, h0, h1, h2, h3, h4⟩ := (HT.out.below HJ.out.1.1).cell hjm
     have HX := Lib.hid hx
     have HXM := Lib.hid (List.mem_of_getElem? hx)
     have hbl2 : b2 < wr2.heap.size := Nat.lt_of_lt_of_le hb2 HJ.out.1.1.size
     have y0 := (HJ.out.1.blk 0 rfl).cell 0
     have y1 := (HJ.out.1.blk 0 rfl).cell 1
     have ly := HJ.out.1.lt 0 rfl
     clear hx hc hb2
     go_upto_region 9 with fail
     have X1 := Blk.new wr2 52 #[.int .i64 x.id, .int .i64 x.fr, .int .i64 x.to, .int .i64 x.steps, .int .i64 x.paces]
     have HL3 := Lib.hid (HJ.out.1.below ((Below.refl wr2.heap.size wr2).alloc (Nat.le_refl _) (.cells #[.int .i64 x.id, .int .i64 x.fr, .int .i64 x.to, .int .i64 x.steps, .int .i64 x.paces] 52)))
     clear y0 y1 ly h0 h1 h2 h3 h4 hbl2
     generalize (wr2.alloc (.cells #[.int .i64 x.id, .int .i64 x.fr, .int .i64 x.to, .int .i64 x.steps, .int .i64 x.paces] 52)) = w3 at *
     have x0 := X1.cell 0
     have x1 := X1.cell 1
     have x2 := X1.cell 2
     have x3 := X1.cell 3
     have x4 := X1.cell 4
     have hxl := X1.lt
     by_cases hxi : x.id = id
     ·have HXI := Lib.hid hxi
      have HDJ : Hid ((t.links.take (j + 1)).foldl (stepFo dk id) (g, false) = goesP dk x g2) := Lib.hid (by rw [fold_succ HX.out, HJ.out.2.1, stepFo_goes hxi])
      have hxb : (x.id == id) = true := by simpa using hxi
      clear hxi
      have ga0 := (HL3.out.blk 2 rfl).cell 0
      have gz0 := (HL3.out.blk 2 rfl).frozen 0
      have ga1 := (HL3.out.blk 2 rfl).cell 1
      have gz1 := (HL3.out.blk 2 rfl).frozen 1
      have ga2 := (HL3.out.blk 2 rfl).cell 2
      have gz2 := (HL3.out.blk 2 rfl).frozen 2
      have ga3 := (HL3.out.blk 2 rfl).cell 3
      have gz3 := (HL3.out.blk 2 rfl).frozen 3
      have ga4 := (HL3.out.blk 2 rfl).cell 4
      have gz4 := (HL3.out.blk 2 rfl).frozen 4
      have ga5 := (HL3.out.blk 2 rfl).cell 5
      have gz5 := (HL3.out.blk 2 rfl).frozen 5
      have ga6 := (HL3.out.blk 2 rfl).cell 6
      have gz6 := (HL3.out.blk 2 rfl).frozen 6
      have gl := HL3.out.lt 2 rfl
      go_wp2_with fail
      refine (goes_any g2 x dk q2 w3 HJ.out.2.2.1 (by have := HJ.out.2.2.2; omega) (HF.out.steps x HXM.out) (HF.out.paces x HXM.out)).mono ?_
      rintro e w4 ⟨rfl, hb4⟩
      obtain ⟨q3, hq3, hin3⟩ := goesP_in (dk := dk) HJ.out.2.2.1 HF.out HXM.out
      have HI3 := Lib.hid hin3
      obtain ⟨⟨g3, f3⟩, hg3⟩ : ∃ r, goesP dk x g2 = r := ⟨_, rfl⟩
      rw [hg3] at HDJ HI3
      rw [hg3]
      have HL4 := Lib.hid (HL3.out.below hb4)
      clear hb4 hin3 hg3 ga0 gz0 ga1 gz1 ga2 gz2 ga3 gz3 ga4 gz4 ga5 gz5 ga6 gz6 gl x0 x1 x2 x3 x4 hxl X1
      have ga0 := (HL4.out.blk 2 rfl).cell 0
      have gz0 := (HL4.out.blk 2 rfl).frozen 0
      have ga1 := (HL4.out.blk 2 rfl).cell 1
      have gz1 := (HL4.out.blk 2 rfl).frozen 1
      have ga2 := (HL4.out.blk 2 rfl).cell 2
      have gz2 := (HL4.out.blk 2 rfl).frozen 2
      have ga3 := (HL4.out.blk 2 rfl).cell 3
      have gz3 := (HL4.out.blk 2 rfl).frozen 3
      have ga4 := (HL4.out.blk 2 rfl).cell 4
      have gz4 := (HL4.out.blk 2 rfl).frozen 4
      have ga5 := (HL4.out.blk 2 rfl).cell 5
      have gz5 := (HL4.out.blk 2 rfl).frozen 5
      have ga6 := (HL4.out.blk 2 rfl).cell 6
      have gz6 := (HL4.out.blk 2 rfl).frozen 6
      have gl := HL4.out.lt 2 rfl
      go_wp2_with fail
      have R7 := ret7 (HL4.out.blk 2 rfl) HL4.out.1 (by omega) (.int .i64 g3.at_) (.int .i64 g3.up) (.int .i64 g3.paces) (.int .i64 g3.paces) (.int .i64 g3.up) (.int .i64 g3.steps) (.int .i64 g3.longer)
      have R0 := Lib.hid (set7_far (HL4.out.blk 0 rfl) (show w.heap.size ≠ w.heap.size + 1 + 1 by omega) (.int .i64 g3.at_) (.int .i64 g3.up) (.int .i64 g3.paces) (.int .i64 g3.paces) (.int .i64 g3.up) (.int .i64 g3.steps) (.int .i64 g3.longer))
      have R1 := Lib.hid (set7_far (HL4.out.blk 1 rfl) (show w.heap.size + 1 ≠ w.heap.size + 1 + 1 by omega) (.int .i64 g3.at_) (.int .i64 g3.up) (.int .i64 g3.paces) (.int .i64 g3.paces) (.int .i64 g3.up) (.int .i64 g3.steps) (.int .i64 g3.longer))
      have HR7 := Lib.hid R7
      clear R7 ga0 gz0 ga1 gz1 ga2 gz2 ga3 gz3 ga4 gz4 ga5 gz5 ga6 gz6 gl
      go_roundw
      case rel => exact ⟨j + 1, q3, g3, f3, by omega, by go_num, rfl, Lib.hid ⟨lay3 HR7.out.2 (Nat.le_refl _) R0.out R1.out HR7.out.1, HDJ.out, HI3.out, by have := HJ.out.2.2.2; omega⟩⟩
      case measure => simp [intOf]; omega
     ·have HDJ : Hid ((t.links.take (j + 1)).foldl (stepFo dk id) (g, false) = (g2, f2)) := Lib.hid (by rw [fold_succ HX.out, HJ.out.2.1, stepFo_not hxi])
      have hxb : (x.id == id) = false := by simpa using hxi
      clear hxi
      go_wp2_with fail
      go_roundw
      case rel => exact ⟨j + 1, q2, g2, f2, by omega, by go_num, rfl, Lib.hid ⟨HL3.out, HDJ.out, HJ.out.2.2.1, by have := HJ.out.2.2.2; omega⟩⟩
      case measure => simp [intOf]; omega
    ·obtain rfl : j = m := by omega
     have HD : Hid (t.links.foldl (stepFo dk id) (g, false) = (g2, f2)) := Lib.hid (by
      have h := HJ.out.2.1
      rwa [List.take_of_length_le (by rw [HLm.out]; exact Nat.le_refl _)] at h)
     have HE : Hid (followF t dk (startG u) l = if f2 = true then followF t dk g2 (l.drop (i + 1)) else (g2, false)) := Lib.hid (by
      rw [HS.out.2.1, drop_atF HID.out, followF, HD.out]
      cases f2 <;> rfl)
     clear hc y0 y1 ly
     cases f2 with
     | true =>
      go_wp2_with fail
      go_roundw
      case rel => exact ⟨i + 1, q2, g2, by omega, by go_num, Lib.hid ⟨HJ.out.1, by rw [HE.out]; rfl, HJ.out.2.2.1, by have := HJ.out.2.2.2; omega⟩⟩
      case measure => simp [intOf]; omega
     | false =>
      have ga0 := (HJ.out.1.blk 2 rfl).cell 0
      have gz0 := (HJ.out.1.blk 2 rfl).frozen 0
      have ga1 := (HJ.out.1.blk 2 rfl).cell 1
      have gz1 := (HJ.out.1.blk 2 rfl).frozen 1
      have ga2 := (HJ.out.1.blk 2 rfl).cell 2
      have gz2 := (HJ.out.1.blk 2 rfl).frozen 2
      have ga3 := (HJ.out.1.blk 2 rfl).cell 3
      have gz3 := (HJ.out.1.blk 2 rfl).frozen 3
      have ga4 := (HJ.out.1.blk 2 rfl).cell 4
      have gz4 := (HJ.out.1.blk 2 rfl).frozen 4
      have ga5 := (HJ.out.1.blk 2 rfl).cell 5
      have gz5 := (HJ.out.1.blk 2 rfl).frozen 5
      have ga6 := (HJ.out.1.blk 2 rfl).cell 6
      have gz6 := (HJ.out.1.blk 2 rfl).frozen 6
      have gl := HJ.out.1.lt 2 rfl
      have o0 := (HJ.out.1.blk 1 rfl).cell 0
      have oz0 := (HJ.out.1.blk 1 rfl).frozen 0
      have o1 := (HJ.out.1.blk 1 rfl).cell 1
      have oz1 := (HJ.out.1.blk 1 rfl).frozen 1
      have o2 := (HJ.out.1.blk 1 rfl).cell 2
      have oz2 := (HJ.out.1.blk 1 rfl).frozen 2
      have o3 := (HJ.out.1.blk 1 rfl).cell 3
      have oz3 := (HJ.out.1.blk 1 rfl).frozen 3
      have o4 := (HJ.out.1.blk 1 rfl).cell 4
      have oz4 := (HJ.out.1.blk 1 rfl).frozen 4
      have o5 := (HJ.out.1.blk 1 rfl).cell 5
      have oz5 := (HJ.out.1.blk 1 rfl).frozen 5
      have o6 := (HJ.out.1.blk 1 rfl).cell 6
      have oz6 := (HJ.out.1.blk 1 rfl).frozen 6
      have ol := HJ.out.1.lt 1 rfl
      go_wp2_with fail
      have R1 := ret7 (HJ.out.1.blk 1 rfl) HJ.out.1.1 (by omega) (.int .i64 g2.at_) (.int .i64 g2.up) (.int .i64 g2.paces) (.int .i64 g2.paces) (.int .i64 g2.up) (.int .i64 g2.steps) (.int .i64 g2.longer)
      have r0 := R1.1.cell 0
      have r1 := R1.1.cell 1
      have r2 := R1.1.cell 2
      have r3 := R1.1.cell 3
      have r4 := R1.1.cell 4
      have r5 := R1.1.cell 5
      have r6 := R1.1.cell 6
      refine bodyPost_ret (v := .tuple #[g2.val, .bool false]) (by simp [results, Tryz.results20, go_sem, r0, r1, r2, r3, r4, r5, r6]) rfl ⟨?_, R1.2⟩
      rw [HE.out]
      rfl
  ·obtain rfl : i = k2 := by omega
   have HE : Hid (followF t dk (startG u) l = (g, true)) := Lib.hid (by
    rw [HS.out.2.1, List.drop_of_length_le (by rw [HLl.out]; exact Nat.le_refl _)]
    rfl)
   have ga0 := (HS.out.1.blk 2 rfl).cell 0
   have gz0 := (HS.out.1.blk 2 rfl).frozen 0
   have ga1 := (HS.out.1.blk 2 rfl).cell 1
   have gz1 := (HS.out.1.blk 2 rfl).frozen 1
   have ga2 := (HS.out.1.blk 2 rfl).cell 2
   have gz2 := (HS.out.1.blk 2 rfl).frozen 2
   have ga3 := (HS.out.1.blk 2 rfl).cell 3
   have gz3 := (HS.out.1.blk 2 rfl).frozen 3
   have ga4 := (HS.out.1.blk 2 rfl).cell 4
   have gz4 := (HS.out.1.blk 2 rfl).frozen 4
   have ga5 := (HS.out.1.blk 2 rfl).cell 5
   have gz5 := (HS.out.1.blk 2 rfl).frozen 5
   have ga6 := (HS.out.1.blk 2 rfl).cell 6
   have gz6 := (HS.out.1.blk 2 rfl).frozen 6
   have gl := HS.out.1.lt 2 rfl
   have o0 := (HS.out.1.blk 1 rfl).cell 0
   have oz0 := (HS.out.1.blk 1 rfl).frozen 0
   have o1 := (HS.out.1.blk 1 rfl).cell 1
   have oz1 := (HS.out.1.blk 1 rfl).frozen 1
   have o2 := (HS.out.1.blk 1 rfl).cell 2
   have oz2 := (HS.out.1.blk 1 rfl).frozen 2
   have o3 := (HS.out.1.blk 1 rfl).cell 3
   have oz3 := (HS.out.1.blk 1 rfl).frozen 3
   have o4 := (HS.out.1.blk 1 rfl).cell 4
   have oz4 := (HS.out.1.blk 1 rfl).frozen 4
   have o5 := (HS.out.1.blk 1 rfl).cell 5
   have oz5 := (HS.out.1.blk 1 rfl).frozen 5
   have o6 := (HS.out.1.blk 1 rfl).cell 6
   have oz6 := (HS.out.1.blk 1 rfl).frozen 6
   have ol := HS.out.1.lt 1 rfl
   go_wp2_with fail
   have R1 := ret7 (HS.out.1.blk 1 rfl) HS.out.1.1 (by omega) (.int .i64 g.at_) (.int .i64 g.up) (.int .i64 g.paces) (.int .i64 g.paces) (.int .i64 g.up) (.int .i64 g.steps) (.int .i64 g.longer)
   have r0 := R1.1.cell 0
   have r1 := R1.1.cell 1
   have r2 := R1.1.cell 2
   have r3 := R1.1.cell 3
   have r4 := R1.1.cell 4
   have r5 := R1.1.cell 5
   have r6 := R1.1.cell 6
   refine bodyPost_ret (v := .tuple #[g.val, .bool true]) (by simp [results, Tryz.results20, go_sem, r0, r1, r2, r3, r4, r5, r6]) rfl ⟨?_, R1.2⟩
   rw [HE.out]

end Go.Proofs.YtahkjagjcogeiaaGreatDoor
/- What the first walk is good for: no walk is before it; pieces; walks whatever the price: plain Lean. -/
namespace Go.Proofs.YtahkjagjcogeiaaGreatDoor

section
variable {t : Town} {dk : Bool} {p q : Price} {u v m : Int} {c d c1 c2 : Cost} {l k l1 l2 : List Int} {g g' : Gone}
theorem key_split (h : cmpL (key c l) (key d k) ≤ 0) : c.a < d.a ∨ (c.a = d.a ∧ (c.b < d.b ∨ (c.b = d.b ∧ (c.c < d.c ∨ (c.c = d.c ∧ (c.d < d.d ∨ (c.d = d.d ∧ cmpL l k ≤ 0))))))) := by
 rw [cmp_key] at h
 by_cases h0 : cmpL c.list d.list = 0
 ·rw [if_pos h0] at h
  have := list_eq h0
  subst this
  omega
 ·rw [if_neg h0] at h
  rw [cmpC_unf] at h h0
  by_cases e1 : c.a < d.a
  ·omega
  ·rw [if_neg e1] at h h0
   by_cases e2 : d.a < c.a
   ·rw [if_pos e2] at h; omega
   ·rw [if_neg e2] at h h0
    by_cases e3 : c.b < d.b
    ·omega
    ·rw [if_neg e3] at h h0
     by_cases e4 : d.b < c.b
     ·rw [if_pos e4] at h; omega
     ·rw [if_neg e4] at h h0
      by_cases e5 : c.c < d.c
      ·omega
      ·rw [if_neg e5] at h h0
       by_cases e6 : d.c < c.c
       ·rw [if_pos e6] at h; omega
       ·rw [if_neg e6] at h h0
        by_cases e7 : c.d < d.d
        ·omega
        ·rw [if_neg e7] at h h0
         by_cases e8 : d.d < c.d
         ·rw [if_pos e8] at h; omega
         ·rw [if_neg e8] at h0; exact absurd rfl h0
theorem walk_some (ht : Fine t) (hp : Fair p) (h : Walk t dk p u v c l) : ∃ d k, best t dk p u v = some (d, k) ∧ cmpL (key d k) (key c l) ≤ 0 := by
 have hf := best_first ht hp dk u v
 cases hb : best t dk p u v with
 | none => rw [hb] at hf; exact absurd h (hf c l)
 | some r =>
  obtain ⟨d, k⟩ := r
  rw [hb] at hf
  exact ⟨d, k, rfl, hf.2 _ _ h⟩
/-- Pieces of the first walk are first walks. -/
theorem First.pieces (ht : Fine t) (hp : Fair p) (h : First t dk p u v (some (c, l1 ++ l2))) (h1 : Walk t dk p u m c1 l1) (h2 : Walk t dk p m v c2 l2) (hc : c = addC c1 c2) : First t dk p u m (some (c1, l1)) ∧ First t dk p m v (some (c2, l2)) := by
 subst hc
 refine ⟨⟨h1, fun c' l' hw => ?_⟩, ⟨h2, fun c' l' hw => ?_⟩⟩
 ·have := h.2 _ _ (hw.append h2)
  rw [cmp_key, cmpC_add] at this
  rw [cmp_key]
  split at this
  ·rename_i h0
   rw [if_pos h0]
   have he := list_eq h0
   have hl : l1.length = l'.length := by
    have b1 := (h1.bound ht hp).2.2.2.2.2.2
    have b2 := (hw.bound ht hp).2.2.2.2.2.2
    rw [he] at b1
    omega
   rw [cmpL_append _ _ hl] at this
   split at this
   ·rename_i h3; omega
   ·exact this
  ·rename_i h0
   rw [if_neg h0]
   exact this
 ·have := h.2 _ _ (h1.append hw)
  rw [cmp_key, cmpC_add', cmpL_pre] at this
  rw [cmp_key]
  exact this
theorem best_walk (ht : Fine t) (hp : Fair p) (h : best t dk p u v = some (c, l)) : First t dk p u v (some (c, l)) := by rw [← h]; exact best_first ht hp dk u v
/-- The first walk followed. -/
theorem best_gone (ht : Fine t) (hp : Fair p) (h : best t dk p u v = some (c, l)) : ∃ g, followF t dk (startG u) l = (g, true) ∧ GW t dk (startG u) l g ∧ g.at_ = v ∧ g.cost p = c := by
 obtain ⟨g, h1, h2, h3⟩ := (best_walk ht hp h).1.gw (startG u) rfl
 rw [startG_cost, zero_addC] at h3
 exact ⟨g, follow_gw ht.ids h1, h1, h2, h3⟩
end

section
variable {t : Town} {dk : Bool} {p : Price} {u v : Int} {c : Cost} {l k : List Int} {g g' : Gone}
theorem askE_two {t : Town} {u v : Int} (hb : townB t = true) (hu : u ∈ t.places) (hv : v ∈ t.places) : askE t [u, v] = 0 := by
 unfold askE hasB
 rw [if_pos hb, if_pos (by simp [memI_iff.2 hu, memI_iff.2 hv])]
end
end Go.Proofs.YtahkjagjcogeiaaGreatDoor
/- The answer's Less. -/
namespace Go.Proofs.YtahkjagjcogeiaaGreatDoor
open Go.RowKit

set_option maxRecDepth 100000 in
set_option maxHeartbeats 4000000 in
theorem lessToil_any (a1 a2 b1 b2 : Int) (w : World) :
  Calls Tryz.prog 21 #[.agg #[.int .i64 a1, .int .i64 a2], .agg #[.int .i64 b1, .int .i64 b2]] w fun e w' => e = .returned (.bool (lessP a1 a2 b1 b2)) ∧ Below w.heap.size w w' := by
 have hb : Below w.heap.size w ((w.alloc (.cells #[.int .i64 a1, .int .i64 a2] 34)).alloc (.cells #[.int .i64 b1, .int .i64 b2] 34)) := ((Below.refl _ _).alloc (Nat.le_refl _) _).alloc (by simp) _
 by_cases h1 : a1 < b1
 ·have e : lessP a1 a2 b1 b2 = true := by unfold lessP; simp [h1]
  have HE := Lib.hid e
  have HB := Lib.hid hb
  clear e hb
  go_enter Tryz.func21, Tryz.ntmps21
  go_wp2_with fail
  go_ret
  exact ⟨ret_bool HE.out.symm, HB.out⟩
 ·by_cases h2 : a1 = b1
  ·subst h2
   have e : lessP a1 a2 a1 b2 = decide (a2 < b2) := by unfold lessP; simp
   have HE := Lib.hid e
   have HB := Lib.hid hb
   clear e hb h1
   go_enter Tryz.func21, Tryz.ntmps21
   go_wp2_with fail
   go_ret
   exact ⟨ret_bool HE.out.symm, HB.out⟩
  ·have e : lessP a1 a2 b1 b2 = false := by unfold lessP; simp [h1, h2]
   have h2' : (a1 == b1) = false := by simpa using h2
   have HE := Lib.hid e
   have HB := Lib.hid hb
   clear e hb h2
   go_enter Tryz.func21, Tryz.ntmps21
   go_wp2_with fail
   go_ret
   exact ⟨ret_bool HE.out.symm, HB.out⟩
end Go.Proofs.YtahkjagjcogeiaaGreatDoor
/- Words for the ten laws. -/
namespace Go.Proofs.YtahkjagjcogeiaaGreatDoor
open Go.RowKit Go.Shelf

theorem townB_one {t : Town} (h : townB t = true) : 1 ≤ t.places.length := by
 unfold townB sizeB at h
 simp only [Bool.and_eq_true, decide_eq_true_eq] at h
 have := inB1_spec h.1.1.1
 omega
theorem ints_zero {w : World} {B : Nat} {A : Option Addr} : IntsAt w B A 0 [] := ⟨rfl, fun h => absurd h (Nat.lt_irrefl 0)⟩
theorem ints_take {w : World} {B n r : Nat} {A : Option Addr} {l : List Int} (h : IntsAt w B A n l) (hr : r ≤ n) : IntsAt w B A r (l.take r) := by
 have hl := h.len
 refine ⟨by simp; omega, fun h0 => ?_⟩
 obtain ⟨ad, e, hb, hc⟩ := h.2 (by omega)
 refine ⟨ad, e, hb, fun j u hu => hc j u ?_⟩
 rw [List.getElem?_map, List.getElem?_take] at hu
 split at hu
 ·rw [List.getElem?_map]; exact hu
 ·cases hu
theorem ints_drop {w : World} {B n r b off : Nat} {l : List Int} (h : IntsAt w B (some ⟨b, off, none⟩) n l) (hr : r ≤ n) : IntsAt w B (some ⟨b, off + r, none⟩) (n - r) (l.drop r) := by
 have hl := h.len
 refine ⟨by simp; omega, fun h0 => ?_⟩
 obtain ⟨ad, e, hb, hc⟩ := h.2 (by omega)
 cases e
 refine ⟨_, rfl, hb, fun j u hu => ?_⟩
 rw [List.getElem?_map, List.getElem?_drop] at hu
 have h1 := hc (r + j) u (by rw [List.getElem?_map]; exact hu)
 rw [← h1]
 congr 1
 unfold Addr.add
 by_cases h2 : j = 0
 ·subst h2
  by_cases h3 : r = 0
  ·subst h3; simp
  ·simp [h3]
 ·have h3 : ¬ r + j = 0 := by omega
  simp only [h2, h3, if_false]
  simp
theorem ret7' {w W : World} {B g : Nat} {t : TypeId} {z0 z1 z2 z3 z4 z5 z6 : Value} (R : Blk W g t #[z0, z1, z2, z3, z4, z5, z6]) (L : Below B w W) (hg : B ≤ g) (v0 v1 v2 v3 v4 v5 v6 : Value) :
  Blk (((((((W.setCell ⟨g, 0, none⟩ v0).setCell ⟨g, 1, none⟩ v1).setCell ⟨g, 2, none⟩ v2).setCell ⟨g, 3, none⟩ v3).setCell ⟨g, 4, none⟩ v4).setCell ⟨g, 5, none⟩ v5).setCell ⟨g, 6, none⟩ v6) g t #[v0, v1, v2, v3, v4, v5, v6] ∧
  Below B w (((((((W.setCell ⟨g, 0, none⟩ v0).setCell ⟨g, 1, none⟩ v1).setCell ⟨g, 2, none⟩ v2).setCell ⟨g, 3, none⟩ v3).setCell ⟨g, 4, none⟩ v4).setCell ⟨g, 5, none⟩ v5).setCell ⟨g, 6, none⟩ v6) ∧
  W.grownBy (((((((W.setCell ⟨g, 0, none⟩ v0).setCell ⟨g, 1, none⟩ v1).setCell ⟨g, 2, none⟩ v2).setCell ⟨g, 3, none⟩ v3).setCell ⟨g, 4, none⟩ v4).setCell ⟨g, 5, none⟩ v5).setCell ⟨g, 6, none⟩ v6) (some g) := by
 have h := ret7 R L hg v0 v1 v2 v3 v4 v5 v6
 refine ⟨h.1, h.2, ?_⟩
 exact grown_setCell (grown_setCell (grown_setCell (grown_setCell (grown_setCell (grown_setCell (grown_setCell (grown_refl W (some g)) (p := ⟨g, 0, none⟩) (.inl rfl) v0) (p := ⟨g, 1, none⟩) (.inl rfl) v1) (p := ⟨g, 2, none⟩) (.inl rfl) v2) (p := ⟨g, 3, none⟩) (.inl rfl) v3) (p := ⟨g, 4, none⟩) (.inl rfl) v4) (p := ⟨g, 5, none⟩) (.inl rfl) v5) (p := ⟨g, 6, none⟩) (.inl rfl) v6
end Go.Proofs.YtahkjagjcogeiaaGreatDoor
/- Towns with more links, and with less; donkeys: plain Lean. -/
namespace Go.Proofs.YtahkjagjcogeiaaGreatDoor

section
variable {t t' : Town} {u v : Int} {dk dk' : Bool} {l k : List Int} {g g' : Gone} {p : Price} {c d : Cost}
theorem best_a (ht : Fine t) (h : best t dk freeP u v = some (c, l)) : c.a = 0 := by
 obtain ⟨g, _, _, _, h4⟩ := best_gone ht freeP_fair h
 rw [← h4]
 simp [Gone.cost, freeP]
end
end Go.Proofs.YtahkjagjcogeiaaGreatDoor
/- By a place between; pieces of the way: plain Lean. -/
namespace Go.Proofs.YtahkjagjcogeiaaGreatDoor

section
variable {t : Town} {u v m : Int} {dk : Bool} {l k : List Int} {g g' : Gone} {c d : Cost}
theorem way_tri (ht : Fine t) (h1 : askE t [u, m] = 0) (h2 : askE t [m, v] = 0) (h3 : askE t [u, v] = 0) (e1 : wayE t u m dk = 0) (e2 : wayE t m v dk = 0) :
  wayE t u v dk = 0 ∧ lessP ((wayT t u m dk).1 + (wayT t m v dk).1) ((wayT t u m dk).2 + (wayT t m v dk).2) (wayT t u v dk).1 (wayT t u v dk).2 = false := by
 cases hb1 : best t dk freeP u m with
 | none => rw [(way_none h1 hb1).1] at e1; cases e1
 | some r1 =>
  cases hb2 : best t dk freeP m v with
  | none => rw [(way_none h2 hb2).1] at e2; cases e2
  | some r2 =>
   obtain ⟨c1, l1⟩ := r1
   obtain ⟨c2, l2⟩ := r2
   obtain ⟨d, k, hb, hle⟩ := walk_some ht freeP_fair ((best_walk ht freeP_fair hb1).1.append (best_walk ht freeP_fair hb2).1)
   have w1 := way_some h1 hb1
   have w2 := way_some h2 hb2
   have w3 := way_some h3 hb
   refine ⟨w3.1, ?_⟩
   rw [w1.2.2, w2.2.2, w3.2.2]
   have a1 := best_a ht hb1
   have a2 := best_a ht hb2
   have a3 := best_a ht hb
   have h4 := key_split hle
   simp only [addC] at h4
   simp only [lessP]
   rcases h4 with h4 | ⟨_, h4 | ⟨h4, h5 | ⟨h5, _⟩⟩⟩
   ·omega
   ·simp; constructor
    ·omega
    ·intro h; omega
   ·simp [← h4]; omega
   ·simp [← h4, ← h5]
theorem wayT_small (ht : Fine t) (h : askE t [u, v] = 0) : (0 ≤ (wayT t u v dk).1 ∧ (wayT t u v dk).1 ≤ 4500) ∧ 0 ≤ (wayT t u v dk).2 ∧ (wayT t u v dk).2 ≤ 18000 := by
 cases hb : best t dk freeP u v with
 | none => rw [(way_none h hb).2.2]; simp
 | some r =>
  obtain ⟨c, l⟩ := r
  rw [(way_some h hb).2.2]
  have := best_cost ht freeP_fair hb
  exact this.2
/-- The way cut in two. -/
theorem best_cut (ht : Fine t) (h : best t dk freeP u v = some (c, l)) (r : Nat) : ∃ g c1 c2, followF t dk (startG u) (l.take r) = (g, true) ∧ GW t dk (startG u) (l.take r) g ∧ best t dk freeP u g.at_ = some (c1, l.take r) ∧ best t dk freeP g.at_ v = some (c2, l.drop r) := by
 obtain ⟨ge, _, h1, h2, h3⟩ := best_gone ht freeP_fair h
 have h1' : GW t dk (startG u) (l.take r ++ l.drop r) ge := by rw [List.take_append_drop]; exact h1
 obtain ⟨g, h4, h5⟩ := GW.split _ h1'
 have w1 := h4.walk0 freeP
 obtain ⟨c2, w2, h6⟩ := h5.walk freeP
 rw [h2] at w2
 have hf : First t dk freeP u v (some (addC (g.cost freeP) c2, l.take r ++ l.drop r)) := by
  rw [List.take_append_drop, ← h6, h3]
  exact best_walk ht freeP_fair h
 obtain ⟨p1, p2⟩ := hf.pieces ht freeP_fair w1 w2 rfl
 exact ⟨g, _, _, follow_gw ht.ids h4, h4, ((first_iff ht freeP_fair).1 p1).symm, ((first_iff ht freeP_fair).1 p2).symm⟩
theorem gw_ends (ht : Fine t) (h : GW t dk (startG u) l g) (hu : u ∈ t.places) : g.at_ ∈ t.places := by
 rcases (h.walk0 freeP).ends ht with ⟨h1, _⟩ | ⟨_, h1⟩
 ·rw [← h1]; exact hu
 ·exact h1
end
end Go.Proofs.YtahkjagjcogeiaaGreatDoor
/- The law ClimbBetween, walked. -/
namespace Go.Proofs.YtahkjagjcogeiaaGreatDoor
open Go.RowKit Go.Shelf

set_option maxRecDepth 100000 in
set_option maxHeartbeats 16000000 in
theorem zbetween_walk_in (A : Option Addr) (n c : Nat) (A' : Option Addr) (m d : Nat) (t : Town) (fr : Nat) (by_ : Nat) (to_ : Nat) (cut : Nat) (dk : Bool) (w : World) (hn : n ≤ maxLen) (hm : m ≤ maxLen) (hfr : fr ≤ 255) (hby_ : by_ ≤ 255) (hto_ : to_ ≤ 255) (hcut : cut ≤ 255) (ht : TownAt w w.heap.size A n A' m t)  (hL : Laid w) :
  CallsIn Fence.wide 9 Tryz.prog 4 #[.agg #[.slice A n c, .slice A' m d], .int .u8 fr, .int .u8 by_, .int .u8 to_, .int .u8 cut, .bool dk] w fun e w' => e = .returned (.bool true) ∧ Below w.heap.size w w' := by
 have HT := Lib.hid ht
 have HL := Lib.hid hL
 have hl0 := hL.2.2.2
 have HLn := Lib.hid ht.places.len
 have HLm := Lib.hid ht.links.len
 clear ht hL
 unfold maxLen at hn hm
 refine callsIn_of_wp Tryz.func4 rfl trivial ?_ rfl
 simp only [Tryz.ntmps4, List.size_toArray, List.length_cons, List.length_nil, Nat.reduceAdd, Nat.reduceSub, Array.replicate_succ, Array.replicate_zero, List.push_toArray, List.append_toArray, List.nil_append, List.cons_append]
 gi_wp2
 have HLay := Lib.hid (Lay.one w 25 #[.slice A n c, .slice A' m d])
 generalize (w.alloc (.cells #[.slice A n c, .slice A' m d] 25)) = w0 at *
 refine ⟨trivial, (callsIn_wide.2 (alive_any w0 (HL.out.below HLay.out.bel hl0))).mono ?_⟩
 rintro e W1 ⟨rfl, hb⟩
 replace HLay := Lib.hid (HLay.out.below hb)
 clear hb
 have x0_0 := (HLay.out.blk 0 rfl).cell 0
 have x0_1 := (HLay.out.blk 0 rfl).cell 1
 have l0_ := HLay.out.lt 0 rfl
 gi_wp2
 clear x0_0 x0_1 l0_
 refine ⟨trivial, (callsIn_wide.2 (ready_any A n c A' m d t W1 ((HT.out.below HLay.out.bel).more HLay.out.bel.size))).mono ?_⟩
 rintro e W2 ⟨rfl, hb⟩
 replace HLay := Lib.hid (HLay.out.below hb)
 clear hb
 cases hrd : readyB n m t with
 | false =>
  clear hrd
  gi_wp2
  exact bodyPost_ret (v := .bool true) (by simp [results, Tryz.results4, go_sem]) rfl ⟨rfl, HLay.out.bel⟩
 | true =>
 have htb : townB t = true := by unfold readyB at hrd; simp at hrd; exact hrd.2
 have HTB := Lib.hid htb
 have HG := Lib.hid (goodT htb)
 have hm20 : m ≤ 20 := by have := HG.out.links; have := HLm.out; omega
 have hn9 : n ≤ 9 := by have := HG.out.fine.size; have := HLn.out; omega
 have hn1 : 1 ≤ n := by have := townB_one htb; have := HLn.out; omega
 have HP1 : Hid (1 ≤ t.places.length) := Lib.hid (townB_one htb)
 clear hrd htb
 gi_wp2
 refine wpIn_flow_old [([true, true, false, true, true, false, true, true], 2), ([], 5), ([], 8)] [false, false, false, false, false, false, false, false, false, true, true, true] [] (by kernel_rfl) (by kernel_rfl) (by kernel_rfl) (below_drewN (Below.refl _ _) 1) ?_
 refine wpFlow_cons (A := ?AF1) rfl ?hq1 ?_
 case hq1 =>
  rintro σ hσ of hof hcl
  have HOF := Lib.hid hof
  have HCL := Lib.hid hcl
  clear hof hcl
  have c0_ : ∀ z, (of z).cell? ⟨w.heap.size, 0, none⟩ = some (.slice A n c) := fun z => ((HLay.out.below (HOF.out z)).blk 0 rfl).cell 0
  have c1_ : ∀ z, (of z).cell? ⟨w.heap.size, 1, none⟩ = some (.slice A' m d) := fun z => ((HLay.out.below (HOF.out z)).blk 0 rfl).cell 1
  have hfw : ∀ f, Fence.wide.fn f := fun _ => trivial
  simp only [pickB]
  repeat (gi_big_quiet_step (fail))
  refine wpQuietIn_nil ?_
  exact rfl
 intro W3 hW
 replace HLay := Lib.hid (HLay.out.below hW)
 clear hW
 have hlw := (HLay.out.blk 0 rfl).lt
 gi_wp2
 refine ⟨trivial, (callsIn_wide.2 (lplace_any A n c A' m d t fr W3 hn1 (by omega) hfr ((HT.out.places.below HLay.out.bel).more HLay.out.bel.size))).mono ?_⟩
 rintro e W4 ⟨rfl, hb⟩
 replace HLay := Lib.hid (HLay.out.below hb)
 obtain ⟨u, hu⟩ : ∃ u, plN t fr = u := ⟨_, rfl⟩
 rw [hu]
 have Hu := Lib.hid (show u ∈ t.places from hu ▸ plN_mem HP1.out fr)
 clear hu
 gi_wp2
 refine ⟨trivial, hb, ?_⟩
 clear hb
 clear hlw
 refine wpFlow_cons rfl Quietly.none ?_
 intro W5 hW
 replace HLay := Lib.hid (HLay.out.below hW)
 clear hW
 have hlw := (HLay.out.blk 0 rfl).lt
 gi_wp2
 refine ⟨trivial, (callsIn_wide.2 (lplace_any A n c A' m d t by_ W5 hn1 (by omega) hby_ ((HT.out.places.below HLay.out.bel).more HLay.out.bel.size))).mono ?_⟩
 rintro e W6 ⟨rfl, hb⟩
 replace HLay := Lib.hid (HLay.out.below hb)
 obtain ⟨m_, hm_⟩ : ∃ m_, plN t by_ = m_ := ⟨_, rfl⟩
 rw [hm_]
 have Hm_ := Lib.hid (show m_ ∈ t.places from hm_ ▸ plN_mem HP1.out by_)
 clear hm_
 gi_wp2
 refine ⟨trivial, hb, ?_⟩
 clear hb
 clear hlw
 refine wpFlow_cons rfl Quietly.none ?_
 intro W7 hW
 replace HLay := Lib.hid (HLay.out.below hW)
 clear hW
 have hlw := (HLay.out.blk 0 rfl).lt
 gi_wp2
 refine ⟨trivial, (callsIn_wide.2 (lplace_any A n c A' m d t to_ W7 hn1 (by omega) hto_ ((HT.out.places.below HLay.out.bel).more HLay.out.bel.size))).mono ?_⟩
 rintro e W8 ⟨rfl, hb⟩
 replace HLay := Lib.hid (HLay.out.below hb)
 obtain ⟨v, hv⟩ : ∃ v, plN t to_ = v := ⟨_, rfl⟩
 rw [hv]
 have Hv := Lib.hid (show v ∈ t.places from hv ▸ plN_mem HP1.out to_)
 clear hv
 gi_wp2
 refine ⟨trivial, hb, ?_⟩
 clear hb
 clear hlw
 refine wpFlow_nil (A := ?AF2) ?hq2 ?_
 case hq2 =>
  rintro σ hσ of hof hcl
  have HOF := Lib.hid hof
  have HCL := Lib.hid hcl
  clear hof hcl
  have c0_ : ∀ z, (of z).cell? ⟨w.heap.size, 0, none⟩ = some (.slice A n c) := fun z => ((HLay.out.below (HOF.out z)).blk 0 rfl).cell 0
  have c1_ : ∀ z, (of z).cell? ⟨w.heap.size, 1, none⟩ = some (.slice A' m d) := fun z => ((HLay.out.below (HOF.out z)).blk 0 rfl).cell 1
  have hfw : ∀ f, Fence.wide.fn f := fun _ => trivial
  simp only [pickB]
  repeat (gi_big_quiet_step (fail))
  refine wpQuietIn_nil ?_
  exact rfl
 intro W9 hW
 replace HLay := Lib.hid (HLay.out.below hW)
 clear hW
 simp only [pickB]
 refine wpT_nil ?_
 have HAC := Lib.hid (askE_two HTB.out Hu.out Hv.out)
 have HAB := Lib.hid (askE_two HTB.out Hu.out Hm_.out)
 have HBC := Lib.hid (askE_two HTB.out Hm_.out Hv.out)
 have x0_0 := (HLay.out.blk 0 rfl).cell 0
 have x0_1 := (HLay.out.blk 0 rfl).cell 1
 have l0_ := HLay.out.lt 0 rfl
 gi_wp2
 clear x0_0 x0_1 l0_
 refine ⟨trivial, (callsIn_wide.2 (toilw_any A n c A' m d t u v dk W9 (by omega) (by omega) ((HT.out.below HLay.out.bel).more HLay.out.bel.size) (HL.out.below HLay.out.bel hl0))).mono ?_⟩
 rintro e W10 ⟨rfl, hb⟩
 replace HLay := Lib.hid (HLay.out.below hb)
 clear hb
 obtain ⟨e1, he1⟩ : ∃ e, wayE t u v dk = e := ⟨_, rfl⟩
 obtain ⟨⟨a1, b1⟩, hq1⟩ : ∃ q, wayT t u v dk = q := ⟨_, rfl⟩
 rw [he1, hq1]
 have HE1 := Lib.hid he1
 have HQ1 := Lib.hid hq1
 clear he1 hq1
 gi_upto_region 6 with fail
 obtain ⟨V11, hV⟩ : ∃ V, (W10.alloc (.cells #[.int .i64 a1, .int .i64 b1] 34)) = V := ⟨_, rfl⟩
 rw [hV]
 have hb := fbox_bel hV
 have hnew := fbox_blk hV
 have hge := HLay.out.bel.size
 replace HLay := Lib.hid (HLay.out.below hb)
 replace HLay := Lib.hid (HLay.out.add hge hnew)
 clear hnew hge hb hV
 obtain ⟨G12, hG⟩ : ∃ g, W10.heap.size = g := ⟨_, rfl⟩
 rw [hG] at HLay ⊢
 clear hG
 have x0_0 := (HLay.out.blk 0 rfl).cell 0
 have x0_1 := (HLay.out.blk 0 rfl).cell 1
 have l0_ := HLay.out.lt 0 rfl
 gi_wp2
 clear x0_0 x0_1 l0_
 refine ⟨trivial, (callsIn_wide.2 (toilw_any A n c A' m d t u m_ dk V11 (by omega) (by omega) ((HT.out.below HLay.out.bel).more HLay.out.bel.size) (HL.out.below HLay.out.bel hl0))).mono ?_⟩
 rintro e W13 ⟨rfl, hb⟩
 replace HLay := Lib.hid (HLay.out.below hb)
 clear hb
 obtain ⟨e2, he2⟩ : ∃ e, wayE t u m_ dk = e := ⟨_, rfl⟩
 obtain ⟨⟨a2, b2⟩, hq2⟩ : ∃ q, wayT t u m_ dk = q := ⟨_, rfl⟩
 rw [he2, hq2]
 have HE2 := Lib.hid he2
 have HQ2 := Lib.hid hq2
 clear he2 hq2
 gi_upto_region 7 with fail
 obtain ⟨V14, hV⟩ : ∃ V, (W13.alloc (.cells #[.int .i64 a2, .int .i64 b2] 34)) = V := ⟨_, rfl⟩
 rw [hV]
 have hb := fbox_bel hV
 have hnew := fbox_blk hV
 have hge := HLay.out.bel.size
 replace HLay := Lib.hid (HLay.out.below hb)
 replace HLay := Lib.hid (HLay.out.add hge hnew)
 clear hnew hge hb hV
 obtain ⟨G15, hG⟩ : ∃ g, W13.heap.size = g := ⟨_, rfl⟩
 rw [hG] at HLay ⊢
 clear hG
 have x0_0 := (HLay.out.blk 0 rfl).cell 0
 have x0_1 := (HLay.out.blk 0 rfl).cell 1
 have l0_ := HLay.out.lt 0 rfl
 gi_wp2
 clear x0_0 x0_1 l0_
 refine ⟨trivial, (callsIn_wide.2 (toilw_any A n c A' m d t m_ v dk V14 (by omega) (by omega) ((HT.out.below HLay.out.bel).more HLay.out.bel.size) (HL.out.below HLay.out.bel hl0))).mono ?_⟩
 rintro e W16 ⟨rfl, hb⟩
 replace HLay := Lib.hid (HLay.out.below hb)
 clear hb
 obtain ⟨e3, he3⟩ : ∃ e, wayE t m_ v dk = e := ⟨_, rfl⟩
 obtain ⟨⟨a3, b3⟩, hq3⟩ : ∃ q, wayT t m_ v dk = q := ⟨_, rfl⟩
 rw [he3, hq3]
 have HE3 := Lib.hid he3
 have HQ3 := Lib.hid hq3
 clear he3 hq3
 gi_upto_region 8 with fail
 obtain ⟨V17, hV⟩ : ∃ V, (W16.alloc (.cells #[.int .i64 a3, .int .i64 b3] 34)) = V := ⟨_, rfl⟩
 rw [hV]
 have hb := fbox_bel hV
 have hnew := fbox_blk hV
 have hge := HLay.out.bel.size
 replace HLay := Lib.hid (HLay.out.below hb)
 replace HLay := Lib.hid (HLay.out.add hge hnew)
 clear hnew hge hb hV
 obtain ⟨G18, hG⟩ : ∃ g, W16.heap.size = g := ⟨_, rfl⟩
 rw [hG] at HLay ⊢
 clear hG
 gi_cut [80] from 75 (fun v80 wx => ∃ b80, v80 = .bool b80 ∧ Hid ((e2 == 0 && e3 == 0) = b80) ∧ Hid (Below V17.heap.size V17 wx))
 case first =>
  have HB0 := Lib.hid (Below.refl V17.heap.size V17)
  by_cases h2 : e2 = 0
  ·subst h2
   gi_wp2
   gi_meet
   exact ⟨_, rfl, Lib.hid (by simp), HB0⟩
  ·have h2b : (e2 == 0) = false := by simpa using h2
   gi_wp2
   gi_meet
   exact ⟨_, rfl, Lib.hid (by rw [h2b]; rfl), HB0⟩
 case rest =>
  obtain ⟨b80, rfl, H80, hcb⟩ := hcut
  rename World => C19
  have hb := hcb.out
  clear hcb
  replace HLay := Lib.hid (HLay.out.below hb)
  clear hb
  gi_upto_if 80 with fail
  gi_cut [] from 81 (fun wx => Hid (Below C19.heap.size C19 wx))
  case first =>
   have HB0 := Lib.hid (Below.refl C19.heap.size C19)
   cases b80 with
   | true =>
    have h23 : e2 = 0 ∧ e3 = 0 := by simpa using H80.out
    have hw := way_tri HG.out.fine HAB.out HBC.out HAC.out (HE2.out.trans h23.1) (HE3.out.trans h23.2)
    have s2 := wayT_small (dk := dk) HG.out.fine HAB.out
    have s3 := wayT_small (dk := dk) HG.out.fine HBC.out
    rw [HE1.out, HQ1.out, HQ2.out, HQ3.out] at hw
    rw [HQ2.out] at s2
    rw [HQ3.out] at s3
    obtain ⟨h1, hl⟩ := hw
    have HLL := Lib.hid (show lessP (a2 + a3) (b2 + b3) a1 b1 = false from hl)
    simp only at s2 s3
    subst h1
    clear hl h23
    have x2_0 := (HLay.out.blk 2 rfl).cell 0
    have x2_1 := (HLay.out.blk 2 rfl).cell 1
    have l2_ := HLay.out.lt 2 rfl
    have x3_0 := (HLay.out.blk 3 rfl).cell 0
    have x3_1 := (HLay.out.blk 3 rfl).cell 1
    have l3_ := HLay.out.lt 3 rfl
    gi_wp2
    clear x2_0 x2_1 l2_ x3_0 x3_1 l3_
    refine ⟨trivial, (callsIn_wide.2 (ltoil_any (a2 + a3) (b2 + b3) C19)).mono ?_⟩
    rintro e W20 ⟨rfl, hb⟩
    replace HLay := Lib.hid (HLay.out.below hb)
    replace HB0 := Lib.hid (HB0.out.trans (hb.mono HB0.out.size))
    clear hb
    clear s2 s3
    gi_upto_region 10 with fail
    obtain ⟨V21, hV⟩ : ∃ V, (W20.alloc (.cells #[.int .i64 (a2 + a3), .int .i64 (b2 + b3)] 34)) = V := ⟨_, rfl⟩
    rw [hV]
    have hb := fbox_bel hV
    have hnew := fbox_blk hV
    have hge := HLay.out.bel.size
    replace HLay := Lib.hid (HLay.out.below hb)
    replace HB0 := Lib.hid (HB0.out.trans (hb.mono HB0.out.size))
    replace HLay := Lib.hid (HLay.out.add hge hnew)
    clear hnew hge hb hV
    obtain ⟨G22, hG⟩ : ∃ g, W20.heap.size = g := ⟨_, rfl⟩
    rw [hG] at HLay ⊢
    clear hG
    have x1_0 := (HLay.out.blk 1 rfl).cell 0
    have x1_1 := (HLay.out.blk 1 rfl).cell 1
    have l1_ := HLay.out.lt 1 rfl
    have x4_0 := (HLay.out.blk 4 rfl).cell 0
    have x4_1 := (HLay.out.blk 4 rfl).cell 1
    have l4_ := HLay.out.lt 4 rfl
    gi_wp2
    clear x1_0 x1_1 l1_ x4_0 x4_1 l4_
    refine ⟨trivial, (callsIn_wide.2 (lessToil_any (a2 + a3) (b2 + b3) a1 b1 V21)).mono ?_⟩
    rintro e W23 ⟨rfl, hb⟩
    replace HLay := Lib.hid (HLay.out.below hb)
    replace HB0 := Lib.hid (HB0.out.trans (hb.mono HB0.out.size))
    clear hb
    rw [HLL.out]
    gi_wp2
    gi_meet
    exact HB0
   | false =>
    gi_wp2
    gi_meet
    exact HB0
  case rest =>
   rename World => C24
   have hb := hcut.out
   clear hcut
   replace HLay := Lib.hid (HLay.out.below hb)
   clear hb
   cases hbo : best t dk freeP u v with
   | none =>
    have HW := Lib.hid (way_none HAC.out hbo)
    obtain rfl : e1 = 6 := HE1.out.symm.trans HW.out.1
    clear hbo
    have x0_0 := (HLay.out.blk 0 rfl).cell 0
    have x0_1 := (HLay.out.blk 0 rfl).cell 1
    have l0_ := HLay.out.lt 0 rfl
    gi_wp2
    clear x0_0 x0_1 l0_
    refine ⟨trivial, (callsIn_wide.2 (waylc_any A n c A' m d t u v dk C24 (by omega) (by omega) ((HT.out.below HLay.out.bel).more HLay.out.bel.size) (HL.out.below HLay.out.bel hl0))).mono ?_⟩
    rintro e W25 ⟨AW, nAW, cAW, rfl, hi, hb, hcW⟩
    replace HLay := Lib.hid (HLay.out.below hb)
    clear hb
    rw [HW.out.1]
    gi_wp2
    exact bodyPost_ret (v := .bool true) (by simp [results, Tryz.results4, go_sem]) rfl ⟨rfl, HLay.out.bel⟩
   | some rb =>
    obtain ⟨⟨ca, cb, cc, cd⟩, lw⟩ := rb
    have HW := Lib.hid (way_some HAC.out hbo)
    have HBO := Lib.hid hbo
    have hlw9 := best_len HG.out.fine freeP_fair hbo
    obtain rfl : e1 = 0 := HE1.out.symm.trans HW.out.1
    clear hbo
    have x0_0 := (HLay.out.blk 0 rfl).cell 0
    have x0_1 := (HLay.out.blk 0 rfl).cell 1
    have l0_ := HLay.out.lt 0 rfl
    gi_wp2
    clear x0_0 x0_1 l0_
    refine ⟨trivial, (callsIn_wide.2 (waylc_any A n c A' m d t u v dk C24 (by omega) (by omega) ((HT.out.below HLay.out.bel).more HLay.out.bel.size) (HL.out.below HLay.out.bel hl0))).mono ?_⟩
    rintro e W26 ⟨AW, nAW, cAW, rfl, hi, hb, hcW⟩
    replace HLay := Lib.hid (HLay.out.below hb)
    clear hb
    rw [HW.out.2.1] at hi
    rw [HW.out.1]
    have HAW := Lib.hid hi
    clear hi
    obtain rfl : nAW = lw.length := HAW.out.len.symm
    have hrm : cut % (lw.length + 1) < lw.length + 1 := Nat.mod_lt _ (by omega)
    have HM : Hid (Int.tmod (cut : Int) ((lw.length : Int) + 1) = ((cut % (lw.length + 1) : Nat) : Int)) := Lib.hid (by rw [Int.tmod_eq_emod_of_nonneg (by omega)]; push_cast; rfl)
    obtain ⟨r, hrq⟩ : ∃ r, cut % (lw.length + 1) = r := ⟨_, rfl⟩
    rw [hrq] at HM hrm
    clear hrq
    have h40 : decide ((40 : Int) < (lw.length : Int)) = false := by simp; omega
    have wx : IntKind.i64.wrap (cut : Int) = (cut : Int) := IntWalk.i64_in _ (by omega)
    have htm := HM.out
    have hr0 : (0 : Int) ≤ (r : Int) := by omega
    have hrn : (r : Int) ≤ (lw.length : Int) := by omega
    have hrc : (r : Int) ≤ (cAW : Int) := by omega
    gi_upto_region 20 with fail
    clear h40 wx htm
    obtain ⟨⟨ga, gp, gu, gs, gl⟩, c1, c2, hfo, hgw, hb1, hb2⟩ := best_cut HG.out.fine HBO.out r
    have HFO := Lib.hid hfo
    have Hg := Lib.hid (gw_ends HG.out.fine hgw Hu.out)
    have HW1 := Lib.hid (way_some (askE_two HTB.out Hu.out Hg.out) hb1)
    have HW2 := Lib.hid (way_some (askE_two HTB.out Hg.out Hv.out) hb2)
    clear hfo hgw hb1 hb2
    have HLay0 := Lib.hid HLay.out
    have HAWz := Lib.hid HAW.out
    have HBV := Lib.hid (Below.refl W26.heap.size W26)
    refine wpIn_flow_new [([true, true, true, true, true, true], 6)] [false, false, false, false, false, false, false, true, true, true, false, false, true] [false, false, false, false, false, false, false, false, false, false, false, true] 10 (fun b => .pointer (some ⟨b, 0, none⟩)) 39 #[.int .i64 0, .int .i64 0, .int .i64 0, .int .i64 0, .int .i64 0, .int .i64 0, .int .i64 0] (by kernel_rfl) (by kernel_rfl) (by kernel_rfl) (below_drewN (Below.refl _ _) 1) rfl rfl rfl (fun _ _ => rfl) (fun _ _ => rfl) ?_
    refine wpFlow_cons (A := ?AF3) rfl ?hq3 ?_
    case hq3 =>
     rintro σ hσ of hof hcl
     have HOF := Lib.hid hof
     have HCL := Lib.hid hcl
     clear hof hcl
     have c0_ : ∀ z, (of z).cell? ⟨w.heap.size, 0, none⟩ = some (.slice A n c) := fun z => ((HLay.out.below (HOF.out z)).blk 0 rfl).cell 0
     have c1_ : ∀ z, (of z).cell? ⟨w.heap.size, 1, none⟩ = some (.slice A' m d) := fun z => ((HLay.out.below (HOF.out z)).blk 0 rfl).cell 1
     have hfw : ∀ f, Fence.wide.fn f := fun _ => trivial
     simp only [pickB]
     repeat (gi_big_quiet_step (fail))
     refine wpQuietIn_nil ?_
     exact rfl
    intro W27 hW
    replace HLay := Lib.hid (HLay.out.below hW)
    replace HAW := Lib.hid ((HAW.out.below hW).more hW.size)
    replace HBV := Lib.hid (HBV.out.trans (hW.mono HBV.out.size))
    clear hW
    gi_wp2
    refine ⟨trivial, (callsIn_wide.2 (follow_any A n c A' m d t u AW r cAW (lw.take r) dk W27 hm20 (by omega) ((HT.out.links.below HLay.out.bel).more HLay.out.bel.size) HG.out.fine (ints_take HAW.out (by omega)))).mono ?_⟩
    rintro e W28 ⟨rfl, hb⟩
    replace HLay := Lib.hid (HLay.out.below hb)
    replace HAW := Lib.hid ((HAW.out.below hb).more hb.size)
    replace HBV := Lib.hid (HBV.out.trans (hb.mono HBV.out.size))
    rw [HFO.out]
    gi_wp2
    refine ⟨trivial, hb, ?_⟩
    clear hb
    refine wpFlow_nil (A := ?AF4) ?hq4 ?_
    case hq4 =>
     rintro σ hσ of hof hcl
     have HOF := Lib.hid hof
     have HCL := Lib.hid hcl
     clear hof hcl
     have c0_ : ∀ z, (of z).cell? ⟨w.heap.size, 0, none⟩ = some (.slice A n c) := fun z => ((HLay.out.below (HOF.out z)).blk 0 rfl).cell 0
     have c1_ : ∀ z, (of z).cell? ⟨w.heap.size, 1, none⟩ = some (.slice A' m d) := fun z => ((HLay.out.below (HOF.out z)).blk 0 rfl).cell 1
     have hfw : ∀ f, Fence.wide.fn f := fun _ => trivial
     simp only [pickB]
     repeat (gi_big_quiet_step (fail))
     refine wpQuietIn_nil ?_
     exact rfl
    intro G9 W29 hW hbg hbb hbi
    replace HLay := Lib.hid (HLay.out.below hW)
    replace HAW := Lib.hid ((HAW.out.below hW).more hW.size)
    replace HBV := Lib.hid (HBV.out.trans (hW.mono HBV.out.size))
    have c0 := hbb.cell 0
    have z0 := hbb.frozen 0
    have c1 := hbb.cell 1
    have z1 := hbb.frozen 1
    have c2 := hbb.cell 2
    have z2 := hbb.frozen 2
    have c3 := hbb.cell 3
    have z3 := hbb.frozen 3
    have c4 := hbb.cell 4
    have z4 := hbb.frozen 4
    have c5 := hbb.cell 5
    have z5 := hbb.frozen 5
    have c6 := hbb.cell 6
    have z6 := hbb.frozen 6
    have hbl := hbb.lt
    have hbw : w.heap.size ≤ G9 := Nat.le_trans HLay0.out.1.size hbg
    simp only [pickB]
    refine wpT_cons ?_
    gi_wp2
    refine wpT_nil ?_
    have R2 := ret7' hbb (Below.refl G9 W29) (Nat.le_refl _) (.int .i64 ga) (.int .i64 gu) (.int .i64 gp) (.int .i64 gp) (.int .i64 gu) (.int .i64 gs) (.int .i64 gl)
    have hbv := HBV.out.trans (R2.2.1.mono hbg)
    replace HAW := Lib.hid (ints_up HAWz.out hbv)
    clear HBV hbv HAWz
    replace HLay := Lib.hid (Lay.add (w := w) (bs := [(w.heap.size, 25, #[.slice A n c, .slice A' m d]), (G12, 34, #[.int .i64 a1, .int .i64 b1]), (G15, 34, #[.int .i64 a2, .int .i64 b2]), (G18, 34, #[.int .i64 a3, .int .i64 b3])]) ⟨HLay.out.1.trans (R2.2.1.mono hbw), fun p hp => ⟨(HLay.out.2 p hp).1, (HLay.out.2 p hp).2.below R2.2.1 (by have := (HLay0.out.2 p hp).2.lt; omega)⟩⟩ hbw R2.1)
    generalize (((((((W29.setCell ⟨G9, 0, none⟩ (.int .i64 ga)).setCell ⟨G9, 1, none⟩ (.int .i64 gu)).setCell ⟨G9, 2, none⟩ (.int .i64 gp)).setCell ⟨G9, 3, none⟩ (.int .i64 gp)).setCell ⟨G9, 4, none⟩ (.int .i64 gu)).setCell ⟨G9, 5, none⟩ (.int .i64 gs)).setCell ⟨G9, 6, none⟩ (.int .i64 gl)) = W30 at *
    clear c0 z0 c1 z1 c2 z2 c3 z3 c4 z4 c5 z5 c6 z6 hbl hbb hW hbg R2 hbw hbi HLay0
    gi_upto_region 23 with fail
    have x0_0 := (HLay.out.blk 0 rfl).cell 0
    have x0_1 := (HLay.out.blk 0 rfl).cell 1
    have l0_ := HLay.out.lt 0 rfl
    have x4_0 := (HLay.out.blk 4 rfl).cell 0
    have x4_1 := (HLay.out.blk 4 rfl).cell 1
    have x4_2 := (HLay.out.blk 4 rfl).cell 2
    have x4_3 := (HLay.out.blk 4 rfl).cell 3
    have x4_4 := (HLay.out.blk 4 rfl).cell 4
    have x4_5 := (HLay.out.blk 4 rfl).cell 5
    have x4_6 := (HLay.out.blk 4 rfl).cell 6
    have l4_ := HLay.out.lt 4 rfl
    gi_wp2
    clear x0_0 x0_1 l0_ x4_0 x4_1 x4_2 x4_3 x4_4 x4_5 x4_6 l4_
    refine ⟨trivial, (callsIn_wide.2 (waylc_any A n c A' m d t u ga dk W30 (by omega) (by omega) ((HT.out.below HLay.out.bel).more HLay.out.bel.size) (HL.out.below HLay.out.bel hl0))).mono ?_⟩
    rintro e W31 ⟨AX, nAX, cAX, rfl, hi, hb, _⟩
    replace HLay := Lib.hid (HLay.out.below hb)
    replace HAW := Lib.hid ((HAW.out.below hb).more hb.size)
    clear hb
    rw [HW1.out.2.1] at hi
    rw [HW1.out.1]
    have HAX := Lib.hid hi
    clear hi
    obtain rfl : r = nAX := by have h1 := HAX.out.len; have h2 := hrn; simp at h1; omega
    have x0_0 := (HLay.out.blk 0 rfl).cell 0
    have x0_1 := (HLay.out.blk 0 rfl).cell 1
    have l0_ := HLay.out.lt 0 rfl
    have x4_0 := (HLay.out.blk 4 rfl).cell 0
    have x4_1 := (HLay.out.blk 4 rfl).cell 1
    have x4_2 := (HLay.out.blk 4 rfl).cell 2
    have x4_3 := (HLay.out.blk 4 rfl).cell 3
    have x4_4 := (HLay.out.blk 4 rfl).cell 4
    have x4_5 := (HLay.out.blk 4 rfl).cell 5
    have x4_6 := (HLay.out.blk 4 rfl).cell 6
    have l4_ := HLay.out.lt 4 rfl
    gi_wp2
    clear x0_0 x0_1 l0_ x4_0 x4_1 x4_2 x4_3 x4_4 x4_5 x4_6 l4_
    refine ⟨trivial, (callsIn_wide.2 (waylc_any A n c A' m d t ga v dk W31 (by omega) (by omega) ((HT.out.below HLay.out.bel).more HLay.out.bel.size) (HL.out.below HLay.out.bel hl0))).mono ?_⟩
    rintro e W32 ⟨AY, nAY, cAY, rfl, hi, hb, _⟩
    replace HLay := Lib.hid (HLay.out.below hb)
    replace HAW := Lib.hid ((HAW.out.below hb).more hb.size)
    replace HAX := Lib.hid ((HAX.out.below hb).more hb.size)
    clear hb
    rw [HW2.out.2.1] at hi
    rw [HW2.out.1]
    have HAY := Lib.hid hi
    clear hi
    have HNY : Hid (nAY = lw.length - r) := Lib.hid (by have h1 := HAY.out.len; simp at h1; omega)
    by_cases hn0 : lw.length = 0
    ·have hr00 : r = 0 := by omega
     obtain rfl : lw = [] := List.eq_nil_of_length_eq_zero hn0
     subst hr00
     obtain rfl : nAY = 0 := by simpa using HNY.out
     clear hn0
     gi_wp2
     refine ⟨trivial, (callsIn_wide.2 (sameInts_any AX 0 cAX [] AW 0 cAW [] W32 (by unfold maxLen; omega) (by unfold maxLen; omega) (HAX.out) (HAW.out))).mono ?_⟩
     rintro e W33 ⟨rfl, hb⟩
     replace HLay := Lib.hid (HLay.out.below hb)
     replace HAW := Lib.hid ((HAW.out.below hb).more hb.size)
     replace HAX := Lib.hid ((HAX.out.below hb).more hb.size)
     replace HAY := Lib.hid ((HAY.out.below hb).more hb.size)
     clear hb
     rw [show sameI [] [] = true from rfl]
     gi_wp2
     refine ⟨trivial, (callsIn_wide.2 (sameInts_any AY 0 cAY [] AW 0 cAW [] W33 (by unfold maxLen; omega) (by unfold maxLen; omega) (HAY.out) (ints_zero))).mono ?_⟩
     rintro e W34 ⟨rfl, hb⟩
     replace HLay := Lib.hid (HLay.out.below hb)
     replace HAW := Lib.hid ((HAW.out.below hb).more hb.size)
     replace HAX := Lib.hid ((HAX.out.below hb).more hb.size)
     replace HAY := Lib.hid ((HAY.out.below hb).more hb.size)
     clear hb
     rw [show sameI [] [] = true from rfl]
     gi_wp2
     exact bodyPost_ret (v := .bool true) (by simp [results, Tryz.results4, go_sem]) rfl ⟨rfl, HLay.out.bel⟩
    obtain ⟨ab, ao, hAW, -, -⟩ := Reads.plain HAW.out (by simp; omega)
    subst hAW
    have HNN := Lib.hid hn0
    clear hn0
    gi_upto_region 25 with fail
    (try dsimp only)
    repeat (first | go_values | gi_guarded | gi_step | gi_upon)
    refine ⟨trivial, (callsIn_wide.2 (sameInts_any AX _ cAX (lw.take r) _ r cAW (lw.take r) W32 (by unfold maxLen; omega) (by unfold maxLen; omega) (HAX.out) (ints_take HAW.out (by omega)))).mono ?_⟩
    rintro e W35 ⟨rfl, hb⟩
    replace HLay := Lib.hid (HLay.out.below hb)
    replace HAW := Lib.hid ((HAW.out.below hb).more hb.size)
    replace HAX := Lib.hid ((HAX.out.below hb).more hb.size)
    replace HAY := Lib.hid ((HAY.out.below hb).more hb.size)
    clear hb
    rw [show sameI (lw.take r) (lw.take r) = true from by simp [sameI]]
    by_cases hrq : r = cAW
    ·have hrl : r = lw.length := by omega
     (try dsimp only)
     repeat (first | go_values | gi_guarded | gi_step | gi_upon)
     have hny := HNY.out
     refine ⟨trivial, (callsIn_wide.2 (sameInts_any AY nAY cAY (lw.drop r) _ 0 0 [] W35 (by unfold maxLen; omega) (by unfold maxLen; omega) (HAY.out) (ints_zero))).mono ?_⟩
     rintro e W36 ⟨rfl, hb⟩
     replace HLay := Lib.hid (HLay.out.below hb)
     replace HAW := Lib.hid ((HAW.out.below hb).more hb.size)
     replace HAX := Lib.hid ((HAX.out.below hb).more hb.size)
     replace HAY := Lib.hid ((HAY.out.below hb).more hb.size)
     clear hb
     rw [show sameI (lw.drop r) [] = true from by rw [List.drop_eq_nil_of_le (by omega)]; rfl]
     gi_wp2
     exact bodyPost_ret (v := .bool true) (by simp [results, Tryz.results4, go_sem]) rfl ⟨rfl, HLay.out.bel⟩
    (try dsimp only)
    repeat (first | go_values | gi_guarded | gi_step | gi_upon)
    have hny := HNY.out
    refine ⟨trivial, (callsIn_wide.2 (sameInts_any AY nAY cAY (lw.drop r) _ _ _ (lw.drop r) W35 (by unfold maxLen; omega) (by unfold maxLen; omega) (HAY.out) (ints_drop HAW.out (by omega)))).mono ?_⟩
    rintro e W37 ⟨rfl, hb⟩
    replace HLay := Lib.hid (HLay.out.below hb)
    replace HAW := Lib.hid ((HAW.out.below hb).more hb.size)
    replace HAX := Lib.hid ((HAX.out.below hb).more hb.size)
    replace HAY := Lib.hid ((HAY.out.below hb).more hb.size)
    clear hb
    rw [show sameI (lw.drop r) (lw.drop r) = true from by simp [sameI]]
    gi_wp2
    exact bodyPost_ret (v := .bool true) (by simp [results, Tryz.results4, go_sem]) rfl ⟨rfl, HLay.out.bel⟩
theorem zbetween_walk (A : Option Addr) (n c : Nat) (A' : Option Addr) (m d : Nat) (t : Town) (fr : Nat) (by_ : Nat) (to_ : Nat) (cut : Nat) (dk : Bool) (w : World) (hn : n ≤ maxLen) (hm : m ≤ maxLen) (hfr : fr ≤ 255) (hby_ : by_ ≤ 255) (hto_ : to_ ≤ 255) (hcut : cut ≤ 255) (ht : TownAt w w.heap.size A n A' m t)  (hL : Laid w) :
  Calls Tryz.prog 4 #[.agg #[.slice A n c, .slice A' m d], .int .u8 fr, .int .u8 by_, .int .u8 to_, .int .u8 cut, .bool dk] w fun e w' => e = .returned (.bool true) ∧ Below w.heap.size w w' :=
 callsIn_wide.1 (zbetween_walk_in A n c A' m d t fr by_ to_ cut dk w hn hm hfr hby_ hto_ hcut ht  hL)
end Go.Proofs.YtahkjagjcogeiaaGreatDoor
/- The table of checks as the row lists it: its three cells. The door's own heap meets the condition. -/
namespace Go.Proofs.YtahkjagjcogeiaaGreatDoor
open Go.ChangeShapes Go.WideShapes Go.ChangeAt Go.RowKit
set_option maxRecDepth 100000

def laidL : List (String × DataW Unit) := [("aguador/climb.checks", Rows.laid_aguador_climb_checks)]
theorem gChecks : Tryz.prog.globalNamed "aguador/climb.checks" = some 0 := by kernel_rfl
theorem tChecks : (Tryz.prog.globals[0]?).map (·.type) = some 163 := by kernel_rfl
theorem cellsCheck : Tryz.prog.cellsOf 162 = 1 := by kernel_rfl
theorem cellsFuncB : Tryz.prog.cellsOf 28 = 1 := by kernel_rfl
theorem checkUnd : ∃ f, Tryz.prog.underlying 162 = some (.struct #[f]) ∧ f.type = 28 ∧ f.offset = 0 := ⟨_, Tryz.underlying162, rfl, rfl⟩

/-- The door's own heap meets the condition. -/
theorem door_met (os : Os) (args : Array Value) : laidMetH Tryz.prog laidL ((World.doorLaid Tryz.prog 800 os).forCall (fun _ _ => 0) ⟨#[], args, []⟩).memory :=
 laidMetH_of_parts3 (fuel := 8) (laidMet_of_run' 8 (by kernel_rfl) (by kernel_rfl)) (by kernel_rfl) (by kernel_rfl)

theorem check_cell {W : World} {fuel : Nat} {cs : List Value} {b : UInt8} {r : List UInt8} {q : List MemPlace} {f0 : FuncId} (h : DataW.trod (funcToken Tryz.prog) Tryz.prog W 0 (fun _ => true) true fuel 162 cs = some (.agg [.held (b :: r)], q))
  (hone : ((List.range Tryz.prog.funcs.size).filter fun f => (Tryz.prog.funcs[f]?).any (·.name.toUTF8.data.toList == b :: r)) = [f0]) : cs = [.func (.func f0) #[] #[]] := by
 obtain ⟨f, hu, ht, ho⟩ := checkUnd
 obtain ⟨y0, n, hx, hl, h0⟩ := trod_struct1 hu h
 rw [cellsCheck] at hl
 match cs, hl with
 | [c], _ =>
  have h1 : DataW.trod (funcToken Tryz.prog) Tryz.prog W 0 (fun _ => true) true n 28 [c] = some y0 := by simpa [ht, ho, cellsFuncB] using h0
  simp only [Prod.mk.injEq, DataW.agg.injEq, List.cons.injEq, and_true] at hx
  obtain ⟨z, p⟩ := y0
  obtain ⟨e1, e2⟩ := hx
  simp only at e1
  subst e1
  rw [func_of_trod Tryz.underlying28 hone h1]

theorem of_laid {W : World} (h : laidMetH Tryz.prog laidL W) : Laid W := by
 obtain ⟨g, t, cs, fuel, p, hg, ht, hv, hd⟩ := h.funcs (List.mem_singleton.2 rfl)
 obtain rfl := Option.some.inj (gChecks.symm.trans hg)
 obtain rfl := Option.some.inj (tChecks.symm.trans ht)
 obtain ⟨xs, m, _, hx, hlen, hn, hel⟩ := DataW.trod_array Tryz.underlying163 hd
 rw [cellsCheck] at hel
 match xs, hn with
 | [x0, x1, x2], _ =>
  have h0 := hel 0 (by decide)
  have h1 := hel 1 (by decide)
  have h2 := hel 2 (by decide)
  simp only [Prod.mk.injEq] at hx
  have hx1 := hx.1
  simp only [DataW.funcsOut, DataW.funcsOutAll, List.map_cons, List.map_nil, DataW.agg.injEq, List.cons.injEq, and_true] at hx1
  obtain ⟨e0, e1, e2⟩ := hx1
  obtain ⟨x0, p0⟩ := x0
  obtain ⟨x1, p1⟩ := x1
  obtain ⟨x2, p2⟩ := x2
  simp only at e0 e1 e2
  subst e0 e1 e2
  have k0 := check_cell (f0 := 174) h0 (by kernel_rfl)
  have k1 := check_cell (f0 := 175) h1 (by kernel_rfl)
  have k2 := check_cell (f0 := 176) h2 (by kernel_rfl)
  have at_ : ∀ i, W.cell? ⟨0, i, none⟩ = cs[i]? := fun i => by simpa using World.var?_cell hg hv i
  obtain ⟨l⟩ := cs
  have c0 : W.cell? ⟨0, 0, none⟩ = some (.func (.func 174) #[] #[]) := by
   rw [at_]
   have := congrArg (·[0]?) k0
   simpa [List.getElem?_take, List.getElem?_drop] using this
  have c1 : W.cell? ⟨0, 1, none⟩ = some (.func (.func 175) #[] #[]) := by
   rw [at_]
   have := congrArg (·[0]?) k1
   simpa [List.getElem?_take, List.getElem?_drop] using this
  have c2 : W.cell? ⟨0, 2, none⟩ = some (.func (.func 176) #[] #[]) := by
   rw [at_]
   have := congrArg (·[0]?) k2
   simpa [List.getElem?_take, List.getElem?_drop] using this
  exact ⟨c0, c1, c2, World.block_lt_of_cell? W _ c0⟩

end Go.Proofs.YtahkjagjcogeiaaGreatDoor
/- The laws' arguments, opened: lists of whole numbers, lists of links, towns, a link; the table of checks. -/
namespace Go.Proofs.YtahkjagjcogeiaaGreatDoor
open Go.ChangeShapes Go.WideShapes Go.RowKit Go.Deep Go.Joins
set_option maxRecDepth 100000

section
variable {H : Type} {enc : TypeId × Value → H} {P : Program} {w : World} {base : Nat} {spare : Nat → Bool} {held : Bool}
end

section
variable {H : Type} {enc : TypeId × Value → H} {w : World}

theorem linkUnd : ∃ f0 f1 f2 f3 f4, Tryz.prog.underlying 52 = some (.struct #[f0, f1, f2, f3, f4]) ∧ oneCellFields Tryz.prog #[f0, f1, f2, f3, f4] = true ∧ f0.type = 3 ∧ f1.type = 3 ∧ f2.type = 3 ∧ f3.type = 3 ∧ f4.type = 3 ∧ f0.offset = 0 ∧ f1.offset = 1 ∧ f2.offset = 2 ∧ f3.offset = 3 ∧ f4.offset = 4 :=
 ⟨_, _, _, _, _, Tryz.underlying52, by kernel_rfl, rfl, rfl, rfl, rfl, rfl, rfl, rfl, rfl, rfl, rfl⟩
theorem cellsLink : Tryz.prog.cellsOf 52 = 5 := by kernel_rfl
theorem cellsInt1 : Tryz.prog.cellsOf 3 = 1 := by kernel_rfl
theorem cellsTown2 : Tryz.prog.cellsOf 25 = 2 := by kernel_rfl

/-- A list of whole numbers. -/
theorem ints_open {v : Value} {fuel : Nat} {x : DataW H × List MemPlace} (h : DataW.trod enc Tryz.prog w 0 (fun _ => true) true fuel 22 [v] = some x) :
  ∃ A n c l, v = .slice A n c ∧ n ≤ c ∧ n ≤ maxLen ∧ c ≤ maxLen ∧ IntsAt w w.heap.size A n l := by
 rcases open_slice1 Tryz.underlying22 cellsInt1 h with ⟨e, _⟩ | ⟨a, len, cap, m, k, V, D, Pl, e, _, hl, hm, hmm, _, hx⟩
 ·simp only [List.cons.injEq, and_true] at e
  exact ⟨none, 0, 0, [], e, Nat.le_refl _, Nat.zero_le _, Nat.zero_le _, Reads.none_⟩
 ·simp only [List.cons.injEq, and_true] at e
  have hmc : m = cap := by simpa using hmm
  subst hmc
  have hn : ∀ i, i < m → ∃ z : Int, V i = .int .i64 z := fun i hi => by
   obtain ⟨z, f0, _, _⟩ := DataW.trod_int Tryz.underlying3 (hx i hi).2
   simp only [List.cons.injEq, and_true] at f0
   exact ⟨z, f0⟩
  obtain ⟨Z, hZ⟩ := choose_lt hn
  refine ⟨some a, len, m, (List.range len).map Z, e, hl, by omega, hm, by simp, fun h0 => ⟨a, rfl, ?_, fun j u hu => ?_⟩⟩
  ·have := World.block_lt_of_cell? w _ (hx 0 (by omega)).1
   rwa [block_of_add] at this
  ·simp only [List.getElem?_map, Option.map_map] at hu
   have hj : j < len := by
    rcases Nat.lt_or_ge j len with h' | h'
    ·exact h'
    ·rw [List.getElem?_eq_none (by simpa using h')] at hu; cases hu
   rw [List.getElem?_range hj] at hu
   simp only [Option.map_some, Option.some.injEq, Function.comp] at hu
   rw [(hx j (by omega)).1, hZ j (by omega), ← hu]

/-- A link's five cells. -/
theorem link_cells {fuel : Nat} {cs : List Value} {x : DataW H × List MemPlace} (h : DataW.trod enc Tryz.prog w 0 (fun _ => true) true fuel 52 cs = some x) (hl : cs.length = 5) : ∃ l : Link, cs = l.vals := by
 obtain ⟨f0, f1, f2, f3, f4, hu, hone, t0, t1, t2, t3, t4, z0, z1, z2, z3, z4⟩ := linkUnd
 obtain ⟨xs, n, _, _, _, hlen, hg⟩ := DataW.trod_struct hu h
 match cs, hl, xs, hlen with
 | [c0, c1, c2, c3, c4], _, [y0, y1, y2, y3, y4], _ =>
  have h0 : DataW.trod enc Tryz.prog w 0 (fun _ => true) true n 3 [c0] = some y0 := by simpa [t0, z0, cellsInt1] using hg 0 f0 rfl
  have h1 : DataW.trod enc Tryz.prog w 0 (fun _ => true) true n 3 [c1] = some y1 := by simpa [t1, z1, cellsInt1] using hg 1 f1 rfl
  have h2 : DataW.trod enc Tryz.prog w 0 (fun _ => true) true n 3 [c2] = some y2 := by simpa [t2, z2, cellsInt1] using hg 2 f2 rfl
  have h3 : DataW.trod enc Tryz.prog w 0 (fun _ => true) true n 3 [c3] = some y3 := by simpa [t3, z3, cellsInt1] using hg 3 f3 rfl
  have h4 : DataW.trod enc Tryz.prog w 0 (fun _ => true) true n 3 [c4] = some y4 := by simpa [t4, z4, cellsInt1] using hg 4 f4 rfl
  obtain ⟨n0, e0, _, _⟩ := DataW.trod_int Tryz.underlying3 h0
  obtain ⟨n1, e1, _, _⟩ := DataW.trod_int Tryz.underlying3 h1
  obtain ⟨n2, e2, _, _⟩ := DataW.trod_int Tryz.underlying3 h2
  obtain ⟨n3, e3, _, _⟩ := DataW.trod_int Tryz.underlying3 h3
  obtain ⟨n4, e4, _, _⟩ := DataW.trod_int Tryz.underlying3 h4
  simp only [List.cons.injEq, and_true] at e0 e1 e2 e3 e4
  subst e0 e1 e2 e3 e4
  exact ⟨⟨n0, n1, n2, n3, n4⟩, rfl⟩

/-- A list of links. -/
theorem links_open {v : Value} {fuel : Nat} {x : DataW H × List MemPlace} (h : DataW.trod enc Tryz.prog w 0 (fun _ => true) true fuel 23 [v] = some x) :
  ∃ A n c l, v = .slice A n c ∧ n ≤ c ∧ n ≤ maxLen ∧ c ≤ maxLen ∧ LinksAt w w.heap.size A n l := by
 rcases open_slice Tryz.underlying23 h with ⟨e, _⟩ | ⟨a, len, cap, m, k, D, Pl, e, _, hl, hm, hmm, _, hx⟩
 ·simp only [List.cons.injEq, and_true] at e
  exact ⟨none, 0, 0, [], e, Nat.le_refl _, Nat.zero_le _, Nat.zero_le _, Reads.none_⟩
 ·simp only [List.cons.injEq, and_true] at e
  have hmc : m = cap := by simpa using hmm
  subst hmc
  have hn : ∀ i, i < m → ∃ z : Link, ∀ j, j < 5 → w.cell? (a.add (i * 5 + j)) = z.vals[j]? := fun i hi => by
   obtain ⟨cs', h1, h2⟩ := hx i hi
   rw [cellsLink] at h1
   obtain ⟨_, hcl, hat⟩ := World.cells?_some h1
   obtain ⟨z, rfl⟩ := link_cells h2 hcl
   exact ⟨z, fun j hj => by rw [← Go.Deep.add_add, hat j hj]⟩
  letI : Inhabited Link := ⟨⟨0, 0, 0, 0, 0⟩⟩
  obtain ⟨Z, hZ⟩ := choose_lt hn
  refine ⟨some a, len, m, (List.range len).map Z, e, hl, by omega, hm, by rw [flat_len]; simp, fun h0 => ⟨a, rfl, ?_, fun j u hu => ?_⟩⟩
  ·have := World.block_lt_of_cell? w _ (hZ 0 (by omega) 0 (by omega))
   rwa [block_of_add] at this
  ·have hj : j < len * 5 := by
    rcases Nat.lt_or_ge j (len * 5) with h' | h'
    ·exact h'
    ·rw [List.getElem?_eq_none (by rw [flat_len]; simpa using h')] at hu; cases hu
   have hz := hZ (j / 5) (by omega) (j % 5) (by omega)
   have ha : ((List.range len).map Z)[j / 5]? = some (Z (j / 5)) := by rw [List.getElem?_map, List.getElem?_range (by omega)]; rfl
   have hf := flat_at ha (show j % 5 < 5 by omega)
   rw [show j / 5 * 5 + j % 5 = j by omega] at hf hz
   rw [hz, ← hf, hu]

/-- A town, by value. -/
theorem town_open {r : Reach} {b0 : Nat} {v : Value} {d : DataW H} {p : List MemPlace} (hv : Value.okWide Tryz.prog w r b0 25 v) (h : DataW.Trod enc Tryz.prog w 0 (fun _ => true) true 25 v d p) :
  ∃ A n c A' m d' t, v = .agg #[.slice A n c, .slice A' m d'] ∧ n ≤ maxLen ∧ m ≤ maxLen ∧ n ≤ c ∧ m ≤ d' ∧ TownAt w w.heap.size A n A' m t := by
 obtain ⟨v0, v1, y0, y1, k, rfl, _, _, h0, h1⟩ := open_agg2 Tryz.underlying25 (by kernel_rfl) cellsTown2 hv h
 obtain ⟨A, n, c, l, rfl, hn, hx, _, hr⟩ := ints_open h0
 obtain ⟨A', m, d', l', rfl, hm, hx', _, hr'⟩ := links_open h1
 exact ⟨A, n, c, A', m, d', ⟨l, l'⟩, rfl, hx, hx', hn, hm, ⟨hr, hr'⟩⟩
end

end Go.Proofs.YtahkjagjcogeiaaGreatDoor
/- The laws' arguments, opened: skins and gaits. What every row's proof wants. -/
namespace Go.Proofs.YtahkjagjcogeiaaGreatDoor
open Go.ChangeShapes Go.WideShapes Go.RowKit Go.Deep Go.Joins
set_option maxRecDepth 100000
theorem ownT' : ownKnob Tryz.prog.godebug = none := by kernel_rfl
theorem laidOutT' : laidOutB Tryz.prog = true := by kernel_rfl
section
variable {H : Type} {enc : TypeId × Value → H} {w : World}
end
end Go.Proofs.YtahkjagjcogeiaaGreatDoor
/- A law's arguments opened: bytes, and lists of bytes. -/
namespace Go.Proofs.YtahkjagjcogeiaaGreatDoor
open Go.ChangeShapes Go.WideShapes Go.RowKit Go.Deep Go.Joins
set_option maxRecDepth 100000
section
variable {H : Type} {enc : TypeId × Value → H} {w : World}
theorem u8_wf {z : Int} (h : (Lit.int .u8 z).wf = true) : 0 ≤ z ∧ z ≤ 255 := by
 simp [Lit.wf] at h
 have h1 : IntKind.u8.min = 0 := rfl
 have h2 : IntKind.u8.max = 255 := rfl
 omega
theorem u8_open {v : Value} {d : DataW H} {p : List MemPlace} (h : DataW.Trod enc Tryz.prog w 0 (fun _ => true) true 5 v d p) (hv : ∃ z : Int, v = .int .u8 z) : ∃ x : Nat, v = .int .u8 (x : Nat) ∧ x ≤ 255 := by
 obtain ⟨z, rfl⟩ := hv
 obtain ⟨fuel, hf⟩ := h
 obtain ⟨n, e, _, hw⟩ := DataW.trod_int Tryz.underlying5 hf
 have e' : n = z := by simpa [Value.cells] using e.symm
 subst e'
 have hb := u8_wf hw
 obtain ⟨k, rfl⟩ := Int.eq_ofNat_of_zero_le hb.1
 exact ⟨k, rfl, by omega⟩
end
end Go.Proofs.YtahkjagjcogeiaaGreatDoor
/- ClimbBetween: whatever the arguments, the law answers true. The row, and the card. -/
namespace Go.Proofs.YtahkjagjcogeiaaGreatDoor
open Go.ChangeShapes Go.WideShapes Go.ChangeAt Go.RowKit Go.Joins

set_option maxRecDepth 100000 in
theorem zbetween_lifted (os : Os) (started : os.Started) (H : Type) (enc : TypeId × Value → H) :
  ReturnsInHanded {} Tryz.checked os 4 .any (fun w args => (Rows.climbBetweenSpec.pre enc Tryz.prog Tryz.f4 [] false w args ∧ laidMetH Tryz.prog laidL w) ∧ sizedMet enc Tryz.prog Tryz.f4 (OpenSpec.ofChange Rows.climbBetweenSpec) false w args)
   (Rows.climbBetweenSpec.post enc Tryz.prog Tryz.f4 false true false false) := by
 refine returnsInHanded_of_change_and (C := Tryz.checked) (X := fun w _ => laidMetH Tryz.prog laidL w) (fun _ _ _ hh h => h.of_heap hh) ownT' started (by kernel_rfl) Tryz.func4
  (ChangeSpec.witness_shaped (enc := enc) (C := Tryz.checked) (os := os) (X := fun w _ => laidMetH Tryz.prog laidL w) false (World.doorLaid Tryz.prog 800 os) #[.agg #[.slice none 0 0, .slice none 0 0], .int .u8 0, .int .u8 0, .int .u8 0, .int .u8 0, .bool false] 8 rfl (World.shaped_of_RefB (by kernel_rfl) (by kernel_rfl)) (by kernel_rfl) (by kernel_rfl) (by kernel_rfl) (door_met os _)) ?_
 intro W base args ds gs before hval0 hW _ _ hL _
 have hval : ∀ (j : Nat) t v, Tryz.f4.params[j]? = some t → args[j]? = some v → Value.okWide Tryz.prog W .any base t v := hval0
 have hW' := hW
 obtain ⟨p, q, hA0, hV, rfl, hfz, hnd⟩ := hW
 have hA : DataW.TrodAll enc Tryz.prog W 0 (fun _ => true) true Tryz.f4.params.toList args.toList ds p := hA0
 rw [Tryz.params4] at hA hval
 obtain ⟨v0, vs0, d0, ds0, p0, q0, hargs, rfl, rfl, h0, r0⟩ := trodAll_cons hA
 obtain ⟨v1, vs1, d1, ds1, p1, q1, rfl, rfl, rfl, h1, r1⟩ := trodAll_cons r0
 obtain ⟨v2, vs2, d2, ds2, p2, q2, rfl, rfl, rfl, h2, r2⟩ := trodAll_cons r1
 obtain ⟨v3, vs3, d3, ds3, p3, q3, rfl, rfl, rfl, h3, r3⟩ := trodAll_cons r2
 obtain ⟨v4, vs4, d4, ds4, p4, q4, rfl, rfl, rfl, h4, r4⟩ := trodAll_cons r3
 obtain ⟨v5, vs5, d5, ds5, p5, q5, rfl, rfl, rfl, h5, r5⟩ := trodAll_cons r4
 obtain ⟨rfl, rfl, rfl⟩ := trodAll_nil r5
 obtain rfl : args = #[v0, v1, v2, v3, v4, v5] := by cases args; simp_all
 obtain ⟨rfl, rfl⟩ := trodVars_none hV
 have lt0 : ∀ x ∈ p0, x.block < W.heap.size := by obtain ⟨m, hm⟩ := h0; exact DataW.trod_lt m _ _ _ hm
 have lt1 : ∀ x ∈ p1, x.block < W.heap.size := by obtain ⟨m, hm⟩ := h1; exact DataW.trod_lt m _ _ _ hm
 have lt2 : ∀ x ∈ p2, x.block < W.heap.size := by obtain ⟨m, hm⟩ := h2; exact DataW.trod_lt m _ _ _ hm
 have lt3 : ∀ x ∈ p3, x.block < W.heap.size := by obtain ⟨m, hm⟩ := h3; exact DataW.trod_lt m _ _ _ hm
 have lt4 : ∀ x ∈ p4, x.block < W.heap.size := by obtain ⟨m, hm⟩ := h4; exact DataW.trod_lt m _ _ _ hm
 have lt5 : ∀ x ∈ p5, x.block < W.heap.size := by obtain ⟨m, hm⟩ := h5; exact DataW.trod_lt m _ _ _ hm
 have hl := of_laid hL
 obtain ⟨A, n, c, A', m, d, t, e0, hn, hm, hnc, hmd, ht⟩ := town_open (hval 0 25 v0 rfl rfl) h0
 obtain ⟨s1, e1, hb1⟩ := u8_open h1 (okWide_int Tryz.underlying5 (hval 1 5 v1 rfl rfl))
 obtain ⟨s2, e2, hb2⟩ := u8_open h2 (okWide_int Tryz.underlying5 (hval 2 5 v2 rfl rfl))
 obtain ⟨s3, e3, hb3⟩ := u8_open h3 (okWide_int Tryz.underlying5 (hval 3 5 v3 rfl rfl))
 obtain ⟨s4, e4, hb4⟩ := u8_open h4 (okWide_int Tryz.underlying5 (hval 4 5 v4 rfl rfl))
 obtain ⟨s5, e5⟩ := okWide_bool Tryz.underlying4 (hval 5 4 v5 rfl rfl)
 clear hA0 hval0 hval
 subst e0 e1 e2 e3 e4 e5
 refine (zbetween_walk A n c A' m d t s1 s2 s3 s4 s5 W hn hm hb1 hb2 hb3 hb4 ht hl).mono fun e W' ⟨he, bel⟩ => ?_
 subst he
 exact ⟨_, rfl, _, _, _, [], _, [], hW', trodAll_mk1 (shut_bool Tryz.underlying4 _), (trodAll_cons_mk (Below.trod laidOutT' (by kernel_rfl) (of_decide_eq_true (by kernel_rfl)) h0 bel lt0) (trodAll_cons_mk (Below.trod laidOutT' (by kernel_rfl) (of_decide_eq_true (by kernel_rfl)) h1 bel lt1) (trodAll_cons_mk (Below.trod laidOutT' (by kernel_rfl) (of_decide_eq_true (by kernel_rfl)) h2 bel lt2) (trodAll_cons_mk (Below.trod laidOutT' (by kernel_rfl) (of_decide_eq_true (by kernel_rfl)) h3 bel lt3) (trodAll_cons_mk (Below.trod laidOutT' (by kernel_rfl) (of_decide_eq_true (by kernel_rfl)) h4 bel lt4) (trodAll_cons_mk (Below.trod laidOutT' (by kernel_rfl) (of_decide_eq_true (by kernel_rfl)) h5 bel lt5) trodAll_mk0)))))), rfl, bel.frame _, fun h => by cases h⟩

theorem zbetween_holds : Rows.ClimbBetweenSaid :=
 OpenClaim.holds_of_wide 4 Tryz.f4 rfl rfl rfl rfl rfl rfl rfl ⟨rfl, rfl, rfl, rfl, rfl⟩ rfl rfl rfl rfl rfl (by kernel_rfl) Tryz.func4 (by kernel_rfl)
  (of_decide_eq_true (by kernel_rfl)) (by unfold Func.isWrapper; first | (rw [if_pos (by decide +kernel)]; kernel_rfl) | (rw [if_neg (by decide +kernel)]; exact ⟨rfl, rfl⟩))
  (fun os started H enc _ => zbetween_lifted os started H enc)

theorem zbetween_card : Rows.ClimbBetweenCardSaid :=
 Claim7.holds_tied_plain_at .later [] [.funcs] true (true, "67de833af213194507c31c05b7184ea255bc0890cd487a2a5aea99d39e4477e7") false
  zbetween_holds (fun _ h => by cases h) (by kernel_rfl) (fun _ h => by cases h) climbBetween_row_tie rfl ⟨rfl, rfl⟩ (by kernel_rfl) rfl
  (fun f fn hf hfn => by
   obtain rfl : f = 4 := Option.some.inj ((show Tryz.prog.funcNamed "aguador/aguadorlaw03.ClimbBetween" = some 4 by kernel_rfl).symm.trans hf) |>.symm
   obtain rfl : fn = Tryz.f4 := (Option.some.inj (Tryz.func4.symm.trans hfn)).symm
   exact ⟨by kernel_rfl, fun j t ht => by
    rw [Tryz.params4] at ht
    have hm : t ∈ [25, 5, 5, 5, 5, 4] := by simpa using Array.mem_of_getElem? ht
    have hall : ([25, 5, 5, 5, 5, 4].all fun u => !Tryz.prog.wantsStandIn u) = true := by kernel_rfl
    exact (show Tryz.prog.wantsStandIn t = false by simpa using List.all_eq_true.1 hall t hm)⟩)
  (by kernel_rfl)
#print axioms zbetween_card
end Go.Proofs.YtahkjagjcogeiaaGreatDoor
