/- MixChanges: whatever the mixed water, the taste, the numbers and the act, the law answers true. No conditions. -/
import Derived.Sort.CutIn
import Derived.Lib.SmallJoins
import Derived.LaidHandle
import Derived.ChangeArms
import Derived.ChangeSame
import Derived.Test.YthofngceiecniaaRows
import Derived.OpenShut
import Derived.ShutString
import Derived.ChangeOld
import Derived.Test.YthofngceiecniaaMxC10
set_option linter.unusedVariables false
/- aguadorref04.without. -/
namespace Go.Proofs.Ythofngceiecniaa
open Go.RowKit
/-- What the answer's without hands back. -/
def WoOut (w : World) (m : Mix) (ns : List Int) (e : Ending) (w' : World) : Prop := ∃ A1 n1 c1 A2 n2 c2 A3 n3 c3, e = .returned (.agg #[.int .i64 m.fountains, .slice A1 n1 c1, .slice A2 n2 c2, .slice A3 n3 c3]) ∧ MixNew w' w.heap.size A1 n1 c1 A2 n2 c2 A3 n3 c3 (withT m (lessT m.tastes ns)) ∧ (n1 ≤ 1000 ∧ n2 ≤ 1000 ∧ n3 ≤ 1000) ∧ Below w.heap.size w w'

set_option maxRecDepth 100000 in
set_option maxHeartbeats 16000000 in
theorem rwithout_in (Av : Option Addr) (nv cv : Nat) (Aa : Option Addr) (na ca : Nat) (At : Option Addr) (nt ct : Nat) (m : Mix) (An : Option Addr) (nn cn : Nat) (ns : List Int) (w : World) (h : MixS w Av nv Aa na At nt m) (hn : IntsAt w w.heap.size An nn ns) (hnn : nn ≤ 1000) :
  CallsIn Fence.wide 9 Try.prog 82 #[.agg #[.int .i64 m.fountains, .slice Av nv cv, .slice Aa na ca, .slice At nt ct], .slice An nn cn] w (WoOut w m ns) := by
 have HM := Lib.hid h
 have HLV := Lib.hid h.at_.lenV
 have HLA := Lib.hid h.at_.lenA
 have HLT := Lib.hid h.at_.lenT
 have hnv := h.hv
 have hna := h.ha
 have hnt := h.ht
 clear h
 refine callsIn_of_wp Try.func82 rfl trivial ?_ rfl
 simp only [Try.ntmps82, List.size_toArray, List.length_cons, List.length_nil, Nat.reduceAdd, Nat.reduceSub, Array.replicate_succ, Array.replicate_zero, List.push_toArray, List.append_toArray, List.nil_append, List.cons_append]
 gi_upto_region 1 with fail
 have HLay := Lib.hid (Lay.two w 26 #[.int .i64 m.fountains, .slice Av nv cv, .slice Aa na ca, .slice At nt ct] 26 #[.int .i64 0, .slice none 0 0, .slice none 0 0, .slice none 0 0])
 generalize ((w.alloc (.cells #[.int .i64 m.fountains, .slice Av nv cv, .slice Aa na ca, .slice At nt ct] 26)).alloc (.cells #[.int .i64 0, .slice none 0 0, .slice none 0 0, .slice none 0 0] 26)) = w0 at *
 have HN := Lib.hid hn
 clear hn
 have x0_0 := (HLay.out.blk 0 rfl).cell 0
 have x0_1 := (HLay.out.blk 0 rfl).cell 1
 have x0_2 := (HLay.out.blk 0 rfl).cell 2
 have x0_3 := (HLay.out.blk 0 rfl).cell 3
 have l0_ := HLay.out.lt 0 rfl
 gi_wp2
 clear x0_0 x0_1 x0_2 x0_3 l0_
 have HBS := Lib.hid (HLay.out.1.size)
 have HBLL := Lib.hid (HLay.out.lt 1 rfl)
 refine ⟨trivial, (callsIn_wide.2 (callsIn_wide.1 (twin_in Av nv cv Aa na ca At nt ct m w0 (HM.out.up HLay.out.1)))).mono ?_⟩
 rintro e W1 ⟨A1, c1, A2, c2, A3, c3, rfl, hmo, hb⟩
 have HWW := Lib.hid hb.size
 replace HLay := Lib.hid (HLay.out.below hb)
 clear hb
 have HMO := Lib.hid hmo
 clear hmo
 gi_upto_region 2 with fail
 obtain ⟨V2, hV⟩ : ∃ V, (W1.alloc (.cells #[.int .i64 m.fountains, .slice A1 nv c1, .slice A2 na c2, .slice A3 nt c3] 26)) = V := ⟨_, rfl⟩
 rw [hV]
 have hb := fbox_bel hV
 have hnew := fbox_blk hV
 have hge := HLay.out.bel.size
 replace HLay := Lib.hid (HLay.out.below hb)
 replace HMO := Lib.hid (HMO.out.below hb)
 replace HLay := Lib.hid (HLay.out.add hge hnew)
 clear hnew hge hb hV
 obtain ⟨G3, hG⟩ : ∃ g, W1.heap.size = g := ⟨_, rfl⟩
 rw [hG] at HLay ⊢
 have HG_ := Lib.hid hG
 clear hG
 have x2_0 := (HLay.out.blk 2 rfl).cell 0
 have z2_0 := (HLay.out.blk 2 rfl).frozen 0
 have x2_1 := (HLay.out.blk 2 rfl).cell 1
 have z2_1 := (HLay.out.blk 2 rfl).frozen 1
 have x2_2 := (HLay.out.blk 2 rfl).cell 2
 have z2_2 := (HLay.out.blk 2 rfl).frozen 2
 have x2_3 := (HLay.out.blk 2 rfl).cell 3
 have z2_3 := (HLay.out.blk 2 rfl).frozen 3
 have l2_ := HLay.out.lt 2 rfl
 gi_upto_region 3 with fail
 clear x2_0 z2_0 x2_1 z2_1 x2_2 z2_2 x2_3 z2_3 l2_
 have hgs := grown_setCell (row := some G3) (grown_refl V2 _) (p := ⟨G3, 3, none⟩) (.inl rfl) (.slice none 0 0)
 have HMO2 : Hid (MixNew V2 _ A1 nv c1 A2 na c2 none 0 0 (withT m [])) := Lib.hid ⟨HMO.out.v, HMO.out.a, Own.none_ _ _ _ _⟩
 have HMO3 := Lib.hid (HMO2.out.offB (HLay.out.blk 2 rfl) hgs)
 have hne : ∀ b ∈ ([(w.heap.size, 26, #[.int .i64 m.fountains, .slice Av nv cv, .slice Aa na ca, .slice At nt ct]), (w.heap.size + 1, 26, #[.int .i64 0, .slice none 0 0, .slice none 0 0, .slice none 0 0])] : List (Nat × TypeId × Array Value)), b.1 ≠ G3 := fun b hb => by
  have := HWW.out; have := HG_.out; have := HBLL.out
  simp only [List.mem_cons, List.not_mem_nil, or_false] at hb
  rcases hb with rfl | rfl <;> dsimp only <;> omega
 have hl := Lay.setLast HLay.out hne 3 (.slice none 0 0)
 generalize V2.setCell ⟨G3, 3, none⟩ (.slice none 0 0) = V4 at *
 replace HLay := Lib.hid (show Lay w V4 [(w.heap.size, 26, #[.int .i64 m.fountains, .slice Av nv cv, .slice Aa na ca, .slice At nt ct]), (w.heap.size + 1, 26, #[.int .i64 0, .slice none 0 0, .slice none 0 0, .slice none 0 0]), (G3, 26, #[.int .i64 m.fountains, .slice A1 nv c1, .slice A2 na c2, .slice none 0 0])] from hl)
 replace HMO := HMO3
 clear hgs hl HMO2 HMO3
 have HNE : Hid (∀ b ∈ ([(w.heap.size, 26, #[.int .i64 m.fountains, .slice Av nv cv, .slice Aa na ca, .slice At nt ct]), (w.heap.size + 1, 26, #[.int .i64 0, .slice none 0 0, .slice none 0 0, .slice none 0 0])] : List (Nat × TypeId × Array Value)), b.1 ≠ G3) := Lib.hid hne
 clear hne
 have x0_0 := (HLay.out.blk 0 rfl).cell 0
 have x0_1 := (HLay.out.blk 0 rfl).cell 1
 have x0_2 := (HLay.out.blk 0 rfl).cell 2
 have x0_3 := (HLay.out.blk 0 rfl).cell 3
 have l0_ := HLay.out.lt 0 rfl
 gi_wp2
 clear x0_0 x0_1 x0_2 x0_3 l0_
 gi_loopw [17] (fun v17 wr => ∃ (k : Nat) (A9 : Option Addr) (n9 c9 : Nat), k ≤ nt ∧ v17 = .int .i64 k ∧ n9 ≤ k ∧ Hid (Lay w wr [(w.heap.size, 26, #[.int .i64 m.fountains, .slice Av nv cv, .slice Aa na ca, .slice At nt ct]), (w.heap.size + 1, 26, #[.int .i64 0, .slice none 0 0, .slice none 0 0, .slice none 0 0]), (G3, 26, #[.int .i64 m.fountains, .slice A1 nv c1, .slice A2 na c2, .slice A9 n9 c9])] ∧ MixNew wr w0.heap.size A1 nv c1 A2 na c2 A9 n9 c9 (withT m (lessT (m.tastes.take k) ns))))
  (fun v17 _ => nt - (intOf v17).toNat)
 case atStart => exact ⟨0, none, 0, 0, by omega, rfl, by omega, Lib.hid ⟨HLay.out, HMO.out⟩⟩
 case round =>
  clear HLay HMO
  obtain ⟨k, A9, n9, c9, hk, rfl, hn9, HS⟩ := hrel
  have HLay := Lib.hid HS.out.1
  have HMO := Lib.hid HS.out.2
  clear HS
  have HBW : Hid (w0.heap.size ≤ wr.heap.size) := Lib.hid (by have := HLay.out.lt 2 rfl; have := HWW.out; have := HG_.out; omega)
  by_cases hlt : k < nt
  ·
   obtain ⟨bt, ot, y, hAt, hbt, hy, t0, t1, t2, t3, t4, t5⟩ := (HM.out.up HLay.out.1).at_.tast hlt
   subst hAt
   have HY := Lib.hid hy
   clear hy
   have ktI : (k : Int) < (nt : Int) := by omega
   gi_upto_region 6 with fail
   clear t0 t1 t2 t3 t4 t5
   obtain ⟨V5, hV⟩ : ∃ V, (wr.alloc (.cells #[.int .i64 y.num, .int .i64 y.vessel, .int .i64 y.after, .int .i64 y.fountain, .int .i64 y.lo, .int .i64 y.hi] 65)) = V := ⟨_, rfl⟩
   rw [hV]
   have hb := fbox_bel hV
   have hnew := fbox_blk hV
   have hge := HLay.out.bel.size
   replace HLay := Lib.hid (HLay.out.below hb)
   replace HMO := Lib.hid (HMO.out.below hb)
   replace HLay := Lib.hid (HLay.out.add hge hnew)
   clear hnew hge hb hV
   obtain ⟨G6, hG⟩ : ∃ g, wr.heap.size = g := ⟨_, rfl⟩
   rw [hG] at HLay ⊢
   have HG_ := Lib.hid hG
   clear hG
   replace HLay := Lib.hid (show Lay w V5 [(w.heap.size, 26, #[.int .i64 m.fountains, .slice Av nv cv, .slice Aa na ca, .slice (some ⟨bt, ot, none⟩) nt ct]), (w.heap.size + 1, 26, #[.int .i64 0, .slice none 0 0, .slice none 0 0, .slice none 0 0]), (G3, 26, #[.int .i64 m.fountains, .slice A1 nv c1, .slice A2 na c2, .slice A9 n9 c9]), (G6, 65, #[.int .i64 y.num, .int .i64 y.vessel, .int .i64 y.after, .int .i64 y.fountain, .int .i64 y.lo, .int .i64 y.hi])] from HLay.out)
   have HBY : Hid (wr.heap.size ≤ V5.heap.size) := Lib.hid (by have := HG_.out; have := HLay.out.lt 3 rfl; omega)
   gi_wp2
   gi_loopw [8, 23] (fun v8 v23 wx => ∃ j : Nat, j ≤ nn ∧ v23 = .int .i64 j ∧ v8 = .bool ((ns.take j).contains y.num) ∧ Hid (Below V5.heap.size V5 wx))
    (fun _ v23 _ => nn - (intOf v23).toNat)
   case atStart => exact ⟨0, by omega, rfl, by simp, Lib.hid (Below.refl _ _)⟩
   case round =>
    rename World => wx
    obtain ⟨j, hj, rfl, rfl, HBX⟩ := hrel
    replace HLay := Lib.hid (HLay.out.below HBX.out)
    replace HMO := Lib.hid (HMO.out.below HBX.out)
    replace HBW := Lib.hid (Nat.le_trans HBW.out (Nat.le_trans HBY.out HBX.out.size))
    by_cases hjn : j < nn
    ·
     obtain ⟨b1, o1, z, rfl, hb1, hz, cz⟩ := (HN.out.below HLay.out.1).cell hjn
     have HTK : Hid ((ns.take (j + 1)).contains y.num = ((ns.take j).contains y.num || y.num == z)) := Lib.hid (by
      rw [List.take_add_one, hz, List.contains_eq_any_beq, List.any_append, ← List.contains_eq_any_beq]
      simp)
     clear hz
     have jnI : (j : Int) < (nn : Int) := by omega
     have x3_0 := (HLay.out.blk 3 rfl).cell 0
     have x3_1 := (HLay.out.blk 3 rfl).cell 1
     have x3_2 := (HLay.out.blk 3 rfl).cell 2
     have x3_3 := (HLay.out.blk 3 rfl).cell 3
     have x3_4 := (HLay.out.blk 3 rfl).cell 4
     have x3_5 := (HLay.out.blk 3 rfl).cell 5
     have l3_ := HLay.out.lt 3 rfl
     cases hc : (ns.take j).contains y.num with
     | true =>
      have HC := Lib.hid hc
      clear hc
      gi_wp2
      go_roundw
      case rel => exact ⟨j + 1, by omega, by go_num, by rw [HTK.out, HC.out]; rfl, HBX⟩
      case measure => simp [intOf]; omega
     | false =>
      have HC := Lib.hid hc
      clear hc
      cases hzy : (z == y.num) with
      | true =>
       have HZ : Hid ((y.num == z) = true) := Lib.hid (by simp at hzy ⊢; exact hzy.symm)
       have hzy2 : decide (z = y.num) = true := by simpa using hzy
       gi_wp2
       go_roundw
       case rel => exact ⟨j + 1, by omega, by go_num, by rw [HTK.out, HC.out, HZ.out]; rfl, HBX⟩
       case measure => simp [intOf]; omega
      | false =>
       have HZ : Hid ((y.num == z) = false) := Lib.hid (by simp at hzy ⊢; exact fun e => hzy e.symm)
       gi_wp2
       go_roundw
       case rel => exact ⟨j + 1, by omega, by go_num, by rw [HTK.out, HC.out, HZ.out]; rfl, HBX⟩
       case measure => simp [intOf]; omega
    ·
     have HTA : Hid ((ns.take j).contains y.num = ns.contains y.num) := Lib.hid (by rw [List.take_of_length_le (by have := HN.out.len; omega)])
     have HLS : Hid (lessT (m.tastes.take (k + 1)) ns = lessT (m.tastes.take k) ns ++ (if ns.contains y.num then [] else [y])) := Lib.hid (by
      unfold lessT
      rw [List.take_add_one, HY.out, List.filter_append]
      cases hcc : ns.contains y.num <;> simp <;> simpa using hcc)
     rw [HTA.out]
     cases hc : ns.contains y.num with
     | true =>
      have HC := Lib.hid hc
      clear hc
      gi_wp2
      go_roundw
      case rel => exact ⟨k + 1, A9, n9, c9, by omega, by go_num, by omega, Lib.hid ⟨HLay.out.sub (by intro b hb; simp only [List.mem_cons, List.not_mem_nil, or_false] at hb ⊢; rcases hb with h | h | h <;> simp [h]), by rw [HLS.out, HC.out]; simpa using HMO.out⟩⟩
      case measure => simp [intOf]; omega
     | false =>
      have HC := Lib.hid hc
      clear hc
      have x2_0 := (HLay.out.blk 2 rfl).cell 0
      have x2_1 := (HLay.out.blk 2 rfl).cell 1
      have x2_2 := (HLay.out.blk 2 rfl).cell 2
      have x2_3 := (HLay.out.blk 2 rfl).cell 3
      have l2_ := HLay.out.lt 2 rfl
      have x3_0 := (HLay.out.blk 3 rfl).cell 0
      have x3_1 := (HLay.out.blk 3 rfl).cell 1
      have x3_2 := (HLay.out.blk 3 rfl).cell 2
      have x3_3 := (HLay.out.blk 3 rfl).cell 3
      have x3_4 := (HLay.out.blk 3 rfl).cell 4
      have x3_5 := (HLay.out.blk 3 rfl).cell 5
      have l3_ := HLay.out.lt 3 rfl
      gi_wp2_with (first | (gi_at_builtin; refine wpListIn_append_any rfl (.tmp 38) (.tmp 40) (by rfl) elem_tast rfl (HMO.out.t.alloc (.cells #[.int .i64 y.num, .int .i64 y.vessel, .int .i64 y.after, .int .i64 y.fountain, .int .i64 y.lo, .int .i64 y.hi] 65)) rfl (reads_new wx 65 y.vals rfl) (tast_one1 y) (by unfold maxLen; omega) (by omega) (by have := HBW.out; simp; omega) ?_) | fail)
      rintro A8 c8 W9 hown hg hA
      have hal : Below wx.heap.size wx (wx.alloc (.cells #[.int .i64 y.num, .int .i64 y.vessel, .int .i64 y.after, .int .i64 y.fountain, .int .i64 y.lo, .int .i64 y.hi] 65)) := (Below.refl _ _).alloc (Nat.le_refl _) _
      have hLB : Lay w wx [(w.heap.size, 26, #[.int .i64 m.fountains, .slice Av nv cv, .slice Aa na ca, .slice (some ⟨bt, ot, none⟩) nt ct]), (w.heap.size + 1, 26, #[.int .i64 0, .slice none 0 0, .slice none 0 0, .slice none 0 0]), (G3, 26, #[.int .i64 m.fountains, .slice A1 nv c1, .slice A2 na c2, .slice A9 n9 c9])] := HLay.out.sub (by intro b hb; simp only [List.mem_cons, List.not_mem_nil, or_false] at hb ⊢; rcases hb with h | h | h <;> simp [h])
      have HMU := Lib.hid (HMO.out.below hal)
      have HLU := Lib.hid (hLB.below hal)
      have HM2 := Lib.hid (HMU.out.growT (l := lessT (m.tastes.take k) ns ++ [y]) hg (by
       have h9 : Own W9 _ 65 6 A8 (n9 + 1) c8 ((lessT (m.tastes.take k) ns).flatMap Tast.vals ++ y.vals) := hown
       rw [List.flatMap_append]; simpa using h9))
      have hrow := own_row HMU.out.t
      have HL2 := Lib.hid (HLU.out.row hg (fun r e => ⟨Nat.le_trans HBS.out (hrow r e).1, fun b hb => by
       simp only [List.mem_cons, List.not_mem_nil, or_false] at hb
       rcases hb with rfl | rfl | rfl
       ·exact ne_rowT (HLU.out.blk 0 rfl) HMU.out.t (by decide) r e
       ·exact ne_rowT (HLU.out.blk 1 rfl) HMU.out.t (by decide) r e
       ·exact ne_rowT (HLU.out.blk 2 rfl) HMU.out.t (by decide) r e⟩))
      clear hown hg hA hal hLB hrow
      clear x2_0 x2_1 x2_2 x2_3 l2_ x3_0 x3_1 x3_2 x3_3 x3_4 x3_5 l3_
      have q3 := (HL2.out.blk 2 rfl).cell 3
      have qz := (HL2.out.blk 2 rfl).frozen 3
      have ql := HL2.out.lt 2 rfl
      gi_wp2
      go_roundw
      case rel =>
       have hgs := grown_setCell (row := some G3) (grown_refl W9 _) (p := ⟨G3, 3, none⟩) (.inl rfl) (.slice A8 (n9 + 1) c8)
       have hm3 := HM2.out.offB (HL2.out.blk 2 rfl) hgs
       have hl3 := Lay.setLast (bs := [(w.heap.size, 26, #[.int .i64 m.fountains, .slice Av nv cv, .slice Aa na ca, .slice (some ⟨bt, ot, none⟩) nt ct]), (w.heap.size + 1, 26, #[.int .i64 0, .slice none 0 0, .slice none 0 0, .slice none 0 0])]) HL2.out HNE.out 3 (.slice A8 (n9 + 1) c8)
       exact ⟨k + 1, A8, n9 + 1, c8, by omega, by go_num, by omega, Lib.hid ⟨hl3, by rw [HLS.out, HC.out]; simp only [Bool.false_eq_true, if_false]; exact hm3⟩⟩
      case measure => simp [intOf]; omega
  ·
   have HTA : Hid (m.tastes.take k = m.tastes) := Lib.hid (List.take_of_length_le (by have := HLT.out; omega))
   have ktI : ¬ (k : Int) < (nt : Int) := by omega
   have x2_0 := (HLay.out.blk 2 rfl).cell 0
   have x2_1 := (HLay.out.blk 2 rfl).cell 1
   have x2_2 := (HLay.out.blk 2 rfl).cell 2
   have x2_3 := (HLay.out.blk 2 rfl).cell 3
   have l2_ := HLay.out.lt 2 rfl
   have r0 := (HLay.out.blk 1 rfl).cell 0
   have rz0 := (HLay.out.blk 1 rfl).frozen 0
   have r1 := (HLay.out.blk 1 rfl).cell 1
   have rz1 := (HLay.out.blk 1 rfl).frozen 1
   have r2 := (HLay.out.blk 1 rfl).cell 2
   have rz2 := (HLay.out.blk 1 rfl).frozen 2
   have r3 := (HLay.out.blk 1 rfl).cell 3
   have rz3 := (HLay.out.blk 1 rfl).frozen 3
   have rl := HLay.out.lt 1 rfl
   gi_wp2
   have R4 := ret4' (HLay.out.blk 1 rfl) HLay.out.1 (HLay.out.ge 1 rfl) (.int .i64 m.fountains) (.slice A1 nv c1) (.slice A2 na c2) (.slice A9 n9 c9)
   have v0 := R4.1.cell 0
   have v1 := R4.1.cell 1
   have v2 := R4.1.cell 2
   have v3 := R4.1.cell 3
   refine bodyPost_ret (v := .agg #[.int .i64 m.fountains, .slice A1 nv c1, .slice A2 na c2, .slice A9 n9 c9]) (by simp [results, Try.results82, go_sem, v0, v1, v2, v3]) rfl ?_
   have hmn := HMO.out.offB (HLay.out.blk 1 rfl) R4.2.2
   rw [HTA.out] at hmn
   exact ⟨_, _, _, _, _, _, _, _, _, rfl, hmn.mono HBS.out, ⟨by omega, by omega, by omega⟩, R4.2.1⟩

end Go.Proofs.Ythofngceiecniaa
/- aguadorref04.Strike. -/
namespace Go.Proofs.Ythofngceiecniaa
open Go.RowKit

set_option maxRecDepth 100000 in
set_option maxHeartbeats 16000000 in
theorem rstrike_in (Av : Option Addr) (nv cv : Nat) (Aa : Option Addr) (na ca : Nat) (At : Option Addr) (nt ct : Nat) (m : Mix) (An : Option Addr) (nn cn : Nat) (ns : List Int) (w : World) (h : MixS w Av nv Aa na At nt m) (hn : IntsAt w w.heap.size An nn ns) (hnn : nn ≤ 1000) :
  CallsIn Fence.wide 9 Try.prog 34 #[.agg #[.int .i64 m.fountains, .slice Av nv cv, .slice Aa na ca, .slice At nt ct], .slice An nn cn] w (RefOut w (strikeM m ns)) := by
 have HM := Lib.hid h
 have HLV := Lib.hid h.at_.lenV
 have HLA := Lib.hid h.at_.lenA
 have HLT := Lib.hid h.at_.lenT
 have hnv := h.hv
 have hna := h.ha
 have hnt := h.ht
 clear h
 refine callsIn_of_wp Try.func34 rfl trivial ?_ rfl
 simp only [Try.ntmps34, List.size_toArray, List.length_cons, List.length_nil, Nat.reduceAdd, Nat.reduceSub, Array.replicate_succ, Array.replicate_zero, List.push_toArray, List.append_toArray, List.nil_append, List.cons_append]
 gi_upto_region 1 with fail
 have HLay := Lib.hid (Lay.two w 26 #[.int .i64 m.fountains, .slice Av nv cv, .slice Aa na ca, .slice At nt ct] 26 #[.int .i64 0, .slice none 0 0, .slice none 0 0, .slice none 0 0])
 generalize ((w.alloc (.cells #[.int .i64 m.fountains, .slice Av nv cv, .slice Aa na ca, .slice At nt ct] 26)).alloc (.cells #[.int .i64 0, .slice none 0 0, .slice none 0 0, .slice none 0 0] 26)) = w0 at *
 have HN := Lib.hid hn
 clear hn
 have x0_0 := (HLay.out.blk 0 rfl).cell 0
 have x0_1 := (HLay.out.blk 0 rfl).cell 1
 have x0_2 := (HLay.out.blk 0 rfl).cell 2
 have x0_3 := (HLay.out.blk 0 rfl).cell 3
 have l0_ := HLay.out.lt 0 rfl
 gi_wp2
 clear x0_0 x0_1 x0_2 x0_3 l0_
 refine ⟨trivial, (callsIn_wide.2 (rmix_any Av nv cv Aa na ca At nt ct m w0 (HM.out.up HLay.out.1))).mono ?_⟩
 rintro e W1 ⟨rfl, hb⟩
 have HBC := Lib.hid hb
 replace HLay := Lib.hid (HLay.out.below hb)
 clear hb
 cases hk : okMix m with
 | false =>
  have HF : Hid (strikeM m ns = (zeroMix, 40)) := Lib.hid (by unfold strikeM; rw [hk]; rfl)
  clear hk
  have x1_0 := (HLay.out.blk 1 rfl).cell 0
  have z1_0 := (HLay.out.blk 1 rfl).frozen 0
  have x1_1 := (HLay.out.blk 1 rfl).cell 1
  have z1_1 := (HLay.out.blk 1 rfl).frozen 1
  have x1_2 := (HLay.out.blk 1 rfl).cell 2
  have z1_2 := (HLay.out.blk 1 rfl).frozen 2
  have x1_3 := (HLay.out.blk 1 rfl).cell 3
  have z1_3 := (HLay.out.blk 1 rfl).frozen 3
  have l1_ := HLay.out.lt 1 rfl
  gi_wp2
  have R4 := ret4' (HLay.out.blk 1 rfl) HLay.out.1 (HLay.out.ge 1 rfl) (.int .i64 0) (.slice none 0 0) (.slice none 0 0) (.slice none 0 0)
  have v0 := R4.1.cell 0
  have v1 := R4.1.cell 1
  have v2 := R4.1.cell 2
  have v3 := R4.1.cell 3
  refine bodyPost_ret (v := .tuple #[.agg #[.int .i64 0, .slice none 0 0, .slice none 0 0, .slice none 0 0], .int .i64 40]) (by simp [results, Try.results34, go_sem, v0, v1, v2, v3]) rfl ?_
  rw [HF.out]
  exact ⟨none, 0, 0, none, 0, 0, none, 0, 0, rfl, MixS.nothing _, R4.2.1⟩
 | true =>
  have HF : Hid (strikeM m ns = if strB (m.tastes.map (·.num)) 0 ns = true then (withT m (lessT m.tastes ns), 0) else (zeroMix, 42)) := Lib.hid (by unfold strikeM; rw [if_pos hk])
  have HK := Lib.hid hk
  clear hk
  gi_wp2
  gi_loopw [6, 18] (fun v6 v18 wr => ∃ (k : Nat) (z : Int), k ≤ nn ∧ v6 = .int .i64 z ∧ v18 = .int .i64 k ∧ Hid (strB (m.tastes.map (·.num)) 0 ns = strB (m.tastes.map (·.num)) z (ns.drop k)) ∧ Hid (Below W1.heap.size W1 wr))
   (fun _ v18 _ => nn - (intOf v18).toNat)
  case atStart => exact ⟨0, 0, by omega, rfl, rfl, Lib.hid (by rw [List.drop_zero]), Lib.hid (Below.refl _ _)⟩
  case round =>
   obtain ⟨k, z, hk, rfl, rfl, HST, HBK⟩ := hrel
   replace HLay := Lib.hid (HLay.out.below HBK.out)
   by_cases hlt : k < nn
   ·
    obtain ⟨b1, o1, q, rfl, hb1, hq, cq⟩ := (HN.out.below HLay.out.1).cell hlt
    have hdr : ns.drop k = q :: ns.drop (k + 1) := by
     have hkl := (List.getElem?_eq_some_iff.1 hq)
     obtain ⟨hkl, e⟩ := hkl
     rw [List.drop_eq_getElem_cons hkl, e]
    replace HST : Hid (strB (m.tastes.map (·.num)) 0 ns = ((m.tastes.map (·.num)).contains q && decide (z < q) && strB (m.tastes.map (·.num)) q (ns.drop (k + 1)))) := Lib.hid (HST.out.trans (by rw [hdr]; rfl))
    clear hq hdr
    have knI : (k : Int) < (nn : Int) := by omega
    have x0_0 := (HLay.out.blk 0 rfl).cell 0
    have x0_1 := (HLay.out.blk 0 rfl).cell 1
    have x0_2 := (HLay.out.blk 0 rfl).cell 2
    have x0_3 := (HLay.out.blk 0 rfl).cell 3
    have l0_ := HLay.out.lt 0 rfl
    gi_wp2
    clear x0_0 x0_1 x0_2 x0_3 l0_
    gi_loopw [9, 25] (fun v9 v25 wx => ∃ j : Nat, j ≤ nt ∧ v25 = .int .i64 j ∧ v9 = .bool (((m.tastes.take j).map (·.num)).contains q) ∧ Hid (Below wr.heap.size wr wx))
     (fun _ v25 _ => nt - (intOf v25).toNat)
    case atStart => exact ⟨0, by omega, rfl, by simp, Lib.hid (Below.refl _ _)⟩
    case round =>
     rename World => wx
     obtain ⟨j, hj, rfl, rfl, HBX⟩ := hrel
     replace HLay := Lib.hid (HLay.out.below HBX.out)
     by_cases hjn : j < nt
     ·
      obtain ⟨bt, ot, y, hAt, hbt, hy, t0, t1, t2, t3, t4, t5⟩ := (HM.out.up HLay.out.1).at_.tast hjn
      subst hAt
      have HTK : Hid (((m.tastes.take (j + 1)).map (·.num)).contains q = (((m.tastes.take j).map (·.num)).contains q || y.num == q)) := Lib.hid (by
       rw [List.take_add_one, hy, List.map_append, List.contains_eq_any_beq, List.any_append, ← List.contains_eq_any_beq]
       rw [show (y.num == q) = (q == y.num) from BEq.comm]
       simp)
      clear hy
      have jnI : (j : Int) < (nt : Int) := by omega
      have HT0 := Lib.hid t0
      gi_upto_region 11 with fail
      clear t0 t1 t2 t3 t4 t5
      have HBY := Lib.hid (Below.refl wx.heap.size wx)
      obtain ⟨V2, hV⟩ : ∃ V, (wx.alloc (.cells #[.int .i64 y.num, .int .i64 y.vessel, .int .i64 y.after, .int .i64 y.fountain, .int .i64 y.lo, .int .i64 y.hi] 65)) = V := ⟨_, rfl⟩
      rw [hV]
      have hb := fbox_bel hV
      have hnew := fbox_blk hV
      have hge := HLay.out.bel.size
      replace HLay := Lib.hid (HLay.out.below hb)
      replace HBY := Lib.hid (HBY.out.trans (hb.mono HBY.out.size))
      replace HLay := Lib.hid (HLay.out.add hge hnew)
      clear hnew hge hb hV
      obtain ⟨G3, hG⟩ : ∃ g, wx.heap.size = g := ⟨_, rfl⟩
      rw [hG] at HLay ⊢
      clear hG
      replace HLay := Lib.hid (show Lay w V2 [(w.heap.size, 26, #[.int .i64 m.fountains, .slice Av nv cv, .slice Aa na ca, .slice (some ⟨bt, ot, none⟩) nt ct]), (w.heap.size + 1, 26, #[.int .i64 0, .slice none 0 0, .slice none 0 0, .slice none 0 0]), (G3, 65, #[.int .i64 y.num, .int .i64 y.vessel, .int .i64 y.after, .int .i64 y.fountain, .int .i64 y.lo, .int .i64 y.hi])] from HLay.out)
      have x2_0 := (HLay.out.blk 2 rfl).cell 0
      have x2_1 := (HLay.out.blk 2 rfl).cell 1
      have x2_2 := (HLay.out.blk 2 rfl).cell 2
      have x2_3 := (HLay.out.blk 2 rfl).cell 3
      have x2_4 := (HLay.out.blk 2 rfl).cell 4
      have x2_5 := (HLay.out.blk 2 rfl).cell 5
      have l2_ := HLay.out.lt 2 rfl
      cases hc : ((m.tastes.take j).map (·.num)).contains q with
      | true =>
       have HC := Lib.hid hc
       clear hc
       gi_wp2
       go_roundw
       case rel => exact ⟨j + 1, by omega, by go_num, by rw [HTK.out, HC.out]; rfl, Lib.hid (HBX.out.trans (HBY.out.mono HBX.out.size))⟩
       case measure => simp [intOf]; omega
      | false =>
       have HC := Lib.hid hc
       clear hc
       cases hzy : (y.num == q) with
       | true =>
        have HZ := Lib.hid hzy
        have hzy2 : decide (y.num = q) = true := by simpa using hzy
        gi_wp2
        go_roundw
        case rel => exact ⟨j + 1, by omega, by go_num, by rw [HTK.out, HC.out, HZ.out]; rfl, Lib.hid (HBX.out.trans (HBY.out.mono HBX.out.size))⟩
        case measure => simp [intOf]; omega
       | false =>
        have HZ := Lib.hid hzy
        gi_wp2
        go_roundw
        case rel => exact ⟨j + 1, by omega, by go_num, by rw [HTK.out, HC.out, HZ.out]; rfl, Lib.hid (HBX.out.trans (HBY.out.mono HBX.out.size))⟩
        case measure => simp [intOf]; omega
     ·
      have HTA : Hid (((m.tastes.take j).map (·.num)).contains q = (m.tastes.map (·.num)).contains q) := Lib.hid (by rw [List.take_of_length_le (by have := HLT.out; omega)])
      rw [HTA.out]
      cases hc : (m.tastes.map (·.num)).contains q with
      | false =>
       replace HF : Hid (strikeM m ns = (zeroMix, 42)) := Lib.hid (by rw [HF.out, HST.out, hc]; rfl)
       clear hc HST
       have x1_0 := (HLay.out.blk 1 rfl).cell 0
       have z1_0 := (HLay.out.blk 1 rfl).frozen 0
       have x1_1 := (HLay.out.blk 1 rfl).cell 1
       have z1_1 := (HLay.out.blk 1 rfl).frozen 1
       have x1_2 := (HLay.out.blk 1 rfl).cell 2
       have z1_2 := (HLay.out.blk 1 rfl).frozen 2
       have x1_3 := (HLay.out.blk 1 rfl).cell 3
       have z1_3 := (HLay.out.blk 1 rfl).frozen 3
       have l1_ := HLay.out.lt 1 rfl
       gi_wp2
       have R4 := ret4' (HLay.out.blk 1 rfl) HLay.out.1 (HLay.out.ge 1 rfl) (.int .i64 0) (.slice none 0 0) (.slice none 0 0) (.slice none 0 0)
       have v0 := R4.1.cell 0
       have v1 := R4.1.cell 1
       have v2 := R4.1.cell 2
       have v3 := R4.1.cell 3
       refine bodyPost_ret (v := .tuple #[.agg #[.int .i64 0, .slice none 0 0, .slice none 0 0, .slice none 0 0], .int .i64 42]) (by simp [results, Try.results34, go_sem, v0, v1, v2, v3]) rfl ?_
       rw [HF.out]
       exact ⟨none, 0, 0, none, 0, 0, none, 0, 0, rfl, MixS.nothing _, R4.2.1⟩
      | true =>
       by_cases hqz : q ≤ z
       ·
        replace HF : Hid (strikeM m ns = (zeroMix, 42)) := Lib.hid (by rw [HF.out, HST.out, hc, decide_eq_false (show ¬ z < q by omega)]; rfl)
        have hqd : decide (q ≤ z) = true := decide_eq_true hqz
        clear hc HST
        have x1_0 := (HLay.out.blk 1 rfl).cell 0
        have z1_0 := (HLay.out.blk 1 rfl).frozen 0
        have x1_1 := (HLay.out.blk 1 rfl).cell 1
        have z1_1 := (HLay.out.blk 1 rfl).frozen 1
        have x1_2 := (HLay.out.blk 1 rfl).cell 2
        have z1_2 := (HLay.out.blk 1 rfl).frozen 2
        have x1_3 := (HLay.out.blk 1 rfl).cell 3
        have z1_3 := (HLay.out.blk 1 rfl).frozen 3
        have l1_ := HLay.out.lt 1 rfl
        gi_wp2
        have R4 := ret4' (HLay.out.blk 1 rfl) HLay.out.1 (HLay.out.ge 1 rfl) (.int .i64 0) (.slice none 0 0) (.slice none 0 0) (.slice none 0 0)
        have v0 := R4.1.cell 0
        have v1 := R4.1.cell 1
        have v2 := R4.1.cell 2
        have v3 := R4.1.cell 3
        refine bodyPost_ret (v := .tuple #[.agg #[.int .i64 0, .slice none 0 0, .slice none 0 0, .slice none 0 0], .int .i64 42]) (by simp [results, Try.results34, go_sem, v0, v1, v2, v3]) rfl ?_
        rw [HF.out]
        exact ⟨none, 0, 0, none, 0, 0, none, 0, 0, rfl, MixS.nothing _, R4.2.1⟩
       ·
        have HS2 := Lib.hid hc
        have hqd : decide (q ≤ z) = false := decide_eq_false hqz
        have HQZ := Lib.hid hqz
        clear hc hqz
        gi_wp2
        go_roundw
        case rel => exact ⟨k + 1, q, by omega, rfl, by go_num, Lib.hid (by rw [HST.out, HS2.out, decide_eq_true (show z < q by have := HQZ.out; omega)]; rfl), Lib.hid (HBK.out.trans (HBX.out.mono HBK.out.size))⟩
        case measure => simp [intOf]; omega
   ·
    replace HF : Hid (strikeM m ns = (withT m (lessT m.tastes ns), 0)) := Lib.hid (by rw [HF.out, HST.out, List.drop_of_length_le (by have := HN.out.len; omega)]; rfl)
    have ktI : ¬ (k : Int) < (nn : Int) := by omega
    have x0_0 := (HLay.out.blk 0 rfl).cell 0
    have x0_1 := (HLay.out.blk 0 rfl).cell 1
    have x0_2 := (HLay.out.blk 0 rfl).cell 2
    have x0_3 := (HLay.out.blk 0 rfl).cell 3
    have l0_ := HLay.out.lt 0 rfl
    gi_wp2
    clear x0_0 x0_1 x0_2 x0_3 l0_
    have HBL1 := Lib.hid (HLay.out.lt 1 rfl)
    refine ⟨trivial, (callsIn_wide.2 (callsIn_wide.1 (rwithout_in Av nv cv Aa na ca At nt ct m An nn cn ns wr (HM.out.up HLay.out.1) ((HN.out.below HLay.out.1).more HLay.out.1.size) hnn))).mono ?_⟩
    rintro e W4 ⟨A1, n1, c1, A2, n2, c2, A3, n3, c3, rfl, hmo, hsm, hb⟩
    replace HLay := Lib.hid (HLay.out.below hb)
    clear hb
    have HMO := Lib.hid hmo
    have HSM := Lib.hid hsm
    clear hmo hsm
    have r0 := (HLay.out.blk 1 rfl).cell 0
    have rz0 := (HLay.out.blk 1 rfl).frozen 0
    have r1 := (HLay.out.blk 1 rfl).cell 1
    have rz1 := (HLay.out.blk 1 rfl).frozen 1
    have r2 := (HLay.out.blk 1 rfl).cell 2
    have rz2 := (HLay.out.blk 1 rfl).frozen 2
    have r3 := (HLay.out.blk 1 rfl).cell 3
    have rz3 := (HLay.out.blk 1 rfl).frozen 3
    have rl := HLay.out.lt 1 rfl
    gi_wp2
    have R4 := ret4' (HLay.out.blk 1 rfl) HLay.out.1 (HLay.out.ge 1 rfl) (.int .i64 m.fountains) (.slice A1 n1 c1) (.slice A2 n2 c2) (.slice A3 n3 c3)
    have v0 := R4.1.cell 0
    have v1 := R4.1.cell 1
    have v2 := R4.1.cell 2
    have v3 := R4.1.cell 3
    refine bodyPost_ret (v := .tuple #[.agg #[.int .i64 m.fountains, .slice A1 n1 c1, .slice A2 n2 c2, .slice A3 n3 c3], .int .i64 0]) (by simp [results, Try.results34, go_sem, v0, v1, v2, v3]) rfl ?_
    rw [HF.out]
    exact ⟨_, _, _, _, _, _, _, _, _, rfl, (HMO.out.off R4.2.2 HBL1.out).s HSM.out.1 HSM.out.2.1 HSM.out.2.2, R4.2.1⟩

end Go.Proofs.Ythofngceiecniaa
/- The memory that the law MixChanges writes into: rows of which nothing but their being there is asked. -/
namespace Go.Proofs.Ythofngceiecniaa
open Go.RowKit

/-- Some cells are owned there. -/
def Has (W : World) (B : Nat) (e : TypeId) (size : Nat) (A : Option Addr) (n c : Nat) : Prop := ∃ xs, Own W B e size A n c xs
structure Mx where
 f : Int
 A1 : Option Addr
 n1 : Nat
 c1 : Nat
 A2 : Option Addr
 n2 : Nat
 c2 : Nat
 A3 : Option Addr
 n3 : Nat
 c3 : Nat
@[reducible] def Mx.arr (q : Mx) : Array Value := #[.int .i64 q.f, .slice q.A1 q.n1 q.c1, .slice q.A2 q.n2 q.c2, .slice q.A3 q.n3 q.c3]
structure Has3 (W : World) (B : Nat) (q : Mx) : Prop where
 v : Has W B 80 2 q.A1 q.n1 q.c1
 a : Has W B 67 4 q.A2 q.n2 q.c2
 t : Has W B 65 6 q.A3 q.n3 q.c3
structure SpA (C W : World) (gs : Nat) (cs : Array Value) (L : List Mx) : Prop where
 bel : Below C.heap.size C W
 ge : C.heap.size ≤ gs
 row : Blk W gs 26 cs
 has : ∀ q ∈ L, Has3 W C.heap.size q
theorem Has.form {W : World} {B size n c : Nat} {e : TypeId} {A : Option Addr} (h : Has W B e size A n c) (hn : 0 < n) : ∃ g cur, A = some ⟨g, 0, none⟩ ∧ B ≤ g ∧ Blk W g e cur ∧ n ≤ c ∧ c ≤ maxLen ∧ cur.size = c * size := by
 obtain ⟨xs, h⟩ := h
 rcases h.form with ⟨_, h0, _⟩ | ⟨g, cur, h1, h2, h3, h4, h5, h6, _⟩
 ·omega
 ·exact ⟨g, cur, h1, h2, h3, h4, h5, h6⟩
theorem Has.write {W : World} {B size n c b o : Nat} {e t : TypeId} {A : Option Addr} {cs : Array Value} (h : Has W B e size A n c) (hb : Blk W b t cs) (v : Value) : Has (W.setCell ⟨b, o, none⟩ v) B e size A n c := by
 obtain ⟨xs, h⟩ := h
 rcases h.form with ⟨rfl, rfl, rfl, rfl⟩ | ⟨g, cur, rfl, h2, h3, h4, h5, h6, h7, h8⟩
 ·exact ⟨[], Own.none_ _ _ _ _⟩
 ·by_cases hg : g = b
  ·subst hg
   have h9 := h3.set_ o v
   refine ⟨(cur.setIfInBounds o v).toList.take (n * size), ?_, .inr ⟨g, c, cur.setIfInBounds o v, by simp, h2, h9, h4, h5, by simpa using h6, rfl⟩⟩
   rw [List.length_take, Array.length_toList, Array.size_setIfInBounds, h6, Nat.min_eq_left (Nat.mul_le_mul_right _ h4)]
  ·exact ⟨xs, h8, .inr ⟨g, c, cur, by simp, h2, h3.far (p := ⟨b, o, none⟩) hg v, h4, h5, h6, h7⟩⟩
theorem Has3.write {W : World} {B b o : Nat} {t : TypeId} {q : Mx} {cs : Array Value} (h : Has3 W B q) (hb : Blk W b t cs) (v : Value) : Has3 (W.setCell ⟨b, o, none⟩ v) B q := ⟨h.v.write hb v, h.a.write hb v, h.t.write hb v⟩
theorem SpA.write {C W : World} {gs b o : Nat} {cs cur : Array Value} {L : List Mx} {t : TypeId} (h : SpA C W gs cs L) (hB : C.heap.size ≤ b) (hb : Blk W b t cur) (ht : t ≠ 26) (v : Value) : SpA C (W.setCell ⟨b, o, none⟩ v) gs cs L :=
 ⟨h.bel.setCell (p := ⟨b, o, none⟩) hB v, h.ge, h.row.far (p := ⟨b, o, none⟩) (fun e => blk_ne h.row hb (fun e => ht e.symm) e) v, fun q hq => (h.has q hq).write hb v⟩
theorem Has.below {W W' : World} {B size n c : Nat} {e : TypeId} {A : Option Addr} (h : Has W B e size A n c) (hb : Below W.heap.size W W') : Has W' B e size A n c := by
 obtain ⟨xs, h⟩ := h
 exact ⟨xs, h.below hb (Nat.le_refl _)⟩
theorem SpA.below {C W W' : World} {gs : Nat} {cs : Array Value} {L : List Mx} (h : SpA C W gs cs L) (hb : Below W.heap.size W W') : SpA C W' gs cs L :=
 ⟨h.bel.trans (hb.mono h.bel.size), h.ge, h.row.below hb h.row.lt, fun q hq => ⟨(h.has q hq).v.below hb, (h.has q hq).a.below hb, (h.has q hq).t.below hb⟩⟩
theorem MixOwn.has3 {W : World} {base : Nat} {A1 A2 A3 : Option Addr} {n1 c1 n2 c2 n3 c3 : Nat} {m : Mix} (h : MixOwn W base A1 n1 c1 A2 n2 c2 A3 n3 c3 m) (f : Int) : Has3 W base ⟨f, A1, n1, c1, A2, n2, c2, A3, n3, c3⟩ := ⟨⟨_, h.v⟩, ⟨_, h.a⟩, ⟨_, h.t⟩⟩
theorem four_cells (a b c d : Mx) : ∀ k, k < 4 → ∃ q ∈ [a, b, c, d], ∀ (j : Nat) (u : Value), q.arr[j]? = some u → (#[.int .i64 a.f, .slice a.A1 a.n1 a.c1, .slice a.A2 a.n2 a.c2, .slice a.A3 a.n3 a.c3, .int .i64 b.f, .slice b.A1 b.n1 b.c1, .slice b.A2 b.n2 b.c2, .slice b.A3 b.n3 b.c3, .int .i64 c.f, .slice c.A1 c.n1 c.c1, .slice c.A2 c.n2 c.c2, .slice c.A3 c.n3 c.c3, .int .i64 d.f, .slice d.A1 d.n1 d.c1, .slice d.A2 d.n2 d.c2, .slice d.A3 d.n3 d.c3] : Array Value)[k * 4 + j]? = some u := by
 intro k hk
 have hk4 : k = 0 ∨ k = 1 ∨ k = 2 ∨ k = 3 := by omega
 have key : ∀ (q : Mx) (j : Nat) (u : Value), q.arr[j]? = some u → (j = 0 ∧ u = .int .i64 q.f) ∨ (j = 1 ∧ u = .slice q.A1 q.n1 q.c1) ∨ (j = 2 ∧ u = .slice q.A2 q.n2 q.c2) ∨ (j = 3 ∧ u = .slice q.A3 q.n3 q.c3) := by
  intro q j u hu
  match j, hu with
  | 0, hu => exact .inl ⟨rfl, (Option.some.inj hu).symm⟩
  | 1, hu => exact .inr (.inl ⟨rfl, (Option.some.inj hu).symm⟩)
  | 2, hu => exact .inr (.inr (.inl ⟨rfl, (Option.some.inj hu).symm⟩))
  | 3, hu => exact .inr (.inr (.inr ⟨rfl, (Option.some.inj hu).symm⟩))
  | j + 4, hu => simp [Mx.arr] at hu
 rcases hk4 with rfl | rfl | rfl | rfl
 ·exact ⟨a, by simp, fun j u hu => by rcases key _ _ _ hu with ⟨rfl, rfl⟩ | ⟨rfl, rfl⟩ | ⟨rfl, rfl⟩ | ⟨rfl, rfl⟩ <;> rfl⟩
 ·exact ⟨b, by simp, fun j u hu => by rcases key _ _ _ hu with ⟨rfl, rfl⟩ | ⟨rfl, rfl⟩ | ⟨rfl, rfl⟩ | ⟨rfl, rfl⟩ <;> rfl⟩
 ·exact ⟨c, by simp, fun j u hu => by rcases key _ _ _ hu with ⟨rfl, rfl⟩ | ⟨rfl, rfl⟩ | ⟨rfl, rfl⟩ | ⟨rfl, rfl⟩ <;> rfl⟩
 ·exact ⟨d, by simp, fun j u hu => by rcases key _ _ _ hu with ⟨rfl, rfl⟩ | ⟨rfl, rfl⟩ | ⟨rfl, rfl⟩ | ⟨rfl, rfl⟩ <;> rfl⟩
end Go.Proofs.Ythofngceiecniaa
/- aguadorlaw04.MixChanges. -/
namespace Go.Proofs.Ythofngceiecniaa
open Go.RowKit

theorem greatB_false {nv na nt : Nat} (h : greatB nv na nt = false) : nv ≤ 8 ∧ na ≤ 24 ∧ nt ≤ 16 := by
 unfold greatB at h
 simp at h
 omega
theorem sameI_self (l : List Int) : sameI l l = true := by unfold sameI; simp
def ChangesOut (w : World) (e : Ending) (w' : World) : Prop := e = .returned (.bool true) ∧ Below w.heap.size w w'

set_option maxRecDepth 100000 in
set_option maxHeartbeats 16000000 in
theorem changes_in (Av : Option Addr) (nv cv : Nat) (Aa : Option Addr) (na ca : Nat) (At : Option Addr) (nt ct : Nat) (m : Mix) (x : Tast) (An : Option Addr) (nn cn : Nat) (ns : List Int) (a : MAct) (w : World) (h : MixAt w w.heap.size Av nv Aa na At nt m) (hca : na ≤ ca ∧ ca ≤ maxLen) (hct : nt ≤ ct ∧ ct ≤ maxLen) (hn : IntsAt w w.heap.size An nn ns) :
  CallsIn Fence.wide 9 Try.prog 6 #[.agg #[.int .i64 m.fountains, .slice Av nv cv, .slice Aa na ca, .slice At nt ct], .agg #[.int .i64 x.num, .int .i64 x.vessel, .int .i64 x.after, .int .i64 x.fountain, .int .i64 x.lo, .int .i64 x.hi], .slice An nn cn, .agg #[.int .i64 a.kind, .int .i64 a.fr, .int .i64 a.to, .int .i64 a.drops]] w (ChangesOut w) := by
 have HN := Lib.hid hn
 clear hn
 refine callsIn_of_wp Try.func6 rfl trivial ?_ rfl
 simp only [Try.ntmps6, List.size_toArray, List.length_cons, List.length_nil, Nat.reduceAdd, Nat.reduceSub, Array.replicate_succ, Array.replicate_zero, List.push_toArray, List.append_toArray, List.nil_append, List.cons_append]
 gi_upto_region 1 with fail
 have HLay := Lib.hid (Lay.three w 26 #[.int .i64 m.fountains, .slice Av nv cv, .slice Aa na ca, .slice At nt ct] 65 #[.int .i64 x.num, .int .i64 x.vessel, .int .i64 x.after, .int .i64 x.fountain, .int .i64 x.lo, .int .i64 x.hi] 67 #[.int .i64 a.kind, .int .i64 a.fr, .int .i64 a.to, .int .i64 a.drops])
 generalize (((w.alloc (.cells #[.int .i64 m.fountains, .slice Av nv cv, .slice Aa na ca, .slice At nt ct] 26)).alloc (.cells #[.int .i64 x.num, .int .i64 x.vessel, .int .i64 x.after, .int .i64 x.fountain, .int .i64 x.lo, .int .i64 x.hi] 65)).alloc (.cells #[.int .i64 a.kind, .int .i64 a.fr, .int .i64 a.to, .int .i64 a.drops] 67)) = w0 at *
 have x0_0 := (HLay.out.blk 0 rfl).cell 0
 have x0_1 := (HLay.out.blk 0 rfl).cell 1
 have x0_2 := (HLay.out.blk 0 rfl).cell 2
 have x0_3 := (HLay.out.blk 0 rfl).cell 3
 have l0_ := HLay.out.lt 0 rfl
 gi_wp2
 clear x0_0 x0_1 x0_2 x0_3 l0_
 refine ⟨trivial, (callsIn_wide.2 (great_any m.fountains Av nv cv Aa na ca At nt ct w0)).mono ?_⟩
 rintro e W1 ⟨rfl, hb⟩
 replace HLay := Lib.hid (HLay.out.below hb)
 clear hb
 cases hg : greatB nv na nt with
 | true =>
  gi_wp2
  refine bodyPost_ret (v := .bool true) (by simp [results, Try.results6, go_sem]) rfl ?_
  exact ⟨rfl, HLay.out.1⟩
 | false =>
  by_cases h16 : 16 < nn
  ·
   have h16I : (16 : Int) < (nn : Int) := by omega
   clear hg h16
   gi_wp2
   refine bodyPost_ret (v := .bool true) (by simp [results, Try.results6, go_sem]) rfl ?_
   exact ⟨rfl, HLay.out.1⟩
  ·
   have h16I : ¬ (16 : Int) < (nn : Int) := by omega
   have hsm := greatB_false hg
   have hsx : MixS w Av nv Aa na At nt m := ⟨h, by omega, by omega, by omega⟩
   have HM := Lib.hid hsx
   clear hg h hsx
   have x0_0 := (HLay.out.blk 0 rfl).cell 0
   have x0_1 := (HLay.out.blk 0 rfl).cell 1
   have x0_2 := (HLay.out.blk 0 rfl).cell 2
   have x0_3 := (HLay.out.blk 0 rfl).cell 3
   have l0_ := HLay.out.lt 0 rfl
   gi_wp2
   clear x0_0 x0_1 x0_2 x0_3 l0_
   have HW0 := Lib.hid HLay.out.1.size
   refine ⟨trivial, (callsIn_wide.2 (callsIn_wide.1 (twin_in Av nv cv Aa na ca At nt ct m W1 (HM.out.up HLay.out.1)))).mono ?_⟩
   rintro e W2 ⟨A1, c1, A2, c2, A3, c3, rfl, hmo, hb⟩
   replace HLay := Lib.hid (HLay.out.below hb)
   clear hb
   have HTW := Lib.hid hmo
   clear hmo
   gi_wp2_with (first | (gi_at_builtin; refine wpListIn_append_fresh rfl (.tmp 42) (.tmp 43) (by rfl) elem_int rfl (World.ownsRow_made W2 #[] 0 (Nat.le_refl _) (Nat.zero_le _) (by simp)) rfl (Reads.alloc ((HN.out.below HLay.out.1).more HLay.out.1.size) (Nat.le_refl _) _) (ints_one ns) (by unfold maxLen; omega) (by omega) (by simp) ?_) | fail)
   rintro A9 c9 V3 hown hb0 hA
   have hb : Below W2.heap.size W2 V3 := ((Below.refl _ _).alloc (Nat.le_refl _) _).trans (hb0.mono (by simp))
   have HNS := Lib.hid (show IntsAt V3 V3.heap.size A9 nn ns from hown.reads (Nat.le_refl _))
   replace HLay := Lib.hid (HLay.out.below hb)
   replace HTW := Lib.hid (HTW.out.below hb)
   clear hown hb0 hA hb
   gi_upto_region 4 with fail
   obtain ⟨V4, hV⟩ : ∃ V, (V3.alloc (.cells #[.int .i64 m.fountains, .slice A1 nv c1, .slice A2 na c2, .slice A3 nt c3] 26)) = V := ⟨_, rfl⟩
   rw [hV]
   have hb := fbox_bel hV
   have hnew := fbox_blk hV
   have hge := HLay.out.bel.size
   replace HLay := Lib.hid (HLay.out.below hb)
   replace HTW := Lib.hid (HTW.out.below hb)
   replace HNS := Lib.hid ((HNS.out.below hb).more hb.size)
   replace HLay := Lib.hid (HLay.out.add hge hnew)
   clear hnew hge hb hV
   obtain ⟨G5, hG⟩ : ∃ g, V3.heap.size = g := ⟨_, rfl⟩
   rw [hG] at HLay ⊢
   have HG_ := Lib.hid hG
   clear hG
   have HB4 := Lib.hid (Below.refl V4.heap.size V4)
   have HLay4 := Lib.hid HLay.out
   have HTW4 := Lib.hid HTW.out
   have HNS4 := Lib.hid HNS.out
   obtain ⟨ra, hra⟩ : ∃ r, putM m x = r := ⟨_, rfl⟩
   have HRa := Lib.hid hra
   clear hra
   have x3_0 := (HLay.out.blk 3 rfl).cell 0
   have x3_1 := (HLay.out.blk 3 rfl).cell 1
   have x3_2 := (HLay.out.blk 3 rfl).cell 2
   have x3_3 := (HLay.out.blk 3 rfl).cell 3
   have l3_ := HLay.out.lt 3 rfl
   have x1_0 := (HLay.out.blk 1 rfl).cell 0
   have x1_1 := (HLay.out.blk 1 rfl).cell 1
   have x1_2 := (HLay.out.blk 1 rfl).cell 2
   have x1_3 := (HLay.out.blk 1 rfl).cell 3
   have x1_4 := (HLay.out.blk 1 rfl).cell 4
   have x1_5 := (HLay.out.blk 1 rfl).cell 5
   have l1_ := HLay.out.lt 1 rfl
   gi_wp2
   clear x3_0 x3_1 x3_2 x3_3 l3_ x1_0 x1_1 x1_2 x1_3 x1_4 x1_5 l1_
   have hcon := put_in A1 nv c1 A2 na c2 A3 nt c3 m x V4 (HTW.out.s (by omega) (by omega) (by omega)) 
   rw [put_same] at hcon
   rw [HRa.out] at hcon
   have hle := HB4.out.size
   refine ⟨trivial, (callsIn_wide.2 (callsIn_wide.1 hcon)).mono ?_⟩
   rintro e W6 ⟨PA1, pan1, pac1, PA2, pan2, pac2, PA3, pan3, pac3, rfl, hmo, hsz, hb⟩
   replace HLay := Lib.hid (HLay.out.below hb)
   replace HTW := Lib.hid (HTW.out.below hb)
   replace HNS := Lib.hid ((HNS.out.below hb).more hb.size)
   replace HB4 := Lib.hid (HB4.out.trans (hb.mono HB4.out.size))
   clear hb
   have HPA := Lib.hid (hmo.mono hle)
   have HZPA := Lib.hid hsz
   clear hmo hsz hle hcon
   gi_upto_region 5 with fail
   obtain ⟨V7, hV⟩ : ∃ V, (W6.alloc (.cells #[.int .i64 ra.1.fountains, .slice PA1 pan1 pac1, .slice PA2 pan2 pac2, .slice PA3 pan3 pac3] 26)) = V := ⟨_, rfl⟩
   rw [hV]
   have hb := fbox_bel hV
   have hnew := fbox_blk hV
   have hge := HLay.out.bel.size
   replace HLay := Lib.hid (HLay.out.below hb)
   replace HTW := Lib.hid (HTW.out.below hb)
   replace HNS := Lib.hid ((HNS.out.below hb).more hb.size)
   replace HB4 := Lib.hid (HB4.out.trans (hb.mono HB4.out.size))
   replace HPA := Lib.hid (HPA.out.below hb)
   replace HLay := Lib.hid (HLay.out.add hge hnew)
   clear hnew hge hb hV
   obtain ⟨G8, hG⟩ : ∃ g, W6.heap.size = g := ⟨_, rfl⟩
   rw [hG] at HLay ⊢
   have HG_ := Lib.hid hG
   clear hG
   replace HLay := Lib.hid (show Lay w V7 [(w.heap.size, 26, #[.int .i64 m.fountains, .slice Av nv cv, .slice Aa na ca, .slice At nt ct]), (w.heap.size + 1, 65, #[.int .i64 x.num, .int .i64 x.vessel, .int .i64 x.after, .int .i64 x.fountain, .int .i64 x.lo, .int .i64 x.hi]), (w.heap.size + 1 + 1, 67, #[.int .i64 a.kind, .int .i64 a.fr, .int .i64 a.to, .int .i64 a.drops]), (G5, 26, #[.int .i64 m.fountains, .slice A1 nv c1, .slice A2 na c2, .slice A3 nt c3]), (G8, 26, #[.int .i64 ra.1.fountains, .slice PA1 pan1 pac1, .slice PA2 pan2 pac2, .slice PA3 pan3 pac3])] from HLay.out)
   have x0_0 := (HLay.out.blk 0 rfl).cell 0
   have x0_1 := (HLay.out.blk 0 rfl).cell 1
   have x0_2 := (HLay.out.blk 0 rfl).cell 2
   have x0_3 := (HLay.out.blk 0 rfl).cell 3
   have l0_ := HLay.out.lt 0 rfl
   have x1_0 := (HLay.out.blk 1 rfl).cell 0
   have x1_1 := (HLay.out.blk 1 rfl).cell 1
   have x1_2 := (HLay.out.blk 1 rfl).cell 2
   have x1_3 := (HLay.out.blk 1 rfl).cell 3
   have x1_4 := (HLay.out.blk 1 rfl).cell 4
   have x1_5 := (HLay.out.blk 1 rfl).cell 5
   have l1_ := HLay.out.lt 1 rfl
   gi_wp2
   clear x0_0 x0_1 x0_2 x0_3 l0_ x1_0 x1_1 x1_2 x1_3 x1_4 x1_5 l1_
   have hcon := rput_in Av nv cv Aa na ca At nt ct m x V7 (HM.out.up HLay.out.1) hct
   rw [HRa.out] at hcon
   refine ⟨trivial, (callsIn_wide.2 (callsIn_wide.1 hcon)).mono ?_⟩
   rintro e W9 ⟨QA1, qan1, qac1, QA2, qan2, qac2, QA3, qan3, qac3, rfl, hmo, hb⟩
   replace HLay := Lib.hid (HLay.out.below hb)
   replace HTW := Lib.hid (HTW.out.below hb)
   replace HNS := Lib.hid ((HNS.out.below hb).more hb.size)
   replace HB4 := Lib.hid (HB4.out.trans (hb.mono HB4.out.size))
   replace HPA := Lib.hid (HPA.out.below hb)
   clear hb
   have HQA := Lib.hid hmo
   clear hmo hcon
   have he1 : pan1 = qan1 := by rw [← recs_n vess_k (by omega) (HPA.out.v.reads (Nat.le_refl _)), ← HQA.out.at_.lenV]
   subst he1
   have he2 : pan2 = qan2 := by rw [← recs_n act_k (by omega) (HPA.out.a.reads (Nat.le_refl _)), ← HQA.out.at_.lenA]
   subst he2
   have he3 : pan3 = qan3 := by rw [← recs_n tast_k (by omega) (HPA.out.t.reads (Nat.le_refl _)), ← HQA.out.at_.lenT]
   subst he3
   gi_upto_region 6 with fail
   obtain ⟨V10, hV⟩ : ∃ V, (W9.alloc (.cells #[.int .i64 ra.1.fountains, .slice QA1 pan1 qac1, .slice QA2 pan2 qac2, .slice QA3 pan3 qac3] 26)) = V := ⟨_, rfl⟩
   rw [hV]
   have hb := fbox_bel hV
   have hnew := fbox_blk hV
   have hge := HLay.out.bel.size
   replace HLay := Lib.hid (HLay.out.below hb)
   replace HTW := Lib.hid (HTW.out.below hb)
   replace HNS := Lib.hid ((HNS.out.below hb).more hb.size)
   replace HB4 := Lib.hid (HB4.out.trans (hb.mono HB4.out.size))
   replace HPA := Lib.hid (HPA.out.below hb)
   replace HQA := Lib.hid (HQA.out.up hb)
   replace HLay := Lib.hid (HLay.out.add hge hnew)
   clear hnew hge hb hV
   obtain ⟨G11, hG⟩ : ∃ g, W9.heap.size = g := ⟨_, rfl⟩
   rw [hG] at HLay ⊢
   have HG_ := Lib.hid hG
   clear hG
   replace HLay := Lib.hid (show Lay w V10 [(w.heap.size, 26, #[.int .i64 m.fountains, .slice Av nv cv, .slice Aa na ca, .slice At nt ct]), (w.heap.size + 1, 65, #[.int .i64 x.num, .int .i64 x.vessel, .int .i64 x.after, .int .i64 x.fountain, .int .i64 x.lo, .int .i64 x.hi]), (w.heap.size + 1 + 1, 67, #[.int .i64 a.kind, .int .i64 a.fr, .int .i64 a.to, .int .i64 a.drops]), (G5, 26, #[.int .i64 m.fountains, .slice A1 nv c1, .slice A2 na c2, .slice A3 nt c3]), (G8, 26, #[.int .i64 ra.1.fountains, .slice PA1 pan1 pac1, .slice PA2 pan2 pac2, .slice PA3 pan3 pac3]), (G11, 26, #[.int .i64 ra.1.fountains, .slice QA1 pan1 qac1, .slice QA2 pan2 qac2, .slice QA3 pan3 qac3])] from HLay.out)
   obtain ⟨rb, hrb⟩ : ∃ r, strikeM m ns = r := ⟨_, rfl⟩
   have HRb := Lib.hid hrb
   clear hrb
   have x3_0 := (HLay.out.blk 3 rfl).cell 0
   have x3_1 := (HLay.out.blk 3 rfl).cell 1
   have x3_2 := (HLay.out.blk 3 rfl).cell 2
   have x3_3 := (HLay.out.blk 3 rfl).cell 3
   have l3_ := HLay.out.lt 3 rfl
   gi_wp2
   clear x3_0 x3_1 x3_2 x3_3 l3_
   have hcon := strike_in A1 nv c1 A2 na c2 A3 nt c3 m A9 nn c9 ns V10 (HTW.out.s (by omega) (by omega) (by omega)) (HNS.out) (by omega)
   rw [strikeS_same] at hcon
   rw [HRb.out] at hcon
   have hle := HB4.out.size
   refine ⟨trivial, (callsIn_wide.2 (callsIn_wide.1 hcon)).mono ?_⟩
   rintro e W12 ⟨PB1, pbn1, pbc1, PB2, pbn2, pbc2, PB3, pbn3, pbc3, rfl, hmo, hsz, hb⟩
   replace HLay := Lib.hid (HLay.out.below hb)
   replace HTW := Lib.hid (HTW.out.below hb)
   replace HNS := Lib.hid ((HNS.out.below hb).more hb.size)
   replace HB4 := Lib.hid (HB4.out.trans (hb.mono HB4.out.size))
   replace HPA := Lib.hid (HPA.out.below hb)
   replace HQA := Lib.hid (HQA.out.up hb)
   clear hb
   have HPB := Lib.hid (hmo.mono hle)
   have HZPB := Lib.hid hsz
   clear hmo hsz hle hcon
   gi_upto_region 7 with fail
   obtain ⟨V13, hV⟩ : ∃ V, (W12.alloc (.cells #[.int .i64 rb.1.fountains, .slice PB1 pbn1 pbc1, .slice PB2 pbn2 pbc2, .slice PB3 pbn3 pbc3] 26)) = V := ⟨_, rfl⟩
   rw [hV]
   have hb := fbox_bel hV
   have hnew := fbox_blk hV
   have hge := HLay.out.bel.size
   replace HLay := Lib.hid (HLay.out.below hb)
   replace HTW := Lib.hid (HTW.out.below hb)
   replace HNS := Lib.hid ((HNS.out.below hb).more hb.size)
   replace HB4 := Lib.hid (HB4.out.trans (hb.mono HB4.out.size))
   replace HPA := Lib.hid (HPA.out.below hb)
   replace HQA := Lib.hid (HQA.out.up hb)
   replace HPB := Lib.hid (HPB.out.below hb)
   replace HLay := Lib.hid (HLay.out.add hge hnew)
   clear hnew hge hb hV
   obtain ⟨G14, hG⟩ : ∃ g, W12.heap.size = g := ⟨_, rfl⟩
   rw [hG] at HLay ⊢
   have HG_ := Lib.hid hG
   clear hG
   replace HLay := Lib.hid (show Lay w V13 [(w.heap.size, 26, #[.int .i64 m.fountains, .slice Av nv cv, .slice Aa na ca, .slice At nt ct]), (w.heap.size + 1, 65, #[.int .i64 x.num, .int .i64 x.vessel, .int .i64 x.after, .int .i64 x.fountain, .int .i64 x.lo, .int .i64 x.hi]), (w.heap.size + 1 + 1, 67, #[.int .i64 a.kind, .int .i64 a.fr, .int .i64 a.to, .int .i64 a.drops]), (G5, 26, #[.int .i64 m.fountains, .slice A1 nv c1, .slice A2 na c2, .slice A3 nt c3]), (G8, 26, #[.int .i64 ra.1.fountains, .slice PA1 pan1 pac1, .slice PA2 pan2 pac2, .slice PA3 pan3 pac3]), (G11, 26, #[.int .i64 ra.1.fountains, .slice QA1 pan1 qac1, .slice QA2 pan2 qac2, .slice QA3 pan3 qac3]), (G14, 26, #[.int .i64 rb.1.fountains, .slice PB1 pbn1 pbc1, .slice PB2 pbn2 pbc2, .slice PB3 pbn3 pbc3])] from HLay.out)
   have x0_0 := (HLay.out.blk 0 rfl).cell 0
   have x0_1 := (HLay.out.blk 0 rfl).cell 1
   have x0_2 := (HLay.out.blk 0 rfl).cell 2
   have x0_3 := (HLay.out.blk 0 rfl).cell 3
   have l0_ := HLay.out.lt 0 rfl
   gi_wp2
   clear x0_0 x0_1 x0_2 x0_3 l0_
   have hcon := rstrike_in Av nv cv Aa na ca At nt ct m An nn cn ns V13 (HM.out.up HLay.out.1) ((HN.out.below HLay.out.1).more HLay.out.1.size) (by omega)
   rw [HRb.out] at hcon
   refine ⟨trivial, (callsIn_wide.2 (callsIn_wide.1 hcon)).mono ?_⟩
   rintro e W15 ⟨QB1, qbn1, qbc1, QB2, qbn2, qbc2, QB3, qbn3, qbc3, rfl, hmo, hb⟩
   replace HLay := Lib.hid (HLay.out.below hb)
   replace HTW := Lib.hid (HTW.out.below hb)
   replace HNS := Lib.hid ((HNS.out.below hb).more hb.size)
   replace HB4 := Lib.hid (HB4.out.trans (hb.mono HB4.out.size))
   replace HPA := Lib.hid (HPA.out.below hb)
   replace HQA := Lib.hid (HQA.out.up hb)
   replace HPB := Lib.hid (HPB.out.below hb)
   clear hb
   have HQB := Lib.hid hmo
   clear hmo hcon
   have he1 : pbn1 = qbn1 := by rw [← recs_n vess_k (by omega) (HPB.out.v.reads (Nat.le_refl _)), ← HQB.out.at_.lenV]
   subst he1
   have he2 : pbn2 = qbn2 := by rw [← recs_n act_k (by omega) (HPB.out.a.reads (Nat.le_refl _)), ← HQB.out.at_.lenA]
   subst he2
   have he3 : pbn3 = qbn3 := by rw [← recs_n tast_k (by omega) (HPB.out.t.reads (Nat.le_refl _)), ← HQB.out.at_.lenT]
   subst he3
   gi_upto_region 8 with fail
   obtain ⟨V16, hV⟩ : ∃ V, (W15.alloc (.cells #[.int .i64 rb.1.fountains, .slice QB1 pbn1 qbc1, .slice QB2 pbn2 qbc2, .slice QB3 pbn3 qbc3] 26)) = V := ⟨_, rfl⟩
   rw [hV]
   have hb := fbox_bel hV
   have hnew := fbox_blk hV
   have hge := HLay.out.bel.size
   replace HLay := Lib.hid (HLay.out.below hb)
   replace HTW := Lib.hid (HTW.out.below hb)
   replace HNS := Lib.hid ((HNS.out.below hb).more hb.size)
   replace HB4 := Lib.hid (HB4.out.trans (hb.mono HB4.out.size))
   replace HPA := Lib.hid (HPA.out.below hb)
   replace HQA := Lib.hid (HQA.out.up hb)
   replace HPB := Lib.hid (HPB.out.below hb)
   replace HQB := Lib.hid (HQB.out.up hb)
   replace HLay := Lib.hid (HLay.out.add hge hnew)
   clear hnew hge hb hV
   obtain ⟨G17, hG⟩ : ∃ g, W15.heap.size = g := ⟨_, rfl⟩
   rw [hG] at HLay ⊢
   have HG_ := Lib.hid hG
   clear hG
   replace HLay := Lib.hid (show Lay w V16 [(w.heap.size, 26, #[.int .i64 m.fountains, .slice Av nv cv, .slice Aa na ca, .slice At nt ct]), (w.heap.size + 1, 65, #[.int .i64 x.num, .int .i64 x.vessel, .int .i64 x.after, .int .i64 x.fountain, .int .i64 x.lo, .int .i64 x.hi]), (w.heap.size + 1 + 1, 67, #[.int .i64 a.kind, .int .i64 a.fr, .int .i64 a.to, .int .i64 a.drops]), (G5, 26, #[.int .i64 m.fountains, .slice A1 nv c1, .slice A2 na c2, .slice A3 nt c3]), (G8, 26, #[.int .i64 ra.1.fountains, .slice PA1 pan1 pac1, .slice PA2 pan2 pac2, .slice PA3 pan3 pac3]), (G11, 26, #[.int .i64 ra.1.fountains, .slice QA1 pan1 qac1, .slice QA2 pan2 qac2, .slice QA3 pan3 qac3]), (G14, 26, #[.int .i64 rb.1.fountains, .slice PB1 pbn1 pbc1, .slice PB2 pbn2 pbc2, .slice PB3 pbn3 pbc3]), (G17, 26, #[.int .i64 rb.1.fountains, .slice QB1 pbn1 qbc1, .slice QB2 pbn2 qbc2, .slice QB3 pbn3 qbc3])] from HLay.out)
   obtain ⟨rc, hrc⟩ : ∃ r, doM m a = r := ⟨_, rfl⟩
   have HRc := Lib.hid hrc
   clear hrc
   have x3_0 := (HLay.out.blk 3 rfl).cell 0
   have x3_1 := (HLay.out.blk 3 rfl).cell 1
   have x3_2 := (HLay.out.blk 3 rfl).cell 2
   have x3_3 := (HLay.out.blk 3 rfl).cell 3
   have l3_ := HLay.out.lt 3 rfl
   have x2_0 := (HLay.out.blk 2 rfl).cell 0
   have x2_1 := (HLay.out.blk 2 rfl).cell 1
   have x2_2 := (HLay.out.blk 2 rfl).cell 2
   have x2_3 := (HLay.out.blk 2 rfl).cell 3
   have l2_ := HLay.out.lt 2 rfl
   gi_wp2
   clear x3_0 x3_1 x3_2 x3_3 l3_ x2_0 x2_1 x2_2 x2_3 l2_
   have hcon := do_in A1 nv c1 A2 na c2 A3 nt c3 m a V16 (HTW.out.s (by omega) (by omega) (by omega)) 
   rw [HRc.out] at hcon
   have hle := HB4.out.size
   refine ⟨trivial, (callsIn_wide.2 (callsIn_wide.1 hcon)).mono ?_⟩
   rintro e W18 ⟨PC1, pcn1, pcc1, PC2, pcn2, pcc2, PC3, pcn3, pcc3, rfl, hmo, hsz, hb⟩
   replace HLay := Lib.hid (HLay.out.below hb)
   replace HTW := Lib.hid (HTW.out.below hb)
   replace HNS := Lib.hid ((HNS.out.below hb).more hb.size)
   replace HB4 := Lib.hid (HB4.out.trans (hb.mono HB4.out.size))
   replace HPA := Lib.hid (HPA.out.below hb)
   replace HQA := Lib.hid (HQA.out.up hb)
   replace HPB := Lib.hid (HPB.out.below hb)
   replace HQB := Lib.hid (HQB.out.up hb)
   clear hb
   have HPC := Lib.hid (hmo.mono hle)
   have HZPC := Lib.hid hsz
   clear hmo hsz hle hcon
   gi_upto_region 9 with fail
   obtain ⟨V19, hV⟩ : ∃ V, (W18.alloc (.cells #[.int .i64 rc.1.fountains, .slice PC1 pcn1 pcc1, .slice PC2 pcn2 pcc2, .slice PC3 pcn3 pcc3] 26)) = V := ⟨_, rfl⟩
   rw [hV]
   have hb := fbox_bel hV
   have hnew := fbox_blk hV
   have hge := HLay.out.bel.size
   replace HLay := Lib.hid (HLay.out.below hb)
   replace HTW := Lib.hid (HTW.out.below hb)
   replace HNS := Lib.hid ((HNS.out.below hb).more hb.size)
   replace HB4 := Lib.hid (HB4.out.trans (hb.mono HB4.out.size))
   replace HPA := Lib.hid (HPA.out.below hb)
   replace HQA := Lib.hid (HQA.out.up hb)
   replace HPB := Lib.hid (HPB.out.below hb)
   replace HQB := Lib.hid (HQB.out.up hb)
   replace HPC := Lib.hid (HPC.out.below hb)
   replace HLay := Lib.hid (HLay.out.add hge hnew)
   clear hnew hge hb hV
   obtain ⟨G20, hG⟩ : ∃ g, W18.heap.size = g := ⟨_, rfl⟩
   rw [hG] at HLay ⊢
   have HG_ := Lib.hid hG
   clear hG
   replace HLay := Lib.hid (show Lay w V19 [(w.heap.size, 26, #[.int .i64 m.fountains, .slice Av nv cv, .slice Aa na ca, .slice At nt ct]), (w.heap.size + 1, 65, #[.int .i64 x.num, .int .i64 x.vessel, .int .i64 x.after, .int .i64 x.fountain, .int .i64 x.lo, .int .i64 x.hi]), (w.heap.size + 1 + 1, 67, #[.int .i64 a.kind, .int .i64 a.fr, .int .i64 a.to, .int .i64 a.drops]), (G5, 26, #[.int .i64 m.fountains, .slice A1 nv c1, .slice A2 na c2, .slice A3 nt c3]), (G8, 26, #[.int .i64 ra.1.fountains, .slice PA1 pan1 pac1, .slice PA2 pan2 pac2, .slice PA3 pan3 pac3]), (G11, 26, #[.int .i64 ra.1.fountains, .slice QA1 pan1 qac1, .slice QA2 pan2 qac2, .slice QA3 pan3 qac3]), (G14, 26, #[.int .i64 rb.1.fountains, .slice PB1 pbn1 pbc1, .slice PB2 pbn2 pbc2, .slice PB3 pbn3 pbc3]), (G17, 26, #[.int .i64 rb.1.fountains, .slice QB1 pbn1 qbc1, .slice QB2 pbn2 qbc2, .slice QB3 pbn3 qbc3]), (G20, 26, #[.int .i64 rc.1.fountains, .slice PC1 pcn1 pcc1, .slice PC2 pcn2 pcc2, .slice PC3 pcn3 pcc3])] from HLay.out)
   have x0_0 := (HLay.out.blk 0 rfl).cell 0
   have x0_1 := (HLay.out.blk 0 rfl).cell 1
   have x0_2 := (HLay.out.blk 0 rfl).cell 2
   have x0_3 := (HLay.out.blk 0 rfl).cell 3
   have l0_ := HLay.out.lt 0 rfl
   have x2_0 := (HLay.out.blk 2 rfl).cell 0
   have x2_1 := (HLay.out.blk 2 rfl).cell 1
   have x2_2 := (HLay.out.blk 2 rfl).cell 2
   have x2_3 := (HLay.out.blk 2 rfl).cell 3
   have l2_ := HLay.out.lt 2 rfl
   gi_wp2
   clear x0_0 x0_1 x0_2 x0_3 l0_ x2_0 x2_1 x2_2 x2_3 l2_
   have hcon := rdo_in Av nv cv Aa na ca At nt ct m a V19 (HM.out.up HLay.out.1) 
   rw [HRc.out] at hcon
   refine ⟨trivial, (callsIn_wide.2 (callsIn_wide.1 hcon)).mono ?_⟩
   rintro e W21 ⟨QC1, qcn1, qcc1, QC2, qcn2, qcc2, QC3, qcn3, qcc3, rfl, hmo, hb⟩
   replace HLay := Lib.hid (HLay.out.below hb)
   replace HTW := Lib.hid (HTW.out.below hb)
   replace HNS := Lib.hid ((HNS.out.below hb).more hb.size)
   replace HB4 := Lib.hid (HB4.out.trans (hb.mono HB4.out.size))
   replace HPA := Lib.hid (HPA.out.below hb)
   replace HQA := Lib.hid (HQA.out.up hb)
   replace HPB := Lib.hid (HPB.out.below hb)
   replace HQB := Lib.hid (HQB.out.up hb)
   replace HPC := Lib.hid (HPC.out.below hb)
   clear hb
   have HQC := Lib.hid hmo
   clear hmo hcon
   have he1 : pcn1 = qcn1 := by rw [← recs_n vess_k (by omega) (HPC.out.v.reads (Nat.le_refl _)), ← HQC.out.at_.lenV]
   subst he1
   have he2 : pcn2 = qcn2 := by rw [← recs_n act_k (by omega) (HPC.out.a.reads (Nat.le_refl _)), ← HQC.out.at_.lenA]
   subst he2
   have he3 : pcn3 = qcn3 := by rw [← recs_n tast_k (by omega) (HPC.out.t.reads (Nat.le_refl _)), ← HQC.out.at_.lenT]
   subst he3
   gi_upto_region 10 with fail
   obtain ⟨V22, hV⟩ : ∃ V, (W21.alloc (.cells #[.int .i64 rc.1.fountains, .slice QC1 pcn1 qcc1, .slice QC2 pcn2 qcc2, .slice QC3 pcn3 qcc3] 26)) = V := ⟨_, rfl⟩
   rw [hV]
   have hb := fbox_bel hV
   have hnew := fbox_blk hV
   have hge := HLay.out.bel.size
   replace HLay := Lib.hid (HLay.out.below hb)
   replace HTW := Lib.hid (HTW.out.below hb)
   replace HNS := Lib.hid ((HNS.out.below hb).more hb.size)
   replace HB4 := Lib.hid (HB4.out.trans (hb.mono HB4.out.size))
   replace HPA := Lib.hid (HPA.out.below hb)
   replace HQA := Lib.hid (HQA.out.up hb)
   replace HPB := Lib.hid (HPB.out.below hb)
   replace HQB := Lib.hid (HQB.out.up hb)
   replace HPC := Lib.hid (HPC.out.below hb)
   replace HQC := Lib.hid (HQC.out.up hb)
   replace HLay := Lib.hid (HLay.out.add hge hnew)
   clear hnew hge hb hV
   obtain ⟨G23, hG⟩ : ∃ g, W21.heap.size = g := ⟨_, rfl⟩
   rw [hG] at HLay ⊢
   have HG_ := Lib.hid hG
   clear hG
   replace HLay := Lib.hid (show Lay w V22 [(w.heap.size, 26, #[.int .i64 m.fountains, .slice Av nv cv, .slice Aa na ca, .slice At nt ct]), (w.heap.size + 1, 65, #[.int .i64 x.num, .int .i64 x.vessel, .int .i64 x.after, .int .i64 x.fountain, .int .i64 x.lo, .int .i64 x.hi]), (w.heap.size + 1 + 1, 67, #[.int .i64 a.kind, .int .i64 a.fr, .int .i64 a.to, .int .i64 a.drops]), (G5, 26, #[.int .i64 m.fountains, .slice A1 nv c1, .slice A2 na c2, .slice A3 nt c3]), (G8, 26, #[.int .i64 ra.1.fountains, .slice PA1 pan1 pac1, .slice PA2 pan2 pac2, .slice PA3 pan3 pac3]), (G11, 26, #[.int .i64 ra.1.fountains, .slice QA1 pan1 qac1, .slice QA2 pan2 qac2, .slice QA3 pan3 qac3]), (G14, 26, #[.int .i64 rb.1.fountains, .slice PB1 pbn1 pbc1, .slice PB2 pbn2 pbc2, .slice PB3 pbn3 pbc3]), (G17, 26, #[.int .i64 rb.1.fountains, .slice QB1 pbn1 qbc1, .slice QB2 pbn2 qbc2, .slice QB3 pbn3 qbc3]), (G20, 26, #[.int .i64 rc.1.fountains, .slice PC1 pcn1 pcc1, .slice PC2 pcn2 pcc2, .slice PC3 pcn3 pcc3]), (G23, 26, #[.int .i64 rc.1.fountains, .slice QC1 pcn1 qcc1, .slice QC2 pcn2 qcc2, .slice QC3 pcn3 qcc3])] from HLay.out)
   obtain ⟨rd, hrd⟩ : ∃ r, undoM m = r := ⟨_, rfl⟩
   have HRd := Lib.hid hrd
   clear hrd
   have x3_0 := (HLay.out.blk 3 rfl).cell 0
   have x3_1 := (HLay.out.blk 3 rfl).cell 1
   have x3_2 := (HLay.out.blk 3 rfl).cell 2
   have x3_3 := (HLay.out.blk 3 rfl).cell 3
   have l3_ := HLay.out.lt 3 rfl
   gi_wp2
   clear x3_0 x3_1 x3_2 x3_3 l3_
   have hcon := undo_in A1 nv c1 A2 na c2 A3 nt c3 m V22 (HTW.out.s (by omega) (by omega) (by omega)) 
   rw [HRd.out] at hcon
   have hle := HB4.out.size
   refine ⟨trivial, (callsIn_wide.2 (callsIn_wide.1 hcon)).mono ?_⟩
   rintro e W24 ⟨PD1, pdn1, pdc1, PD2, pdn2, pdc2, PD3, pdn3, pdc3, rfl, hmo, hsz, hb⟩
   replace HLay := Lib.hid (HLay.out.below hb)
   replace HTW := Lib.hid (HTW.out.below hb)
   replace HNS := Lib.hid ((HNS.out.below hb).more hb.size)
   replace HB4 := Lib.hid (HB4.out.trans (hb.mono HB4.out.size))
   replace HPA := Lib.hid (HPA.out.below hb)
   replace HQA := Lib.hid (HQA.out.up hb)
   replace HPB := Lib.hid (HPB.out.below hb)
   replace HQB := Lib.hid (HQB.out.up hb)
   replace HPC := Lib.hid (HPC.out.below hb)
   replace HQC := Lib.hid (HQC.out.up hb)
   clear hb
   have HPD := Lib.hid (hmo.mono hle)
   have HZPD := Lib.hid hsz
   clear hmo hsz hle hcon
   gi_upto_region 11 with fail
   obtain ⟨V25, hV⟩ : ∃ V, (W24.alloc (.cells #[.int .i64 rd.1.fountains, .slice PD1 pdn1 pdc1, .slice PD2 pdn2 pdc2, .slice PD3 pdn3 pdc3] 26)) = V := ⟨_, rfl⟩
   rw [hV]
   have hb := fbox_bel hV
   have hnew := fbox_blk hV
   have hge := HLay.out.bel.size
   replace HLay := Lib.hid (HLay.out.below hb)
   replace HTW := Lib.hid (HTW.out.below hb)
   replace HNS := Lib.hid ((HNS.out.below hb).more hb.size)
   replace HB4 := Lib.hid (HB4.out.trans (hb.mono HB4.out.size))
   replace HPA := Lib.hid (HPA.out.below hb)
   replace HQA := Lib.hid (HQA.out.up hb)
   replace HPB := Lib.hid (HPB.out.below hb)
   replace HQB := Lib.hid (HQB.out.up hb)
   replace HPC := Lib.hid (HPC.out.below hb)
   replace HQC := Lib.hid (HQC.out.up hb)
   replace HPD := Lib.hid (HPD.out.below hb)
   replace HLay := Lib.hid (HLay.out.add hge hnew)
   clear hnew hge hb hV
   obtain ⟨G26, hG⟩ : ∃ g, W24.heap.size = g := ⟨_, rfl⟩
   rw [hG] at HLay ⊢
   have HG_ := Lib.hid hG
   clear hG
   replace HLay := Lib.hid (show Lay w V25 [(w.heap.size, 26, #[.int .i64 m.fountains, .slice Av nv cv, .slice Aa na ca, .slice At nt ct]), (w.heap.size + 1, 65, #[.int .i64 x.num, .int .i64 x.vessel, .int .i64 x.after, .int .i64 x.fountain, .int .i64 x.lo, .int .i64 x.hi]), (w.heap.size + 1 + 1, 67, #[.int .i64 a.kind, .int .i64 a.fr, .int .i64 a.to, .int .i64 a.drops]), (G5, 26, #[.int .i64 m.fountains, .slice A1 nv c1, .slice A2 na c2, .slice A3 nt c3]), (G8, 26, #[.int .i64 ra.1.fountains, .slice PA1 pan1 pac1, .slice PA2 pan2 pac2, .slice PA3 pan3 pac3]), (G11, 26, #[.int .i64 ra.1.fountains, .slice QA1 pan1 qac1, .slice QA2 pan2 qac2, .slice QA3 pan3 qac3]), (G14, 26, #[.int .i64 rb.1.fountains, .slice PB1 pbn1 pbc1, .slice PB2 pbn2 pbc2, .slice PB3 pbn3 pbc3]), (G17, 26, #[.int .i64 rb.1.fountains, .slice QB1 pbn1 qbc1, .slice QB2 pbn2 qbc2, .slice QB3 pbn3 qbc3]), (G20, 26, #[.int .i64 rc.1.fountains, .slice PC1 pcn1 pcc1, .slice PC2 pcn2 pcc2, .slice PC3 pcn3 pcc3]), (G23, 26, #[.int .i64 rc.1.fountains, .slice QC1 pcn1 qcc1, .slice QC2 pcn2 qcc2, .slice QC3 pcn3 qcc3]), (G26, 26, #[.int .i64 rd.1.fountains, .slice PD1 pdn1 pdc1, .slice PD2 pdn2 pdc2, .slice PD3 pdn3 pdc3])] from HLay.out)
   have x0_0 := (HLay.out.blk 0 rfl).cell 0
   have x0_1 := (HLay.out.blk 0 rfl).cell 1
   have x0_2 := (HLay.out.blk 0 rfl).cell 2
   have x0_3 := (HLay.out.blk 0 rfl).cell 3
   have l0_ := HLay.out.lt 0 rfl
   gi_wp2
   clear x0_0 x0_1 x0_2 x0_3 l0_
   have hcon := rundo_in Av nv cv Aa na ca At nt ct m V25 (HM.out.up HLay.out.1) hca
   rw [HRd.out] at hcon
   refine ⟨trivial, (callsIn_wide.2 (callsIn_wide.1 hcon)).mono ?_⟩
   rintro e W27 ⟨QD1, qdn1, qdc1, QD2, qdn2, qdc2, QD3, qdn3, qdc3, rfl, hmo, hb⟩
   replace HLay := Lib.hid (HLay.out.below hb)
   replace HTW := Lib.hid (HTW.out.below hb)
   replace HNS := Lib.hid ((HNS.out.below hb).more hb.size)
   replace HB4 := Lib.hid (HB4.out.trans (hb.mono HB4.out.size))
   replace HPA := Lib.hid (HPA.out.below hb)
   replace HQA := Lib.hid (HQA.out.up hb)
   replace HPB := Lib.hid (HPB.out.below hb)
   replace HQB := Lib.hid (HQB.out.up hb)
   replace HPC := Lib.hid (HPC.out.below hb)
   replace HQC := Lib.hid (HQC.out.up hb)
   replace HPD := Lib.hid (HPD.out.below hb)
   clear hb
   have HQD := Lib.hid hmo
   clear hmo hcon
   have he1 : pdn1 = qdn1 := by rw [← recs_n vess_k (by omega) (HPD.out.v.reads (Nat.le_refl _)), ← HQD.out.at_.lenV]
   subst he1
   have he2 : pdn2 = qdn2 := by rw [← recs_n act_k (by omega) (HPD.out.a.reads (Nat.le_refl _)), ← HQD.out.at_.lenA]
   subst he2
   have he3 : pdn3 = qdn3 := by rw [← recs_n tast_k (by omega) (HPD.out.t.reads (Nat.le_refl _)), ← HQD.out.at_.lenT]
   subst he3
   gi_upto_region 12 with fail
   obtain ⟨V28, hV⟩ : ∃ V, (W27.alloc (.cells #[.int .i64 rd.1.fountains, .slice QD1 pdn1 qdc1, .slice QD2 pdn2 qdc2, .slice QD3 pdn3 qdc3] 26)) = V := ⟨_, rfl⟩
   rw [hV]
   have hb := fbox_bel hV
   have hnew := fbox_blk hV
   have hge := HLay.out.bel.size
   replace HLay := Lib.hid (HLay.out.below hb)
   replace HTW := Lib.hid (HTW.out.below hb)
   replace HNS := Lib.hid ((HNS.out.below hb).more hb.size)
   replace HB4 := Lib.hid (HB4.out.trans (hb.mono HB4.out.size))
   replace HPA := Lib.hid (HPA.out.below hb)
   replace HQA := Lib.hid (HQA.out.up hb)
   replace HPB := Lib.hid (HPB.out.below hb)
   replace HQB := Lib.hid (HQB.out.up hb)
   replace HPC := Lib.hid (HPC.out.below hb)
   replace HQC := Lib.hid (HQC.out.up hb)
   replace HPD := Lib.hid (HPD.out.below hb)
   replace HQD := Lib.hid (HQD.out.up hb)
   replace HLay := Lib.hid (HLay.out.add hge hnew)
   clear hnew hge hb hV
   obtain ⟨G29, hG⟩ : ∃ g, W27.heap.size = g := ⟨_, rfl⟩
   rw [hG] at HLay ⊢
   have HG_ := Lib.hid hG
   clear hG
   replace HLay := Lib.hid (show Lay w V28 [(w.heap.size, 26, #[.int .i64 m.fountains, .slice Av nv cv, .slice Aa na ca, .slice At nt ct]), (w.heap.size + 1, 65, #[.int .i64 x.num, .int .i64 x.vessel, .int .i64 x.after, .int .i64 x.fountain, .int .i64 x.lo, .int .i64 x.hi]), (w.heap.size + 1 + 1, 67, #[.int .i64 a.kind, .int .i64 a.fr, .int .i64 a.to, .int .i64 a.drops]), (G5, 26, #[.int .i64 m.fountains, .slice A1 nv c1, .slice A2 na c2, .slice A3 nt c3]), (G8, 26, #[.int .i64 ra.1.fountains, .slice PA1 pan1 pac1, .slice PA2 pan2 pac2, .slice PA3 pan3 pac3]), (G11, 26, #[.int .i64 ra.1.fountains, .slice QA1 pan1 qac1, .slice QA2 pan2 qac2, .slice QA3 pan3 qac3]), (G14, 26, #[.int .i64 rb.1.fountains, .slice PB1 pbn1 pbc1, .slice PB2 pbn2 pbc2, .slice PB3 pbn3 pbc3]), (G17, 26, #[.int .i64 rb.1.fountains, .slice QB1 pbn1 qbc1, .slice QB2 pbn2 qbc2, .slice QB3 pbn3 qbc3]), (G20, 26, #[.int .i64 rc.1.fountains, .slice PC1 pcn1 pcc1, .slice PC2 pcn2 pcc2, .slice PC3 pcn3 pcc3]), (G23, 26, #[.int .i64 rc.1.fountains, .slice QC1 pcn1 qcc1, .slice QC2 pcn2 qcc2, .slice QC3 pcn3 qcc3]), (G26, 26, #[.int .i64 rd.1.fountains, .slice PD1 pdn1 pdc1, .slice PD2 pdn2 pdc2, .slice PD3 pdn3 pdc3]), (G29, 26, #[.int .i64 rd.1.fountains, .slice QD1 pdn1 qdc1, .slice QD2 pdn2 qdc2, .slice QD3 pdn3 qdc3])] from HLay.out)
   have x4_0 := (HLay.out.blk 4 rfl).cell 0
   have x4_1 := (HLay.out.blk 4 rfl).cell 1
   have x4_2 := (HLay.out.blk 4 rfl).cell 2
   have x4_3 := (HLay.out.blk 4 rfl).cell 3
   have l4_ := HLay.out.lt 4 rfl
   have x5_0 := (HLay.out.blk 5 rfl).cell 0
   have x5_1 := (HLay.out.blk 5 rfl).cell 1
   have x5_2 := (HLay.out.blk 5 rfl).cell 2
   have x5_3 := (HLay.out.blk 5 rfl).cell 3
   have l5_ := HLay.out.lt 5 rfl
   gi_wp2
   clear x4_0 x4_1 x4_2 x4_3 l4_ x5_0 x5_1 x5_2 x5_3 l5_
   refine ⟨trivial, (callsIn_wide.2 (same_true PA1 pan1 pac1 PA2 pan2 pac2 PA3 pan3 pac3 QA1 qac1 QA2 qac2 QA3 qac3 ra.1 V28 (HPA.out.s HQA.out.hv HQA.out.ha HQA.out.ht) HQA.out)).mono ?_⟩
   rintro e W30 ⟨rfl, hb⟩
   replace HLay := Lib.hid (HLay.out.below hb)
   replace HTW := Lib.hid (HTW.out.below hb)
   replace HNS := Lib.hid ((HNS.out.below hb).more hb.size)
   replace HB4 := Lib.hid (HB4.out.trans (hb.mono HB4.out.size))
   replace HPA := Lib.hid (HPA.out.below hb)
   replace HQA := Lib.hid (HQA.out.up hb)
   replace HPB := Lib.hid (HPB.out.below hb)
   replace HQB := Lib.hid (HQB.out.up hb)
   replace HPC := Lib.hid (HPC.out.below hb)
   replace HQC := Lib.hid (HQC.out.up hb)
   replace HPD := Lib.hid (HPD.out.below hb)
   replace HQD := Lib.hid (HQD.out.up hb)
   clear hb
   have x6_0 := (HLay.out.blk 6 rfl).cell 0
   have x6_1 := (HLay.out.blk 6 rfl).cell 1
   have x6_2 := (HLay.out.blk 6 rfl).cell 2
   have x6_3 := (HLay.out.blk 6 rfl).cell 3
   have l6_ := HLay.out.lt 6 rfl
   have x7_0 := (HLay.out.blk 7 rfl).cell 0
   have x7_1 := (HLay.out.blk 7 rfl).cell 1
   have x7_2 := (HLay.out.blk 7 rfl).cell 2
   have x7_3 := (HLay.out.blk 7 rfl).cell 3
   have l7_ := HLay.out.lt 7 rfl
   gi_wp2
   clear x6_0 x6_1 x6_2 x6_3 l6_ x7_0 x7_1 x7_2 x7_3 l7_
   refine ⟨trivial, (callsIn_wide.2 (same_true PB1 pbn1 pbc1 PB2 pbn2 pbc2 PB3 pbn3 pbc3 QB1 qbc1 QB2 qbc2 QB3 qbc3 rb.1 W30 (HPB.out.s HQB.out.hv HQB.out.ha HQB.out.ht) HQB.out)).mono ?_⟩
   rintro e W31 ⟨rfl, hb⟩
   replace HLay := Lib.hid (HLay.out.below hb)
   replace HTW := Lib.hid (HTW.out.below hb)
   replace HNS := Lib.hid ((HNS.out.below hb).more hb.size)
   replace HB4 := Lib.hid (HB4.out.trans (hb.mono HB4.out.size))
   replace HPA := Lib.hid (HPA.out.below hb)
   replace HQA := Lib.hid (HQA.out.up hb)
   replace HPB := Lib.hid (HPB.out.below hb)
   replace HQB := Lib.hid (HQB.out.up hb)
   replace HPC := Lib.hid (HPC.out.below hb)
   replace HQC := Lib.hid (HQC.out.up hb)
   replace HPD := Lib.hid (HPD.out.below hb)
   replace HQD := Lib.hid (HQD.out.up hb)
   clear hb
   have x8_0 := (HLay.out.blk 8 rfl).cell 0
   have x8_1 := (HLay.out.blk 8 rfl).cell 1
   have x8_2 := (HLay.out.blk 8 rfl).cell 2
   have x8_3 := (HLay.out.blk 8 rfl).cell 3
   have l8_ := HLay.out.lt 8 rfl
   have x9_0 := (HLay.out.blk 9 rfl).cell 0
   have x9_1 := (HLay.out.blk 9 rfl).cell 1
   have x9_2 := (HLay.out.blk 9 rfl).cell 2
   have x9_3 := (HLay.out.blk 9 rfl).cell 3
   have l9_ := HLay.out.lt 9 rfl
   gi_wp2
   clear x8_0 x8_1 x8_2 x8_3 l8_ x9_0 x9_1 x9_2 x9_3 l9_
   refine ⟨trivial, (callsIn_wide.2 (same_true PC1 pcn1 pcc1 PC2 pcn2 pcc2 PC3 pcn3 pcc3 QC1 qcc1 QC2 qcc2 QC3 qcc3 rc.1 W31 (HPC.out.s HQC.out.hv HQC.out.ha HQC.out.ht) HQC.out)).mono ?_⟩
   rintro e W32 ⟨rfl, hb⟩
   replace HLay := Lib.hid (HLay.out.below hb)
   replace HTW := Lib.hid (HTW.out.below hb)
   replace HNS := Lib.hid ((HNS.out.below hb).more hb.size)
   replace HB4 := Lib.hid (HB4.out.trans (hb.mono HB4.out.size))
   replace HPA := Lib.hid (HPA.out.below hb)
   replace HQA := Lib.hid (HQA.out.up hb)
   replace HPB := Lib.hid (HPB.out.below hb)
   replace HQB := Lib.hid (HQB.out.up hb)
   replace HPC := Lib.hid (HPC.out.below hb)
   replace HQC := Lib.hid (HQC.out.up hb)
   replace HPD := Lib.hid (HPD.out.below hb)
   replace HQD := Lib.hid (HQD.out.up hb)
   clear hb
   have x10_0 := (HLay.out.blk 10 rfl).cell 0
   have x10_1 := (HLay.out.blk 10 rfl).cell 1
   have x10_2 := (HLay.out.blk 10 rfl).cell 2
   have x10_3 := (HLay.out.blk 10 rfl).cell 3
   have l10_ := HLay.out.lt 10 rfl
   have x11_0 := (HLay.out.blk 11 rfl).cell 0
   have x11_1 := (HLay.out.blk 11 rfl).cell 1
   have x11_2 := (HLay.out.blk 11 rfl).cell 2
   have x11_3 := (HLay.out.blk 11 rfl).cell 3
   have l11_ := HLay.out.lt 11 rfl
   gi_wp2
   clear x10_0 x10_1 x10_2 x10_3 l10_ x11_0 x11_1 x11_2 x11_3 l11_
   refine ⟨trivial, (callsIn_wide.2 (same_true PD1 pdn1 pdc1 PD2 pdn2 pdc2 PD3 pdn3 pdc3 QD1 qdc1 QD2 qdc2 QD3 qdc3 rd.1 W32 (HPD.out.s HQD.out.hv HQD.out.ha HQD.out.ht) HQD.out)).mono ?_⟩
   rintro e W33 ⟨rfl, hb⟩
   replace HLay := Lib.hid (HLay.out.below hb)
   replace HTW := Lib.hid (HTW.out.below hb)
   replace HNS := Lib.hid ((HNS.out.below hb).more hb.size)
   replace HB4 := Lib.hid (HB4.out.trans (hb.mono HB4.out.size))
   replace HPA := Lib.hid (HPA.out.below hb)
   replace HQA := Lib.hid (HQA.out.up hb)
   replace HPB := Lib.hid (HPB.out.below hb)
   replace HQB := Lib.hid (HQB.out.up hb)
   replace HPC := Lib.hid (HPC.out.below hb)
   replace HQC := Lib.hid (HQC.out.up hb)
   replace HPD := Lib.hid (HPD.out.below hb)
   replace HQD := Lib.hid (HQD.out.up hb)
   clear hb
   have x4_0 := (HLay.out.blk 4 rfl).cell 0
   have x4_1 := (HLay.out.blk 4 rfl).cell 1
   have x4_2 := (HLay.out.blk 4 rfl).cell 2
   have x4_3 := (HLay.out.blk 4 rfl).cell 3
   have l4_ := HLay.out.lt 4 rfl
   have x6_0 := (HLay.out.blk 6 rfl).cell 0
   have x6_1 := (HLay.out.blk 6 rfl).cell 1
   have x6_2 := (HLay.out.blk 6 rfl).cell 2
   have x6_3 := (HLay.out.blk 6 rfl).cell 3
   have l6_ := HLay.out.lt 6 rfl
   have x8_0 := (HLay.out.blk 8 rfl).cell 0
   have x8_1 := (HLay.out.blk 8 rfl).cell 1
   have x8_2 := (HLay.out.blk 8 rfl).cell 2
   have x8_3 := (HLay.out.blk 8 rfl).cell 3
   have l8_ := HLay.out.lt 8 rfl
   have x10_0 := (HLay.out.blk 10 rfl).cell 0
   have x10_1 := (HLay.out.blk 10 rfl).cell 1
   have x10_2 := (HLay.out.blk 10 rfl).cell 2
   have x10_3 := (HLay.out.blk 10 rfl).cell 3
   have l10_ := HLay.out.lt 10 rfl
   gi_wp2
   clear x4_0 x4_1 x4_2 x4_3 l4_ x6_0 x6_1 x6_2 x6_3 l6_ x8_0 x8_1 x8_2 x8_3 l8_ x10_0 x10_1 x10_2 x10_3 l10_
   obtain ⟨L, hL⟩ : ∃ L : List Mx, [⟨ra.1.fountains, PA1, pan1, pac1, PA2, pan2, pac2, PA3, pan3, pac3⟩, ⟨rb.1.fountains, PB1, pbn1, pbc1, PB2, pbn2, pbc2, PB3, pbn3, pbc3⟩, ⟨rc.1.fountains, PC1, pcn1, pcc1, PC2, pcn2, pcc2, PC3, pcn3, pcc3⟩, ⟨rd.1.fountains, PD1, pdn1, pdc1, PD2, pdn2, pdc2, PD3, pdn3, pdc3⟩] = L := ⟨_, rfl⟩
   obtain ⟨V34, hV⟩ : ∃ V, (W33.alloc (.cells #[.int .i64 ra.1.fountains, .slice PA1 pan1 pac1, .slice PA2 pan2 pac2, .slice PA3 pan3 pac3, .int .i64 rb.1.fountains, .slice PB1 pbn1 pbc1, .slice PB2 pbn2 pbc2, .slice PB3 pbn3 pbc3, .int .i64 rc.1.fountains, .slice PC1 pcn1 pcc1, .slice PC2 pcn2 pcc2, .slice PC3 pcn3 pcc3, .int .i64 rd.1.fountains, .slice PD1 pdn1 pdc1, .slice PD2 pdn2 pdc2, .slice PD3 pdn3 pdc3] 26)) = V := ⟨_, rfl⟩
   obtain ⟨gs, hgs⟩ : ∃ g, W33.heap.size = g := ⟨_, rfl⟩
   rw [hV, hgs]
   have HSA : Hid (SpA V4 V34 gs #[.int .i64 ra.1.fountains, .slice PA1 pan1 pac1, .slice PA2 pan2 pac2, .slice PA3 pan3 pac3, .int .i64 rb.1.fountains, .slice PB1 pbn1 pbc1, .slice PB2 pbn2 pbc2, .slice PB3 pbn3 pbc3, .int .i64 rc.1.fountains, .slice PC1 pcn1 pcc1, .slice PC2 pcn2 pcc2, .slice PC3 pcn3 pcc3, .int .i64 rd.1.fountains, .slice PD1 pdn1 pdc1, .slice PD2 pdn2 pdc2, .slice PD3 pdn3 pdc3] L) := Lib.hid ⟨HB4.out.trans ((fbox_bel hV).mono HB4.out.size), hgs ▸ HB4.out.size, hgs ▸ fbox_blk hV, fun q hq => by
    rw [← hL] at hq
    simp only [List.mem_cons, List.not_mem_nil, or_false] at hq
    rcases hq with rfl | rfl | rfl | rfl
    ·exact (HPA.out.below (fbox_bel hV)).has3 _
    ·exact (HPB.out.below (fbox_bel hV)).has3 _
    ·exact (HPC.out.below (fbox_bel hV)).has3 _
    ·exact (HPD.out.below (fbox_bel hV)).has3 _⟩
   obtain ⟨CS, hCS⟩ : ∃ CS : Array Value, #[.int .i64 ra.1.fountains, .slice PA1 pan1 pac1, .slice PA2 pan2 pac2, .slice PA3 pan3 pac3, .int .i64 rb.1.fountains, .slice PB1 pbn1 pbc1, .slice PB2 pbn2 pbc2, .slice PB3 pbn3 pbc3, .int .i64 rc.1.fountains, .slice PC1 pcn1 pcc1, .slice PC2 pcn2 pcc2, .slice PC3 pcn3 pcc3, .int .i64 rd.1.fountains, .slice PD1 pdn1 pdc1, .slice PD2 pdn2 pdc2, .slice PD3 pdn3 pdc3] = CS := ⟨_, rfl⟩
   have HCS : Hid (∀ k, k < 4 → ∃ q ∈ L, ∀ (j : Nat) (u : Value), q.arr[j]? = some u → CS[k * 4 + j]? = some u) := Lib.hid (by
    rw [← hCS, ← hL]
    exact four_cells ⟨ra.1.fountains, PA1, pan1, pac1, PA2, pan2, pac2, PA3, pan3, pac3⟩ ⟨rb.1.fountains, PB1, pbn1, pbc1, PB2, pbn2, pbc2, PB3, pbn3, pbc3⟩ ⟨rc.1.fountains, PC1, pcn1, pcc1, PC2, pcn2, pcc2, PC3, pcn3, pcc3⟩ ⟨rd.1.fountains, PD1, pdn1, pdc1, PD2, pdn2, pdc2, PD3, pdn3, pdc3⟩)
   rw [hCS] at HSA
   clear hCS hL hV hgs HLay HTW HNS HB4 HPA HPB HPC HPD HQA HQB HQC HQD HZPA HZPB HZPC HZPD HRa HRb HRc HRd
   gi_loopw [135] (fun v135 wr => ∃ k : Nat, k ≤ 4 ∧ v135 = .int .i64 k ∧ Hid (SpA V4 wr gs CS L))
    (fun v135 _ => 4 - (intOf v135).toNat)
   case atStart => exact ⟨0, by omega, rfl, HSA⟩
   case round =>
    clear HSA
    obtain ⟨k, hk, rfl, HSA⟩ := hrel
    by_cases hlt : k < 4
    ·
     obtain ⟨q, hqL, hqc⟩ := HCS.out k hlt
     have k4I : (k : Int) < 4 := by omega
     have g0 : wr.cell? ⟨gs, k * 4, none⟩ = some (.int .i64 q.f) := (HSA.out.row.cell (k * 4)).trans (hqc 0 _ rfl)
     have g1 : wr.cell? ⟨gs, k * 4 + 1, none⟩ = some (.slice q.A1 q.n1 q.c1) := (HSA.out.row.cell (k * 4 + 1)).trans (hqc 1 _ rfl)
     have g2 : wr.cell? ⟨gs, k * 4 + 2, none⟩ = some (.slice q.A2 q.n2 q.c2) := (HSA.out.row.cell (k * 4 + 2)).trans (hqc 2 _ rfl)
     have g3 : wr.cell? ⟨gs, k * 4 + 3, none⟩ = some (.slice q.A3 q.n3 q.c3) := (HSA.out.row.cell (k * 4 + 3)).trans (hqc 3 _ rfl)
     have HQL := Lib.hid hqL
     clear hqL hqc
     gi_upto_region 16 with fail
     clear g0 g1 g2 g3
     obtain ⟨V9, hV⟩ : ∃ V, (wr.alloc (.cells #[.int .i64 q.f, .slice q.A1 q.n1 q.c1, .slice q.A2 q.n2 q.c2, .slice q.A3 q.n3 q.c3] 26)) = V := ⟨_, rfl⟩
     obtain ⟨gb, hgb⟩ : ∃ g, wr.heap.size = g := ⟨_, rfl⟩
     rw [hV, hgb]
     have HSX : Hid (SpA V4 V9 gs CS L ∧ Blk V9 gb 26 #[.int .i64 q.f, .slice q.A1 q.n1 q.c1, .slice q.A2 q.n2 q.c2, .slice q.A3 q.n3 q.c3]) := Lib.hid ⟨HSA.out.below (fbox_bel hV), hgb ▸ fbox_blk hV⟩
     clear hV hgb HSA
     have b1 := HSX.out.2.cell 1
     have bl := HSX.out.2.lt
     gi_wp2
     clear b1 bl
     gi_loopw [142] (fun v wz => ∃ j : Nat, j ≤ q.n1 ∧ v = .int .i64 j ∧ Hid (SpA V4 wz gs CS L ∧ Blk wz gb 26 #[.int .i64 q.f, .slice q.A1 q.n1 q.c1, .slice q.A2 q.n2 q.c2, .slice q.A3 q.n3 q.c3]))
      (fun v _ => q.n1 - (intOf v).toNat)
     case atStart => exact ⟨0, by omega, rfl, HSX⟩
     case round =>
      clear HSX
      rename World => wx1
      obtain ⟨j, hj, rfl, HSX⟩ := hrel
      by_cases hjn : j < q.n1
      ·obtain ⟨g, cur, hA, hge, hblk, hnc, hcm, hsz⟩ := (HSX.out.1.has q HQL.out).v.form (by omega)
       have hcu : j * 2 + 1 < cur.size := by omega
       have y0 : wx1.cell? ⟨g, j * 2 + 1, none⟩ = some (cur[j * 2 + 1]'hcu) := (hblk.cell _).trans (Array.getElem?_eq_getElem hcu)
       have z0 := hblk.frozen (j * 2 + 1)
       have b0 : wx1.cell? ⟨gb, 1, none⟩ = some (.slice (some ⟨g, 0, none⟩) q.n1 q.c1) := by rw [← hA]; exact HSX.out.2.cell 1
       have bl := HSX.out.2.lt
       have gl := hblk.lt
       have HA := Lib.hid hA
       have HBK := Lib.hid hblk
       have HGE := Lib.hid hge
       have hjI : (j : Int) < (q.n1 : Int) := by omega
       have hjm : j + 1 ≤ 9223372036854775807 := by unfold maxLen at hcm; omega
       clear hA hblk hge hsz hcm hnc
       gi_wp2
       go_roundw
       case rel => exact ⟨j + 1, by omega, by go_num, Lib.hid ⟨HSX.out.1.write HGE.out HBK.out (by decide) _, HSX.out.2.far (p := ⟨g, j * 2 + 1, none⟩) (blk_ne HSX.out.2 HBK.out (by decide)) _⟩⟩
       case measure => simp [intOf]; omega
      ·
       have hjI : ¬ (j : Int) < (q.n1 : Int) := by omega
       clear hjn hj
       have b2 := HSX.out.2.cell 2
       have bl := HSX.out.2.lt
       gi_wp2
       clear b2 bl
       gi_loopw [154] (fun v wz => ∃ j : Nat, j ≤ q.n2 ∧ v = .int .i64 j ∧ Hid (SpA V4 wz gs CS L ∧ Blk wz gb 26 #[.int .i64 q.f, .slice q.A1 q.n1 q.c1, .slice q.A2 q.n2 q.c2, .slice q.A3 q.n3 q.c3]))
        (fun v _ => q.n2 - (intOf v).toNat)
       case atStart => exact ⟨0, by omega, rfl, HSX⟩
       case round =>
        clear HSX
        rename World => wx2
        obtain ⟨j, hj, rfl, HSX⟩ := hrel
        by_cases hjn : j < q.n2
        ·obtain ⟨g, cur, hA, hge, hblk, hnc, hcm, hsz⟩ := (HSX.out.1.has q HQL.out).a.form (by omega)
         have hcu : j * 4 + 3 < cur.size := by omega
         have y0 : wx2.cell? ⟨g, j * 4 + 3, none⟩ = some (cur[j * 4 + 3]'hcu) := (hblk.cell _).trans (Array.getElem?_eq_getElem hcu)
         have z0 := hblk.frozen (j * 4 + 3)
         have b0 : wx2.cell? ⟨gb, 2, none⟩ = some (.slice (some ⟨g, 0, none⟩) q.n2 q.c2) := by rw [← hA]; exact HSX.out.2.cell 2
         have bl := HSX.out.2.lt
         have gl := hblk.lt
         have HA := Lib.hid hA
         have HBK := Lib.hid hblk
         have HGE := Lib.hid hge
         have hjI : (j : Int) < (q.n2 : Int) := by omega
         have hjm : j + 1 ≤ 9223372036854775807 := by unfold maxLen at hcm; omega
         clear hA hblk hge hsz hcm hnc
         gi_wp2
         go_roundw
         case rel => exact ⟨j + 1, by omega, by go_num, Lib.hid ⟨HSX.out.1.write HGE.out HBK.out (by decide) _, HSX.out.2.far (p := ⟨g, j * 4 + 3, none⟩) (blk_ne HSX.out.2 HBK.out (by decide)) _⟩⟩
         case measure => simp [intOf]; omega
        ·
         have hjI : ¬ (j : Int) < (q.n2 : Int) := by omega
         clear hjn hj
         have b3 := HSX.out.2.cell 3
         have bl := HSX.out.2.lt
         gi_wp2
         clear b3 bl
         gi_loopw [166] (fun v wz => ∃ j : Nat, j ≤ q.n3 ∧ v = .int .i64 j ∧ Hid (SpA V4 wz gs CS L ∧ Blk wz gb 26 #[.int .i64 q.f, .slice q.A1 q.n1 q.c1, .slice q.A2 q.n2 q.c2, .slice q.A3 q.n3 q.c3]))
          (fun v _ => q.n3 - (intOf v).toNat)
         case atStart => exact ⟨0, by omega, rfl, HSX⟩
         case round =>
          clear HSX
          rename World => wx3
          obtain ⟨j, hj, rfl, HSX⟩ := hrel
          by_cases hjn : j < q.n3
          ·obtain ⟨g, cur, hA, hge, hblk, hnc, hcm, hsz⟩ := (HSX.out.1.has q HQL.out).t.form (by omega)
           have hcu : j * 6 < cur.size := by omega
           have y0 : wx3.cell? ⟨g, j * 6, none⟩ = some (cur[j * 6]'hcu) := (hblk.cell _).trans (Array.getElem?_eq_getElem hcu)
           have z0 := hblk.frozen (j * 6)
           have b0 : wx3.cell? ⟨gb, 3, none⟩ = some (.slice (some ⟨g, 0, none⟩) q.n3 q.c3) := by rw [← hA]; exact HSX.out.2.cell 3
           have bl := HSX.out.2.lt
           have gl := hblk.lt
           have HA := Lib.hid hA
           have HBK := Lib.hid hblk
           have HGE := Lib.hid hge
           have hjI : (j : Int) < (q.n3 : Int) := by omega
           have hjm : j + 1 ≤ 9223372036854775807 := by unfold maxLen at hcm; omega
           clear hA hblk hge hsz hcm hnc
           gi_wp2
           go_roundw
           case rel => exact ⟨j + 1, by omega, by go_num, Lib.hid ⟨HSX.out.1.write HGE.out HBK.out (by decide) _, HSX.out.2.far (p := ⟨g, j * 6, none⟩) (blk_ne HSX.out.2 HBK.out (by decide)) _⟩⟩
           case measure => simp [intOf]; omega
          ·
           have hjI : ¬ (j : Int) < (q.n3 : Int) := by omega
           clear hjn hj
           gi_wp2
           go_roundw
           case rel => exact ⟨k + 1, by omega, by go_num, Lib.hid HSX.out.1⟩
           case measure => simp [intOf]; omega
    ·
     have k4I : ¬ (k : Int) < 4 := by omega
     have HLay := Lib.hid (HLay4.out.below HSA.out.bel)
     have HTW := Lib.hid (HTW4.out.below HSA.out.bel)
     have HNS := Lib.hid (ints_up HNS4.out HSA.out.bel)
     clear HSA
     have x0_0 := (HLay.out.blk 0 rfl).cell 0
     have x0_1 := (HLay.out.blk 0 rfl).cell 1
     have x0_2 := (HLay.out.blk 0 rfl).cell 2
     have x0_3 := (HLay.out.blk 0 rfl).cell 3
     have l0_ := HLay.out.lt 0 rfl
     have x3_0 := (HLay.out.blk 3 rfl).cell 0
     have x3_1 := (HLay.out.blk 3 rfl).cell 1
     have x3_2 := (HLay.out.blk 3 rfl).cell 2
     have x3_3 := (HLay.out.blk 3 rfl).cell 3
     have l3_ := HLay.out.lt 3 rfl
     gi_wp2
     clear x0_0 x0_1 x0_2 x0_3 l0_ x3_0 x3_1 x3_2 x3_3 l3_
     refine ⟨trivial, (callsIn_wide.2 (same_true A1 nv c1 A2 na c2 A3 nt c3 Av cv Aa ca At ct m wr (HTW.out.s (by omega) (by omega) (by omega)) (HM.out.up HLay.out.1))).mono ?_⟩
     rintro e W35 ⟨rfl, hb⟩
     replace HLay := Lib.hid (HLay.out.below hb)
     replace HTW := Lib.hid (HTW.out.below hb)
     replace HNS := Lib.hid ((HNS.out.below hb).more hb.size)
     clear hb
     gi_wp2
     refine ⟨trivial, (callsIn_wide.2 (sameInts_any A9 nn c9 ns An nn cn ns W35 (by unfold maxLen; omega) (by unfold maxLen; omega) HNS.out ((HN.out.below HLay.out.1).more HLay.out.1.size))).mono ?_⟩
     rintro e W36 ⟨rfl, hb⟩
     replace HLay := Lib.hid (HLay.out.below hb)
     replace HTW := Lib.hid (HTW.out.below hb)
     replace HNS := Lib.hid ((HNS.out.below hb).more hb.size)
     clear hb
     rw [sameI_self]
     gi_wp2
     refine bodyPost_ret (v := .bool true) (by simp [results, Try.results6, go_sem]) rfl ?_
     exact ⟨rfl, HLay.out.1⟩

end Go.Proofs.Ythofngceiecniaa
/- The arguments of Mix' laws, opened: mixed water, a taste, an act, whole numbers. -/
namespace Go.Proofs.Ythofngceiecniaa
open Go.ChangeShapes Go.WideShapes Go.RowKit Go.Deep Go.Joins
set_option maxRecDepth 100000

theorem flatg_len {α : Type} {vals : α → List Value} {sz : Nat} (hk : ∀ x, (vals x).length = sz) : ∀ l : List α, (l.flatMap vals).length = l.length * sz
 | [] => by simp
 | x :: l => by rw [List.flatMap_cons, List.length_append, hk, flatg_len hk l, List.length_cons, Nat.succ_mul]; omega
theorem flatg_at {α : Type} {vals : α → List Value} {sz : Nat} (hk : ∀ x, (vals x).length = sz) : ∀ {l : List α} {i j : Nat} {x : α}, l[i]? = some x → j < sz → (l.flatMap vals)[i * sz + j]? = (vals x)[j]?
 | [], i, j, x, h, _ => by simp at h
 | y :: l, 0, j, x, h, hj => by
  have : y = x := by simpa using h
  subst this
  rw [List.flatMap_cons, Nat.zero_mul, Nat.zero_add, List.getElem?_append_left (by rw [hk]; exact hj)]
 | y :: l, i + 1, j, x, h, hj => by
  rw [List.flatMap_cons, List.getElem?_append_right (by rw [hk, Nat.succ_mul]; omega), hk, show (i + 1) * sz + j - sz = i * sz + j by rw [Nat.succ_mul]; omega]
  exact flatg_at hk (by simpa using h) hj
section
variable {H : Type} {enc : TypeId × Value → H} {w : World}
theorem cellsInt1 : Try.prog.cellsOf 3 = 1 := by kernel_rfl
theorem cellsMix4 : Try.prog.cellsOf 26 = 4 := by kernel_rfl

/-- A list of whole numbers. -/
theorem ints_open {v : Value} {fuel : Nat} {x : DataW H × List MemPlace} (h : DataW.trod enc Try.prog w 0 (fun _ => true) true fuel 57 [v] = some x) :
  ∃ A n c l, v = .slice A n c ∧ n ≤ c ∧ n ≤ maxLen ∧ c ≤ maxLen ∧ IntsAt w w.heap.size A n l := by
 rcases open_slice1 Try.underlying57 cellsInt1 h with ⟨e, _⟩ | ⟨a, len, cap, m, k, V, D, Pl, e, _, hl, hm, hmm, _, hx⟩
 ·simp only [List.cons.injEq, and_true] at e
  exact ⟨none, 0, 0, [], e, Nat.le_refl _, Nat.zero_le _, Nat.zero_le _, Reads.none_⟩
 ·simp only [List.cons.injEq, and_true] at e
  have hmc : m = cap := by simpa using hmm
  subst hmc
  have hn : ∀ i, i < m → ∃ z : Int, V i = .int .i64 z := fun i hi => by
   obtain ⟨z, f0, _, _⟩ := DataW.trod_int Try.underlying3 (hx i hi).2
   simp only [List.cons.injEq, and_true] at f0
   exact ⟨z, f0⟩
  obtain ⟨Z, hZ⟩ := choose_lt hn
  refine ⟨some a, len, m, (List.range len).map Z, e, hl, by omega, hm, by simp, fun h0 => ⟨a, rfl, ?_, fun j u hu => ?_⟩⟩
  ·have := World.block_lt_of_cell? w _ (hx 0 (by omega)).1
   rwa [block_of_add] at this
  ·simp only [List.getElem?_map, Option.map_map] at hu
   have hj : j < len := by
    rcases Nat.lt_or_ge j len with h' | h'
    ·exact h'
    ·rw [List.getElem?_eq_none (by simpa using h')] at hu; cases hu
   rw [List.getElem?_range hj] at hu
   simp only [Option.map_some, Option.some.injEq, Function.comp] at hu
   rw [(hx j (by omega)).1, hZ j (by omega), ← hu]


theorem vessUnd : ∃ f0 f1, Try.prog.underlying 80 = some (.struct #[f0, f1]) ∧ f0.type = 3 ∧ f1.type = 3 ∧ f0.offset = 0 ∧ f1.offset = 1 :=
 ⟨_, _, Try.underlying80, rfl, rfl, rfl, rfl⟩
theorem cellsVess : Try.prog.cellsOf 80 = 2 := by kernel_rfl
theorem vess_cells {fuel : Nat} {cs : List Value} {x : DataW H × List MemPlace} (h : DataW.trod enc Try.prog w 0 (fun _ => true) true fuel 80 cs = some x) (hl : cs.length = 2) : ∃ l : Vess, cs = l.vals := by
 obtain ⟨f0, f1, hu, t0, t1, z0, z1⟩ := vessUnd
 obtain ⟨xs, n, _, _, _, hlen, hg⟩ := DataW.trod_struct hu h
 match cs, hl, xs, hlen with
 | [c0, c1], _, [y0, y1], _ =>
  have h0 : DataW.trod enc Try.prog w 0 (fun _ => true) true n 3 [c0] = some y0 := by simpa [t0, z0, cellsInt1] using hg 0 f0 rfl
  have h1 : DataW.trod enc Try.prog w 0 (fun _ => true) true n 3 [c1] = some y1 := by simpa [t1, z1, cellsInt1] using hg 1 f1 rfl
  obtain ⟨n0, e0, _, _⟩ := DataW.trod_int Try.underlying3 h0
  obtain ⟨n1, e1, _, _⟩ := DataW.trod_int Try.underlying3 h1
  simp only [List.cons.injEq, and_true] at e0 e1
  subst e0 e1
  exact ⟨⟨n0, n1⟩, rfl⟩
theorem vesss_open {v : Value} {fuel : Nat} {x : DataW H × List MemPlace} (h : DataW.trod enc Try.prog w 0 (fun _ => true) true fuel 22 [v] = some x) :
  ∃ A n c, ∃ l : List Vess, v = .slice A n c ∧ n ≤ c ∧ n ≤ maxLen ∧ c ≤ maxLen ∧ Reads w w.heap.size 2 A n (l.flatMap Vess.vals) := by
 rcases open_slice Try.underlying22 h with ⟨e, _⟩ | ⟨a, len, cap, m, k, D, Pl, e, _, hl, hm, hmm, _, hx⟩
 ·simp only [List.cons.injEq, and_true] at e
  exact ⟨none, 0, 0, [], e, Nat.le_refl _, Nat.zero_le _, Nat.zero_le _, Reads.none_⟩
 ·simp only [List.cons.injEq, and_true] at e
  have hmc : m = cap := by simpa using hmm
  subst hmc
  have hn : ∀ i, i < m → ∃ z : Vess, ∀ j, j < 2 → w.cell? (a.add (i * 2 + j)) = z.vals[j]? := fun i hi => by
   obtain ⟨cs', h1, h2⟩ := hx i hi
   rw [cellsVess] at h1
   obtain ⟨_, hcl, hat⟩ := World.cells?_some h1
   obtain ⟨z, rfl⟩ := vess_cells h2 hcl
   exact ⟨z, fun j hj => by rw [← Go.Deep.add_add, hat j hj]⟩
  letI : Inhabited Vess := ⟨⟨0, 0⟩⟩
  obtain ⟨Z, hZ⟩ := choose_lt hn
  refine ⟨some a, len, m, (List.range len).map Z, e, hl, by omega, hm, by rw [flatg_len vess_k]; simp, fun h0 => ⟨a, rfl, ?_, fun j u hu => ?_⟩⟩
  ·have := World.block_lt_of_cell? w _ (hZ 0 (by omega) 0 (by omega))
   rwa [block_of_add] at this
  ·have hj : j < len * 2 := by
    rcases Nat.lt_or_ge j (len * 2) with h' | h'
    ·exact h'
    ·rw [List.getElem?_eq_none (by rw [flatg_len vess_k]; simpa using h')] at hu; cases hu
   have hz := hZ (j / 2) (by omega) (j % 2) (by omega)
   have ha : ((List.range len).map Z)[j / 2]? = some (Z (j / 2)) := by rw [List.getElem?_map, List.getElem?_range (by omega)]; rfl
   have hf := flatg_at vess_k ha (show j % 2 < 2 by omega)
   rw [show j / 2 * 2 + j % 2 = j by omega] at hf hz
   rw [hz, ← hf, hu]
theorem mactUnd : ∃ f0 f1 f2 f3, Try.prog.underlying 67 = some (.struct #[f0, f1, f2, f3]) ∧ f0.type = 3 ∧ f1.type = 3 ∧ f2.type = 3 ∧ f3.type = 3 ∧ f0.offset = 0 ∧ f1.offset = 1 ∧ f2.offset = 2 ∧ f3.offset = 3 :=
 ⟨_, _, _, _, Try.underlying67, rfl, rfl, rfl, rfl, rfl, rfl, rfl, rfl⟩
theorem cellsMAct : Try.prog.cellsOf 67 = 4 := by kernel_rfl
theorem mact_cells {fuel : Nat} {cs : List Value} {x : DataW H × List MemPlace} (h : DataW.trod enc Try.prog w 0 (fun _ => true) true fuel 67 cs = some x) (hl : cs.length = 4) : ∃ l : MAct, cs = l.vals := by
 obtain ⟨f0, f1, f2, f3, hu, t0, t1, t2, t3, z0, z1, z2, z3⟩ := mactUnd
 obtain ⟨xs, n, _, _, _, hlen, hg⟩ := DataW.trod_struct hu h
 match cs, hl, xs, hlen with
 | [c0, c1, c2, c3], _, [y0, y1, y2, y3], _ =>
  have h0 : DataW.trod enc Try.prog w 0 (fun _ => true) true n 3 [c0] = some y0 := by simpa [t0, z0, cellsInt1] using hg 0 f0 rfl
  have h1 : DataW.trod enc Try.prog w 0 (fun _ => true) true n 3 [c1] = some y1 := by simpa [t1, z1, cellsInt1] using hg 1 f1 rfl
  have h2 : DataW.trod enc Try.prog w 0 (fun _ => true) true n 3 [c2] = some y2 := by simpa [t2, z2, cellsInt1] using hg 2 f2 rfl
  have h3 : DataW.trod enc Try.prog w 0 (fun _ => true) true n 3 [c3] = some y3 := by simpa [t3, z3, cellsInt1] using hg 3 f3 rfl
  obtain ⟨n0, e0, _, _⟩ := DataW.trod_int Try.underlying3 h0
  obtain ⟨n1, e1, _, _⟩ := DataW.trod_int Try.underlying3 h1
  obtain ⟨n2, e2, _, _⟩ := DataW.trod_int Try.underlying3 h2
  obtain ⟨n3, e3, _, _⟩ := DataW.trod_int Try.underlying3 h3
  simp only [List.cons.injEq, and_true] at e0 e1 e2 e3
  subst e0 e1 e2 e3
  exact ⟨⟨n0, n1, n2, n3⟩, rfl⟩
theorem macts_open {v : Value} {fuel : Nat} {x : DataW H × List MemPlace} (h : DataW.trod enc Try.prog w 0 (fun _ => true) true fuel 23 [v] = some x) :
  ∃ A n c, ∃ l : List MAct, v = .slice A n c ∧ n ≤ c ∧ n ≤ maxLen ∧ c ≤ maxLen ∧ Reads w w.heap.size 4 A n (l.flatMap MAct.vals) := by
 rcases open_slice Try.underlying23 h with ⟨e, _⟩ | ⟨a, len, cap, m, k, D, Pl, e, _, hl, hm, hmm, _, hx⟩
 ·simp only [List.cons.injEq, and_true] at e
  exact ⟨none, 0, 0, [], e, Nat.le_refl _, Nat.zero_le _, Nat.zero_le _, Reads.none_⟩
 ·simp only [List.cons.injEq, and_true] at e
  have hmc : m = cap := by simpa using hmm
  subst hmc
  have hn : ∀ i, i < m → ∃ z : MAct, ∀ j, j < 4 → w.cell? (a.add (i * 4 + j)) = z.vals[j]? := fun i hi => by
   obtain ⟨cs', h1, h2⟩ := hx i hi
   rw [cellsMAct] at h1
   obtain ⟨_, hcl, hat⟩ := World.cells?_some h1
   obtain ⟨z, rfl⟩ := mact_cells h2 hcl
   exact ⟨z, fun j hj => by rw [← Go.Deep.add_add, hat j hj]⟩
  letI : Inhabited MAct := ⟨⟨0, 0, 0, 0⟩⟩
  obtain ⟨Z, hZ⟩ := choose_lt hn
  refine ⟨some a, len, m, (List.range len).map Z, e, hl, by omega, hm, by rw [flatg_len act_k]; simp, fun h0 => ⟨a, rfl, ?_, fun j u hu => ?_⟩⟩
  ·have := World.block_lt_of_cell? w _ (hZ 0 (by omega) 0 (by omega))
   rwa [block_of_add] at this
  ·have hj : j < len * 4 := by
    rcases Nat.lt_or_ge j (len * 4) with h' | h'
    ·exact h'
    ·rw [List.getElem?_eq_none (by rw [flatg_len act_k]; simpa using h')] at hu; cases hu
   have hz := hZ (j / 4) (by omega) (j % 4) (by omega)
   have ha : ((List.range len).map Z)[j / 4]? = some (Z (j / 4)) := by rw [List.getElem?_map, List.getElem?_range (by omega)]; rfl
   have hf := flatg_at act_k ha (show j % 4 < 4 by omega)
   rw [show j / 4 * 4 + j % 4 = j by omega] at hf hz
   rw [hz, ← hf, hu]
theorem mactArg_open {r : Reach} {b0 : Nat} {v : Value} {d : DataW H} {p : List MemPlace} (hv : Value.okWide Try.prog w r b0 67 v) (h : DataW.Trod enc Try.prog w 0 (fun _ => true) true 67 v d p) : ∃ l : MAct, v = .agg l.vals.toArray := by
 obtain ⟨f0, f1, f2, f3, hu, _⟩ := mactUnd
 obtain ⟨cs, rfl, hsz⟩ := okWide_struct hu hv
 obtain ⟨fuel, hf⟩ := h
 obtain ⟨l, e⟩ := mact_cells (cs := cs.toList) hf (by simpa [cellsMAct] using hsz)
 exact ⟨l, by rw [← e]⟩
theorem tastUnd : ∃ f0 f1 f2 f3 f4, Try.prog.underlying 65 = some (.struct #[f0, f1, f2, f3, f4]) ∧ f0.type = 3 ∧ f1.type = 3 ∧ f2.type = 3 ∧ f3.type = 3 ∧ f4.type = 30 ∧ f0.offset = 0 ∧ f1.offset = 1 ∧ f2.offset = 2 ∧ f3.offset = 3 ∧ f4.offset = 4 :=
 ⟨_, _, _, _, _, Try.underlying65, rfl, rfl, rfl, rfl, rfl, rfl, rfl, rfl, rfl, rfl⟩
theorem spanUnd : ∃ f0 f1, Try.prog.underlying 30 = some (.struct #[f0, f1]) ∧ f0.type = 3 ∧ f1.type = 3 ∧ f0.offset = 0 ∧ f1.offset = 1 :=
 ⟨_, _, Try.underlying30, rfl, rfl, rfl, rfl⟩
theorem cellsTast : Try.prog.cellsOf 65 = 6 := by kernel_rfl
theorem cellsSpan : Try.prog.cellsOf 30 = 2 := by kernel_rfl
theorem tast_cells {fuel : Nat} {cs : List Value} {x : DataW H × List MemPlace} (h : DataW.trod enc Try.prog w 0 (fun _ => true) true fuel 65 cs = some x) (hl : cs.length = 6) : ∃ l : Tast, cs = l.vals := by
 obtain ⟨f0, f1, f2, f3, f4, hu, t0, t1, t2, t3, t4, z0, z1, z2, z3, z4⟩ := tastUnd
 obtain ⟨g0, g1, hu2, s0, s1, o0, o1⟩ := spanUnd
 obtain ⟨xs, n, _, _, _, hlen, hg⟩ := DataW.trod_struct hu h
 match cs, hl, xs, hlen with
 | [c0, c1, c2, c3, c4, c5], _, [y0, y1, y2, y3, y4], _ =>
  have h0 : DataW.trod enc Try.prog w 0 (fun _ => true) true n 3 [c0] = some y0 := by simpa [t0, z0, cellsInt1] using hg 0 f0 rfl
  have h1 : DataW.trod enc Try.prog w 0 (fun _ => true) true n 3 [c1] = some y1 := by simpa [t1, z1, cellsInt1] using hg 1 f1 rfl
  have h2 : DataW.trod enc Try.prog w 0 (fun _ => true) true n 3 [c2] = some y2 := by simpa [t2, z2, cellsInt1] using hg 2 f2 rfl
  have h3 : DataW.trod enc Try.prog w 0 (fun _ => true) true n 3 [c3] = some y3 := by simpa [t3, z3, cellsInt1] using hg 3 f3 rfl
  have h4 : DataW.trod enc Try.prog w 0 (fun _ => true) true n 30 [c4, c5] = some y4 := by simpa [t4, z4, cellsSpan] using hg 4 f4 rfl
  obtain ⟨xs', n', _, _, _, hlen', hg'⟩ := DataW.trod_struct hu2 h4
  match xs', hlen' with
  | [u0, u1], _ =>
   have k0 : DataW.trod enc Try.prog w 0 (fun _ => true) true n' 3 [c4] = some u0 := by simpa [s0, o0, cellsInt1] using hg' 0 g0 rfl
   have k1 : DataW.trod enc Try.prog w 0 (fun _ => true) true n' 3 [c5] = some u1 := by simpa [s1, o1, cellsInt1] using hg' 1 g1 rfl
   obtain ⟨n0, e0, _, _⟩ := DataW.trod_int Try.underlying3 h0
   obtain ⟨n1, e1, _, _⟩ := DataW.trod_int Try.underlying3 h1
   obtain ⟨n2, e2, _, _⟩ := DataW.trod_int Try.underlying3 h2
   obtain ⟨n3, e3, _, _⟩ := DataW.trod_int Try.underlying3 h3
   obtain ⟨n4, e4, _, _⟩ := DataW.trod_int Try.underlying3 k0
   obtain ⟨n5, e5, _, _⟩ := DataW.trod_int Try.underlying3 k1
   simp only [List.cons.injEq, and_true] at e0 e1 e2 e3 e4 e5
   subst e0 e1 e2 e3 e4 e5
   exact ⟨⟨n0, n1, n2, n3, n4, n5⟩, rfl⟩
theorem tasts_open {v : Value} {fuel : Nat} {x : DataW H × List MemPlace} (h : DataW.trod enc Try.prog w 0 (fun _ => true) true fuel 24 [v] = some x) :
  ∃ A n c, ∃ l : List Tast, v = .slice A n c ∧ n ≤ c ∧ n ≤ maxLen ∧ c ≤ maxLen ∧ Reads w w.heap.size 6 A n (l.flatMap Tast.vals) := by
 rcases open_slice Try.underlying24 h with ⟨e, _⟩ | ⟨a, len, cap, m, k, D, Pl, e, _, hl, hm, hmm, _, hx⟩
 ·simp only [List.cons.injEq, and_true] at e
  exact ⟨none, 0, 0, [], e, Nat.le_refl _, Nat.zero_le _, Nat.zero_le _, Reads.none_⟩
 ·simp only [List.cons.injEq, and_true] at e
  have hmc : m = cap := by simpa using hmm
  subst hmc
  have hn : ∀ i, i < m → ∃ z : Tast, ∀ j, j < 6 → w.cell? (a.add (i * 6 + j)) = z.vals[j]? := fun i hi => by
   obtain ⟨cs', h1, h2⟩ := hx i hi
   rw [cellsTast] at h1
   obtain ⟨_, hcl, hat⟩ := World.cells?_some h1
   obtain ⟨z, rfl⟩ := tast_cells h2 hcl
   exact ⟨z, fun j hj => by rw [← Go.Deep.add_add, hat j hj]⟩
  letI : Inhabited Tast := ⟨⟨0, 0, 0, 0, 0, 0⟩⟩
  obtain ⟨Z, hZ⟩ := choose_lt hn
  refine ⟨some a, len, m, (List.range len).map Z, e, hl, by omega, hm, by rw [flatg_len tast_k]; simp, fun h0 => ⟨a, rfl, ?_, fun j u hu => ?_⟩⟩
  ·have := World.block_lt_of_cell? w _ (hZ 0 (by omega) 0 (by omega))
   rwa [block_of_add] at this
  ·have hj : j < len * 6 := by
    rcases Nat.lt_or_ge j (len * 6) with h' | h'
    ·exact h'
    ·rw [List.getElem?_eq_none (by rw [flatg_len tast_k]; simpa using h')] at hu; cases hu
   have hz := hZ (j / 6) (by omega) (j % 6) (by omega)
   have ha : ((List.range len).map Z)[j / 6]? = some (Z (j / 6)) := by rw [List.getElem?_map, List.getElem?_range (by omega)]; rfl
   have hf := flatg_at tast_k ha (show j % 6 < 6 by omega)
   rw [show j / 6 * 6 + j % 6 = j by omega] at hf hz
   rw [hz, ← hf, hu]
theorem tastArg_open {r : Reach} {b0 : Nat} {v : Value} {d : DataW H} {p : List MemPlace} (hv : Value.okWide Try.prog w r b0 65 v) (h : DataW.Trod enc Try.prog w 0 (fun _ => true) true 65 v d p) : ∃ l : Tast, v = .agg l.vals.toArray := by
 obtain ⟨f0, f1, f2, f3, f4, hu, _⟩ := tastUnd
 obtain ⟨cs, rfl, hsz⟩ := okWide_struct hu hv
 obtain ⟨fuel, hf⟩ := h
 obtain ⟨l, e⟩ := tast_cells (cs := cs.toList) hf (by simpa [cellsTast] using hsz)
 exact ⟨l, by rw [← e]⟩
theorem mixUnd : ∃ f0 f1 f2 f3, Try.prog.underlying 26 = some (.struct #[f0, f1, f2, f3]) ∧ (f0.type = 3 ∧ f1.type = 22 ∧ f2.type = 23 ∧ f3.type = 24) ∧ (f0.offset = 0 ∧ f1.offset = 1 ∧ f2.offset = 2 ∧ f3.offset = 3) :=
 ⟨_, _, _, _, Try.underlying26, ⟨rfl, rfl, rfl, rfl⟩, rfl, rfl, rfl, rfl⟩
theorem cellsSlV : Try.prog.cellsOf 22 = 1 := by kernel_rfl
theorem cellsSlA : Try.prog.cellsOf 23 = 1 := by kernel_rfl
theorem cellsSlT : Try.prog.cellsOf 24 = 1 := by kernel_rfl
theorem mix_open {r : Reach} {b0 : Nat} {v : Value} {d : DataW H} {p : List MemPlace} (hv : Value.okWide Try.prog w r b0 26 v) (h : DataW.Trod enc Try.prog w 0 (fun _ => true) true 26 v d p) :
  ∃ Av nv cv Aa na ca At nt ct m, v = .agg #[.int .i64 m.fountains, .slice Av nv cv, .slice Aa na ca, .slice At nt ct] ∧ (na ≤ ca ∧ ca ≤ maxLen) ∧ (nt ≤ ct ∧ ct ≤ maxLen) ∧ MixAt w w.heap.size Av nv Aa na At nt m := by
 obtain ⟨f0, f1, f2, f3, hu, ⟨t0, t1, t2, t3⟩, z0, z1, z2, z3⟩ := mixUnd
 obtain ⟨cs, rfl, hsz⟩ := okWide_struct hu hv
 obtain ⟨fuel, hf⟩ := h
 obtain ⟨xs, n, _, _, _, hlen, hg⟩ := DataW.trod_struct hu hf
 obtain ⟨l⟩ := cs
 match l, hsz.trans cellsMix4, xs, hlen with
 | [c0, c1, c2, c3], _, [y0, y1, y2, y3], _ =>
  have h0 : DataW.trod enc Try.prog w 0 (fun _ => true) true n 3 [c0] = some y0 := by simpa [t0, z0, cellsInt1, Value.cells] using hg 0 f0 rfl
  have h1 : DataW.trod enc Try.prog w 0 (fun _ => true) true n 22 [c1] = some y1 := by simpa [t1, z1, cellsSlV, Value.cells] using hg 1 f1 rfl
  have h2 : DataW.trod enc Try.prog w 0 (fun _ => true) true n 23 [c2] = some y2 := by simpa [t2, z2, cellsSlA, Value.cells] using hg 2 f2 rfl
  have h3 : DataW.trod enc Try.prog w 0 (fun _ => true) true n 24 [c3] = some y3 := by simpa [t3, z3, cellsSlT, Value.cells] using hg 3 f3 rfl
  obtain ⟨f, e0, _, _⟩ := DataW.trod_int Try.underlying3 h0
  simp only [List.cons.injEq, and_true] at e0
  obtain ⟨Av, nv, cv, lv, rfl, _, _, _, hv1⟩ := vesss_open h1
  obtain ⟨Aa, na, ca, la, rfl, ha1, _, ha2, hv2⟩ := macts_open h2
  obtain ⟨At, nt, ct, lt, rfl, ht1, _, ht2, hv3⟩ := tasts_open h3
  subst e0
  exact ⟨Av, nv, cv, Aa, na, ca, At, nt, ct, ⟨f, lv, la, lt⟩, rfl, ⟨ha1, ha2⟩, ⟨ht1, ht2⟩, ⟨hv1, hv2, hv3⟩⟩
end
end Go.Proofs.Ythofngceiecniaa
/- MixChanges: whatever the mixed water, the taste, the numbers and the act, the law answers true. No conditions. -/
namespace Go.Proofs.Ythofngceiecniaa
open Go.ChangeShapes Go.WideShapes Go.ChangeAt Go.RowKit Go.Joins

theorem ownT : ownKnob Try.prog.godebug = none := by kernel_rfl
theorem laidOutT : laidOutB Try.prog = true := by kernel_rfl

set_option maxRecDepth 100000 in
theorem mixChanges_lifted (os : Os) (started : os.Started) (H : Type) (enc : TypeId × Value → H) :
  ReturnsInHanded {} Try.checked os 6 .any (Rows.mixChangesSpec.pre6 enc Try.prog Try.f6 Rows.mixChangesRow.domain false) (Rows.mixChangesSpec.post enc Try.prog Try.f6 false true false false) := by
 refine returnsInHanded_of_change (C := Try.checked) ownT started (by kernel_rfl) Try.func6
  (ChangeSpec.witness6 (enc := enc) (C := Try.checked) false ⟨#[], #[.agg #[.int .i64 0, .slice none 0 0, .slice none 0 0, .slice none 0 0], .agg #[.int .i64 0, .int .i64 0, .int .i64 0, .int .i64 0, .int .i64 0, .int .i64 0], .slice none 0 0, .agg #[.int .i64 0, .int .i64 0, .int .i64 0, .int .i64 0]], []⟩ 8 (by kernel_rfl) (by kernel_rfl) (by kernel_rfl) (by kernel_rfl)) ?_
 intro W base args ds gs before hval0 hW hcnd _
 have hval : ∀ (j : Nat) t v, Try.f6.params[j]? = some t → args[j]? = some v → Value.okWide Try.prog W .any base t v := hval0
 have hW' := hW
 obtain ⟨p, q, hA0, hV, rfl, hfz, hnd⟩ := hW
 have hA : DataW.TrodAll enc Try.prog W 0 (fun _ => true) true Try.f6.params.toList args.toList ds p := hA0
 rw [Try.params6] at hA hval
 obtain ⟨v0, vs0, d0, ds0, p0, q0, hargs, rfl, rfl, h0, r0⟩ := trodAll_cons hA
 obtain ⟨v1, vs1, d1, ds1, p1, q1, rfl, rfl, rfl, h1, r1⟩ := trodAll_cons r0
 obtain ⟨v2, vs2, d2, ds2, p2, q2, rfl, rfl, rfl, h2, r2⟩ := trodAll_cons r1
 obtain ⟨v3, vs3, d3, ds3, p3, q3, rfl, rfl, rfl, h3, r3⟩ := trodAll_cons r2
 obtain ⟨rfl, rfl, rfl⟩ := trodAll_nil r3
 obtain rfl : args = #[v0, v1, v2, v3] := by cases args; simp_all
 obtain ⟨rfl, rfl⟩ := trodVars_none hV
 have k0 := h0
 have lt0 : ∀ x ∈ p0, x.block < W.heap.size := by obtain ⟨m, hm⟩ := k0; exact DataW.trod_lt m _ _ _ hm
 have k1 := h1
 have lt1 : ∀ x ∈ p1, x.block < W.heap.size := by obtain ⟨m, hm⟩ := k1; exact DataW.trod_lt m _ _ _ hm
 have k2 := h2
 have lt2 : ∀ x ∈ p2, x.block < W.heap.size := by obtain ⟨m, hm⟩ := k2; exact DataW.trod_lt m _ _ _ hm
 have k3 := h3
 have lt3 : ∀ x ∈ p3, x.block < W.heap.size := by obtain ⟨m, hm⟩ := k3; exact DataW.trod_lt m _ _ _ hm
 obtain ⟨Av, nv, cv, Aa, na, ca, At, nt, ct, m, rfl, hca, hct, hm⟩ := mix_open (hval 0 26 v0 rfl rfl) h0
 obtain ⟨x, rfl⟩ := tastArg_open (hval 1 65 v1 rfl rfl) h1
 obtain ⟨A2, k2, c2, e2⟩ := okWide_slice Try.underlying57 (hval 2 57 v2 rfl rfl)
 have hh2 := h2
 obtain ⟨fu, hf2⟩ := hh2
 rw [e2, show (Value.slice A2 k2 c2).cells = #[.slice A2 k2 c2] from rfl] at hf2
 obtain ⟨An, nn, cn, ns, e3, _, _, _, hn⟩ := ints_open hf2
 rw [e3] at e2
 subst e2
 obtain ⟨a, rfl⟩ := mactArg_open (hval 3 67 v3 rfl rfl) h3
 clear hA0 hval0
 refine (callsIn_wide.1 (changes_in Av nv cv Aa na ca At nt ct m x An nn cn ns a W hm hca hct hn)).mono fun e W' ⟨he, bel⟩ => ?_
 subst he
 exact ⟨_, rfl, _, _, _, [], _, [], hW', trodAll_mk1 (shut_bool Try.underlying4 _), (trodAll_cons_mk (Below.trod laidOutT (by kernel_rfl) (of_decide_eq_true (by kernel_rfl)) k0 bel lt0) (trodAll_cons_mk (Below.trod laidOutT (by kernel_rfl) (of_decide_eq_true (by kernel_rfl)) k1 bel lt1) (trodAll_cons_mk (Below.trod laidOutT (by kernel_rfl) (of_decide_eq_true (by kernel_rfl)) k2 bel lt2) (trodAll_cons_mk (Below.trod laidOutT (by kernel_rfl) (of_decide_eq_true (by kernel_rfl)) k3 bel lt3) (trodAll_mk0))))), rfl, bel.frame _, fun h => by cases h⟩

theorem mixChanges_holds : Rows.MixChangesSaid :=
 OpenClaim.holds_of_wide 6 Try.f6 rfl rfl rfl rfl rfl rfl rfl ⟨rfl, rfl, rfl, rfl, rfl⟩ rfl rfl rfl rfl rfl (by kernel_rfl) Try.func6 (by kernel_rfl)
  (of_decide_eq_true (by kernel_rfl)) (by unfold Func.isWrapper; rw [if_neg (of_decide_eq_false (by kernel_rfl))]; exact ⟨rfl, rfl⟩)
  (fun os started H enc _ => mixChanges_lifted os started H enc)
#print axioms mixChanges_holds
end Go.Proofs.Ythofngceiecniaa
