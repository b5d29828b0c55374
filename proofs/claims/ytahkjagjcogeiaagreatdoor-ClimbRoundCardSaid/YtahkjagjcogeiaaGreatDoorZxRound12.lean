/- ClimbRound: whatever the arguments, the law answers true. The row, and the card. -/
import Derived.Test.YtahkjagjcogeiaaGreatDoorRows
import Derived.ProofKit
import Derived.LaidMore
import Derived.LaidHandle
import Derived.Stop.Joined
import Derived.ChangeSame
import Derived.OpenShut
import Derived.Lib.SmallJoins
import Derived.ChangeArms
import Derived.SevenTiedAt
import Derived.Test.YtahkjagjcogeiaaGreatDoorCards
import Derived.Test.YtahkjagjcogeiaaGreatDoorTie
import Derived.Test.YtahkjagjcogeiaaGreatDoorZxRound11
set_option linter.unusedVariables false
/- The law ClimbRound, walked. -/
namespace Go.Proofs.YtahkjagjcogeiaaGreatDoor
open Go.RowKit Go.Shelf
theorem beq_flip (x y : Int) : (x == y) = (y == x) := by
 by_cases h : x = y
 ·subst h; rfl
 ·rw [beq_eq_false_iff_ne.2 h, beq_eq_false_iff_ne.2 (fun e => h e.symm)]
/-- Growth that leaves what lies below B. -/
def UpB (B : Nat) (A C : World) : Prop := A.heap.size ≤ C.heap.size ∧ (B ≤ A.heap.size → Below B A C)
instance upB_grows (B : Nat) : Gr.Grows (UpB B) where
 refl := fun W => ⟨Nat.le_refl _, fun _ => Below.refl _ W⟩
 trans := fun {A X C} h k => ⟨Nat.le_trans h.1 k.1, fun hB => (h.2 hB).trans (k.2 (Nat.le_trans hB h.1))⟩
 below := fun {A C} h => ⟨h.size, fun hB => h.mono hB⟩
 size := fun h => h.1
theorem UpB.of_below {B : Nat} {A C : World} (h : Below B A C) : UpB B A C := ⟨h.size, fun _ => h⟩
theorem blk_off {w w' : World} {base size n cap g : Nat} {e t : TypeId} {A : Option Addr} {xs : List Value} {cs : Array Value} (h : Own w base e size A n cap xs) (hg : w.grownBy w' (A.map (·.block))) (hb : Blk w g t cs) (ht : e ≠ t) : Blk w' g t cs :=
 hb.grown hg (fun e' => by
  rcases h.form with ⟨h1, _⟩ | ⟨g', cur, h1, _, h2, _⟩
  ·rw [h1] at e'; cases e'
  ·rw [h1] at e'
   cases e'
   exact blk_ne h2 hb ht rfl)

set_option maxRecDepth 100000 in
set_option maxHeartbeats 16000000 in
theorem zround_walk_in (A : Option Addr) (n c : Nat) (A' : Option Addr) (m d : Nat) (t : Town) (ba : Nat) (by_A : Option Addr) (by_n by_c : Nat) (by_ : List Nat) (dk : Bool) (ou : Nat) (w : World) (hn : n ≤ maxLen) (hm : m ≤ maxLen) (hba : ba ≤ 255) (hby_ : by_n ≤ maxLen) (hou : ou ≤ 255) (ht : TownAt w w.heap.size A n A' m t) (rby_ : BytesAt w w.heap.size by_A by_n by_) (hL : Laid w) :
  CallsIn Fence.wide 9 Tryz.prog 6 #[.agg #[.slice A n c, .slice A' m d], .int .u8 ba, .slice by_A by_n by_c, .bool dk, .int .u8 ou] w fun e w' => e = .returned (.bool true) ∧ Below w.heap.size w w' := by
 have HR := Lib.hid rby_
 clear rby_
 unfold maxLen at hby_
 have HT := Lib.hid ht
 have HL := Lib.hid hL
 have hl0 := hL.2.2.2
 have HLn := Lib.hid ht.places.len
 have HLm := Lib.hid ht.links.len
 clear ht hL
 unfold maxLen at hn hm
 refine callsIn_of_wp Tryz.func6 rfl trivial ?_ rfl
 simp only [Tryz.ntmps6, List.size_toArray, List.length_cons, List.length_nil, Nat.reduceAdd, Nat.reduceSub, Array.replicate_succ, Array.replicate_zero, List.push_toArray, List.append_toArray, List.nil_append, List.cons_append]
 gi_wp2
 have HLay := Lib.hid (Lay.one w 25 #[.slice A n c, .slice A' m d])
 generalize (w.alloc (.cells #[.slice A n c, .slice A' m d] 25)) = w0 at *
 refine ⟨trivial, (callsIn_wide.2 (alive_any w0 (HL.out.below HLay.out.bel hl0))).mono ?_⟩
 rintro e W1 ⟨rfl, hb⟩
 replace HLay := Lib.hid (HLay.out.below hb)
 clear hb
 have x0_0 := (HLay.out.blk 0 rfl).cell 0
 have x0_1 := (HLay.out.blk 0 rfl).cell 1
 have l0_ := HLay.out.lt 0 rfl
 gi_wp2
 clear x0_0 x0_1 l0_
 refine ⟨trivial, (callsIn_wide.2 (ready_any A n c A' m d t W1 ((HT.out.below HLay.out.bel).more HLay.out.bel.size))).mono ?_⟩
 rintro e W2 ⟨rfl, hb⟩
 replace HLay := Lib.hid (HLay.out.below hb)
 clear hb
 cases hrd : readyB n m t with
 | false =>
  clear hrd
  gi_wp2
  exact bodyPost_ret (v := .bool true) (by simp [results, Tryz.results6, go_sem]) rfl ⟨rfl, HLay.out.bel⟩
 | true =>
 have htb : townB t = true := by unfold readyB at hrd; simp at hrd; exact hrd.2
 have HTB := Lib.hid htb
 have HG := Lib.hid (goodT htb)
 have hm20 : m ≤ 20 := by have := HG.out.links; have := HLm.out; omega
 have hn9 : n ≤ 9 := by have := HG.out.fine.size; have := HLn.out; omega
 have hn1 : 1 ≤ n := by have := townB_one htb; have := HLn.out; omega
 have HP1 : Hid (1 ≤ t.places.length) := Lib.hid (townB_one htb)
 clear hrd htb
 have x0_0 := (HLay.out.blk 0 rfl).cell 0
 have x0_1 := (HLay.out.blk 0 rfl).cell 1
 have l0_ := HLay.out.lt 0 rfl
 gi_wp2
 clear x0_0 x0_1 l0_
 refine ⟨trivial, (callsIn_wide.2 (lplace_any A n c A' m d t ba W2 hn1 (by omega) hba ((HT.out.places.below HLay.out.bel).more HLay.out.bel.size))).mono ?_⟩
 rintro e W3 ⟨rfl, hb⟩
 replace HLay := Lib.hid (HLay.out.below hb)
 clear hb
 obtain ⟨u, hu⟩ : ∃ u, plN t ba = u := ⟨_, rfl⟩
 rw [hu]
 have Hu := Lib.hid (show u ∈ t.places from hu ▸ plN_mem HP1.out ba)
 clear hu
 have x0_0 := (HLay.out.blk 0 rfl).cell 0
 have x0_1 := (HLay.out.blk 0 rfl).cell 1
 have l0_ := HLay.out.lt 0 rfl
 gi_wp2
 clear x0_0 x0_1 l0_
 refine ⟨trivial, (callsIn_wide.2 (lstops_any A n c A' m d t u by_A by_n by_c by_ W3 hn1 (by omega) (by unfold maxLen; omega) ((HT.out.places.below HLay.out.bel).more HLay.out.bel.size) ((HR.out.below HLay.out.bel).more HLay.out.bel.size))).mono ?_⟩
 rintro e W4 ⟨AL, nL, cL, rfl, hi, hb, hcL⟩
 replace HLay := Lib.hid (HLay.out.below hb)
 clear hb
 have hso := stopsF_ok (base := u) HP1.out by_
 obtain ⟨st, hst⟩ : ∃ l, stopsF t u by_ = l := ⟨_, rfl⟩
 rw [hst] at hso hi
 have HSO := Lib.hid hso
 have HAL := Lib.hid hi
 obtain rfl : nL = st.length := HAL.out.len.symm
 have hst6 : st.length ≤ 6 := HSO.out.size
 have HR0 := Lib.hid (stops_ok HTB.out Hu.out HSO.out)
 clear hst hso hi
 cases hro : roundR t u st dk with
 | none =>
  have HRO := Lib.hid hro
  have HN := Lib.hid (round_none HTB.out Hu.out HSO.out hro)
  clear hro
  have x0_0 := (HLay.out.blk 0 rfl).cell 0
  have x0_1 := (HLay.out.blk 0 rfl).cell 1
  have l0_ := HLay.out.lt 0 rfl
  gi_wp2
  clear x0_0 x0_1 l0_
  refine ⟨trivial, (callsIn_wide.2 (round_any A n c A' m d t u AL st.length cL st dk W4 (by omega) (by omega) (by omega) ((HT.out.below HLay.out.bel).more HLay.out.bel.size) HAL.out (HL.out.below HLay.out.bel hl0))).mono ?_⟩
  rintro e W5 ⟨AR, nR, cR, rfl, hi, hb⟩
  replace HLay := Lib.hid (HLay.out.below hb)
  replace HAL := Lib.hid ((HAL.out.below hb).more hb.size)
  clear hb
  clear hi
  rw [HRO.out, HN.out.1]
  gi_upto_region 7 with fail
  obtain ⟨V6, hV⟩ : ∃ V, (W5.alloc (.cells #[.int .i64 0, .int .i64 0] 34)) = V := ⟨_, rfl⟩
  rw [hV]
  have hb := fbox_bel hV
  have hnew := fbox_blk hV
  have hge := HLay.out.bel.size
  replace HLay := Lib.hid (HLay.out.below hb)
  replace HAL := Lib.hid ((HAL.out.below hb).more hb.size)
  replace HLay := Lib.hid (HLay.out.add hge hnew)
  clear hnew hge hb hV
  obtain ⟨G7, hG⟩ : ∃ g, W5.heap.size = g := ⟨_, rfl⟩
  rw [hG] at HLay ⊢
  clear hG
  have x0_0 := (HLay.out.blk 0 rfl).cell 0
  have x0_1 := (HLay.out.blk 0 rfl).cell 1
  have l0_ := HLay.out.lt 0 rfl
  gi_wp2
  clear x0_0 x0_1 l0_
  refine ⟨trivial, (callsIn_wide.2 (order_any A n c A' m d t u AL st.length cL st dk V6 (by omega) (by omega) (by omega) ((HT.out.below HLay.out.bel).more HLay.out.bel.size) HAL.out (HL.out.below HLay.out.bel hl0))).mono ?_⟩
  rintro e W8 ⟨rfl, hb⟩
  replace HLay := Lib.hid (HLay.out.below hb)
  replace HAL := Lib.hid ((HAL.out.below hb).more hb.size)
  clear hb
  rw [HN.out.2.1, HN.out.2.2]
  gi_upto_region 8 with fail
  obtain ⟨V9, hV⟩ : ∃ V, (W8.alloc (.cells #[.int .i64 0, .int .i64 0] 34)) = V := ⟨_, rfl⟩
  rw [hV]
  have hb := fbox_bel hV
  have hnew := fbox_blk hV
  have hge := HLay.out.bel.size
  replace HLay := Lib.hid (HLay.out.below hb)
  replace HAL := Lib.hid ((HAL.out.below hb).more hb.size)
  replace HLay := Lib.hid (HLay.out.add hge hnew)
  clear hnew hge hb hV
  obtain ⟨G10, hG⟩ : ∃ g, W8.heap.size = g := ⟨_, rfl⟩
  rw [hG] at HLay ⊢
  clear hG
  gi_wp2
  exact bodyPost_ret (v := .bool true) (by simp [results, Tryz.results6, go_sem]) rfl ⟨rfl, HLay.out.bel⟩
 | some rb =>
  obtain ⟨o, c1, c2⟩ := rb
  have HRO := Lib.hid hro
  have HRK := Lib.hid (round_some HTB.out Hu.out HSO.out hro)
  have hol : o.length = st.length := HRK.out.perm.length_eq
  clear hro
  have x0_0 := (HLay.out.blk 0 rfl).cell 0
  have x0_1 := (HLay.out.blk 0 rfl).cell 1
  have l0_ := HLay.out.lt 0 rfl
  gi_wp2
  clear x0_0 x0_1 l0_
  refine ⟨trivial, (callsIn_wide.2 (round_any A n c A' m d t u AL st.length cL st dk W4 (by omega) (by omega) (by omega) ((HT.out.below HLay.out.bel).more HLay.out.bel.size) HAL.out (HL.out.below HLay.out.bel hl0))).mono ?_⟩
  rintro e W11 ⟨AR, nR, cR, rfl, hi, hb⟩
  replace HLay := Lib.hid (HLay.out.below hb)
  replace HAL := Lib.hid ((HAL.out.below hb).more hb.size)
  clear hb
  rw [HRO.out] at hi ⊢
  rw [HRK.out.err]
  have HAR := Lib.hid (show IntsAt _ _ AR nR o from hi)
  obtain rfl : nR = st.length := HAR.out.len.symm.trans hol
  clear hi
  gi_upto_region 7 with fail
  obtain ⟨V12, hV⟩ : ∃ V, (W11.alloc (.cells #[.int .i64 c1, .int .i64 c2] 34)) = V := ⟨_, rfl⟩
  rw [hV]
  have hb := fbox_bel hV
  have hnew := fbox_blk hV
  have hge := HLay.out.bel.size
  replace HLay := Lib.hid (HLay.out.below hb)
  replace HAL := Lib.hid ((HAL.out.below hb).more hb.size)
  replace HAR := Lib.hid ((HAR.out.below hb).more hb.size)
  replace HLay := Lib.hid (HLay.out.add hge hnew)
  clear hnew hge hb hV
  obtain ⟨G13, hG⟩ : ∃ g, W11.heap.size = g := ⟨_, rfl⟩
  rw [hG] at HLay ⊢
  clear hG
  have x0_0 := (HLay.out.blk 0 rfl).cell 0
  have x0_1 := (HLay.out.blk 0 rfl).cell 1
  have l0_ := HLay.out.lt 0 rfl
  gi_wp2
  clear x0_0 x0_1 l0_
  refine ⟨trivial, (callsIn_wide.2 (order_any A n c A' m d t u AL st.length cL st dk V12 (by omega) (by omega) (by omega) ((HT.out.below HLay.out.bel).more HLay.out.bel.size) HAL.out (HL.out.below HLay.out.bel hl0))).mono ?_⟩
  rintro e W14 ⟨rfl, hb⟩
  replace HLay := Lib.hid (HLay.out.below hb)
  replace HAL := Lib.hid ((HAL.out.below hb).more hb.size)
  replace HAR := Lib.hid ((HAR.out.below hb).more hb.size)
  clear hb
  have how := own_cases HR0.out HRK.out
  obtain ⟨⟨s1, s2⟩, hs⟩ : ∃ q, (orderR t u st dk).getD (0, 0) = q := ⟨_, rfl⟩
  obtain ⟨ee, hee⟩ : ∃ q, orderE t u st dk = q := ⟨_, rfl⟩
  rw [hs, hee] at how
  rw [hs, hee]
  have HOW := Lib.hid how
  clear how hs hee
  gi_upto_region 8 with fail
  obtain ⟨V15, hV⟩ : ∃ V, (W14.alloc (.cells #[.int .i64 s1, .int .i64 s2] 34)) = V := ⟨_, rfl⟩
  rw [hV]
  have hb := fbox_bel hV
  have hnew := fbox_blk hV
  have hge := HLay.out.bel.size
  replace HLay := Lib.hid (HLay.out.below hb)
  replace HAL := Lib.hid ((HAL.out.below hb).more hb.size)
  replace HAR := Lib.hid ((HAR.out.below hb).more hb.size)
  replace HLay := Lib.hid (HLay.out.add hge hnew)
  clear hnew hge hb hV
  obtain ⟨G16, hG⟩ : ∃ g, W14.heap.size = g := ⟨_, rfl⟩
  rw [hG] at HLay ⊢
  clear hG
  have x0_0 := (HLay.out.blk 0 rfl).cell 0
  have x0_1 := (HLay.out.blk 0 rfl).cell 1
  have l0_ := HLay.out.lt 0 rfl
  gi_wp2
  clear x0_0 x0_1 l0_
  refine ⟨trivial, (callsIn_wide.2 (order_any A n c A' m d t u AR st.length cR o dk V15 (by omega) (by omega) (by omega) ((HT.out.below HLay.out.bel).more HLay.out.bel.size) HAR.out (HL.out.below HLay.out.bel hl0))).mono ?_⟩
  rintro e W17 ⟨rfl, hb⟩
  replace HLay := Lib.hid (HLay.out.below hb)
  replace HAL := Lib.hid ((HAL.out.below hb).more hb.size)
  replace HAR := Lib.hid ((HAR.out.below hb).more hb.size)
  clear hb
  rw [HRK.out.ordR, HRK.out.ordE]
  gi_upto_region 11 with fail
  obtain ⟨V18, hV⟩ : ∃ V, (W17.alloc (.cells #[.int .i64 c1, .int .i64 c2] 34)) = V := ⟨_, rfl⟩
  rw [hV]
  have hb := fbox_bel hV
  have hnew := fbox_blk hV
  have hge := HLay.out.bel.size
  replace HLay := Lib.hid (HLay.out.below hb)
  replace HAL := Lib.hid ((HAL.out.below hb).more hb.size)
  replace HAR := Lib.hid ((HAR.out.below hb).more hb.size)
  replace HLay := Lib.hid (HLay.out.add hge hnew)
  clear hnew hge hb hV
  obtain ⟨G19, hG⟩ : ∃ g, W17.heap.size = g := ⟨_, rfl⟩
  rw [hG] at HLay ⊢
  clear hG
  have hte := eqToil_same c1 c2
  have x0_0 := (HLay.out.blk 0 rfl).cell 0
  have x0_1 := (HLay.out.blk 0 rfl).cell 1
  have l0_ := HLay.out.lt 0 rfl
  have x1_0 := (HLay.out.blk 1 rfl).cell 0
  have x1_1 := (HLay.out.blk 1 rfl).cell 1
  have l1_ := HLay.out.lt 1 rfl
  have x3_0 := (HLay.out.blk 3 rfl).cell 0
  have x3_1 := (HLay.out.blk 3 rfl).cell 1
  have l3_ := HLay.out.lt 3 rfl
  gi_wp2
  clear x0_0 x0_1 l0_ x1_0 x1_1 l1_ x3_0 x3_1 l3_
  refine ⟨trivial, (callsIn_wide.2 (rstops_any A n c A' m d t u AR st.length cR o V18 (by omega) (by omega) ((HT.out.places.below HLay.out.bel).more HLay.out.bel.size) HAR.out)).mono ?_⟩
  rintro e W20 ⟨rfl, hb⟩
  replace HLay := Lib.hid (HLay.out.below hb)
  replace HAL := Lib.hid ((HAL.out.below hb).more hb.size)
  replace HAR := Lib.hid ((HAR.out.below hb).more hb.size)
  clear hb
  rw [HRK.out.stops.bool]
  gi_wp2
  clear hte
  gi_loopw [111] (fun vi wr => ∃ (i : Nat), i ≤ st.length ∧ vi = .int .i64 i ∧ wr = W20)
   (fun vi _ => st.length - (intOf vi).toNat)
  case atStart => exact ⟨0, by omega, rfl, rfl⟩
  case round =>
   obtain ⟨i, hi0, rfl, hww⟩ := hrel
   have hww' := hww.symm
   clear hww
   subst hww'
   by_cases hil : i < st.length
   ·obtain ⟨b3, o3, id, rfl, hb3, hid, hc3⟩ := HAL.out.cell hil
    have HIN := Lib.hid (HRK.out.perm.mem_iff.2 (List.mem_of_getElem? hid))
    clear hid
    gi_wp2
    gi_loopw [23, 117] (fun vb vi wr2 => ∃ (j : Nat), j ≤ st.length ∧ vi = .int .i64 j ∧ vb = .bool ((o.take j).any fun y => y == id) ∧ wr2 = W20)
     (fun vb vi _ => st.length - (intOf vi).toNat)
    case atStart => exact ⟨0, by omega, rfl, rfl, rfl⟩
    case round =>
     obtain ⟨j, hj, rfl, rfl, hww⟩ := hrel
     have hww' := hww.symm
     clear hww
     subst hww'
     by_cases hjl : j < st.length
     ·obtain ⟨b2, o2, y, rfl, hb2, hy, cy⟩ := HAR.out.cell hjl
      have HTK : Hid (((o.take (j + 1)).any fun y => y == id) = (((o.take j).any fun y => y == id) || (y == id))) := Lib.hid (by
       obtain ⟨hj', rfl⟩ := List.getElem?_eq_some_iff.1 hy
       rw [List.take_succ_eq_append_getElem hj', List.any_append]
       simp)
      clear hy
      have hfl : (id == y) = (y == id) := beq_flip id y
      cases hv : ((o.take j).any fun y => y == id) with
      | true =>
       have HV := Lib.hid hv
       clear hv
       gi_wp2
       go_roundw
       case rel => exact ⟨j + 1, by omega, by go_num, by rw [HTK.out, HV.out]; rfl, trivial⟩
       case measure => simp [intOf]; omega
      | false =>
       have HV := Lib.hid hv
       clear hv
       gi_wp2
       go_roundw
       case rel => exact ⟨j + 1, by omega, by go_num, by rw [HTK.out, HV.out]; rfl, trivial⟩
       case measure => simp [intOf]; omega
     ·have hTA : ((o.take j).any fun y => y == id) = decide (id ∈ o) := any_take_mem (by have := HAR.out.len; omega)
      have HTA := Lib.hid hTA
      rw [hTA]
      clear hTA
      rw [show decide (id ∈ o) = true from by simpa using HIN.out]
      gi_wp2
      go_roundw
      case rel => exact ⟨i + 1, by omega, by go_num, trivial⟩
      case measure => simp [intOf]; omega
   ·gi_upto_region 25 with fail
    gi_cut [155] from 131 (fun v155 wx => v155 = .bool false ∧ Hid (Below W20.heap.size W20 wx))
    case first =>
     have HB0 := Lib.hid (Below.refl W20.heap.size W20)
     rcases HOW.out with ⟨h0, hle, hah⟩ | h6
     ·subst h0
      have HLE := Lib.hid (le_lessP hle)
      have HAH := Lib.hid hah
      clear hle hah
      have x1_0 := (HLay.out.blk 1 rfl).cell 0
      have x1_1 := (HLay.out.blk 1 rfl).cell 1
      have l1_ := HLay.out.lt 1 rfl
      have x2_0 := (HLay.out.blk 2 rfl).cell 0
      have x2_1 := (HLay.out.blk 2 rfl).cell 1
      have l2_ := HLay.out.lt 2 rfl
      gi_wp2
      all_goals try (rename_i hA hB; exact undef_ne hA)
      clear x1_0 x1_1 l1_ x2_0 x2_1 l2_
      refine ⟨trivial, (callsIn_wide.2 (lessToil_any s1 s2 c1 c2 W20)).mono ?_⟩
      rintro e W21 ⟨rfl, hb⟩
      replace HLay := Lib.hid (HLay.out.below hb)
      replace HAL := Lib.hid ((HAL.out.below hb).more hb.size)
      replace HAR := Lib.hid ((HAR.out.below hb).more hb.size)
      replace HB0 := Lib.hid (HB0.out.trans (hb.mono HB0.out.size))
      clear hb
      rw [HLE.out]
      by_cases heq : s1 = c1 ∧ s2 = c2
      ·have hte := fun w => eqToil_yes heq w
       have HAF := Lib.hid (HAH.out (by rw [heq.1, heq.2]))
       clear heq
       have x1_0 := (HLay.out.blk 1 rfl).cell 0
       have x1_1 := (HLay.out.blk 1 rfl).cell 1
       have l1_ := HLay.out.lt 1 rfl
       have x2_0 := (HLay.out.blk 2 rfl).cell 0
       have x2_1 := (HLay.out.blk 2 rfl).cell 1
       have l2_ := HLay.out.lt 2 rfl
       gi_wp2
       clear x1_0 x1_1 l1_ x2_0 x2_1 l2_
       refine ⟨trivial, (callsIn_wide.2 (ahead_any AL st.length cL st AR st.length cR o W21 (by unfold maxLen; omega) (by unfold maxLen; omega) HAL.out HAR.out)).mono ?_⟩
       rintro e W22 ⟨rfl, hb⟩
       replace HLay := Lib.hid (HLay.out.below hb)
       replace HAL := Lib.hid ((HAL.out.below hb).more hb.size)
       replace HAR := Lib.hid ((HAR.out.below hb).more hb.size)
       replace HB0 := Lib.hid (HB0.out.trans (hb.mono HB0.out.size))
       clear hb
       rw [HAF.out]
       gi_wp2
       gi_meet
       exact ⟨rfl, HB0⟩
      ·have hte := fun w => eqToil_no heq w
       clear heq
       have x1_0 := (HLay.out.blk 1 rfl).cell 0
       have x1_1 := (HLay.out.blk 1 rfl).cell 1
       have l1_ := HLay.out.lt 1 rfl
       have x2_0 := (HLay.out.blk 2 rfl).cell 0
       have x2_1 := (HLay.out.blk 2 rfl).cell 1
       have l2_ := HLay.out.lt 2 rfl
       gi_wp2
       clear x1_0 x1_1 l1_ x2_0 x2_1 l2_
       refine ⟨trivial, ?_⟩
       gi_wp2
       gi_meet
       exact ⟨rfl, HB0⟩
     ·subst h6
      gi_wp2
      all_goals try (rename_i hA hB; exact undef_ne hA)
      refine ⟨trivial, ?_⟩
      gi_wp2
      all_goals try (rename_i hA hB; exact undef_ne hA)
      refine ⟨trivial, ?_⟩
      gi_wp2
      all_goals try (rename_i hA hB; exact undef_ne hA)
      gi_meet
      exact ⟨rfl, HB0⟩
    case rest =>
     obtain ⟨rfl, hcb⟩ := hcut
     rename World => C23
     have hb := hcb.out
     clear hcb
     replace HLay := Lib.hid (HLay.out.below hb)
     replace HAL := Lib.hid ((HAL.out.below hb).more hb.size)
     replace HAR := Lib.hid ((HAR.out.below hb).more hb.size)
     clear hb
     gi_upto_region 28 with fail
     have HNE := Lib.hid (show ∀ q ∈ ([(w.heap.size, 25, #[.slice A n c, .slice A' m d]), (G13, 34, #[.int .i64 c1, .int .i64 c2]), (G16, 34, #[.int .i64 s1, .int .i64 s2]), (G19, 34, #[.int .i64 c1, .int .i64 c2])] : List (Nat × TypeId × Array Value)), q.1 ≠ C23.heap.size from fun q hq => Nat.ne_of_lt (HLay.out.2 q hq).2.lt)
     have HALb := Lib.hid HAL.out
     have HARb := Lib.hid HAR.out
     obtain ⟨V24, hV⟩ : ∃ V, (C23.alloc (.cells #[.int .i64 0, .int .i64 0] 34)) = V := ⟨_, rfl⟩
     rw [hV]
     have hb := fbox_bel hV
     have hnew := fbox_blk hV
     have hge := HLay.out.bel.size
     replace HLay := Lib.hid (HLay.out.below hb)
     replace HAL := Lib.hid ((HAL.out.below hb).more hb.size)
     replace HAR := Lib.hid ((HAR.out.below hb).more hb.size)
     replace HALb := Lib.hid (HALb.out.below hb)
     replace HARb := Lib.hid (HARb.out.below hb)
     replace HLay := Lib.hid (HLay.out.add hge hnew)
     clear hnew hge hb hV
     obtain ⟨G25, hG⟩ : ∃ g, C23.heap.size = g := ⟨_, rfl⟩
     rw [hG] at HLay HNE HALb HARb ⊢
     clear hG
     have HGL := Lib.hid (HLay.out.lt 4 rfl)
     have HGS0 := Lib.hid (HLay.out.lt 4 rfl)
     have HE : Hid (Own (V24.alloc (.cells #[] 3)) V24.heap.size 3 1 (some ⟨V24.heap.size, 0, none⟩) 0 0 []) := Own.mk_ (Nat.le_refl _) (Blk.new V24 _ _) (Nat.le_refl _) (Nat.zero_le _) rfl rfl (fun k hk => by omega)
     have HbA : Hid (Below V24.heap.size V24 (V24.alloc (.cells #[] 3))) := Lib.hid ((Below.refl V24.heap.size V24).alloc (Nat.le_refl _) (.cells #[] 3))
     have HI := Lib.hid ((HAR.out.below HbA.out).more HbA.out.size)
     gi_wp2_with (first | (gi_at_builtin; refine wpListIn_append_any rfl (.tmp 158) (.tmp 159) (by rfl) elem_int rfl HE.out rfl HI.out (ints_one _) (by unfold maxLen; omega) (by omega) HbA.out.size ?_) | fail)
     rintro A3 c3 V26 hown hg hA
     have HO1 := Lib.hid (show Own V26 V24.heap.size 3 1 A3 st.length c3 (o.map (Value.int .i64)) from by simpa using hown)
     have HB1 : Hid (Below V24.heap.size V24 V26) := Lib.hid (HbA.out.grown hg HbA.out.size (fun k hk => by simp at hk; omega))
     have HRW : Hid (∀ k, A3.map (·.block) = some k → V24.heap.size ≤ k) := Lib.hid (fun k hk => by
      rcases hA with rfl | rfl
      ·simp at hk; omega
      ·simp at hk; omega)
     have HbN : Hid (Below V26.heap.size V26 (V26.alloc (.cells #[.int .i64 u] 3))) := Lib.hid ((Below.refl V26.heap.size V26).alloc (Nat.le_refl _) (.cells #[.int .i64 u] 3))
     have HO2 := Lib.hid (HO1.out.below HbN.out (Nat.le_refl _))
     have HI2 := Lib.hid (one_int (x := u) (Blk.new V26 3 #[.int .i64 u]).lt ((Blk.new V26 3 #[.int .i64 u]).cell 0))
     have HB2 : Hid (Below V24.heap.size V24 (V26.alloc (.cells #[.int .i64 u] 3))) := Lib.hid (HB1.out.trans (HbN.out.mono HB1.out.size))
     clear hown hg hA HE HI HbA HO1
     gi_wp2_with (first | (gi_at_builtin; refine wpListIn_append_any rfl (.tmp 160) (.tmp 162) (by rfl) elem_int rfl HO2.out rfl HI2.out (ints_one _) (by unfold maxLen; omega) (by omega) HB2.out.size ?_) | fail)
     rintro AQ cAQ V27 hown2 hg2 hA2
     have hb : Below V24.heap.size V24 V27 := HB2.out.grown hg2 HB2.out.size HRW.out
     have HOQ := Lib.hid (show Own V27 V24.heap.size 3 1 AQ (st.length + 1) cAQ ((o ++ [u]).map (Value.int .i64)) from by rw [List.map_append]; exact hown2)
     clear hown2 hg2 hA2 HO2 HI2 HB1 HB2 HRW HbN
     replace HLay := Lib.hid (HLay.out.below hb)
     replace HAL := Lib.hid ((HAL.out.below hb).more hb.size)
     replace HAR := Lib.hid ((HAR.out.below hb).more hb.size)
     replace HALb := Lib.hid (HALb.out.below (hb.mono (Nat.le_of_lt HGL.out)))
     replace HARb := Lib.hid (HARb.out.below (hb.mono (Nat.le_of_lt HGL.out)))
     replace HGL := Lib.hid (Nat.lt_of_lt_of_le HGL.out hb.size)
     clear hb
     gi_wp2
     clear HAL HAR HGL
     have hGS : G25 < V24.heap.size := HGS0.out
     gi_loopw [27, 165] (fun vp vi wr => ∃ (i : Nat) (q a b : Int), i ≤ st.length + 1 ∧ vi = .int .i64 i ∧ vp = .int .i64 q ∧ (0 ≤ a ∧ a ≤ 4500 * i) ∧ (0 ≤ b ∧ b ≤ 18000 * i) ∧ Hid (q ∈ t.places ∧ (i < st.length + 1 → ordG (legF t dk) u q (a, b) (o.drop i) = some (c1, c2)) ∧ (i = st.length + 1 → (a, b) = (c1, c2))) ∧ Hid (Lay w wr [(w.heap.size, 25, #[.slice A n c, .slice A' m d]), (G13, 34, #[.int .i64 c1, .int .i64 c2]), (G16, 34, #[.int .i64 s1, .int .i64 s2]), (G19, 34, #[.int .i64 c1, .int .i64 c2]), (G25, 34, #[.int .i64 (a), .int .i64 (b)])]) ∧ Hid (Own wr V24.heap.size 3 1 AQ (st.length + 1) cAQ ((o ++ [u]).map (Value.int .i64))) ∧ Hid (IntsAt wr G25 AL st.length st) ∧ Hid (IntsAt wr G25 AR st.length o))
      (fun _ vi _ => st.length + 1 - (intOf vi).toNat)
     case atStart => exact ⟨0, u, 0, 0, by omega, rfl, rfl, by omega, by omega, Lib.hid ⟨Hu.out, fun _ => HRK.out.ord, fun h => by omega⟩, HLay, HOQ, HALb, HARb⟩
     case round =>
      obtain ⟨i, q, a, b, hi0, rfl, rfl, ha, hbb, HQ, HLay, HOQ, HALb, HARb⟩ := hrel
      rename World => wr
      have HGL := Lib.hid (HLay.out.lt 4 rfl)
      by_cases hil : i < st.length + 1
      ·obtain ⟨b3, o3, x, rfl, hb3, hx, hc3⟩ := (ints_of_own HOQ.out (Nat.le_refl _)).cell hil
       have HNX := Lib.hid (sum_next HTB.out Hu.out HRK.out.stops hx HQ.out.1 (HQ.out.2.1 hil))
       clear hx
       have x0_0 := (HLay.out.blk 0 rfl).cell 0
       have x0_1 := (HLay.out.blk 0 rfl).cell 1
       have l0_ := HLay.out.lt 0 rfl
       gi_wp2
       clear x0_0 x0_1 l0_
       refine ⟨trivial, (callsIn_wide.2 (toilw_any A n c A' m d t q x dk wr (by omega) (by omega) ((HT.out.below HLay.out.bel).more HLay.out.bel.size) (HL.out.below HLay.out.bel hl0))).mono ?_⟩
       rintro e W29 ⟨rfl, hb⟩
       replace HLay := Lib.hid (HLay.out.below hb)
       replace HOQ := Lib.hid (HOQ.out.below hb (Nat.le_refl _))
       replace HALb := Lib.hid (HALb.out.below (hb.mono (Nat.le_of_lt HGL.out)))
       replace HARb := Lib.hid (HARb.out.below (hb.mono (Nat.le_of_lt HGL.out)))
       replace HGL := Lib.hid (Nat.lt_of_lt_of_le HGL.out hb.size)
       clear hb
       rw [HNX.out.2.1]
       have hsm := wayT_small (dk := dk) HG.out.fine (askE_two HTB.out HQ.out.1 HNX.out.1)
       obtain ⟨⟨d1, d2⟩, hd⟩ : ∃ y, wayT t q x dk = y := ⟨_, rfl⟩
       rw [hd] at hsm HNX ⊢
       dsimp only at hsm
       clear hd
       gi_upto_region 32 with fail
       obtain ⟨V30, hV⟩ : ∃ V, (W29.alloc (.cells #[.int .i64 d1, .int .i64 d2] 34)) = V := ⟨_, rfl⟩
       rw [hV]
       have hb := fbox_bel hV
       have HD := Lib.hid (fbox_blk hV)
       replace HLay := Lib.hid (HLay.out.below hb)
       replace HOQ := Lib.hid (HOQ.out.below hb (Nat.le_refl _))
       replace HALb := Lib.hid (HALb.out.below (hb.mono (Nat.le_of_lt HGL.out)))
       replace HARb := Lib.hid (HARb.out.below (hb.mono (Nat.le_of_lt HGL.out)))
       replace HGL := Lib.hid (Nat.lt_of_lt_of_le HGL.out hb.size)
       clear hb hV
       obtain ⟨Gd, hG⟩ : ∃ g, W29.heap.size = g := ⟨_, rfl⟩
       rw [hG] at HD ⊢
       clear hG
       have wa : IntKind.i64.wrap (a + d1) = a + d1 := IntWalk.i64_in _ (by omega)
       have wb : IntKind.i64.wrap (b + d2) = b + d2 := IntWalk.i64_in _ (by omega)
       have y0 := HD.out.cell 0
       have y1 := HD.out.cell 1
       have yl := HD.out.lt
       have x4_0 := (HLay.out.blk 4 rfl).cell 0
       have x4_1 := (HLay.out.blk 4 rfl).cell 1
       have l4_ := HLay.out.lt 4 rfl
       gi_wp2
       clear x4_0 x4_1 l4_
       refine ⟨trivial, (callsIn_wide.2 (ltoil_any (a + d1) (b + d2) V30)).mono ?_⟩
       rintro e W31 ⟨rfl, hb⟩
       replace HLay := Lib.hid (HLay.out.below hb)
       replace HOQ := Lib.hid (HOQ.out.below hb (Nat.le_refl _))
       replace HALb := Lib.hid (HALb.out.below (hb.mono (Nat.le_of_lt HGL.out)))
       replace HARb := Lib.hid (HARb.out.below (hb.mono (Nat.le_of_lt HGL.out)))
       replace HGL := Lib.hid (Nat.lt_of_lt_of_le HGL.out hb.size)
       replace HD := Lib.hid (HD.out.below hb HD.out.lt)
       clear hb
       clear wa wb y0 y1 yl
       have x4_0 := (HLay.out.blk 4 rfl).cell 0
       have z4_0 := (HLay.out.blk 4 rfl).frozen 0
       have x4_1 := (HLay.out.blk 4 rfl).cell 1
       have z4_1 := (HLay.out.blk 4 rfl).frozen 1
       have l4_ := HLay.out.lt 4 rfl
       gi_wp2
       clear x4_0 z4_0 x4_1 z4_1 l4_
       have R2 := ret2' (HLay.out.blk 4 rfl) (Below.refl G25 _) (Nat.le_refl _) (.int .i64 (a + d1)) (.int .i64 (b + d2))
       go_roundw
       case rel =>
        exact ⟨i + 1, x, a + d1, b + d2, by omega, by go_num, rfl, by push_cast; omega, by push_cast; omega, Lib.hid ⟨HNX.out.1, fun h => HNX.out.2.2.1 (by omega), fun h => HNX.out.2.2.2 (by omega)⟩,
         Lib.hid (show Lay w _ [(w.heap.size, 25, #[.slice A n c, .slice A' m d]), (G13, 34, #[.int .i64 c1, .int .i64 c2]), (G16, 34, #[.int .i64 s1, .int .i64 s2]), (G19, 34, #[.int .i64 c1, .int .i64 c2]), (G25, 34, #[.int .i64 (a + d1), .int .i64 (b + d2)])] from Lay.setLast (bs := [(w.heap.size, 25, #[.slice A n c, .slice A' m d]), (G13, 34, #[.int .i64 c1, .int .i64 c2]), (G16, 34, #[.int .i64 s1, .int .i64 s2]), (G19, 34, #[.int .i64 c1, .int .i64 c2])]) (Lay.setLast (bs := [(w.heap.size, 25, #[.slice A n c, .slice A' m d]), (G13, 34, #[.int .i64 c1, .int .i64 c2]), (G16, 34, #[.int .i64 s1, .int .i64 s2]), (G19, 34, #[.int .i64 c1, .int .i64 c2])]) HLay.out HNE.out 0 (.int .i64 (a + d1))) HNE.out 1 (.int .i64 (b + d2))),
         Lib.hid (own_off HOQ.out R2.2.2 (HLay.out.blk 4 rfl) (by decide)), Lib.hid (HALb.out.below R2.2.1), Lib.hid (HARb.out.below R2.2.1)⟩
       case measure => simp [intOf]; omega
      ·have hie : i = st.length + 1 := by omega
       have hab := HQ.out.2.2 hie
       have ha1 : a = c1 := congrArg Prod.fst hab
       have hb1 : b = c2 := congrArg Prod.snd hab
       subst ha1 hb1
       clear hab
       have hte := eqToil_same a b
       have HAL := Lib.hid (HALb.out.more (Nat.le_of_lt (HLay.out.lt 4 rfl)))
       have HAR := Lib.hid (HARb.out.more (Nat.le_of_lt (HLay.out.lt 4 rfl)))
       clear HALb HARb HOQ
       gi_upto_region 36 with fail
       clear hie hil
       by_cases hlz : st.length = 0
       ·obtain rfl : st = [] := List.eq_nil_of_length_eq_zero hlz
        have hz : (a, b) = ((0, 0) : Leg) := round_nil HTB.out Hu.out HRO.out
        obtain rfl : a = 0 := congrArg Prod.fst hz
        obtain rfl : b = 0 := congrArg Prod.snd hz
        clear hz hlz
        have x1_0 := (HLay.out.blk 1 rfl).cell 0
        have x1_1 := (HLay.out.blk 1 rfl).cell 1
        have l1_ := HLay.out.lt 1 rfl
        have x4_0 := (HLay.out.blk 4 rfl).cell 0
        have x4_1 := (HLay.out.blk 4 rfl).cell 1
        have l4_ := HLay.out.lt 4 rfl
        gi_wp2
        clear x1_0 x1_1 l1_ x4_0 x4_1 l4_
        exact bodyPost_ret (v := .bool true) (by simp [results, Tryz.results6, go_sem]) rfl ⟨rfl, HLay.out.bel⟩
       ·have hln1 : 0 < st.length := by omega
        have hlb : (((st.length : Nat) : Int) == 0) = false := beq_eq_false_iff_ne.2 (by omega)
        have hmn : ¬ st.length = 0 := by omega
        have hmn2 : (st.length == 0) = false := beq_eq_false_iff_ne.2 (by omega)
        have hrm : ou % st.length < st.length := Nat.mod_lt _ hln1
        have HM : Hid (Int.tmod (ou : Int) (st.length : Int) = ((ou % st.length : Nat) : Int)) := Lib.hid (by rw [Int.tmod_eq_emod_of_nonneg (by omega)]; push_cast; rfl)
        obtain ⟨r, hrq⟩ : ∃ r, ou % st.length = r := ⟨_, rfl⟩
        rw [hrq] at HM hrm
        have HOUT := Lib.hid (HRK.out.out r hrm)
        clear hrq
        have wx : IntKind.i64.wrap (ou : Int) = (ou : Int) := IntWalk.i64_in _ (by omega)
        have htm := HM.out
        have x1_0 := (HLay.out.blk 1 rfl).cell 0
        have x1_1 := (HLay.out.blk 1 rfl).cell 1
        have l1_ := HLay.out.lt 1 rfl
        have x4_0 := (HLay.out.blk 4 rfl).cell 0
        have x4_1 := (HLay.out.blk 4 rfl).cell 1
        have l4_ := HLay.out.lt 4 rfl
        gi_upto_region 41 with fail
        clear x1_0 x1_1 l1_ x4_0 x4_1 l4_
        clear wx htm hlb hte
        obtain ⟨o2, ⟨e1, e2⟩, hrr, hrx, hle⟩ := HOUT.out
        have HRR := Lib.hid hrr
        have HRX := Lib.hid hrx
        have HLE := Lib.hid (le_lessP (show LeG (e1, e2) (a, b) from hle))
        clear hrr hrx hle
        gi_cut [33, 34, 35] from 209 (fun v33 v34 v35 wx => ∃ gz, v34 = .pointer (some ⟨gz, 0, none⟩) ∧ v35 = .int .i64 0 ∧ Hid (Below wr.heap.size wr wx ∧ wr.heap.size ≤ gz ∧ Blk wx gz 34 #[.int .i64 e1, .int .i64 e2]))
        case first =>
         as_aux_lemma =>
          obtain ⟨bL, oL, hALe, -, -⟩ := Reads.plain HAL.out (by simp only [List.length_map]; omega)
          subst hALe
          have HB0 := Lib.hid (Below.refl wr.heap.size wr)
          have HLC := Lib.hid HLay.out
          have HALc := Lib.hid HAL.out
          obtain ⟨r1, hr1⟩ : ∃ y, r + 1 = y := ⟨_, rfl⟩
          have HRN := Lib.hid hr1
          have wr1 : IntKind.i64.wrap ((r : Int) + 1) = ((r1 : Nat) : Int) := by rw [← hr1]; exact IntWalk.i64_in _ (by omega)
          have f0 : (0 : Int) ≤ (r : Int) := by omega
          have f1 : ((r : Nat) : Int) ≤ ((st.length : Nat) : Int) := by omega
          have f2 : ((r : Nat) : Int) ≤ ((cL : Nat) : Int) := by omega
          have f3 : (0 : Int) ≤ ((r1 : Nat) : Int) := by omega
          have f4 : ((r1 : Nat) : Int) ≤ ((st.length : Nat) : Int) := by omega
          have f5 : ((st.length : Nat) : Int) ≤ ((cL : Nat) : Int) := by omega
          have hrl : r ≤ st.length := by omega
          have hrl1 : r1 ≤ st.length := by omega
          clear hr1
          by_cases hrq : r1 = cL
          ·have hq1 : (((r1 : Nat) : Int) == ((cL : Nat) : Int)) = true := by simp; omega
           refine Ts.wpIn_region_tree (G := UpB wr.heap.size) (V0 := wr) [([], [true, true, false, true, true, true, false, true, true, true, true, false, true], [2, 18]), ([2], [], [6, 18]), ([2, 6], [], [11, 18]), ([2, 6, 11], [], [13, 18]), ([2, 6, 11, 13], [false, false, false, false, false, false, false, false, false, false, false, false, false, false, true, true, true, true], [18]), ([2, 6, 11, 13, 18], [false, false, false, false, false, false, false, false, false, false, false, false, false, false, false, false, false, false, false, true, false, true], []), ([2, 6, 11, 18], [], [13]), ([2, 6, 11, 18, 13], [false, false, false, false, false, false, false, false, false, false, false, false, false, false, true, true, true, true, false, true, false, true], []), ([2, 6, 18], [], [11]), ([2, 6, 18, 11], [], [13]), ([2, 6, 18, 11, 13], [false, false, false, false, false, false, false, false, false, false, false, false, false, false, true, true, true, true, false, true, false, true], []), ([2, 18], [], [6]), ([2, 18, 6], [], [11]), ([2, 18, 6, 11], [], [13]), ([2, 18, 6, 11, 13], [false, false, false, false, false, false, false, false, false, false, false, false, false, false, true, true, true, true, false, true, false, true], []), ([18], [], [2]), ([18, 2], [], [6]), ([18, 2, 6], [], [11]), ([18, 2, 6, 11], [], [13]), ([18, 2, 6, 11, 13], [false, false, false, false, false, false, false, false, false, false, false, false, false, false, true, true, true, true, false, true, false, true], [])] 6 [false, false, false, false, false, false, false, false, false, false, false, false, false, false, false, false, false, false, false, false, true] (by kernel_rfl) (by kernel_rfl) (by kernel_rfl) (below_drewN (Below.refl _ _) 1) ?_
           refine Ts.wpTree_two (A := ?AF1) rfl rfl rfl ?hq1 ?_ ?_
           case hq1 =>
            rintro σ hσ of hof hcl
            have HOF := Lib.hid hof
            have HCL := Lib.hid hcl
            clear hof hcl
            have c0_ : ∀ z, (of z).cell? ⟨w.heap.size, 0, none⟩ = some (.slice A n c) := fun z => ((HLay.out.below ((HOF.out z).2 (Nat.le_refl _))).blk 0 rfl).cell 0
            have c1_ : ∀ z, (of z).cell? ⟨w.heap.size, 1, none⟩ = some (.slice A' m d) := fun z => ((HLay.out.below ((HOF.out z).2 (Nat.le_refl _))).blk 0 rfl).cell 1
            have hfw : ∀ f, Fence.wide.fn f := fun _ => trivial
            simp only [pickB]
            repeat (gi_big_quiet_step (fail))
            refine wpQuietIn_nil ?_
            exact rfl
           ·intro W32 hW
            replace HB0 := Lib.hid (HB0.out.trans (hW.mono HB0.out.size))
            clear hW
            have hb : Below W32.heap.size W32 (W32.alloc (.cells #[] 3)) := (Below.refl W32.heap.size W32).alloc (Nat.le_refl _) (.cells #[] 3)
            have HO : Hid (Own (W32.alloc (.cells #[] 3)) wr.heap.size 3 1 (some ⟨W32.heap.size, 0, none⟩) 0 0 []) := Lib.hid (Own.mk_ HB0.out.size (Blk.new W32 _ _) (Nat.le_refl _) (Nat.zero_le _) rfl rfl (fun k hk => by omega))
            have hup : Hid (UpB wr.heap.size W32 (W32.alloc (.cells #[] 3))) := Lib.hid (UpB.of_below (hb.mono HB0.out.size))
            gi_wp2
            first | refine ⟨trivial, hup.out, ?_⟩ | refine ⟨hup.out, ?_⟩
            clear hup
            replace HB0 := Lib.hid (HB0.out.trans (hb.mono HB0.out.size))
            obtain ⟨P34, hP⟩ : ∃ P, W32.heap.size = P := ⟨_, rfl⟩
            rw [hP] at HO ⊢
            generalize (W32.alloc (.cells #[] 3)) = V33 at *
            clear hb hP
            refine Ts.wpTree_two (m := []) rfl rfl rfl Gr.Quietly.none ?_ ?_
            ·intro W35 hW
             replace HB0 := Lib.hid (HB0.out.trans (hW.mono HB0.out.size))
             replace HO := Lib.hid (HO.out.below hW (Nat.le_refl _))
             clear hW
             have HI := Lib.hid (ints_take ((HALc.out.below HB0.out).more HB0.out.size) hrl)
             gi_wp2_with (first | (gi_at_builtin; refine wpListIn_append_any rfl (.tmp 212) (.tmp 215) (by rfl) elem_int rfl HO.out rfl HI.out (ints_one _) (by unfold maxLen; omega) (by omega) HB0.out.size ?_) | fail)
             rintro A6 c6_ V36 hown hg hA
             have hb2 : Below wr.heap.size W35 V36 := below_of_grown hg (fun k hk => own_row HO.out hk) HB0.out.size
             have hup : Hid (UpB wr.heap.size W35 V36) := Lib.hid ⟨hg.size, fun _ => hb2⟩
             replace HO := Lib.hid (show Own V36 wr.heap.size 3 1 A6 r c6_ ((st.take r).map (Value.int .i64)) from by simpa using hown)
             replace HB0 := Lib.hid (HB0.out.trans hb2)
             clear hown hg hA HI hb2
             gi_wp2
             first | refine ⟨trivial, hup.out, ?_⟩ | refine ⟨hup.out, ?_⟩
             clear hup
             refine Ts.wpTree_two (m := []) rfl rfl rfl Gr.Quietly.none ?_ ?_
             ·intro W37 hW
              replace HB0 := Lib.hid (HB0.out.trans (hW.mono HB0.out.size))
              replace HO := Lib.hid (HO.out.below hW (Nat.le_refl _))
              clear hW
              gi_wp2_with (first | (gi_at_builtin; refine wpListIn_append_any rfl (.tmp 216) (.tmp 220) (by rfl) elem_int rfl HO.out rfl (ints_zero : IntsAt W37 W37.heap.size _ 0 []) (ints_one _) (by unfold maxLen; omega) (by omega) HB0.out.size ?_) | fail)
              rintro A11 c11_ V38 hown hg hA
              have hb2 : Below wr.heap.size W37 V38 := below_of_grown hg (fun k hk => own_row HO.out hk) HB0.out.size
              have hup : Hid (UpB wr.heap.size W37 V38) := Lib.hid ⟨hg.size, fun _ => hb2⟩
              replace HO := Lib.hid (show Own V38 wr.heap.size 3 1 A11 r c11_ ((st.eraseIdx r).map (Value.int .i64)) from by rw [List.eraseIdx_eq_take_drop_succ, HRN.out]; rw [List.drop_of_length_le (by omega)]; simpa using hown)
              replace HB0 := Lib.hid (HB0.out.trans hb2)
              clear hown hg hA hb2
              gi_wp2
              first | refine ⟨trivial, hup.out, ?_⟩ | refine ⟨hup.out, ?_⟩
              clear hup
              refine Ts.wpTree_two (m := []) rfl rfl rfl Gr.Quietly.none ?_ ?_
              ·intro W39 hW
               replace HB0 := Lib.hid (HB0.out.trans (hW.mono HB0.out.size))
               replace HO := Lib.hid (HO.out.below hW (Nat.le_refl _))
               clear hW
               have HLay := Lib.hid (HLC.out.below HB0.out)
               gi_wp2
               refine ⟨trivial, (callsIn_wide.2 (round_any A n c A' m d t u A11 r c11_ (st.eraseIdx r) dk W39 (by omega) (by omega) (by omega) ((HT.out.below HLay.out.bel).more HLay.out.bel.size) (ints_of_own HO.out (Nat.le_refl _)) (HL.out.below HLay.out.bel hl0))).mono ?_⟩
               rintro e V40 ⟨AE, nE, cE, rfl, hi, hb⟩
               clear hi HLay
               rw [HRR.out, HRX.out]
               have hup : Hid (UpB wr.heap.size W39 V40) := Lib.hid (UpB.of_below (hb.mono HB0.out.size))
               replace HB0 := Lib.hid (HB0.out.trans (hb.mono HB0.out.size))
               replace HO := Lib.hid (HO.out.below hb (Nat.le_refl _))
               gi_wp2
               first | refine ⟨trivial, hup.out, ?_⟩ | refine ⟨hup.out, ?_⟩
               clear hb hup
               refine Ts.wpTree_one (A := ?AF2) rfl rfl ?hq2 ?_
               case hq2 =>
                rintro σ hσ of hof hcl
                have hfw : ∀ f, Fence.wide.fn f := fun _ => trivial
                simp only [pickB]
                repeat (gi_big_quiet_step (fail))
                refine wpQuietIn_nil ?_
                exact rfl
               intro W41 hW
               replace HB0 := Lib.hid (HB0.out.trans (hW.mono HB0.out.size))
               replace HO := Lib.hid (HO.out.below hW (Nat.le_refl _))
               clear hW
               have hb : Below W41.heap.size W41 (W41.alloc (.cells #[.int .i64 0, .int .i64 0] 34)) := (Below.refl W41.heap.size W41).alloc (Nat.le_refl _) (.cells #[.int .i64 0, .int .i64 0] 34)
               have HZ := Lib.hid (Blk.new W41 34 #[.int .i64 0, .int .i64 0])
               have hgz := HB0.out.size
               have hup : Hid (UpB wr.heap.size W41 (W41.alloc (.cells #[.int .i64 0, .int .i64 0] 34))) := Lib.hid (UpB.of_below (hb.mono HB0.out.size))
               gi_wp2
               first | refine ⟨trivial, hup.out, ?_⟩ | refine ⟨hup.out, ?_⟩
               clear hup
               replace HB0 := Lib.hid (HB0.out.trans (hb.mono HB0.out.size))
               replace HO := Lib.hid (HO.out.below hb (Nat.le_refl _))
               obtain ⟨gz, hP⟩ : ∃ P, W41.heap.size = P := ⟨_, rfl⟩
               rw [hP] at HZ hgz ⊢
               generalize (W41.alloc (.cells #[.int .i64 0, .int .i64 0] 34)) = V42 at *
               clear hb hP
               refine Ts.wpTree_end (A := ?AF3) rfl ?hq3 ?_
               case hq3 =>
                rintro σ hσ of hof hcl
                have hfw : ∀ f, Fence.wide.fn f := fun _ => trivial
                simp only [pickB]
                repeat (gi_big_quiet_step (fail))
                refine wpQuietIn_nil ?_
                exact rfl
               intro W43 hW
               replace HB0 := Lib.hid (HB0.out.trans (hW.mono HB0.out.size))
               replace HO := Lib.hid (HO.out.below hW (Nat.le_refl _))
               replace HZ := Lib.hid (HZ.out.below hW HZ.out.lt)
               clear hW
               have z0 := HZ.out.cell 0
               have z1 := HZ.out.cell 1
               have y0 := HZ.out.frozen 0
               have y1 := HZ.out.frozen 1
               have zl := HZ.out.lt
               simp only [pickB]
               refine wpT_cons ?_
               gi_wp2
               refine wpT_nil ?_
               gi_wp2
               gi_meet
               have R2 := ret2' HZ.out HB0.out hgz (.int .i64 e1) (.int .i64 e2)
               exact ⟨gz, rfl, rfl, Lib.hid ⟨R2.2.1, hgz, R2.1⟩⟩
              ·intro W44 hW
               replace HB0 := Lib.hid (HB0.out.trans (hW.mono HB0.out.size))
               replace HO := Lib.hid (HO.out.below hW (Nat.le_refl _))
               clear hW
               have hb : Below W44.heap.size W44 (W44.alloc (.cells #[.int .i64 0, .int .i64 0] 34)) := (Below.refl W44.heap.size W44).alloc (Nat.le_refl _) (.cells #[.int .i64 0, .int .i64 0] 34)
               have HZ := Lib.hid (Blk.new W44 34 #[.int .i64 0, .int .i64 0])
               have hgz := HB0.out.size
               have hup : Hid (UpB wr.heap.size W44 (W44.alloc (.cells #[.int .i64 0, .int .i64 0] 34))) := Lib.hid (UpB.of_below (hb.mono HB0.out.size))
               gi_wp2
               first | refine ⟨trivial, hup.out, ?_⟩ | refine ⟨hup.out, ?_⟩
               clear hup
               replace HB0 := Lib.hid (HB0.out.trans (hb.mono HB0.out.size))
               replace HO := Lib.hid (HO.out.below hb (Nat.le_refl _))
               obtain ⟨gz, hP⟩ : ∃ P, W44.heap.size = P := ⟨_, rfl⟩
               rw [hP] at HZ hgz ⊢
               generalize (W44.alloc (.cells #[.int .i64 0, .int .i64 0] 34)) = V45 at *
               clear hb hP
               refine Ts.wpTree_one (m := []) rfl rfl Gr.Quietly.none ?_
               intro W46 hW
               replace HB0 := Lib.hid (HB0.out.trans (hW.mono HB0.out.size))
               replace HO := Lib.hid (HO.out.below hW (Nat.le_refl _))
               replace HZ := Lib.hid (HZ.out.below hW HZ.out.lt)
               clear hW
               have HLay := Lib.hid (HLC.out.below HB0.out)
               gi_wp2
               refine ⟨trivial, (callsIn_wide.2 (round_any A n c A' m d t u A11 r c11_ (st.eraseIdx r) dk W46 (by omega) (by omega) (by omega) ((HT.out.below HLay.out.bel).more HLay.out.bel.size) (ints_of_own HO.out (Nat.le_refl _)) (HL.out.below HLay.out.bel hl0))).mono ?_⟩
               rintro e V47 ⟨AE, nE, cE, rfl, hi, hb⟩
               clear hi HLay
               rw [HRR.out, HRX.out]
               have hup : Hid (UpB wr.heap.size W46 V47) := Lib.hid (UpB.of_below (hb.mono HB0.out.size))
               replace HB0 := Lib.hid (HB0.out.trans (hb.mono HB0.out.size))
               replace HO := Lib.hid (HO.out.below hb (Nat.le_refl _))
               replace HZ := Lib.hid (HZ.out.below hb HZ.out.lt)
               gi_wp2
               first | refine ⟨trivial, hup.out, ?_⟩ | refine ⟨hup.out, ?_⟩
               clear hb hup
               refine Ts.wpTree_end (A := ?AF4) rfl ?hq4 ?_
               case hq4 =>
                rintro σ hσ of hof hcl
                have hfw : ∀ f, Fence.wide.fn f := fun _ => trivial
                simp only [pickB]
                repeat (gi_big_quiet_step (fail))
                refine wpQuietIn_nil ?_
                exact rfl
               intro W48 hW
               replace HB0 := Lib.hid (HB0.out.trans (hW.mono HB0.out.size))
               replace HO := Lib.hid (HO.out.below hW (Nat.le_refl _))
               replace HZ := Lib.hid (HZ.out.below hW HZ.out.lt)
               clear hW
               have z0 := HZ.out.cell 0
               have z1 := HZ.out.cell 1
               have y0 := HZ.out.frozen 0
               have y1 := HZ.out.frozen 1
               have zl := HZ.out.lt
               simp only [pickB]
               refine wpT_cons ?_
               gi_wp2
               refine wpT_nil ?_
               gi_wp2
               gi_meet
               have R2 := ret2' HZ.out HB0.out hgz (.int .i64 e1) (.int .i64 e2)
               exact ⟨gz, rfl, rfl, Lib.hid ⟨R2.2.1, hgz, R2.1⟩⟩
             ·intro W49 hW
              replace HB0 := Lib.hid (HB0.out.trans (hW.mono HB0.out.size))
              replace HO := Lib.hid (HO.out.below hW (Nat.le_refl _))
              clear hW
              have hb : Below W49.heap.size W49 (W49.alloc (.cells #[.int .i64 0, .int .i64 0] 34)) := (Below.refl W49.heap.size W49).alloc (Nat.le_refl _) (.cells #[.int .i64 0, .int .i64 0] 34)
              have HZ := Lib.hid (Blk.new W49 34 #[.int .i64 0, .int .i64 0])
              have hgz := HB0.out.size
              have hup : Hid (UpB wr.heap.size W49 (W49.alloc (.cells #[.int .i64 0, .int .i64 0] 34))) := Lib.hid (UpB.of_below (hb.mono HB0.out.size))
              gi_wp2
              first | refine ⟨trivial, hup.out, ?_⟩ | refine ⟨hup.out, ?_⟩
              clear hup
              replace HB0 := Lib.hid (HB0.out.trans (hb.mono HB0.out.size))
              replace HO := Lib.hid (HO.out.below hb (Nat.le_refl _))
              obtain ⟨gz, hP⟩ : ∃ P, W49.heap.size = P := ⟨_, rfl⟩
              rw [hP] at HZ hgz ⊢
              generalize (W49.alloc (.cells #[.int .i64 0, .int .i64 0] 34)) = V50 at *
              clear hb hP
              refine Ts.wpTree_one (m := []) rfl rfl Gr.Quietly.none ?_
              intro W51 hW
              replace HB0 := Lib.hid (HB0.out.trans (hW.mono HB0.out.size))
              replace HO := Lib.hid (HO.out.below hW (Nat.le_refl _))
              replace HZ := Lib.hid (HZ.out.below hW HZ.out.lt)
              clear hW
              gi_wp2_with (first | (gi_at_builtin; refine wpListIn_append_any rfl (.tmp 216) (.tmp 220) (by rfl) elem_int rfl HO.out rfl (ints_zero : IntsAt W51 W51.heap.size _ 0 []) (ints_one _) (by unfold maxLen; omega) (by omega) HB0.out.size ?_) | fail)
              rintro A11 c11_ V52 hown hg hA
              have hb2 : Below wr.heap.size W51 V52 := below_of_grown hg (fun k hk => own_row HO.out hk) HB0.out.size
              have hup : Hid (UpB wr.heap.size W51 V52) := Lib.hid ⟨hg.size, fun _ => hb2⟩
              replace HZ := Lib.hid (blk_off HO.out hg HZ.out (by decide))
              replace HO := Lib.hid (show Own V52 wr.heap.size 3 1 A11 r c11_ ((st.eraseIdx r).map (Value.int .i64)) from by rw [List.eraseIdx_eq_take_drop_succ, HRN.out]; rw [List.drop_of_length_le (by omega)]; simpa using hown)
              replace HB0 := Lib.hid (HB0.out.trans hb2)
              clear hown hg hA hb2
              gi_wp2
              first | refine ⟨trivial, hup.out, ?_⟩ | refine ⟨hup.out, ?_⟩
              clear hup
              refine Ts.wpTree_one (m := []) rfl rfl Gr.Quietly.none ?_
              intro W53 hW
              replace HB0 := Lib.hid (HB0.out.trans (hW.mono HB0.out.size))
              replace HO := Lib.hid (HO.out.below hW (Nat.le_refl _))
              replace HZ := Lib.hid (HZ.out.below hW HZ.out.lt)
              clear hW
              have HLay := Lib.hid (HLC.out.below HB0.out)
              gi_wp2
              refine ⟨trivial, (callsIn_wide.2 (round_any A n c A' m d t u A11 r c11_ (st.eraseIdx r) dk W53 (by omega) (by omega) (by omega) ((HT.out.below HLay.out.bel).more HLay.out.bel.size) (ints_of_own HO.out (Nat.le_refl _)) (HL.out.below HLay.out.bel hl0))).mono ?_⟩
              rintro e V54 ⟨AE, nE, cE, rfl, hi, hb⟩
              clear hi HLay
              rw [HRR.out, HRX.out]
              have hup : Hid (UpB wr.heap.size W53 V54) := Lib.hid (UpB.of_below (hb.mono HB0.out.size))
              replace HB0 := Lib.hid (HB0.out.trans (hb.mono HB0.out.size))
              replace HO := Lib.hid (HO.out.below hb (Nat.le_refl _))
              replace HZ := Lib.hid (HZ.out.below hb HZ.out.lt)
              gi_wp2
              first | refine ⟨trivial, hup.out, ?_⟩ | refine ⟨hup.out, ?_⟩
              clear hb hup
              refine Ts.wpTree_end (A := ?AF5) rfl ?hq5 ?_
              case hq5 =>
               rintro σ hσ of hof hcl
               have hfw : ∀ f, Fence.wide.fn f := fun _ => trivial
               simp only [pickB]
               repeat (gi_big_quiet_step (fail))
               refine wpQuietIn_nil ?_
               exact rfl
              intro W55 hW
              replace HB0 := Lib.hid (HB0.out.trans (hW.mono HB0.out.size))
              replace HO := Lib.hid (HO.out.below hW (Nat.le_refl _))
              replace HZ := Lib.hid (HZ.out.below hW HZ.out.lt)
              clear hW
              have z0 := HZ.out.cell 0
              have z1 := HZ.out.cell 1
              have y0 := HZ.out.frozen 0
              have y1 := HZ.out.frozen 1
              have zl := HZ.out.lt
              simp only [pickB]
              refine wpT_cons ?_
              gi_wp2
              refine wpT_nil ?_
              gi_wp2
              gi_meet
              have R2 := ret2' HZ.out HB0.out hgz (.int .i64 e1) (.int .i64 e2)
              exact ⟨gz, rfl, rfl, Lib.hid ⟨R2.2.1, hgz, R2.1⟩⟩
            ·intro W56 hW
             replace HB0 := Lib.hid (HB0.out.trans (hW.mono HB0.out.size))
             replace HO := Lib.hid (HO.out.below hW (Nat.le_refl _))
             clear hW
             have hb : Below W56.heap.size W56 (W56.alloc (.cells #[.int .i64 0, .int .i64 0] 34)) := (Below.refl W56.heap.size W56).alloc (Nat.le_refl _) (.cells #[.int .i64 0, .int .i64 0] 34)
             have HZ := Lib.hid (Blk.new W56 34 #[.int .i64 0, .int .i64 0])
             have hgz := HB0.out.size
             have hup : Hid (UpB wr.heap.size W56 (W56.alloc (.cells #[.int .i64 0, .int .i64 0] 34))) := Lib.hid (UpB.of_below (hb.mono HB0.out.size))
             gi_wp2
             first | refine ⟨trivial, hup.out, ?_⟩ | refine ⟨hup.out, ?_⟩
             clear hup
             replace HB0 := Lib.hid (HB0.out.trans (hb.mono HB0.out.size))
             replace HO := Lib.hid (HO.out.below hb (Nat.le_refl _))
             obtain ⟨gz, hP⟩ : ∃ P, W56.heap.size = P := ⟨_, rfl⟩
             rw [hP] at HZ hgz ⊢
             generalize (W56.alloc (.cells #[.int .i64 0, .int .i64 0] 34)) = V57 at *
             clear hb hP
             refine Ts.wpTree_one (m := []) rfl rfl Gr.Quietly.none ?_
             intro W58 hW
             replace HB0 := Lib.hid (HB0.out.trans (hW.mono HB0.out.size))
             replace HO := Lib.hid (HO.out.below hW (Nat.le_refl _))
             replace HZ := Lib.hid (HZ.out.below hW HZ.out.lt)
             clear hW
             have HI := Lib.hid (ints_take ((HALc.out.below HB0.out).more HB0.out.size) hrl)
             gi_wp2_with (first | (gi_at_builtin; refine wpListIn_append_any rfl (.tmp 212) (.tmp 215) (by rfl) elem_int rfl HO.out rfl HI.out (ints_one _) (by unfold maxLen; omega) (by omega) HB0.out.size ?_) | fail)
             rintro A6 c6_ V59 hown hg hA
             have hb2 : Below wr.heap.size W58 V59 := below_of_grown hg (fun k hk => own_row HO.out hk) HB0.out.size
             have hup : Hid (UpB wr.heap.size W58 V59) := Lib.hid ⟨hg.size, fun _ => hb2⟩
             replace HZ := Lib.hid (blk_off HO.out hg HZ.out (by decide))
             replace HO := Lib.hid (show Own V59 wr.heap.size 3 1 A6 r c6_ ((st.take r).map (Value.int .i64)) from by simpa using hown)
             replace HB0 := Lib.hid (HB0.out.trans hb2)
             clear hown hg hA HI hb2
             gi_wp2
             first | refine ⟨trivial, hup.out, ?_⟩ | refine ⟨hup.out, ?_⟩
             clear hup
             refine Ts.wpTree_one (m := []) rfl rfl Gr.Quietly.none ?_
             intro W60 hW
             replace HB0 := Lib.hid (HB0.out.trans (hW.mono HB0.out.size))
             replace HO := Lib.hid (HO.out.below hW (Nat.le_refl _))
             replace HZ := Lib.hid (HZ.out.below hW HZ.out.lt)
             clear hW
             gi_wp2_with (first | (gi_at_builtin; refine wpListIn_append_any rfl (.tmp 216) (.tmp 220) (by rfl) elem_int rfl HO.out rfl (ints_zero : IntsAt W60 W60.heap.size _ 0 []) (ints_one _) (by unfold maxLen; omega) (by omega) HB0.out.size ?_) | fail)
             rintro A11 c11_ V61 hown hg hA
             have hb2 : Below wr.heap.size W60 V61 := below_of_grown hg (fun k hk => own_row HO.out hk) HB0.out.size
             have hup : Hid (UpB wr.heap.size W60 V61) := Lib.hid ⟨hg.size, fun _ => hb2⟩
             replace HZ := Lib.hid (blk_off HO.out hg HZ.out (by decide))
             replace HO := Lib.hid (show Own V61 wr.heap.size 3 1 A11 r c11_ ((st.eraseIdx r).map (Value.int .i64)) from by rw [List.eraseIdx_eq_take_drop_succ, HRN.out]; rw [List.drop_of_length_le (by omega)]; simpa using hown)
             replace HB0 := Lib.hid (HB0.out.trans hb2)
             clear hown hg hA hb2
             gi_wp2
             first | refine ⟨trivial, hup.out, ?_⟩ | refine ⟨hup.out, ?_⟩
             clear hup
             refine Ts.wpTree_one (m := []) rfl rfl Gr.Quietly.none ?_
             intro W62 hW
             replace HB0 := Lib.hid (HB0.out.trans (hW.mono HB0.out.size))
             replace HO := Lib.hid (HO.out.below hW (Nat.le_refl _))
             replace HZ := Lib.hid (HZ.out.below hW HZ.out.lt)
             clear hW
             have HLay := Lib.hid (HLC.out.below HB0.out)
             gi_wp2
             refine ⟨trivial, (callsIn_wide.2 (round_any A n c A' m d t u A11 r c11_ (st.eraseIdx r) dk W62 (by omega) (by omega) (by omega) ((HT.out.below HLay.out.bel).more HLay.out.bel.size) (ints_of_own HO.out (Nat.le_refl _)) (HL.out.below HLay.out.bel hl0))).mono ?_⟩
             rintro e V63 ⟨AE, nE, cE, rfl, hi, hb⟩
             clear hi HLay
             rw [HRR.out, HRX.out]
             have hup : Hid (UpB wr.heap.size W62 V63) := Lib.hid (UpB.of_below (hb.mono HB0.out.size))
             replace HB0 := Lib.hid (HB0.out.trans (hb.mono HB0.out.size))
             replace HO := Lib.hid (HO.out.below hb (Nat.le_refl _))
             replace HZ := Lib.hid (HZ.out.below hb HZ.out.lt)
             gi_wp2
             first | refine ⟨trivial, hup.out, ?_⟩ | refine ⟨hup.out, ?_⟩
             clear hb hup
             refine Ts.wpTree_end (A := ?AF6) rfl ?hq6 ?_
             case hq6 =>
              rintro σ hσ of hof hcl
              have hfw : ∀ f, Fence.wide.fn f := fun _ => trivial
              simp only [pickB]
              repeat (gi_big_quiet_step (fail))
              refine wpQuietIn_nil ?_
              exact rfl
             intro W64 hW
             replace HB0 := Lib.hid (HB0.out.trans (hW.mono HB0.out.size))
             replace HO := Lib.hid (HO.out.below hW (Nat.le_refl _))
             replace HZ := Lib.hid (HZ.out.below hW HZ.out.lt)
             clear hW
             have z0 := HZ.out.cell 0
             have z1 := HZ.out.cell 1
             have y0 := HZ.out.frozen 0
             have y1 := HZ.out.frozen 1
             have zl := HZ.out.lt
             simp only [pickB]
             refine wpT_cons ?_
             gi_wp2
             refine wpT_nil ?_
             gi_wp2
             gi_meet
             have R2 := ret2' HZ.out HB0.out hgz (.int .i64 e1) (.int .i64 e2)
             exact ⟨gz, rfl, rfl, Lib.hid ⟨R2.2.1, hgz, R2.1⟩⟩
           ·intro W65 hW
            replace HB0 := Lib.hid (HB0.out.trans (hW.mono HB0.out.size))
            clear hW
            have hb : Below W65.heap.size W65 (W65.alloc (.cells #[.int .i64 0, .int .i64 0] 34)) := (Below.refl W65.heap.size W65).alloc (Nat.le_refl _) (.cells #[.int .i64 0, .int .i64 0] 34)
            have HZ := Lib.hid (Blk.new W65 34 #[.int .i64 0, .int .i64 0])
            have hgz := HB0.out.size
            have hup : Hid (UpB wr.heap.size W65 (W65.alloc (.cells #[.int .i64 0, .int .i64 0] 34))) := Lib.hid (UpB.of_below (hb.mono HB0.out.size))
            gi_wp2
            first | refine ⟨trivial, hup.out, ?_⟩ | refine ⟨hup.out, ?_⟩
            clear hup
            replace HB0 := Lib.hid (HB0.out.trans (hb.mono HB0.out.size))
            obtain ⟨gz, hP⟩ : ∃ P, W65.heap.size = P := ⟨_, rfl⟩
            rw [hP] at HZ hgz ⊢
            generalize (W65.alloc (.cells #[.int .i64 0, .int .i64 0] 34)) = V66 at *
            clear hb hP
            refine Ts.wpTree_one (m := []) rfl rfl Gr.Quietly.none ?_
            intro W67 hW
            replace HB0 := Lib.hid (HB0.out.trans (hW.mono HB0.out.size))
            replace HZ := Lib.hid (HZ.out.below hW HZ.out.lt)
            clear hW
            have hb : Below W67.heap.size W67 (W67.alloc (.cells #[] 3)) := (Below.refl W67.heap.size W67).alloc (Nat.le_refl _) (.cells #[] 3)
            have HO : Hid (Own (W67.alloc (.cells #[] 3)) wr.heap.size 3 1 (some ⟨W67.heap.size, 0, none⟩) 0 0 []) := Lib.hid (Own.mk_ HB0.out.size (Blk.new W67 _ _) (Nat.le_refl _) (Nat.zero_le _) rfl rfl (fun k hk => by omega))
            have hup : Hid (UpB wr.heap.size W67 (W67.alloc (.cells #[] 3))) := Lib.hid (UpB.of_below (hb.mono HB0.out.size))
            gi_wp2
            first | refine ⟨trivial, hup.out, ?_⟩ | refine ⟨hup.out, ?_⟩
            clear hup
            replace HB0 := Lib.hid (HB0.out.trans (hb.mono HB0.out.size))
            replace HZ := Lib.hid (HZ.out.below hb HZ.out.lt)
            obtain ⟨P69, hP⟩ : ∃ P, W67.heap.size = P := ⟨_, rfl⟩
            rw [hP] at HO ⊢
            generalize (W67.alloc (.cells #[] 3)) = V68 at *
            clear hb hP
            refine Ts.wpTree_one (m := []) rfl rfl Gr.Quietly.none ?_
            intro W70 hW
            replace HB0 := Lib.hid (HB0.out.trans (hW.mono HB0.out.size))
            replace HO := Lib.hid (HO.out.below hW (Nat.le_refl _))
            replace HZ := Lib.hid (HZ.out.below hW HZ.out.lt)
            clear hW
            have HI := Lib.hid (ints_take ((HALc.out.below HB0.out).more HB0.out.size) hrl)
            gi_wp2_with (first | (gi_at_builtin; refine wpListIn_append_any rfl (.tmp 212) (.tmp 215) (by rfl) elem_int rfl HO.out rfl HI.out (ints_one _) (by unfold maxLen; omega) (by omega) HB0.out.size ?_) | fail)
            rintro A6 c6_ V71 hown hg hA
            have hb2 : Below wr.heap.size W70 V71 := below_of_grown hg (fun k hk => own_row HO.out hk) HB0.out.size
            have hup : Hid (UpB wr.heap.size W70 V71) := Lib.hid ⟨hg.size, fun _ => hb2⟩
            replace HZ := Lib.hid (blk_off HO.out hg HZ.out (by decide))
            replace HO := Lib.hid (show Own V71 wr.heap.size 3 1 A6 r c6_ ((st.take r).map (Value.int .i64)) from by simpa using hown)
            replace HB0 := Lib.hid (HB0.out.trans hb2)
            clear hown hg hA HI hb2
            gi_wp2
            first | refine ⟨trivial, hup.out, ?_⟩ | refine ⟨hup.out, ?_⟩
            clear hup
            refine Ts.wpTree_one (m := []) rfl rfl Gr.Quietly.none ?_
            intro W72 hW
            replace HB0 := Lib.hid (HB0.out.trans (hW.mono HB0.out.size))
            replace HO := Lib.hid (HO.out.below hW (Nat.le_refl _))
            replace HZ := Lib.hid (HZ.out.below hW HZ.out.lt)
            clear hW
            gi_wp2_with (first | (gi_at_builtin; refine wpListIn_append_any rfl (.tmp 216) (.tmp 220) (by rfl) elem_int rfl HO.out rfl (ints_zero : IntsAt W72 W72.heap.size _ 0 []) (ints_one _) (by unfold maxLen; omega) (by omega) HB0.out.size ?_) | fail)
            rintro A11 c11_ V73 hown hg hA
            have hb2 : Below wr.heap.size W72 V73 := below_of_grown hg (fun k hk => own_row HO.out hk) HB0.out.size
            have hup : Hid (UpB wr.heap.size W72 V73) := Lib.hid ⟨hg.size, fun _ => hb2⟩
            replace HZ := Lib.hid (blk_off HO.out hg HZ.out (by decide))
            replace HO := Lib.hid (show Own V73 wr.heap.size 3 1 A11 r c11_ ((st.eraseIdx r).map (Value.int .i64)) from by rw [List.eraseIdx_eq_take_drop_succ, HRN.out]; rw [List.drop_of_length_le (by omega)]; simpa using hown)
            replace HB0 := Lib.hid (HB0.out.trans hb2)
            clear hown hg hA hb2
            gi_wp2
            first | refine ⟨trivial, hup.out, ?_⟩ | refine ⟨hup.out, ?_⟩
            clear hup
            refine Ts.wpTree_one (m := []) rfl rfl Gr.Quietly.none ?_
            intro W74 hW
            replace HB0 := Lib.hid (HB0.out.trans (hW.mono HB0.out.size))
            replace HO := Lib.hid (HO.out.below hW (Nat.le_refl _))
            replace HZ := Lib.hid (HZ.out.below hW HZ.out.lt)
            clear hW
            have HLay := Lib.hid (HLC.out.below HB0.out)
            gi_wp2
            refine ⟨trivial, (callsIn_wide.2 (round_any A n c A' m d t u A11 r c11_ (st.eraseIdx r) dk W74 (by omega) (by omega) (by omega) ((HT.out.below HLay.out.bel).more HLay.out.bel.size) (ints_of_own HO.out (Nat.le_refl _)) (HL.out.below HLay.out.bel hl0))).mono ?_⟩
            rintro e V75 ⟨AE, nE, cE, rfl, hi, hb⟩
            clear hi HLay
            rw [HRR.out, HRX.out]
            have hup : Hid (UpB wr.heap.size W74 V75) := Lib.hid (UpB.of_below (hb.mono HB0.out.size))
            replace HB0 := Lib.hid (HB0.out.trans (hb.mono HB0.out.size))
            replace HO := Lib.hid (HO.out.below hb (Nat.le_refl _))
            replace HZ := Lib.hid (HZ.out.below hb HZ.out.lt)
            gi_wp2
            first | refine ⟨trivial, hup.out, ?_⟩ | refine ⟨hup.out, ?_⟩
            clear hb hup
            refine Ts.wpTree_end (A := ?AF7) rfl ?hq7 ?_
            case hq7 =>
             rintro σ hσ of hof hcl
             have hfw : ∀ f, Fence.wide.fn f := fun _ => trivial
             simp only [pickB]
             repeat (gi_big_quiet_step (fail))
             refine wpQuietIn_nil ?_
             exact rfl
            intro W76 hW
            replace HB0 := Lib.hid (HB0.out.trans (hW.mono HB0.out.size))
            replace HO := Lib.hid (HO.out.below hW (Nat.le_refl _))
            replace HZ := Lib.hid (HZ.out.below hW HZ.out.lt)
            clear hW
            have z0 := HZ.out.cell 0
            have z1 := HZ.out.cell 1
            have y0 := HZ.out.frozen 0
            have y1 := HZ.out.frozen 1
            have zl := HZ.out.lt
            simp only [pickB]
            refine wpT_cons ?_
            gi_wp2
            refine wpT_nil ?_
            gi_wp2
            gi_meet
            have R2 := ret2' HZ.out HB0.out hgz (.int .i64 e1) (.int .i64 e2)
            exact ⟨gz, rfl, rfl, Lib.hid ⟨R2.2.1, hgz, R2.1⟩⟩
          ·have hq1 : (((r1 : Nat) : Int) == ((cL : Nat) : Int)) = false := beq_eq_false_iff_ne.2 (by omega)
           refine Ts.wpIn_region_tree (G := UpB wr.heap.size) (V0 := wr) [([], [true, true, false, true, true, true, false, true, true, true, true, false, true], [2, 18]), ([2], [], [6, 18]), ([2, 6], [], [11, 18]), ([2, 6, 11], [], [13, 18]), ([2, 6, 11, 13], [false, false, false, false, false, false, false, false, false, false, false, false, false, false, true, true, true, true], [18]), ([2, 6, 11, 13, 18], [false, false, false, false, false, false, false, false, false, false, false, false, false, false, false, false, false, false, false, true, false, true], []), ([2, 6, 11, 18], [], [13]), ([2, 6, 11, 18, 13], [false, false, false, false, false, false, false, false, false, false, false, false, false, false, true, true, true, true, false, true, false, true], []), ([2, 6, 18], [], [11]), ([2, 6, 18, 11], [], [13]), ([2, 6, 18, 11, 13], [false, false, false, false, false, false, false, false, false, false, false, false, false, false, true, true, true, true, false, true, false, true], []), ([2, 18], [], [6]), ([2, 18, 6], [], [11]), ([2, 18, 6, 11], [], [13]), ([2, 18, 6, 11, 13], [false, false, false, false, false, false, false, false, false, false, false, false, false, false, true, true, true, true, false, true, false, true], []), ([18], [], [2]), ([18, 2], [], [6]), ([18, 2, 6], [], [11]), ([18, 2, 6, 11], [], [13]), ([18, 2, 6, 11, 13], [false, false, false, false, false, false, false, false, false, false, false, false, false, false, true, true, true, true, false, true, false, true], [])] 6 [false, false, false, false, false, false, false, false, false, false, false, false, false, false, false, false, false, false, false, false, true] (by kernel_rfl) (by kernel_rfl) (by kernel_rfl) (below_drewN (Below.refl _ _) 1) ?_
           refine Ts.wpTree_two (A := ?AF8) rfl rfl rfl ?hq8 ?_ ?_
           case hq8 =>
            rintro σ hσ of hof hcl
            have HOF := Lib.hid hof
            have HCL := Lib.hid hcl
            clear hof hcl
            have c0_ : ∀ z, (of z).cell? ⟨w.heap.size, 0, none⟩ = some (.slice A n c) := fun z => ((HLay.out.below ((HOF.out z).2 (Nat.le_refl _))).blk 0 rfl).cell 0
            have c1_ : ∀ z, (of z).cell? ⟨w.heap.size, 1, none⟩ = some (.slice A' m d) := fun z => ((HLay.out.below ((HOF.out z).2 (Nat.le_refl _))).blk 0 rfl).cell 1
            have hfw : ∀ f, Fence.wide.fn f := fun _ => trivial
            simp only [pickB]
            repeat (gi_big_quiet_step (fail))
            refine wpQuietIn_nil ?_
            exact rfl
           ·intro W77 hW
            replace HB0 := Lib.hid (HB0.out.trans (hW.mono HB0.out.size))
            clear hW
            have hb : Below W77.heap.size W77 (W77.alloc (.cells #[] 3)) := (Below.refl W77.heap.size W77).alloc (Nat.le_refl _) (.cells #[] 3)
            have HO : Hid (Own (W77.alloc (.cells #[] 3)) wr.heap.size 3 1 (some ⟨W77.heap.size, 0, none⟩) 0 0 []) := Lib.hid (Own.mk_ HB0.out.size (Blk.new W77 _ _) (Nat.le_refl _) (Nat.zero_le _) rfl rfl (fun k hk => by omega))
            have hup : Hid (UpB wr.heap.size W77 (W77.alloc (.cells #[] 3))) := Lib.hid (UpB.of_below (hb.mono HB0.out.size))
            gi_wp2
            first | refine ⟨trivial, hup.out, ?_⟩ | refine ⟨hup.out, ?_⟩
            clear hup
            replace HB0 := Lib.hid (HB0.out.trans (hb.mono HB0.out.size))
            obtain ⟨P79, hP⟩ : ∃ P, W77.heap.size = P := ⟨_, rfl⟩
            rw [hP] at HO ⊢
            generalize (W77.alloc (.cells #[] 3)) = V78 at *
            clear hb hP
            refine Ts.wpTree_two (m := []) rfl rfl rfl Gr.Quietly.none ?_ ?_
            ·intro W80 hW
             replace HB0 := Lib.hid (HB0.out.trans (hW.mono HB0.out.size))
             replace HO := Lib.hid (HO.out.below hW (Nat.le_refl _))
             clear hW
             have HI := Lib.hid (ints_take ((HALc.out.below HB0.out).more HB0.out.size) hrl)
             gi_wp2_with (first | (gi_at_builtin; refine wpListIn_append_any rfl (.tmp 212) (.tmp 215) (by rfl) elem_int rfl HO.out rfl HI.out (ints_one _) (by unfold maxLen; omega) (by omega) HB0.out.size ?_) | fail)
             rintro A6 c6_ V81 hown hg hA
             have hb2 : Below wr.heap.size W80 V81 := below_of_grown hg (fun k hk => own_row HO.out hk) HB0.out.size
             have hup : Hid (UpB wr.heap.size W80 V81) := Lib.hid ⟨hg.size, fun _ => hb2⟩
             replace HO := Lib.hid (show Own V81 wr.heap.size 3 1 A6 r c6_ ((st.take r).map (Value.int .i64)) from by simpa using hown)
             replace HB0 := Lib.hid (HB0.out.trans hb2)
             clear hown hg hA HI hb2
             gi_wp2
             first | refine ⟨trivial, hup.out, ?_⟩ | refine ⟨hup.out, ?_⟩
             clear hup
             refine Ts.wpTree_two (m := []) rfl rfl rfl Gr.Quietly.none ?_ ?_
             ·intro W82 hW
              replace HB0 := Lib.hid (HB0.out.trans (hW.mono HB0.out.size))
              replace HO := Lib.hid (HO.out.below hW (Nat.le_refl _))
              clear hW
              have HI := Lib.hid (ints_drop ((HALc.out.below HB0.out).more HB0.out.size) hrl1)
              gi_wp2_with (first | (gi_at_builtin; refine wpListIn_append_any rfl (.tmp 216) (.tmp 220) (by rfl) elem_int rfl HO.out rfl HI.out (ints_one _) (by unfold maxLen; omega) (by omega) HB0.out.size ?_) | fail)
              rintro A11 c11_ V83 hown hg hA
              have hb2 : Below wr.heap.size W82 V83 := below_of_grown hg (fun k hk => own_row HO.out hk) HB0.out.size
              have hup : Hid (UpB wr.heap.size W82 V83) := Lib.hid ⟨hg.size, fun _ => hb2⟩
              replace HO := Lib.hid (show Own V83 wr.heap.size 3 1 A11 (r + (st.length - r1)) c11_ ((st.eraseIdx r).map (Value.int .i64)) from by rw [List.eraseIdx_eq_take_drop_succ, HRN.out]; rw [List.map_append, List.map_take, List.map_drop]; exact hown)
              replace HB0 := Lib.hid (HB0.out.trans hb2)
              clear hown hg hA HI hb2
              gi_wp2
              first | refine ⟨trivial, hup.out, ?_⟩ | refine ⟨hup.out, ?_⟩
              clear hup
              refine Ts.wpTree_two (m := []) rfl rfl rfl Gr.Quietly.none ?_ ?_
              ·intro W84 hW
               replace HB0 := Lib.hid (HB0.out.trans (hW.mono HB0.out.size))
               replace HO := Lib.hid (HO.out.below hW (Nat.le_refl _))
               clear hW
               have HLay := Lib.hid (HLC.out.below HB0.out)
               gi_wp2
               refine ⟨trivial, (callsIn_wide.2 (round_any A n c A' m d t u A11 (r + (st.length - r1)) c11_ (st.eraseIdx r) dk W84 (by omega) (by omega) (by omega) ((HT.out.below HLay.out.bel).more HLay.out.bel.size) (ints_of_own HO.out (Nat.le_refl _)) (HL.out.below HLay.out.bel hl0))).mono ?_⟩
               rintro e V85 ⟨AE, nE, cE, rfl, hi, hb⟩
               clear hi HLay
               rw [HRR.out, HRX.out]
               have hup : Hid (UpB wr.heap.size W84 V85) := Lib.hid (UpB.of_below (hb.mono HB0.out.size))
               replace HB0 := Lib.hid (HB0.out.trans (hb.mono HB0.out.size))
               replace HO := Lib.hid (HO.out.below hb (Nat.le_refl _))
               gi_wp2
               first | refine ⟨trivial, hup.out, ?_⟩ | refine ⟨hup.out, ?_⟩
               clear hb hup
               refine Ts.wpTree_one (A := ?AF9) rfl rfl ?hq9 ?_
               case hq9 =>
                rintro σ hσ of hof hcl
                have hfw : ∀ f, Fence.wide.fn f := fun _ => trivial
                simp only [pickB]
                repeat (gi_big_quiet_step (fail))
                refine wpQuietIn_nil ?_
                exact rfl
               intro W86 hW
               replace HB0 := Lib.hid (HB0.out.trans (hW.mono HB0.out.size))
               replace HO := Lib.hid (HO.out.below hW (Nat.le_refl _))
               clear hW
               have hb : Below W86.heap.size W86 (W86.alloc (.cells #[.int .i64 0, .int .i64 0] 34)) := (Below.refl W86.heap.size W86).alloc (Nat.le_refl _) (.cells #[.int .i64 0, .int .i64 0] 34)
               have HZ := Lib.hid (Blk.new W86 34 #[.int .i64 0, .int .i64 0])
               have hgz := HB0.out.size
               have hup : Hid (UpB wr.heap.size W86 (W86.alloc (.cells #[.int .i64 0, .int .i64 0] 34))) := Lib.hid (UpB.of_below (hb.mono HB0.out.size))
               gi_wp2
               first | refine ⟨trivial, hup.out, ?_⟩ | refine ⟨hup.out, ?_⟩
               clear hup
               replace HB0 := Lib.hid (HB0.out.trans (hb.mono HB0.out.size))
               replace HO := Lib.hid (HO.out.below hb (Nat.le_refl _))
               obtain ⟨gz, hP⟩ : ∃ P, W86.heap.size = P := ⟨_, rfl⟩
               rw [hP] at HZ hgz ⊢
               generalize (W86.alloc (.cells #[.int .i64 0, .int .i64 0] 34)) = V87 at *
               clear hb hP
               refine Ts.wpTree_end (A := ?AF10) rfl ?hq10 ?_
               case hq10 =>
                rintro σ hσ of hof hcl
                have hfw : ∀ f, Fence.wide.fn f := fun _ => trivial
                simp only [pickB]
                repeat (gi_big_quiet_step (fail))
                refine wpQuietIn_nil ?_
                exact rfl
               intro W88 hW
               replace HB0 := Lib.hid (HB0.out.trans (hW.mono HB0.out.size))
               replace HO := Lib.hid (HO.out.below hW (Nat.le_refl _))
               replace HZ := Lib.hid (HZ.out.below hW HZ.out.lt)
               clear hW
               have z0 := HZ.out.cell 0
               have z1 := HZ.out.cell 1
               have y0 := HZ.out.frozen 0
               have y1 := HZ.out.frozen 1
               have zl := HZ.out.lt
               simp only [pickB]
               refine wpT_cons ?_
               gi_wp2
               refine wpT_nil ?_
               gi_wp2
               gi_meet
               have R2 := ret2' HZ.out HB0.out hgz (.int .i64 e1) (.int .i64 e2)
               exact ⟨gz, rfl, rfl, Lib.hid ⟨R2.2.1, hgz, R2.1⟩⟩
              ·intro W89 hW
               replace HB0 := Lib.hid (HB0.out.trans (hW.mono HB0.out.size))
               replace HO := Lib.hid (HO.out.below hW (Nat.le_refl _))
               clear hW
               have hb : Below W89.heap.size W89 (W89.alloc (.cells #[.int .i64 0, .int .i64 0] 34)) := (Below.refl W89.heap.size W89).alloc (Nat.le_refl _) (.cells #[.int .i64 0, .int .i64 0] 34)
               have HZ := Lib.hid (Blk.new W89 34 #[.int .i64 0, .int .i64 0])
               have hgz := HB0.out.size
               have hup : Hid (UpB wr.heap.size W89 (W89.alloc (.cells #[.int .i64 0, .int .i64 0] 34))) := Lib.hid (UpB.of_below (hb.mono HB0.out.size))
               gi_wp2
               first | refine ⟨trivial, hup.out, ?_⟩ | refine ⟨hup.out, ?_⟩
               clear hup
               replace HB0 := Lib.hid (HB0.out.trans (hb.mono HB0.out.size))
               replace HO := Lib.hid (HO.out.below hb (Nat.le_refl _))
               obtain ⟨gz, hP⟩ : ∃ P, W89.heap.size = P := ⟨_, rfl⟩
               rw [hP] at HZ hgz ⊢
               generalize (W89.alloc (.cells #[.int .i64 0, .int .i64 0] 34)) = V90 at *
               clear hb hP
               refine Ts.wpTree_one (m := []) rfl rfl Gr.Quietly.none ?_
               intro W91 hW
               replace HB0 := Lib.hid (HB0.out.trans (hW.mono HB0.out.size))
               replace HO := Lib.hid (HO.out.below hW (Nat.le_refl _))
               replace HZ := Lib.hid (HZ.out.below hW HZ.out.lt)
               clear hW
               have HLay := Lib.hid (HLC.out.below HB0.out)
               gi_wp2
               refine ⟨trivial, (callsIn_wide.2 (round_any A n c A' m d t u A11 (r + (st.length - r1)) c11_ (st.eraseIdx r) dk W91 (by omega) (by omega) (by omega) ((HT.out.below HLay.out.bel).more HLay.out.bel.size) (ints_of_own HO.out (Nat.le_refl _)) (HL.out.below HLay.out.bel hl0))).mono ?_⟩
               rintro e V92 ⟨AE, nE, cE, rfl, hi, hb⟩
               clear hi HLay
               rw [HRR.out, HRX.out]
               have hup : Hid (UpB wr.heap.size W91 V92) := Lib.hid (UpB.of_below (hb.mono HB0.out.size))
               replace HB0 := Lib.hid (HB0.out.trans (hb.mono HB0.out.size))
               replace HO := Lib.hid (HO.out.below hb (Nat.le_refl _))
               replace HZ := Lib.hid (HZ.out.below hb HZ.out.lt)
               gi_wp2
               first | refine ⟨trivial, hup.out, ?_⟩ | refine ⟨hup.out, ?_⟩
               clear hb hup
               refine Ts.wpTree_end (A := ?AF11) rfl ?hq11 ?_
               case hq11 =>
                rintro σ hσ of hof hcl
                have hfw : ∀ f, Fence.wide.fn f := fun _ => trivial
                simp only [pickB]
                repeat (gi_big_quiet_step (fail))
                refine wpQuietIn_nil ?_
                exact rfl
               intro W93 hW
               replace HB0 := Lib.hid (HB0.out.trans (hW.mono HB0.out.size))
               replace HO := Lib.hid (HO.out.below hW (Nat.le_refl _))
               replace HZ := Lib.hid (HZ.out.below hW HZ.out.lt)
               clear hW
               have z0 := HZ.out.cell 0
               have z1 := HZ.out.cell 1
               have y0 := HZ.out.frozen 0
               have y1 := HZ.out.frozen 1
               have zl := HZ.out.lt
               simp only [pickB]
               refine wpT_cons ?_
               gi_wp2
               refine wpT_nil ?_
               gi_wp2
               gi_meet
               have R2 := ret2' HZ.out HB0.out hgz (.int .i64 e1) (.int .i64 e2)
               exact ⟨gz, rfl, rfl, Lib.hid ⟨R2.2.1, hgz, R2.1⟩⟩
             ·intro W94 hW
              replace HB0 := Lib.hid (HB0.out.trans (hW.mono HB0.out.size))
              replace HO := Lib.hid (HO.out.below hW (Nat.le_refl _))
              clear hW
              have hb : Below W94.heap.size W94 (W94.alloc (.cells #[.int .i64 0, .int .i64 0] 34)) := (Below.refl W94.heap.size W94).alloc (Nat.le_refl _) (.cells #[.int .i64 0, .int .i64 0] 34)
              have HZ := Lib.hid (Blk.new W94 34 #[.int .i64 0, .int .i64 0])
              have hgz := HB0.out.size
              have hup : Hid (UpB wr.heap.size W94 (W94.alloc (.cells #[.int .i64 0, .int .i64 0] 34))) := Lib.hid (UpB.of_below (hb.mono HB0.out.size))
              gi_wp2
              first | refine ⟨trivial, hup.out, ?_⟩ | refine ⟨hup.out, ?_⟩
              clear hup
              replace HB0 := Lib.hid (HB0.out.trans (hb.mono HB0.out.size))
              replace HO := Lib.hid (HO.out.below hb (Nat.le_refl _))
              obtain ⟨gz, hP⟩ : ∃ P, W94.heap.size = P := ⟨_, rfl⟩
              rw [hP] at HZ hgz ⊢
              generalize (W94.alloc (.cells #[.int .i64 0, .int .i64 0] 34)) = V95 at *
              clear hb hP
              refine Ts.wpTree_one (m := []) rfl rfl Gr.Quietly.none ?_
              intro W96 hW
              replace HB0 := Lib.hid (HB0.out.trans (hW.mono HB0.out.size))
              replace HO := Lib.hid (HO.out.below hW (Nat.le_refl _))
              replace HZ := Lib.hid (HZ.out.below hW HZ.out.lt)
              clear hW
              have HI := Lib.hid (ints_drop ((HALc.out.below HB0.out).more HB0.out.size) hrl1)
              gi_wp2_with (first | (gi_at_builtin; refine wpListIn_append_any rfl (.tmp 216) (.tmp 220) (by rfl) elem_int rfl HO.out rfl HI.out (ints_one _) (by unfold maxLen; omega) (by omega) HB0.out.size ?_) | fail)
              rintro A11 c11_ V97 hown hg hA
              have hb2 : Below wr.heap.size W96 V97 := below_of_grown hg (fun k hk => own_row HO.out hk) HB0.out.size
              have hup : Hid (UpB wr.heap.size W96 V97) := Lib.hid ⟨hg.size, fun _ => hb2⟩
              replace HZ := Lib.hid (blk_off HO.out hg HZ.out (by decide))
              replace HO := Lib.hid (show Own V97 wr.heap.size 3 1 A11 (r + (st.length - r1)) c11_ ((st.eraseIdx r).map (Value.int .i64)) from by rw [List.eraseIdx_eq_take_drop_succ, HRN.out]; rw [List.map_append, List.map_take, List.map_drop]; exact hown)
              replace HB0 := Lib.hid (HB0.out.trans hb2)
              clear hown hg hA HI hb2
              gi_wp2
              first | refine ⟨trivial, hup.out, ?_⟩ | refine ⟨hup.out, ?_⟩
              clear hup
              refine Ts.wpTree_one (m := []) rfl rfl Gr.Quietly.none ?_
              intro W98 hW
              replace HB0 := Lib.hid (HB0.out.trans (hW.mono HB0.out.size))
              replace HO := Lib.hid (HO.out.below hW (Nat.le_refl _))
              replace HZ := Lib.hid (HZ.out.below hW HZ.out.lt)
              clear hW
              have HLay := Lib.hid (HLC.out.below HB0.out)
              gi_wp2
              refine ⟨trivial, (callsIn_wide.2 (round_any A n c A' m d t u A11 (r + (st.length - r1)) c11_ (st.eraseIdx r) dk W98 (by omega) (by omega) (by omega) ((HT.out.below HLay.out.bel).more HLay.out.bel.size) (ints_of_own HO.out (Nat.le_refl _)) (HL.out.below HLay.out.bel hl0))).mono ?_⟩
              rintro e V99 ⟨AE, nE, cE, rfl, hi, hb⟩
              clear hi HLay
              rw [HRR.out, HRX.out]
              have hup : Hid (UpB wr.heap.size W98 V99) := Lib.hid (UpB.of_below (hb.mono HB0.out.size))
              replace HB0 := Lib.hid (HB0.out.trans (hb.mono HB0.out.size))
              replace HO := Lib.hid (HO.out.below hb (Nat.le_refl _))
              replace HZ := Lib.hid (HZ.out.below hb HZ.out.lt)
              gi_wp2
              first | refine ⟨trivial, hup.out, ?_⟩ | refine ⟨hup.out, ?_⟩
              clear hb hup
              refine Ts.wpTree_end (A := ?AF12) rfl ?hq12 ?_
              case hq12 =>
               rintro σ hσ of hof hcl
               have hfw : ∀ f, Fence.wide.fn f := fun _ => trivial
               simp only [pickB]
               repeat (gi_big_quiet_step (fail))
               refine wpQuietIn_nil ?_
               exact rfl
              intro W100 hW
              replace HB0 := Lib.hid (HB0.out.trans (hW.mono HB0.out.size))
              replace HO := Lib.hid (HO.out.below hW (Nat.le_refl _))
              replace HZ := Lib.hid (HZ.out.below hW HZ.out.lt)
              clear hW
              have z0 := HZ.out.cell 0
              have z1 := HZ.out.cell 1
              have y0 := HZ.out.frozen 0
              have y1 := HZ.out.frozen 1
              have zl := HZ.out.lt
              simp only [pickB]
              refine wpT_cons ?_
              gi_wp2
              refine wpT_nil ?_
              gi_wp2
              gi_meet
              have R2 := ret2' HZ.out HB0.out hgz (.int .i64 e1) (.int .i64 e2)
              exact ⟨gz, rfl, rfl, Lib.hid ⟨R2.2.1, hgz, R2.1⟩⟩
            ·intro W101 hW
             replace HB0 := Lib.hid (HB0.out.trans (hW.mono HB0.out.size))
             replace HO := Lib.hid (HO.out.below hW (Nat.le_refl _))
             clear hW
             have hb : Below W101.heap.size W101 (W101.alloc (.cells #[.int .i64 0, .int .i64 0] 34)) := (Below.refl W101.heap.size W101).alloc (Nat.le_refl _) (.cells #[.int .i64 0, .int .i64 0] 34)
             have HZ := Lib.hid (Blk.new W101 34 #[.int .i64 0, .int .i64 0])
             have hgz := HB0.out.size
             have hup : Hid (UpB wr.heap.size W101 (W101.alloc (.cells #[.int .i64 0, .int .i64 0] 34))) := Lib.hid (UpB.of_below (hb.mono HB0.out.size))
             gi_wp2
             first | refine ⟨trivial, hup.out, ?_⟩ | refine ⟨hup.out, ?_⟩
             clear hup
             replace HB0 := Lib.hid (HB0.out.trans (hb.mono HB0.out.size))
             replace HO := Lib.hid (HO.out.below hb (Nat.le_refl _))
             obtain ⟨gz, hP⟩ : ∃ P, W101.heap.size = P := ⟨_, rfl⟩
             rw [hP] at HZ hgz ⊢
             generalize (W101.alloc (.cells #[.int .i64 0, .int .i64 0] 34)) = V102 at *
             clear hb hP
             refine Ts.wpTree_one (m := []) rfl rfl Gr.Quietly.none ?_
             intro W103 hW
             replace HB0 := Lib.hid (HB0.out.trans (hW.mono HB0.out.size))
             replace HO := Lib.hid (HO.out.below hW (Nat.le_refl _))
             replace HZ := Lib.hid (HZ.out.below hW HZ.out.lt)
             clear hW
             have HI := Lib.hid (ints_take ((HALc.out.below HB0.out).more HB0.out.size) hrl)
             gi_wp2_with (first | (gi_at_builtin; refine wpListIn_append_any rfl (.tmp 212) (.tmp 215) (by rfl) elem_int rfl HO.out rfl HI.out (ints_one _) (by unfold maxLen; omega) (by omega) HB0.out.size ?_) | fail)
             rintro A6 c6_ V104 hown hg hA
             have hb2 : Below wr.heap.size W103 V104 := below_of_grown hg (fun k hk => own_row HO.out hk) HB0.out.size
             have hup : Hid (UpB wr.heap.size W103 V104) := Lib.hid ⟨hg.size, fun _ => hb2⟩
             replace HZ := Lib.hid (blk_off HO.out hg HZ.out (by decide))
             replace HO := Lib.hid (show Own V104 wr.heap.size 3 1 A6 r c6_ ((st.take r).map (Value.int .i64)) from by simpa using hown)
             replace HB0 := Lib.hid (HB0.out.trans hb2)
             clear hown hg hA HI hb2
             gi_wp2
             first | refine ⟨trivial, hup.out, ?_⟩ | refine ⟨hup.out, ?_⟩
             clear hup
             refine Ts.wpTree_one (m := []) rfl rfl Gr.Quietly.none ?_
             intro W105 hW
             replace HB0 := Lib.hid (HB0.out.trans (hW.mono HB0.out.size))
             replace HO := Lib.hid (HO.out.below hW (Nat.le_refl _))
             replace HZ := Lib.hid (HZ.out.below hW HZ.out.lt)
             clear hW
             have HI := Lib.hid (ints_drop ((HALc.out.below HB0.out).more HB0.out.size) hrl1)
             gi_wp2_with (first | (gi_at_builtin; refine wpListIn_append_any rfl (.tmp 216) (.tmp 220) (by rfl) elem_int rfl HO.out rfl HI.out (ints_one _) (by unfold maxLen; omega) (by omega) HB0.out.size ?_) | fail)
             rintro A11 c11_ V106 hown hg hA
             have hb2 : Below wr.heap.size W105 V106 := below_of_grown hg (fun k hk => own_row HO.out hk) HB0.out.size
             have hup : Hid (UpB wr.heap.size W105 V106) := Lib.hid ⟨hg.size, fun _ => hb2⟩
             replace HZ := Lib.hid (blk_off HO.out hg HZ.out (by decide))
             replace HO := Lib.hid (show Own V106 wr.heap.size 3 1 A11 (r + (st.length - r1)) c11_ ((st.eraseIdx r).map (Value.int .i64)) from by rw [List.eraseIdx_eq_take_drop_succ, HRN.out]; rw [List.map_append, List.map_take, List.map_drop]; exact hown)
             replace HB0 := Lib.hid (HB0.out.trans hb2)
             clear hown hg hA HI hb2
             gi_wp2
             first | refine ⟨trivial, hup.out, ?_⟩ | refine ⟨hup.out, ?_⟩
             clear hup
             refine Ts.wpTree_one (m := []) rfl rfl Gr.Quietly.none ?_
             intro W107 hW
             replace HB0 := Lib.hid (HB0.out.trans (hW.mono HB0.out.size))
             replace HO := Lib.hid (HO.out.below hW (Nat.le_refl _))
             replace HZ := Lib.hid (HZ.out.below hW HZ.out.lt)
             clear hW
             have HLay := Lib.hid (HLC.out.below HB0.out)
             gi_wp2
             refine ⟨trivial, (callsIn_wide.2 (round_any A n c A' m d t u A11 (r + (st.length - r1)) c11_ (st.eraseIdx r) dk W107 (by omega) (by omega) (by omega) ((HT.out.below HLay.out.bel).more HLay.out.bel.size) (ints_of_own HO.out (Nat.le_refl _)) (HL.out.below HLay.out.bel hl0))).mono ?_⟩
             rintro e V108 ⟨AE, nE, cE, rfl, hi, hb⟩
             clear hi HLay
             rw [HRR.out, HRX.out]
             have hup : Hid (UpB wr.heap.size W107 V108) := Lib.hid (UpB.of_below (hb.mono HB0.out.size))
             replace HB0 := Lib.hid (HB0.out.trans (hb.mono HB0.out.size))
             replace HO := Lib.hid (HO.out.below hb (Nat.le_refl _))
             replace HZ := Lib.hid (HZ.out.below hb HZ.out.lt)
             gi_wp2
             first | refine ⟨trivial, hup.out, ?_⟩ | refine ⟨hup.out, ?_⟩
             clear hb hup
             refine Ts.wpTree_end (A := ?AF13) rfl ?hq13 ?_
             case hq13 =>
              rintro σ hσ of hof hcl
              have hfw : ∀ f, Fence.wide.fn f := fun _ => trivial
              simp only [pickB]
              repeat (gi_big_quiet_step (fail))
              refine wpQuietIn_nil ?_
              exact rfl
             intro W109 hW
             replace HB0 := Lib.hid (HB0.out.trans (hW.mono HB0.out.size))
             replace HO := Lib.hid (HO.out.below hW (Nat.le_refl _))
             replace HZ := Lib.hid (HZ.out.below hW HZ.out.lt)
             clear hW
             have z0 := HZ.out.cell 0
             have z1 := HZ.out.cell 1
             have y0 := HZ.out.frozen 0
             have y1 := HZ.out.frozen 1
             have zl := HZ.out.lt
             simp only [pickB]
             refine wpT_cons ?_
             gi_wp2
             refine wpT_nil ?_
             gi_wp2
             gi_meet
             have R2 := ret2' HZ.out HB0.out hgz (.int .i64 e1) (.int .i64 e2)
             exact ⟨gz, rfl, rfl, Lib.hid ⟨R2.2.1, hgz, R2.1⟩⟩
           ·intro W110 hW
            replace HB0 := Lib.hid (HB0.out.trans (hW.mono HB0.out.size))
            clear hW
            have hb : Below W110.heap.size W110 (W110.alloc (.cells #[.int .i64 0, .int .i64 0] 34)) := (Below.refl W110.heap.size W110).alloc (Nat.le_refl _) (.cells #[.int .i64 0, .int .i64 0] 34)
            have HZ := Lib.hid (Blk.new W110 34 #[.int .i64 0, .int .i64 0])
            have hgz := HB0.out.size
            have hup : Hid (UpB wr.heap.size W110 (W110.alloc (.cells #[.int .i64 0, .int .i64 0] 34))) := Lib.hid (UpB.of_below (hb.mono HB0.out.size))
            gi_wp2
            first | refine ⟨trivial, hup.out, ?_⟩ | refine ⟨hup.out, ?_⟩
            clear hup
            replace HB0 := Lib.hid (HB0.out.trans (hb.mono HB0.out.size))
            obtain ⟨gz, hP⟩ : ∃ P, W110.heap.size = P := ⟨_, rfl⟩
            rw [hP] at HZ hgz ⊢
            generalize (W110.alloc (.cells #[.int .i64 0, .int .i64 0] 34)) = V111 at *
            clear hb hP
            refine Ts.wpTree_one (m := []) rfl rfl Gr.Quietly.none ?_
            intro W112 hW
            replace HB0 := Lib.hid (HB0.out.trans (hW.mono HB0.out.size))
            replace HZ := Lib.hid (HZ.out.below hW HZ.out.lt)
            clear hW
            have hb : Below W112.heap.size W112 (W112.alloc (.cells #[] 3)) := (Below.refl W112.heap.size W112).alloc (Nat.le_refl _) (.cells #[] 3)
            have HO : Hid (Own (W112.alloc (.cells #[] 3)) wr.heap.size 3 1 (some ⟨W112.heap.size, 0, none⟩) 0 0 []) := Lib.hid (Own.mk_ HB0.out.size (Blk.new W112 _ _) (Nat.le_refl _) (Nat.zero_le _) rfl rfl (fun k hk => by omega))
            have hup : Hid (UpB wr.heap.size W112 (W112.alloc (.cells #[] 3))) := Lib.hid (UpB.of_below (hb.mono HB0.out.size))
            gi_wp2
            first | refine ⟨trivial, hup.out, ?_⟩ | refine ⟨hup.out, ?_⟩
            clear hup
            replace HB0 := Lib.hid (HB0.out.trans (hb.mono HB0.out.size))
            replace HZ := Lib.hid (HZ.out.below hb HZ.out.lt)
            obtain ⟨P114, hP⟩ : ∃ P, W112.heap.size = P := ⟨_, rfl⟩
            rw [hP] at HO ⊢
            generalize (W112.alloc (.cells #[] 3)) = V113 at *
            clear hb hP
            refine Ts.wpTree_one (m := []) rfl rfl Gr.Quietly.none ?_
            intro W115 hW
            replace HB0 := Lib.hid (HB0.out.trans (hW.mono HB0.out.size))
            replace HO := Lib.hid (HO.out.below hW (Nat.le_refl _))
            replace HZ := Lib.hid (HZ.out.below hW HZ.out.lt)
            clear hW
            have HI := Lib.hid (ints_take ((HALc.out.below HB0.out).more HB0.out.size) hrl)
            gi_wp2_with (first | (gi_at_builtin; refine wpListIn_append_any rfl (.tmp 212) (.tmp 215) (by rfl) elem_int rfl HO.out rfl HI.out (ints_one _) (by unfold maxLen; omega) (by omega) HB0.out.size ?_) | fail)
            rintro A6 c6_ V116 hown hg hA
            have hb2 : Below wr.heap.size W115 V116 := below_of_grown hg (fun k hk => own_row HO.out hk) HB0.out.size
            have hup : Hid (UpB wr.heap.size W115 V116) := Lib.hid ⟨hg.size, fun _ => hb2⟩
            replace HZ := Lib.hid (blk_off HO.out hg HZ.out (by decide))
            replace HO := Lib.hid (show Own V116 wr.heap.size 3 1 A6 r c6_ ((st.take r).map (Value.int .i64)) from by simpa using hown)
            replace HB0 := Lib.hid (HB0.out.trans hb2)
            clear hown hg hA HI hb2
            gi_wp2
            first | refine ⟨trivial, hup.out, ?_⟩ | refine ⟨hup.out, ?_⟩
            clear hup
            refine Ts.wpTree_one (m := []) rfl rfl Gr.Quietly.none ?_
            intro W117 hW
            replace HB0 := Lib.hid (HB0.out.trans (hW.mono HB0.out.size))
            replace HO := Lib.hid (HO.out.below hW (Nat.le_refl _))
            replace HZ := Lib.hid (HZ.out.below hW HZ.out.lt)
            clear hW
            have HI := Lib.hid (ints_drop ((HALc.out.below HB0.out).more HB0.out.size) hrl1)
            gi_wp2_with (first | (gi_at_builtin; refine wpListIn_append_any rfl (.tmp 216) (.tmp 220) (by rfl) elem_int rfl HO.out rfl HI.out (ints_one _) (by unfold maxLen; omega) (by omega) HB0.out.size ?_) | fail)
            rintro A11 c11_ V118 hown hg hA
            have hb2 : Below wr.heap.size W117 V118 := below_of_grown hg (fun k hk => own_row HO.out hk) HB0.out.size
            have hup : Hid (UpB wr.heap.size W117 V118) := Lib.hid ⟨hg.size, fun _ => hb2⟩
            replace HZ := Lib.hid (blk_off HO.out hg HZ.out (by decide))
            replace HO := Lib.hid (show Own V118 wr.heap.size 3 1 A11 (r + (st.length - r1)) c11_ ((st.eraseIdx r).map (Value.int .i64)) from by rw [List.eraseIdx_eq_take_drop_succ, HRN.out]; rw [List.map_append, List.map_take, List.map_drop]; exact hown)
            replace HB0 := Lib.hid (HB0.out.trans hb2)
            clear hown hg hA HI hb2
            gi_wp2
            first | refine ⟨trivial, hup.out, ?_⟩ | refine ⟨hup.out, ?_⟩
            clear hup
            refine Ts.wpTree_one (m := []) rfl rfl Gr.Quietly.none ?_
            intro W119 hW
            replace HB0 := Lib.hid (HB0.out.trans (hW.mono HB0.out.size))
            replace HO := Lib.hid (HO.out.below hW (Nat.le_refl _))
            replace HZ := Lib.hid (HZ.out.below hW HZ.out.lt)
            clear hW
            have HLay := Lib.hid (HLC.out.below HB0.out)
            gi_wp2
            refine ⟨trivial, (callsIn_wide.2 (round_any A n c A' m d t u A11 (r + (st.length - r1)) c11_ (st.eraseIdx r) dk W119 (by omega) (by omega) (by omega) ((HT.out.below HLay.out.bel).more HLay.out.bel.size) (ints_of_own HO.out (Nat.le_refl _)) (HL.out.below HLay.out.bel hl0))).mono ?_⟩
            rintro e V120 ⟨AE, nE, cE, rfl, hi, hb⟩
            clear hi HLay
            rw [HRR.out, HRX.out]
            have hup : Hid (UpB wr.heap.size W119 V120) := Lib.hid (UpB.of_below (hb.mono HB0.out.size))
            replace HB0 := Lib.hid (HB0.out.trans (hb.mono HB0.out.size))
            replace HO := Lib.hid (HO.out.below hb (Nat.le_refl _))
            replace HZ := Lib.hid (HZ.out.below hb HZ.out.lt)
            gi_wp2
            first | refine ⟨trivial, hup.out, ?_⟩ | refine ⟨hup.out, ?_⟩
            clear hb hup
            refine Ts.wpTree_end (A := ?AF14) rfl ?hq14 ?_
            case hq14 =>
             rintro σ hσ of hof hcl
             have hfw : ∀ f, Fence.wide.fn f := fun _ => trivial
             simp only [pickB]
             repeat (gi_big_quiet_step (fail))
             refine wpQuietIn_nil ?_
             exact rfl
            intro W121 hW
            replace HB0 := Lib.hid (HB0.out.trans (hW.mono HB0.out.size))
            replace HO := Lib.hid (HO.out.below hW (Nat.le_refl _))
            replace HZ := Lib.hid (HZ.out.below hW HZ.out.lt)
            clear hW
            have z0 := HZ.out.cell 0
            have z1 := HZ.out.cell 1
            have y0 := HZ.out.frozen 0
            have y1 := HZ.out.frozen 1
            have zl := HZ.out.lt
            simp only [pickB]
            refine wpT_cons ?_
            gi_wp2
            refine wpT_nil ?_
            gi_wp2
            gi_meet
            have R2 := ret2' HZ.out HB0.out hgz (.int .i64 e1) (.int .i64 e2)
            exact ⟨gz, rfl, rfl, Lib.hid ⟨R2.2.1, hgz, R2.1⟩⟩
        case rest =>
         obtain ⟨gz, rfl, rfl, HCC⟩ := hcut
         rename World => C9
         have hb := HCC.out.1
         have hn1 := HCC.out.2.2
         have hg1 := Nat.le_trans HLay.out.bel.size HCC.out.2.1
         replace HLay := Lib.hid (HLay.out.below hb)
         replace HAL := Lib.hid ((HAL.out.below hb).more hb.size)
         replace HAR := Lib.hid ((HAR.out.below hb).more hb.size)
         replace HLay := Lib.hid (HLay.out.add hg1 hn1)
         clear hb hn1 hg1 HCC
         have x1_0 := (HLay.out.blk 1 rfl).cell 0
         have x1_1 := (HLay.out.blk 1 rfl).cell 1
         have l1_ := HLay.out.lt 1 rfl
         have x5_0 := (HLay.out.blk 5 rfl).cell 0
         have x5_1 := (HLay.out.blk 5 rfl).cell 1
         have l5_ := HLay.out.lt 5 rfl
         gi_wp2
         clear x1_0 x1_1 l1_ x5_0 x5_1 l5_
         refine ⟨trivial, (callsIn_wide.2 (lessToil_any a b e1 e2 C9)).mono ?_⟩
         rintro e W122 ⟨rfl, hb⟩
         replace HLay := Lib.hid (HLay.out.below hb)
         replace HAL := Lib.hid ((HAL.out.below hb).more hb.size)
         replace HAR := Lib.hid ((HAR.out.below hb).more hb.size)
         clear hb
         rw [HLE.out]
         gi_wp2
         exact bodyPost_ret (v := .bool true) (by simp [results, Tryz.results6, go_sem]) rfl ⟨rfl, HLay.out.bel⟩
theorem zround_walk (A : Option Addr) (n c : Nat) (A' : Option Addr) (m d : Nat) (t : Town) (ba : Nat) (by_A : Option Addr) (by_n by_c : Nat) (by_ : List Nat) (dk : Bool) (ou : Nat) (w : World) (hn : n ≤ maxLen) (hm : m ≤ maxLen) (hba : ba ≤ 255) (hby_ : by_n ≤ maxLen) (hou : ou ≤ 255) (ht : TownAt w w.heap.size A n A' m t) (rby_ : BytesAt w w.heap.size by_A by_n by_) (hL : Laid w) :
  Calls Tryz.prog 6 #[.agg #[.slice A n c, .slice A' m d], .int .u8 ba, .slice by_A by_n by_c, .bool dk, .int .u8 ou] w fun e w' => e = .returned (.bool true) ∧ Below w.heap.size w w' :=
 callsIn_wide.1 (zround_walk_in A n c A' m d t ba by_A by_n by_c by_ dk ou w hn hm hba hby_ hou ht rby_ hL)
end Go.Proofs.YtahkjagjcogeiaaGreatDoor
/- The table of checks as the row lists it: its three cells. The door's own heap meets the condition. -/
namespace Go.Proofs.YtahkjagjcogeiaaGreatDoor
open Go.ChangeShapes Go.WideShapes Go.ChangeAt Go.RowKit
set_option maxRecDepth 100000

def laidL : List (String × DataW Unit) := [("aguador/climb.checks", Rows.laid_aguador_climb_checks)]
theorem gChecks : Tryz.prog.globalNamed "aguador/climb.checks" = some 0 := by kernel_rfl
theorem tChecks : (Tryz.prog.globals[0]?).map (·.type) = some 163 := by kernel_rfl
theorem cellsCheck : Tryz.prog.cellsOf 162 = 1 := by kernel_rfl
theorem cellsFuncB : Tryz.prog.cellsOf 28 = 1 := by kernel_rfl
theorem checkUnd : ∃ f, Tryz.prog.underlying 162 = some (.struct #[f]) ∧ f.type = 28 ∧ f.offset = 0 := ⟨_, Tryz.underlying162, rfl, rfl⟩

/-- The door's own heap meets the condition. -/
theorem door_met (os : Os) (args : Array Value) : laidMetH Tryz.prog laidL ((World.doorLaid Tryz.prog 800 os).forCall (fun _ _ => 0) ⟨#[], args, []⟩).memory :=
 laidMetH_of_parts3 (fuel := 8) (laidMet_of_run' 8 (by kernel_rfl) (by kernel_rfl)) (by kernel_rfl) (by kernel_rfl)

theorem check_cell {W : World} {fuel : Nat} {cs : List Value} {b : UInt8} {r : List UInt8} {q : List MemPlace} {f0 : FuncId} (h : DataW.trod (funcToken Tryz.prog) Tryz.prog W 0 (fun _ => true) true fuel 162 cs = some (.agg [.held (b :: r)], q))
  (hone : ((List.range Tryz.prog.funcs.size).filter fun f => (Tryz.prog.funcs[f]?).any (·.name.toUTF8.data.toList == b :: r)) = [f0]) : cs = [.func (.func f0) #[] #[]] := by
 obtain ⟨f, hu, ht, ho⟩ := checkUnd
 obtain ⟨y0, n, hx, hl, h0⟩ := trod_struct1 hu h
 rw [cellsCheck] at hl
 match cs, hl with
 | [c], _ =>
  have h1 : DataW.trod (funcToken Tryz.prog) Tryz.prog W 0 (fun _ => true) true n 28 [c] = some y0 := by simpa [ht, ho, cellsFuncB] using h0
  simp only [Prod.mk.injEq, DataW.agg.injEq, List.cons.injEq, and_true] at hx
  obtain ⟨z, p⟩ := y0
  obtain ⟨e1, e2⟩ := hx
  simp only at e1
  subst e1
  rw [func_of_trod Tryz.underlying28 hone h1]

theorem of_laid {W : World} (h : laidMetH Tryz.prog laidL W) : Laid W := by
 obtain ⟨g, t, cs, fuel, p, hg, ht, hv, hd⟩ := h.funcs (List.mem_singleton.2 rfl)
 obtain rfl := Option.some.inj (gChecks.symm.trans hg)
 obtain rfl := Option.some.inj (tChecks.symm.trans ht)
 obtain ⟨xs, m, _, hx, hlen, hn, hel⟩ := DataW.trod_array Tryz.underlying163 hd
 rw [cellsCheck] at hel
 match xs, hn with
 | [x0, x1, x2], _ =>
  have h0 := hel 0 (by decide)
  have h1 := hel 1 (by decide)
  have h2 := hel 2 (by decide)
  simp only [Prod.mk.injEq] at hx
  have hx1 := hx.1
  simp only [DataW.funcsOut, DataW.funcsOutAll, List.map_cons, List.map_nil, DataW.agg.injEq, List.cons.injEq, and_true] at hx1
  obtain ⟨e0, e1, e2⟩ := hx1
  obtain ⟨x0, p0⟩ := x0
  obtain ⟨x1, p1⟩ := x1
  obtain ⟨x2, p2⟩ := x2
  simp only at e0 e1 e2
  subst e0 e1 e2
  have k0 := check_cell (f0 := 174) h0 (by kernel_rfl)
  have k1 := check_cell (f0 := 175) h1 (by kernel_rfl)
  have k2 := check_cell (f0 := 176) h2 (by kernel_rfl)
  have at_ : ∀ i, W.cell? ⟨0, i, none⟩ = cs[i]? := fun i => by simpa using World.var?_cell hg hv i
  obtain ⟨l⟩ := cs
  have c0 : W.cell? ⟨0, 0, none⟩ = some (.func (.func 174) #[] #[]) := by
   rw [at_]
   have := congrArg (·[0]?) k0
   simpa [List.getElem?_take, List.getElem?_drop] using this
  have c1 : W.cell? ⟨0, 1, none⟩ = some (.func (.func 175) #[] #[]) := by
   rw [at_]
   have := congrArg (·[0]?) k1
   simpa [List.getElem?_take, List.getElem?_drop] using this
  have c2 : W.cell? ⟨0, 2, none⟩ = some (.func (.func 176) #[] #[]) := by
   rw [at_]
   have := congrArg (·[0]?) k2
   simpa [List.getElem?_take, List.getElem?_drop] using this
  exact ⟨c0, c1, c2, World.block_lt_of_cell? W _ c0⟩

end Go.Proofs.YtahkjagjcogeiaaGreatDoor
/- The laws' arguments, opened: lists of whole numbers, lists of links, towns, a link; the table of checks. -/
namespace Go.Proofs.YtahkjagjcogeiaaGreatDoor
open Go.ChangeShapes Go.WideShapes Go.RowKit Go.Deep Go.Joins
set_option maxRecDepth 100000

section
variable {H : Type} {enc : TypeId × Value → H} {P : Program} {w : World} {base : Nat} {spare : Nat → Bool} {held : Bool}
end

section
variable {H : Type} {enc : TypeId × Value → H} {w : World}

theorem linkUnd : ∃ f0 f1 f2 f3 f4, Tryz.prog.underlying 52 = some (.struct #[f0, f1, f2, f3, f4]) ∧ oneCellFields Tryz.prog #[f0, f1, f2, f3, f4] = true ∧ f0.type = 3 ∧ f1.type = 3 ∧ f2.type = 3 ∧ f3.type = 3 ∧ f4.type = 3 ∧ f0.offset = 0 ∧ f1.offset = 1 ∧ f2.offset = 2 ∧ f3.offset = 3 ∧ f4.offset = 4 :=
 ⟨_, _, _, _, _, Tryz.underlying52, by kernel_rfl, rfl, rfl, rfl, rfl, rfl, rfl, rfl, rfl, rfl, rfl⟩
theorem cellsLink : Tryz.prog.cellsOf 52 = 5 := by kernel_rfl
theorem cellsInt1 : Tryz.prog.cellsOf 3 = 1 := by kernel_rfl
theorem cellsTown2 : Tryz.prog.cellsOf 25 = 2 := by kernel_rfl

/-- A list of whole numbers. -/
theorem ints_open {v : Value} {fuel : Nat} {x : DataW H × List MemPlace} (h : DataW.trod enc Tryz.prog w 0 (fun _ => true) true fuel 22 [v] = some x) :
  ∃ A n c l, v = .slice A n c ∧ n ≤ c ∧ n ≤ maxLen ∧ c ≤ maxLen ∧ IntsAt w w.heap.size A n l := by
 rcases open_slice1 Tryz.underlying22 cellsInt1 h with ⟨e, _⟩ | ⟨a, len, cap, m, k, V, D, Pl, e, _, hl, hm, hmm, _, hx⟩
 ·simp only [List.cons.injEq, and_true] at e
  exact ⟨none, 0, 0, [], e, Nat.le_refl _, Nat.zero_le _, Nat.zero_le _, Reads.none_⟩
 ·simp only [List.cons.injEq, and_true] at e
  have hmc : m = cap := by simpa using hmm
  subst hmc
  have hn : ∀ i, i < m → ∃ z : Int, V i = .int .i64 z := fun i hi => by
   obtain ⟨z, f0, _, _⟩ := DataW.trod_int Tryz.underlying3 (hx i hi).2
   simp only [List.cons.injEq, and_true] at f0
   exact ⟨z, f0⟩
  obtain ⟨Z, hZ⟩ := choose_lt hn
  refine ⟨some a, len, m, (List.range len).map Z, e, hl, by omega, hm, by simp, fun h0 => ⟨a, rfl, ?_, fun j u hu => ?_⟩⟩
  ·have := World.block_lt_of_cell? w _ (hx 0 (by omega)).1
   rwa [block_of_add] at this
  ·simp only [List.getElem?_map, Option.map_map] at hu
   have hj : j < len := by
    rcases Nat.lt_or_ge j len with h' | h'
    ·exact h'
    ·rw [List.getElem?_eq_none (by simpa using h')] at hu; cases hu
   rw [List.getElem?_range hj] at hu
   simp only [Option.map_some, Option.some.injEq, Function.comp] at hu
   rw [(hx j (by omega)).1, hZ j (by omega), ← hu]

/-- A link's five cells. -/
theorem link_cells {fuel : Nat} {cs : List Value} {x : DataW H × List MemPlace} (h : DataW.trod enc Tryz.prog w 0 (fun _ => true) true fuel 52 cs = some x) (hl : cs.length = 5) : ∃ l : Link, cs = l.vals := by
 obtain ⟨f0, f1, f2, f3, f4, hu, hone, t0, t1, t2, t3, t4, z0, z1, z2, z3, z4⟩ := linkUnd
 obtain ⟨xs, n, _, _, _, hlen, hg⟩ := DataW.trod_struct hu h
 match cs, hl, xs, hlen with
 | [c0, c1, c2, c3, c4], _, [y0, y1, y2, y3, y4], _ =>
  have h0 : DataW.trod enc Tryz.prog w 0 (fun _ => true) true n 3 [c0] = some y0 := by simpa [t0, z0, cellsInt1] using hg 0 f0 rfl
  have h1 : DataW.trod enc Tryz.prog w 0 (fun _ => true) true n 3 [c1] = some y1 := by simpa [t1, z1, cellsInt1] using hg 1 f1 rfl
  have h2 : DataW.trod enc Tryz.prog w 0 (fun _ => true) true n 3 [c2] = some y2 := by simpa [t2, z2, cellsInt1] using hg 2 f2 rfl
  have h3 : DataW.trod enc Tryz.prog w 0 (fun _ => true) true n 3 [c3] = some y3 := by simpa [t3, z3, cellsInt1] using hg 3 f3 rfl
  have h4 : DataW.trod enc Tryz.prog w 0 (fun _ => true) true n 3 [c4] = some y4 := by simpa [t4, z4, cellsInt1] using hg 4 f4 rfl
  obtain ⟨n0, e0, _, _⟩ := DataW.trod_int Tryz.underlying3 h0
  obtain ⟨n1, e1, _, _⟩ := DataW.trod_int Tryz.underlying3 h1
  obtain ⟨n2, e2, _, _⟩ := DataW.trod_int Tryz.underlying3 h2
  obtain ⟨n3, e3, _, _⟩ := DataW.trod_int Tryz.underlying3 h3
  obtain ⟨n4, e4, _, _⟩ := DataW.trod_int Tryz.underlying3 h4
  simp only [List.cons.injEq, and_true] at e0 e1 e2 e3 e4
  subst e0 e1 e2 e3 e4
  exact ⟨⟨n0, n1, n2, n3, n4⟩, rfl⟩

/-- A list of links. -/
theorem links_open {v : Value} {fuel : Nat} {x : DataW H × List MemPlace} (h : DataW.trod enc Tryz.prog w 0 (fun _ => true) true fuel 23 [v] = some x) :
  ∃ A n c l, v = .slice A n c ∧ n ≤ c ∧ n ≤ maxLen ∧ c ≤ maxLen ∧ LinksAt w w.heap.size A n l := by
 rcases open_slice Tryz.underlying23 h with ⟨e, _⟩ | ⟨a, len, cap, m, k, D, Pl, e, _, hl, hm, hmm, _, hx⟩
 ·simp only [List.cons.injEq, and_true] at e
  exact ⟨none, 0, 0, [], e, Nat.le_refl _, Nat.zero_le _, Nat.zero_le _, Reads.none_⟩
 ·simp only [List.cons.injEq, and_true] at e
  have hmc : m = cap := by simpa using hmm
  subst hmc
  have hn : ∀ i, i < m → ∃ z : Link, ∀ j, j < 5 → w.cell? (a.add (i * 5 + j)) = z.vals[j]? := fun i hi => by
   obtain ⟨cs', h1, h2⟩ := hx i hi
   rw [cellsLink] at h1
   obtain ⟨_, hcl, hat⟩ := World.cells?_some h1
   obtain ⟨z, rfl⟩ := link_cells h2 hcl
   exact ⟨z, fun j hj => by rw [← Go.Deep.add_add, hat j hj]⟩
  letI : Inhabited Link := ⟨⟨0, 0, 0, 0, 0⟩⟩
  obtain ⟨Z, hZ⟩ := choose_lt hn
  refine ⟨some a, len, m, (List.range len).map Z, e, hl, by omega, hm, by rw [flat_len]; simp, fun h0 => ⟨a, rfl, ?_, fun j u hu => ?_⟩⟩
  ·have := World.block_lt_of_cell? w _ (hZ 0 (by omega) 0 (by omega))
   rwa [block_of_add] at this
  ·have hj : j < len * 5 := by
    rcases Nat.lt_or_ge j (len * 5) with h' | h'
    ·exact h'
    ·rw [List.getElem?_eq_none (by rw [flat_len]; simpa using h')] at hu; cases hu
   have hz := hZ (j / 5) (by omega) (j % 5) (by omega)
   have ha : ((List.range len).map Z)[j / 5]? = some (Z (j / 5)) := by rw [List.getElem?_map, List.getElem?_range (by omega)]; rfl
   have hf := flat_at ha (show j % 5 < 5 by omega)
   rw [show j / 5 * 5 + j % 5 = j by omega] at hf hz
   rw [hz, ← hf, hu]

/-- A town, by value. -/
theorem town_open {r : Reach} {b0 : Nat} {v : Value} {d : DataW H} {p : List MemPlace} (hv : Value.okWide Tryz.prog w r b0 25 v) (h : DataW.Trod enc Tryz.prog w 0 (fun _ => true) true 25 v d p) :
  ∃ A n c A' m d' t, v = .agg #[.slice A n c, .slice A' m d'] ∧ n ≤ maxLen ∧ m ≤ maxLen ∧ n ≤ c ∧ m ≤ d' ∧ TownAt w w.heap.size A n A' m t := by
 obtain ⟨v0, v1, y0, y1, k, rfl, _, _, h0, h1⟩ := open_agg2 Tryz.underlying25 (by kernel_rfl) cellsTown2 hv h
 obtain ⟨A, n, c, l, rfl, hn, hx, _, hr⟩ := ints_open h0
 obtain ⟨A', m, d', l', rfl, hm, hx', _, hr'⟩ := links_open h1
 exact ⟨A, n, c, A', m, d', ⟨l, l'⟩, rfl, hx, hx', hn, hm, ⟨hr, hr'⟩⟩
end

end Go.Proofs.YtahkjagjcogeiaaGreatDoor
/- The laws' arguments, opened: skins and gaits. What every row's proof wants. -/
namespace Go.Proofs.YtahkjagjcogeiaaGreatDoor
open Go.ChangeShapes Go.WideShapes Go.RowKit Go.Deep Go.Joins
set_option maxRecDepth 100000
theorem ownT' : ownKnob Tryz.prog.godebug = none := by kernel_rfl
theorem laidOutT' : laidOutB Tryz.prog = true := by kernel_rfl
section
variable {H : Type} {enc : TypeId × Value → H} {w : World}
end
end Go.Proofs.YtahkjagjcogeiaaGreatDoor
/- A law's arguments opened: bytes, and lists of bytes. -/
namespace Go.Proofs.YtahkjagjcogeiaaGreatDoor
open Go.ChangeShapes Go.WideShapes Go.RowKit Go.Deep Go.Joins
set_option maxRecDepth 100000
section
variable {H : Type} {enc : TypeId × Value → H} {w : World}
theorem u8_wf {z : Int} (h : (Lit.int .u8 z).wf = true) : 0 ≤ z ∧ z ≤ 255 := by
 simp [Lit.wf] at h
 have h1 : IntKind.u8.min = 0 := rfl
 have h2 : IntKind.u8.max = 255 := rfl
 omega
theorem u8_open {v : Value} {d : DataW H} {p : List MemPlace} (h : DataW.Trod enc Tryz.prog w 0 (fun _ => true) true 5 v d p) (hv : ∃ z : Int, v = .int .u8 z) : ∃ x : Nat, v = .int .u8 (x : Nat) ∧ x ≤ 255 := by
 obtain ⟨z, rfl⟩ := hv
 obtain ⟨fuel, hf⟩ := h
 obtain ⟨n, e, _, hw⟩ := DataW.trod_int Tryz.underlying5 hf
 have e' : n = z := by simpa [Value.cells] using e.symm
 subst e'
 have hb := u8_wf hw
 obtain ⟨k, rfl⟩ := Int.eq_ofNat_of_zero_le hb.1
 exact ⟨k, rfl, by omega⟩
theorem cellsU81 : Tryz.prog.cellsOf 5 = 1 := by kernel_rfl
theorem bytes_open {v : Value} {fuel : Nat} {x : DataW H × List MemPlace} (h : DataW.trod enc Tryz.prog w 0 (fun _ => true) true fuel 26 [v] = some x) :
  ∃ A n c l, v = .slice A n c ∧ n ≤ c ∧ n ≤ maxLen ∧ c ≤ maxLen ∧ BytesAt w w.heap.size A n l := by
 rcases open_slice1 Tryz.underlying26 cellsU81 h with ⟨e, _⟩ | ⟨a, len, cap, m, k, V, D, Pl, e, _, hl, hm, hmm, _, hx⟩
 ·simp only [List.cons.injEq, and_true] at e
  exact ⟨none, 0, 0, [], e, Nat.le_refl _, Nat.zero_le _, Nat.zero_le _, Reads.none_, by simp⟩
 ·simp only [List.cons.injEq, and_true] at e
  have hmc : m = cap := by simpa using hmm
  subst hmc
  have hn : ∀ i, i < m → ∃ z : Nat, V i = .int .u8 (z : Nat) ∧ z ≤ 255 := fun i hi => by
   obtain ⟨z, f0, _, hw⟩ := DataW.trod_int Tryz.underlying5 (hx i hi).2
   simp only [List.cons.injEq, and_true] at f0
   have hb := u8_wf hw
   obtain ⟨k, rfl⟩ := Int.eq_ofNat_of_zero_le hb.1
   exact ⟨k, f0, by omega⟩
  obtain ⟨Z, hZ⟩ := choose_lt hn
  refine ⟨some a, len, m, (List.range len).map Z, e, hl, by omega, hm, ⟨by simp, fun h0 => ⟨a, rfl, ?_, fun j u hu => ?_⟩⟩, fun b hb => ?_⟩
  ·have := World.block_lt_of_cell? w _ (hx 0 (by omega)).1
   rwa [block_of_add] at this
  ·simp only [List.getElem?_map, Option.map_map] at hu
   have hj : j < len := by
    rcases Nat.lt_or_ge j len with h' | h'
    ·exact h'
    ·rw [List.getElem?_eq_none (by simpa using h')] at hu; cases hu
   rw [List.getElem?_range hj] at hu
   simp only [Option.map_some, Option.some.injEq, Function.comp] at hu
   rw [(hx j (by omega)).1, (hZ j (by omega)).1, ← hu]
  ·obtain ⟨j, hj, rfl⟩ := List.mem_map.1 hb
   exact (hZ j (by have := List.mem_range.1 hj; omega)).2
end
end Go.Proofs.YtahkjagjcogeiaaGreatDoor
/- ClimbRound: whatever the arguments, the law answers true. The row, and the card. -/
namespace Go.Proofs.YtahkjagjcogeiaaGreatDoor
open Go.ChangeShapes Go.WideShapes Go.ChangeAt Go.RowKit Go.Joins

set_option maxRecDepth 100000 in
theorem zround_lifted (os : Os) (started : os.Started) (H : Type) (enc : TypeId × Value → H) :
  ReturnsInHanded {} Tryz.checked os 6 .any (fun w args => (Rows.climbRoundSpec.pre enc Tryz.prog Tryz.f6 [] false w args ∧ laidMetH Tryz.prog laidL w) ∧ sizedMet enc Tryz.prog Tryz.f6 (OpenSpec.ofChange Rows.climbRoundSpec) false w args)
   (Rows.climbRoundSpec.post enc Tryz.prog Tryz.f6 false true false false) := by
 refine returnsInHanded_of_change_and (C := Tryz.checked) (X := fun w _ => laidMetH Tryz.prog laidL w) (fun _ _ _ hh h => h.of_heap hh) ownT' started (by kernel_rfl) Tryz.func6
  (ChangeSpec.witness_shaped (enc := enc) (C := Tryz.checked) (os := os) (X := fun w _ => laidMetH Tryz.prog laidL w) false (World.doorLaid Tryz.prog 800 os) #[.agg #[.slice none 0 0, .slice none 0 0], .int .u8 0, .slice none 0 0, .bool false, .int .u8 0] 8 rfl (World.shaped_of_RefB (by kernel_rfl) (by kernel_rfl)) (by kernel_rfl) (by kernel_rfl) (by kernel_rfl) (door_met os _)) ?_
 intro W base args ds gs before hval0 hW _ _ hL _
 have hval : ∀ (j : Nat) t v, Tryz.f6.params[j]? = some t → args[j]? = some v → Value.okWide Tryz.prog W .any base t v := hval0
 have hW' := hW
 obtain ⟨p, q, hA0, hV, rfl, hfz, hnd⟩ := hW
 have hA : DataW.TrodAll enc Tryz.prog W 0 (fun _ => true) true Tryz.f6.params.toList args.toList ds p := hA0
 rw [Tryz.params6] at hA hval
 obtain ⟨v0, vs0, d0, ds0, p0, q0, hargs, rfl, rfl, h0, r0⟩ := trodAll_cons hA
 obtain ⟨v1, vs1, d1, ds1, p1, q1, rfl, rfl, rfl, h1, r1⟩ := trodAll_cons r0
 obtain ⟨v2, vs2, d2, ds2, p2, q2, rfl, rfl, rfl, h2, r2⟩ := trodAll_cons r1
 obtain ⟨v3, vs3, d3, ds3, p3, q3, rfl, rfl, rfl, h3, r3⟩ := trodAll_cons r2
 obtain ⟨v4, vs4, d4, ds4, p4, q4, rfl, rfl, rfl, h4, r4⟩ := trodAll_cons r3
 obtain ⟨rfl, rfl, rfl⟩ := trodAll_nil r4
 obtain rfl : args = #[v0, v1, v2, v3, v4] := by cases args; simp_all
 obtain ⟨rfl, rfl⟩ := trodVars_none hV
 have lt0 : ∀ x ∈ p0, x.block < W.heap.size := by obtain ⟨m, hm⟩ := h0; exact DataW.trod_lt m _ _ _ hm
 have lt1 : ∀ x ∈ p1, x.block < W.heap.size := by obtain ⟨m, hm⟩ := h1; exact DataW.trod_lt m _ _ _ hm
 have lt2 : ∀ x ∈ p2, x.block < W.heap.size := by obtain ⟨m, hm⟩ := h2; exact DataW.trod_lt m _ _ _ hm
 have lt3 : ∀ x ∈ p3, x.block < W.heap.size := by obtain ⟨m, hm⟩ := h3; exact DataW.trod_lt m _ _ _ hm
 have lt4 : ∀ x ∈ p4, x.block < W.heap.size := by obtain ⟨m, hm⟩ := h4; exact DataW.trod_lt m _ _ _ hm
 have hl := of_laid hL
 obtain ⟨A, n, c, A', m, d, t, e0, hn, hm, hnc, hmd, ht⟩ := town_open (hval 0 25 v0 rfl rfl) h0
 obtain ⟨s1, e1, hb1⟩ := u8_open h1 (okWide_int Tryz.underlying5 (hval 1 5 v1 rfl rfl))
 obtain ⟨A2x2, k2x2, c2x2, e2⟩ := okWide_slice Tryz.underlying26 (hval 2 26 v2 rfl rfl)
 have hh2 := h2
 obtain ⟨fu2, hf2⟩ := hh2
 rw [e2, show (Value.slice A2x2 k2x2 c2x2).cells = #[.slice A2x2 k2x2 c2x2] from rfl] at hf2
 obtain ⟨B2, j2, b2, l2, e2', hcc2, hk2, _, hr2⟩ := bytes_open hf2
 rw [← e2] at e2'
 clear e2 hf2
 obtain ⟨s3, e3⟩ := okWide_bool Tryz.underlying4 (hval 3 4 v3 rfl rfl)
 obtain ⟨s4, e4, hb4⟩ := u8_open h4 (okWide_int Tryz.underlying5 (hval 4 5 v4 rfl rfl))
 clear hA0 hval0 hval
 subst e0 e1 e2' e3 e4
 refine (zround_walk A n c A' m d t s1 B2 j2 b2 l2 s3 s4 W hn hm hb1 hk2 hb4 ht hr2 hl).mono fun e W' ⟨he, bel⟩ => ?_
 subst he
 exact ⟨_, rfl, _, _, _, [], _, [], hW', trodAll_mk1 (shut_bool Tryz.underlying4 _), (trodAll_cons_mk (Below.trod laidOutT' (by kernel_rfl) (of_decide_eq_true (by kernel_rfl)) h0 bel lt0) (trodAll_cons_mk (Below.trod laidOutT' (by kernel_rfl) (of_decide_eq_true (by kernel_rfl)) h1 bel lt1) (trodAll_cons_mk (Below.trod laidOutT' (by kernel_rfl) (of_decide_eq_true (by kernel_rfl)) h2 bel lt2) (trodAll_cons_mk (Below.trod laidOutT' (by kernel_rfl) (of_decide_eq_true (by kernel_rfl)) h3 bel lt3) (trodAll_cons_mk (Below.trod laidOutT' (by kernel_rfl) (of_decide_eq_true (by kernel_rfl)) h4 bel lt4) trodAll_mk0))))), rfl, bel.frame _, fun h => by cases h⟩

theorem zround_holds : Rows.ClimbRoundSaid :=
 OpenClaim.holds_of_wide 6 Tryz.f6 rfl rfl rfl rfl rfl rfl rfl ⟨rfl, rfl, rfl, rfl, rfl⟩ rfl rfl rfl rfl rfl (by kernel_rfl) Tryz.func6 (by kernel_rfl)
  (of_decide_eq_true (by kernel_rfl)) (by unfold Func.isWrapper; first | (rw [if_pos (by decide +kernel)]; kernel_rfl) | (rw [if_neg (by decide +kernel)]; exact ⟨rfl, rfl⟩))
  (fun os started H enc _ => zround_lifted os started H enc)

theorem zround_card : Rows.ClimbRoundCardSaid :=
 Claim7.holds_tied_plain_at .later [] [.funcs] true (true, "67de833af213194507c31c05b7184ea255bc0890cd487a2a5aea99d39e4477e7") false
  zround_holds (fun _ h => by cases h) (by kernel_rfl) (fun _ h => by cases h) climbRound_row_tie rfl ⟨rfl, rfl⟩ (by kernel_rfl) rfl
  (fun f fn hf hfn => by
   obtain rfl : f = 6 := Option.some.inj ((show Tryz.prog.funcNamed "aguador/aguadorlaw03.ClimbRound" = some 6 by kernel_rfl).symm.trans hf) |>.symm
   obtain rfl : fn = Tryz.f6 := (Option.some.inj (Tryz.func6.symm.trans hfn)).symm
   exact ⟨by kernel_rfl, fun j t ht => by
    rw [Tryz.params6] at ht
    have hm : t ∈ [25, 5, 26, 4, 5] := by simpa using Array.mem_of_getElem? ht
    have hall : ([25, 5, 26, 4, 5].all fun u => !Tryz.prog.wantsStandIn u) = true := by kernel_rfl
    exact (show Tryz.prog.wantsStandIn t = false by simpa using List.all_eq_true.1 hall t hm)⟩)
  (by kernel_rfl)
#print axioms zround_card
end Go.Proofs.YtahkjagjcogeiaaGreatDoor
