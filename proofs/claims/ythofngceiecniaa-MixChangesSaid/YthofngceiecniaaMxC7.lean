/- Part 7 of the texts of this claim, joined. -/
import Derived.Laws.StructEq
import Derived.Test.YthofngceiecniaaMxC6
set_option linter.unusedVariables false
/- The answer's SameInts, Great, Same. -/
namespace Go.Proofs.Ythofngceiecniaa
open Go.RowKit

def sameI (a b : List Int) : Bool := decide (a = b)
theorem sameI_len {a b : List Int} (h : a.length ≠ b.length) : sameI a b = false := by unfold sameI; simp; intro e; exact h (by rw [e])
theorem sameI_ne {a b : List Int} {k : Nat} {x y : Int} (hx : a[k]? = some x) (hy : b[k]? = some y) (h : x ≠ y) : sameI a b = false := by
 unfold sameI; simp; intro e; subst e; rw [hx] at hy; cases hy; exact h rfl
theorem sameI_eq {a b : List Int} (hl : a.length = b.length) (h : ∀ (k : Nat) x y, k < a.length → a[k]? = some x → b[k]? = some y → x = y) : sameI a b = true := by
 unfold sameI; simp
 apply List.ext_getElem?
 intro k
 by_cases hk : k < a.length
 ·have h1 : a[k]? = some a[k] := List.getElem?_eq_getElem hk
  have h2 : b[k]? = some (b[k]'(by omega)) := List.getElem?_eq_getElem _
  rw [h1, h2, h k _ _ hk h1 h2]
 ·rw [List.getElem?_eq_none (by omega), List.getElem?_eq_none (by omega)]

set_option maxRecDepth 100000 in
set_option maxHeartbeats 2000000 in
theorem sameInts_any (A : Option Addr) (n c : Nat) (a : List Int) (B : Option Addr) (m d : Nat) (b : List Int) (w : World) (hn : n ≤ maxLen) (hm : m ≤ maxLen) (ha : IntsAt w w.heap.size A n a) (hb : IntsAt w w.heap.size B m b) :
  Calls Try.prog 30 #[.slice A n c, .slice B m d] w fun e w' => e = .returned (.bool (sameI a b)) ∧ Below w.heap.size w w' := by
 unfold maxLen at hn hm
 have HA := Lib.hid ha.len
 have HB := Lib.hid hb.len
 by_cases hnm : n = m
 ·subst hnm
  have hnn : ((n : Int) == (n : Int)) = true := by simp
  go_enter Try.func30, Try.ntmps30
  go_wp2_with fail
  go_loopw [5] (fun i wr => ∃ k : Nat, k ≤ n ∧ i = .int .i64 k ∧ (∀ (j : Nat) x y, j < k → a[j]? = some x → b[j]? = some y → x = y) ∧ Below w.heap.size w wr)
   (fun i _ => n - (intOf i).toNat)
  case atStart => exact ⟨0, by omega, rfl, fun _ _ _ h => absurd h (by omega), Below.refl _ _⟩
  case round =>
   obtain ⟨k, hk, rfl, hall, hbel⟩ := hrel
   have HAll := Lib.hid hall
   clear hall
   by_cases hlt : k < n
   ·obtain ⟨b1, o1, x, rfl, hb1, hx, cx⟩ := (ha.below hbel).cell hlt
    obtain ⟨b2, o2, y, rfl, hb2, hy, cy⟩ := (hb.below hbel).cell hlt
    have HX := Lib.hid hx
    have HY := Lib.hid hy
    have kI : (k : Int) < (n : Int) := by omega
    have k0 : (0 : Int) ≤ (k : Int) := by omega
    clear hx hy
    by_cases hxy : x = y
    ·have hxy' : (x == y) = true := by simpa using hxy
     have HXY := Lib.hid hxy
     clear hxy
     go_wp2_with fail
     go_quiet (fail)
     go_wp2_with fail
     go_roundw
     case rel => exact ⟨k + 1, by omega, by go_num, fun j u v hj hu hv => by
      rcases Nat.lt_or_ge j k with h | h
      ·exact HAll.out j u v h hu hv
      ·obtain rfl : j = k := by omega
       rw [HX.out] at hu; rw [HY.out] at hv
       cases hu; cases hv; exact HXY.out, below_drewN hbel _⟩
     case measure => simp [intOf]; omega
    ·have hxy' : (x == y) = false := by simpa using hxy
     have HXY := Lib.hid hxy
     clear hxy
     go_wp2_with fail
     go_quiet (fail)
     go_wp2_with fail
     go_ret
     exact ⟨ret_bool (sameI_ne HX.out HY.out HXY.out).symm, below_drewN hbel _⟩
   ·go_wp2_with fail
    go_ret
    exact ⟨ret_bool (sameI_eq (by rw [HA.out, HB.out]) (fun j x y hj hx hy => HAll.out j x y (by have := HA.out; omega) hx hy)).symm, hbel⟩
 ·have hnn : ((n : Int) == (m : Int)) = false := by simp; omega
  have HF : Hid (sameI a b = false) := sameI_len (by rw [HA.out, HB.out]; exact hnm)
  go_enter Try.func30, Try.ntmps30
  go_wp2_with fail
  go_ret
  exact ⟨ret_bool HF.out.symm, Below.refl _ _⟩


def greatB (nv na nt : Nat) : Bool := decide (8 < nv) || decide (24 < na) || decide (16 < nt)
set_option maxHeartbeats 1000000 in
theorem great_any (f : Int) (Av : Option Addr) (nv cv : Nat) (Aa : Option Addr) (na ca : Nat) (At : Option Addr) (nt ct : Nat) (w : World) :
  Calls Try.prog 7 #[.agg #[.int .i64 f, .slice Av nv cv, .slice Aa na ca, .slice At nt ct]] w fun e w' => e = .returned (.bool (greatB nv na nt)) ∧ Below w.heap.size w w' := by
 by_cases h1 : 8 < nv
 ·have HG : Hid (greatB nv na nt = true) := by show _ = _; unfold greatB; simp [h1]
  have h1' : (8 : Int) < (nv : Int) := by omega
  clear h1
  go_enter Try.func7, Try.ntmps7
  go_wp2_with fail
  go_ret
  exact ⟨ret_bool HG.out.symm, (Below.refl _ _).alloc (Nat.le_refl _) _⟩
 ·have h1' : decide ((8 : Int) < (nv : Int)) = false := by simp; omega
  by_cases h2 : 24 < na
  ·have HG : Hid (greatB nv na nt = true) := by show _ = _; unfold greatB; simp [h2]
   have h2' : (24 : Int) < (na : Int) := by omega
   clear h1 h2
   go_enter Try.func7, Try.ntmps7
   go_wp2_with fail
   go_ret
   exact ⟨ret_bool HG.out.symm, (Below.refl _ _).alloc (Nat.le_refl _) _⟩
  ·have h2' : decide ((24 : Int) < (na : Int)) = false := by simp; omega
   by_cases h3 : 16 < nt
   ·have HG : Hid (greatB nv na nt = true) := by show _ = _; unfold greatB; simp [h3]
    have h3' : (16 : Int) < (nt : Int) := by omega
    clear h1 h2 h3
    go_enter Try.func7, Try.ntmps7
    go_wp2_with fail
    go_ret
    exact ⟨ret_bool HG.out.symm, (Below.refl _ _).alloc (Nat.le_refl _) _⟩
   ·have HG : Hid (greatB nv na nt = false) := by show _ = _; unfold greatB; simp [h1, h2, h3]
    have h3' : ¬ (16 : Int) < (nt : Int) := by omega
    clear h1 h2 h3
    go_enter Try.func7, Try.ntmps7
    go_wp2_with fail
    go_ret
    exact ⟨ret_bool HG.out.symm, (Below.refl _ _).alloc (Nat.le_refl _) _⟩
theorem eqi_run4 (d : Nat) (a b : Int) (w : World) : (Op.equalIn (d+1) 3 (.int .i64 a) (.int .i64 b)).run Try.prog w = .ok (a == b) w := by
 simp [Op.equalIn, run_underlying Try.underlying3]
theorem eq_vess_run (a0 a1 : Int) (w : World) : (Op.equalIn 10000 80 (.agg #[.int .i64 a0, .int .i64 a1]) (.agg #[.int .i64 a0, .int .i64 a1])).run Try.prog w = .ok true w := by
 rw [Op.equalIn]
 simp [go_sem, run_underlying Try.underlying80, eqi_run4, Std.Legacy.Range.forIn_eq_forIn_range', part]
theorem eq_act_run (a0 a1 a2 a3 : Int) (w : World) : (Op.equalIn 10000 67 (.agg #[.int .i64 a0, .int .i64 a1, .int .i64 a2, .int .i64 a3]) (.agg #[.int .i64 a0, .int .i64 a1, .int .i64 a2, .int .i64 a3])).run Try.prog w = .ok true w := by
 rw [Op.equalIn]
 simp [go_sem, run_underlying Try.underlying67, eqi_run4, Std.Legacy.Range.forIn_eq_forIn_range', part]
theorem eq_tast_run (a0 a1 a2 a3 a4 a5 : Int) (w : World) : (Op.equalIn 10000 65 (.agg #[.int .i64 a0, .int .i64 a1, .int .i64 a2, .int .i64 a3, .int .i64 a4, .int .i64 a5]) (.agg #[.int .i64 a0, .int .i64 a1, .int .i64 a2, .int .i64 a3, .int .i64 a4, .int .i64 a5])).run Try.prog w = .ok true w := by
 rw [Op.equalIn]
 simp [go_sem, run_underlying Try.underlying65, eqi_run4, Std.Legacy.Range.forIn_eq_forIn_range', part]
set_option maxRecDepth 100000 in
set_option maxHeartbeats 8000000 in
theorem same_true (Av : Option Addr) (nv cv : Nat) (Aa : Option Addr) (na ca : Nat) (At : Option Addr) (nt ct : Nat) (Bv : Option Addr) (dv : Nat) (Ba : Option Addr) (da : Nat) (Bt : Option Addr) (dt : Nat) (m : Mix) (w : World) (h1 : MixS w Av nv Aa na At nt m) (h2 : MixS w Bv nv Ba na Bt nt m) :
  Calls Try.prog 13 #[.agg #[.int .i64 m.fountains, .slice Av nv cv, .slice Aa na ca, .slice At nt ct], .agg #[.int .i64 m.fountains, .slice Bv nv dv, .slice Ba na da, .slice Bt nt dt]] w fun e w' => e = .returned (.bool true) ∧ Below w.heap.size w w' := by
 have HM := Lib.hid h1
 have HN := Lib.hid h2
 have hnv := h1.hv
 have hna := h1.ha
 have hnt := h1.ht
 clear h1 h2
 have e0 : ((nv : Int) == (nv : Int)) = true := by simp
 have e1 : ((na : Int) == (na : Int)) = true := by simp
 have e2 : ((nt : Int) == (nt : Int)) = true := by simp
 have hr0 := eq_vess_run
 have hr1 := eq_act_run
 have hr2 := eq_tast_run
 go_enter Try.func13, Try.ntmps13
 go_wp2_with fail
 have X0 := (Blk.new w 26 #[.int .i64 m.fountains, .slice Av nv cv, .slice Aa na ca, .slice At nt ct]).alloc (.cells #[.int .i64 m.fountains, .slice Bv nv dv, .slice Ba na da, .slice Bt nt dt] 26)
 have Y0 := Blk.new (w.alloc (.cells #[.int .i64 m.fountains, .slice Av nv cv, .slice Aa na ca, .slice At nt ct] 26)) 26 #[.int .i64 m.fountains, .slice Bv nv dv, .slice Ba na da, .slice Bt nt dt]
 have B0 : Below w.heap.size w ((w.alloc (.cells #[.int .i64 m.fountains, .slice Av nv cv, .slice Aa na ca, .slice At nt ct] 26)).alloc (.cells #[.int .i64 m.fountains, .slice Bv nv dv, .slice Ba na da, .slice Bt nt dt] 26)) := ((Below.refl _ _).alloc (Nat.le_refl _) _).alloc (by simp) _
 rw [World.size_alloc] at Y0
 generalize ((w.alloc (.cells #[.int .i64 m.fountains, .slice Av nv cv, .slice Aa na ca, .slice At nt ct] 26)).alloc (.cells #[.int .i64 m.fountains, .slice Bv nv dv, .slice Ba na da, .slice Bt nt dt] 26)) = w0 at *
 have HX0 := Lib.hid X0
 have HY0 := Lib.hid Y0
 have HB0 := Lib.hid B0
 clear X0 Y0 B0
 go_loopw [5] (fun i wr => ∃ k : Nat, k ≤ nv ∧ i = .int .i64 k ∧ Below w0.heap.size w0 wr)
  (fun i _ => nv - (intOf i).toNat)
 case atStart => exact ⟨0, by omega, rfl, Below.refl _ _⟩
 case round =>
  obtain ⟨k, hk, rfl, hbel⟩ := hrel
  have X0 := HX0.out.below hbel HX0.out.lt
  have Y0 := HY0.out.below hbel HY0.out.lt
  have B0 := HB0.out.trans (hbel.mono HB0.out.size)
  have x0 := X0.cell 1
  have y0 := Y0.cell 1
  have x1 := X0.cell 2
  have y1 := Y0.cell 2
  by_cases hlt : k < nv
  ·obtain ⟨b1, o1, x, rfl, hb1, hx, c0, c1⟩ := (HM.out.at_.below B0).vess hlt
   obtain ⟨b2, o2, y, rfl, hb2, hy, d0, d1⟩ := (HN.out.at_.below B0).vess hlt
   obtain rfl : x = y := by rw [hx] at hy; exact Option.some.inj hy
   have HX := Lib.hid hx
   clear hx hy
   have kI : (k : Int) < (nv : Int) := by omega
   have k0 : (0 : Int) ≤ (k : Int) := by omega
   go_wp2_with fail
   go_quiet (fail)
   go_wp2_with fail
   go_roundw
   case rel => exact ⟨k + 1, by omega, by go_num, below_drewN hbel _⟩
   case measure => simp [intOf]; omega
  ·
   have hke : k = nv := by omega
   clear hbel
   go_wp2_with fail
   clear x0 y0 x1 y1
   clear HX0 HY0 HB0
   generalize wr = wra at *
   have HX1 := Lib.hid X0
   have HY1 := Lib.hid Y0
   have HB1 := Lib.hid B0
   clear X0 Y0 B0
   go_loopw [6] (fun i wr => ∃ k : Nat, k ≤ na ∧ i = .int .i64 k ∧ Below wra.heap.size wra wr)
    (fun i _ => na - (intOf i).toNat)
   case atStart => exact ⟨0, by omega, rfl, Below.refl _ _⟩
   case round =>
    obtain ⟨k, hk, rfl, hbel⟩ := hrel
    have X0 := HX1.out.below hbel HX1.out.lt
    have Y0 := HY1.out.below hbel HY1.out.lt
    have B0 := HB1.out.trans (hbel.mono HB1.out.size)
    have x0 := X0.cell 2
    have y0 := Y0.cell 2
    have x1 := X0.cell 3
    have y1 := Y0.cell 3
    by_cases hlt : k < na
    ·obtain ⟨b1, o1, x, rfl, hb1, hx, c0, c1, c2, c3⟩ := (HM.out.at_.below B0).act hlt
     obtain ⟨b2, o2, y, rfl, hb2, hy, d0, d1, d2, d3⟩ := (HN.out.at_.below B0).act hlt
     obtain rfl : x = y := by rw [hx] at hy; exact Option.some.inj hy
     have HX := Lib.hid hx
     clear hx hy
     have kI : (k : Int) < (na : Int) := by omega
     have k0 : (0 : Int) ≤ (k : Int) := by omega
     go_wp2_with fail
     go_quiet (fail)
     go_wp2_with fail
     go_roundw
     case rel => exact ⟨k + 1, by omega, by go_num, below_drewN hbel _⟩
     case measure => simp [intOf]; omega
    ·
     have hke : k = na := by omega
     clear hbel
     go_wp2_with fail
     clear x0 y0 x1 y1
     clear HX1 HY1 HB1
     generalize wr = wrb at *
     have HX2 := Lib.hid X0
     have HY2 := Lib.hid Y0
     have HB2 := Lib.hid B0
     clear X0 Y0 B0
     go_loopw [7] (fun i wr => ∃ k : Nat, k ≤ nt ∧ i = .int .i64 k ∧ Below wrb.heap.size wrb wr)
      (fun i _ => nt - (intOf i).toNat)
     case atStart => exact ⟨0, by omega, rfl, Below.refl _ _⟩
     case round =>
      obtain ⟨k, hk, rfl, hbel⟩ := hrel
      have X0 := HX2.out.below hbel HX2.out.lt
      have Y0 := HY2.out.below hbel HY2.out.lt
      have B0 := HB2.out.trans (hbel.mono HB2.out.size)
      have x0 := X0.cell 3
      have y0 := Y0.cell 3
      by_cases hlt : k < nt
      ·obtain ⟨b1, o1, x, rfl, hb1, hx, c0, c1, c2, c3, c4, c5⟩ := (HM.out.at_.below B0).tast hlt
       obtain ⟨b2, o2, y, rfl, hb2, hy, d0, d1, d2, d3, d4, d5⟩ := (HN.out.at_.below B0).tast hlt
       obtain rfl : x = y := by rw [hx] at hy; exact Option.some.inj hy
       have HX := Lib.hid hx
       clear hx hy
       have kI : (k : Int) < (nt : Int) := by omega
       have k0 : (0 : Int) ≤ (k : Int) := by omega
       go_wp2_with fail
       go_quiet (fail)
       go_wp2_with fail
       go_roundw
       case rel => exact ⟨k + 1, by omega, by go_num, below_drewN hbel _⟩
       case measure => simp [intOf]; omega
      ·
       have hke : k = nt := by omega
       clear hbel
       go_wp2_with fail
       go_ret
       exact ⟨rfl, B0⟩
end Go.Proofs.Ythofngceiecniaa
/- The answer's within, and Index. -/
namespace Go.Proofs.Ythofngceiecniaa
open Go.RowKit

def wiB (n lo hi : Int) : Bool := decide (lo ≤ n ∧ n ≤ hi)
theorem within_any (n lo hi : Int) (w : World) : Calls Try.prog 46 #[.int .i64 n, .int .i64 lo, .int .i64 hi] w fun e w' => e = .returned (.bool (wiB n lo hi)) ∧ w = w' := by
 by_cases h1 : lo ≤ n
 all_goals
  go_enter Try.func46, Try.ntmps46
  go_wp2_with fail
  go_ret
  refine ⟨ret_bool ?_, rfl⟩
  unfold wiB
  by_cases h2 : n ≤ hi <;> simp [h1, h2]
set_option maxRecDepth 100000 in
set_option maxHeartbeats 4000000 in
theorem rindex_any (Av : Option Addr) (nv cv : Nat) (Aa : Option Addr) (na ca : Nat) (At : Option Addr) (nt ct : Nat) (m : Mix) (id : Int) (w : World) (h : MixS w Av nv Aa na At nt m) :
  Calls Try.prog 58 #[.agg #[.int .i64 m.fountains, .slice Av nv cv, .slice Aa na ca, .slice At nt ct], .int .i64 id] w fun e w' => e = .returned (.int .i64 (idxV m.vessels id)) ∧ Below w.heap.size w w' := by
 have HM := Lib.hid h
 have hnv := h.hv
 have HLV := Lib.hid h.at_.lenV
 clear h
 go_enter Try.func58, Try.ntmps58
 go_wp2_with fail
 have HB := Lib.hid ((Below.refl w.heap.size w).alloc (Nat.le_refl _) (.cells #[.int .i64 m.fountains, .slice Av nv cv, .slice Aa na ca, .slice At nt ct] 26))
 have HX := Lib.hid (Blk.new w 26 #[.int .i64 m.fountains, .slice Av nv cv, .slice Aa na ca, .slice At nt ct])
 generalize w.alloc (.cells #[.int .i64 m.fountains, .slice Av nv cv, .slice Aa na ca, .slice At nt ct] 26) = w0 at *
 go_loop [5] (fun i => ∃ k : Nat, k ≤ nv ∧ i = .int .i64 k ∧ (∀ y ∈ m.vessels.take k, (y.id == id) = false)) (fun i => nv - (intOf i).toNat)
 case atStart => exact ⟨0, by omega, rfl, by simp⟩
 case round =>
  obtain ⟨k, hk, rfl, hno⟩ := hrel
  have HN := Lib.hid hno
  clear hno
  have x1 : w0.cell? ⟨w.heap.size, 1, none⟩ = some (.slice Av nv cv) := HX.out.cell 1
  have xl := HX.out.lt
  by_cases hlt : k < nv
  ·obtain ⟨b, off, x, rfl, hbB, hx, hc0, hc1⟩ := (HM.out.at_.below HB.out).vess hlt
   have HV := Lib.hid hx
   clear hx
   cases hp : (x.id == id) with
   | true =>
    have HP := Lib.hid hp
    have hp2 : x.id = id := by simpa using hp
    have HE := Lib.hid (idxV_some HV.out HP.out HN.out)
    subst hp2
    clear hp
    go_wp2_with fail
    go_ret
    exact ⟨ret_int HE.out.symm, HB.out⟩
   | false =>
    have HP := Lib.hid hp
    go_wp2_with fail
    go_round
    case rel => exact ⟨k + 1, by omega, by go_num, take_snoc_all HV.out HP.out HN.out⟩
    case measure => simp [intOf]; omega
  ·go_wp2_with fail
   go_ret
   exact ⟨ret_int (idxV_none (by
    have := HN.out
    rwa [List.take_of_length_le (by have := HLV.out; omega)] at this)).symm, HB.out⟩
end Go.Proofs.Ythofngceiecniaa
/- The answer's done: plain words. -/
namespace Go.Proofs.Ythofngceiecniaa
open Go.RowKit

section
variable {m : Mix} {s : Held} {x : MAct} {jf jt : Int}
theorem dk1 (hk : x.kind = 1) (ht : idxV m.vessels x.to = jt) : doneM m s x = if (1 ≤ x.fr ∧ x.fr ≤ m.fountains) ∧ 0 ≤ jt ∧ 1 ≤ x.drops ∧ x.drops ≤ sizeV m.vessels jt - heldAt s jt then some (s.set jt.toNat (heldAt s jt + x.drops)) else none := by
 unfold doneM
 rw [if_pos hk, ht]
theorem dk0 (hk : x.kind ≠ 1) (hf : idxV m.vessels x.fr = jf) (h0 : jf < 0) : doneM m s x = none := by
 unfold doneM
 rw [if_neg hk, hf, if_pos h0]
theorem dk2 (hk : x.kind = 2) (hf : idxV m.vessels x.fr = jf) (ht : idxV m.vessels x.to = jt) (h0 : 0 ≤ jf) : doneM m s x = if jt ≠ jf ∧ (1 ≤ x.drops ∧ x.drops ≤ heldAt s jf) ∧ 0 ≤ jt ∧ x.drops ≤ sizeV m.vessels jt - heldAt s jt then some ((s.set jf.toNat (heldAt s jf - x.drops)).set jt.toNat (heldAt s jt + x.drops)) else none := by
 unfold doneM
 rw [if_neg (by omega), hf, if_neg (by omega), if_pos hk, ht]
 by_cases e : x.fr = x.to
 ·have : jt = jf := by rw [← hf, ← ht, e]
  rw [if_neg (fun h => h.1 e), if_neg (fun h => h.1 this)]
 ·have hne : 0 ≤ jt → jt ≠ jf := fun h1 h2 => e (idxV_inj (l := m.vessels) (by rw [hf]; exact h0) (by rw [hf, ht, h2]))
  by_cases c : (1 ≤ x.drops ∧ x.drops ≤ heldAt s jf) ∧ 0 ≤ jt ∧ x.drops ≤ sizeV m.vessels jt - heldAt s jt
  ·rw [if_pos ⟨e, c⟩, if_pos ⟨hne c.2.1, c⟩]
  ·rw [if_neg (fun h => c h.2), if_neg (fun h => c h.2)]
theorem dk3 (hk : x.kind = 3) (hf : idxV m.vessels x.fr = jf) (h0 : 0 ≤ jf) : doneM m s x = if x.to = 0 ∧ 1 ≤ x.drops ∧ x.drops ≤ heldAt s jf then some (s.set jf.toNat (heldAt s jf - x.drops)) else none := by
 unfold doneM
 rw [if_neg (by omega), hf, if_neg (by omega), if_neg (by omega), if_pos hk]
theorem dk4 (hk : x.kind = 4) (hf : idxV m.vessels x.fr = jf) (h0 : 0 ≤ jf) : doneM m s x = if x.to = 0 ∧ x.drops = 0 then some (s.set jf.toNat 0) else none := by
 unfold doneM
 rw [if_neg (by omega), hf, if_neg (by omega), if_neg (by omega), if_neg (by omega), if_pos hk]
theorem dk5 (h1 : x.kind ≠ 1) (h2 : x.kind ≠ 2) (h3 : x.kind ≠ 3) (h4 : x.kind ≠ 4) : doneM m s x = none := by
 unfold doneM
 rw [if_neg h1, if_neg h2, if_neg h3, if_neg h4]
 split <;> rfl
theorem heldC_set {s : Held} (hs : s.length = 4) {q : Nat} (hq : q < 4) (v : Int) : (heldC s).toArray.setIfInBounds q (.int .i64 v) = (heldC (s.set q v)).toArray := by
 match s, hs, q, hq with
 | [a, b, c, d], _, 0, _ => rfl
 | [a, b, c, d], _, 1, _ => rfl
 | [a, b, c, d], _, 2, _ => rfl
 | [a, b, c, d], _, 3, _ => rfl
/-- What the answer's done says. -/
def RDoneOut (w : World) (m : Mix) (s : Held) (x : MAct) (e : Ending) (w' : World) : Prop :=
 Below w.heap.size w w' ∧ ∃ s2 b, e = .returned (.tuple #[.agg #[.int .i64 (heldAt s2 0), .int .i64 (heldAt s2 1), .int .i64 (heldAt s2 2), .int .i64 (heldAt s2 3)], .bool b]) ∧ ((b = true ∧ doneM m s x = some s2) ∨ (b = false ∧ doneM m s x = none))
end
end Go.Proofs.Ythofngceiecniaa
