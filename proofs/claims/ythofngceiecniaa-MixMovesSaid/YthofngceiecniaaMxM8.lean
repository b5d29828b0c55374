/- Part 8 of the texts of this claim, joined. -/
import Derived.Laws.StructEq
import Derived.IntWalk
import Derived.Sort.CutIn
import Derived.Test.YthofngceiecniaaMxM7
set_option linter.unusedVariables false
/- The answer's SameInts, Great, Same. -/
namespace Go.Proofs.Ythofngceiecniaa
open Go.RowKit

def greatB (nv na nt : Nat) : Bool := decide (8 < nv) || decide (24 < na) || decide (16 < nt)
set_option maxHeartbeats 1000000 in
theorem great_any (f : Int) (Av : Option Addr) (nv cv : Nat) (Aa : Option Addr) (na ca : Nat) (At : Option Addr) (nt ct : Nat) (w : World) :
  Calls Try.prog 7 #[.agg #[.int .i64 f, .slice Av nv cv, .slice Aa na ca, .slice At nt ct]] w fun e w' => e = .returned (.bool (greatB nv na nt)) ∧ Below w.heap.size w w' := by
 by_cases h1 : 8 < nv
 ·have HG : Hid (greatB nv na nt = true) := by show _ = _; unfold greatB; simp [h1]
  have h1' : (8 : Int) < (nv : Int) := by omega
  clear h1
  go_enter Try.func7, Try.ntmps7
  go_wp2_with fail
  go_ret
  exact ⟨ret_bool HG.out.symm, (Below.refl _ _).alloc (Nat.le_refl _) _⟩
 ·have h1' : decide ((8 : Int) < (nv : Int)) = false := by simp; omega
  by_cases h2 : 24 < na
  ·have HG : Hid (greatB nv na nt = true) := by show _ = _; unfold greatB; simp [h2]
   have h2' : (24 : Int) < (na : Int) := by omega
   clear h1 h2
   go_enter Try.func7, Try.ntmps7
   go_wp2_with fail
   go_ret
   exact ⟨ret_bool HG.out.symm, (Below.refl _ _).alloc (Nat.le_refl _) _⟩
  ·have h2' : decide ((24 : Int) < (na : Int)) = false := by simp; omega
   by_cases h3 : 16 < nt
   ·have HG : Hid (greatB nv na nt = true) := by show _ = _; unfold greatB; simp [h3]
    have h3' : (16 : Int) < (nt : Int) := by omega
    clear h1 h2 h3
    go_enter Try.func7, Try.ntmps7
    go_wp2_with fail
    go_ret
    exact ⟨ret_bool HG.out.symm, (Below.refl _ _).alloc (Nat.le_refl _) _⟩
   ·have HG : Hid (greatB nv na nt = false) := by show _ = _; unfold greatB; simp [h1, h2, h3]
    have h3' : ¬ (16 : Int) < (nt : Int) := by omega
    clear h1 h2 h3
    go_enter Try.func7, Try.ntmps7
    go_wp2_with fail
    go_ret
    exact ⟨ret_bool HG.out.symm, (Below.refl _ _).alloc (Nat.le_refl _) _⟩
theorem eqi_run4 (d : Nat) (a b : Int) (w : World) : (Op.equalIn (d+1) 3 (.int .i64 a) (.int .i64 b)).run Try.prog w = .ok (a == b) w := by
 simp [Op.equalIn, run_underlying Try.underlying3]
theorem eq_vess_run (a0 a1 : Int) (w : World) : (Op.equalIn 10000 80 (.agg #[.int .i64 a0, .int .i64 a1]) (.agg #[.int .i64 a0, .int .i64 a1])).run Try.prog w = .ok true w := by
 rw [Op.equalIn]
 simp [go_sem, run_underlying Try.underlying80, eqi_run4, Std.Legacy.Range.forIn_eq_forIn_range', part]
theorem eq_act_run (a0 a1 a2 a3 : Int) (w : World) : (Op.equalIn 10000 67 (.agg #[.int .i64 a0, .int .i64 a1, .int .i64 a2, .int .i64 a3]) (.agg #[.int .i64 a0, .int .i64 a1, .int .i64 a2, .int .i64 a3])).run Try.prog w = .ok true w := by
 rw [Op.equalIn]
 simp [go_sem, run_underlying Try.underlying67, eqi_run4, Std.Legacy.Range.forIn_eq_forIn_range', part]
theorem eq_tast_run (a0 a1 a2 a3 a4 a5 : Int) (w : World) : (Op.equalIn 10000 65 (.agg #[.int .i64 a0, .int .i64 a1, .int .i64 a2, .int .i64 a3, .int .i64 a4, .int .i64 a5]) (.agg #[.int .i64 a0, .int .i64 a1, .int .i64 a2, .int .i64 a3, .int .i64 a4, .int .i64 a5])).run Try.prog w = .ok true w := by
 rw [Op.equalIn]
 simp [go_sem, run_underlying Try.underlying65, eqi_run4, Std.Legacy.Range.forIn_eq_forIn_range', part]
set_option maxRecDepth 100000 in
set_option maxHeartbeats 8000000 in
theorem same_true (Av : Option Addr) (nv cv : Nat) (Aa : Option Addr) (na ca : Nat) (At : Option Addr) (nt ct : Nat) (Bv : Option Addr) (dv : Nat) (Ba : Option Addr) (da : Nat) (Bt : Option Addr) (dt : Nat) (m : Mix) (w : World) (h1 : MixS w Av nv Aa na At nt m) (h2 : MixS w Bv nv Ba na Bt nt m) :
  Calls Try.prog 13 #[.agg #[.int .i64 m.fountains, .slice Av nv cv, .slice Aa na ca, .slice At nt ct], .agg #[.int .i64 m.fountains, .slice Bv nv dv, .slice Ba na da, .slice Bt nt dt]] w fun e w' => e = .returned (.bool true) ∧ Below w.heap.size w w' := by
 have HM := Lib.hid h1
 have HN := Lib.hid h2
 have hnv := h1.hv
 have hna := h1.ha
 have hnt := h1.ht
 clear h1 h2
 have e0 : ((nv : Int) == (nv : Int)) = true := by simp
 have e1 : ((na : Int) == (na : Int)) = true := by simp
 have e2 : ((nt : Int) == (nt : Int)) = true := by simp
 have hr0 := eq_vess_run
 have hr1 := eq_act_run
 have hr2 := eq_tast_run
 go_enter Try.func13, Try.ntmps13
 go_wp2_with fail
 have X0 := (Blk.new w 26 #[.int .i64 m.fountains, .slice Av nv cv, .slice Aa na ca, .slice At nt ct]).alloc (.cells #[.int .i64 m.fountains, .slice Bv nv dv, .slice Ba na da, .slice Bt nt dt] 26)
 have Y0 := Blk.new (w.alloc (.cells #[.int .i64 m.fountains, .slice Av nv cv, .slice Aa na ca, .slice At nt ct] 26)) 26 #[.int .i64 m.fountains, .slice Bv nv dv, .slice Ba na da, .slice Bt nt dt]
 have B0 : Below w.heap.size w ((w.alloc (.cells #[.int .i64 m.fountains, .slice Av nv cv, .slice Aa na ca, .slice At nt ct] 26)).alloc (.cells #[.int .i64 m.fountains, .slice Bv nv dv, .slice Ba na da, .slice Bt nt dt] 26)) := ((Below.refl _ _).alloc (Nat.le_refl _) _).alloc (by simp) _
 rw [World.size_alloc] at Y0
 generalize ((w.alloc (.cells #[.int .i64 m.fountains, .slice Av nv cv, .slice Aa na ca, .slice At nt ct] 26)).alloc (.cells #[.int .i64 m.fountains, .slice Bv nv dv, .slice Ba na da, .slice Bt nt dt] 26)) = w0 at *
 have HX0 := Lib.hid X0
 have HY0 := Lib.hid Y0
 have HB0 := Lib.hid B0
 clear X0 Y0 B0
 go_loopw [5] (fun i wr => ∃ k : Nat, k ≤ nv ∧ i = .int .i64 k ∧ Below w0.heap.size w0 wr)
  (fun i _ => nv - (intOf i).toNat)
 case atStart => exact ⟨0, by omega, rfl, Below.refl _ _⟩
 case round =>
  obtain ⟨k, hk, rfl, hbel⟩ := hrel
  have X0 := HX0.out.below hbel HX0.out.lt
  have Y0 := HY0.out.below hbel HY0.out.lt
  have B0 := HB0.out.trans (hbel.mono HB0.out.size)
  have x0 := X0.cell 1
  have y0 := Y0.cell 1
  have x1 := X0.cell 2
  have y1 := Y0.cell 2
  by_cases hlt : k < nv
  ·obtain ⟨b1, o1, x, rfl, hb1, hx, c0, c1⟩ := (HM.out.at_.below B0).vess hlt
   obtain ⟨b2, o2, y, rfl, hb2, hy, d0, d1⟩ := (HN.out.at_.below B0).vess hlt
   obtain rfl : x = y := by rw [hx] at hy; exact Option.some.inj hy
   have HX := Lib.hid hx
   clear hx hy
   have kI : (k : Int) < (nv : Int) := by omega
   have k0 : (0 : Int) ≤ (k : Int) := by omega
   go_wp2_with fail
   go_quiet (fail)
   go_wp2_with fail
   go_roundw
   case rel => exact ⟨k + 1, by omega, by go_num, below_drewN hbel _⟩
   case measure => simp [intOf]; omega
  ·
   have hke : k = nv := by omega
   clear hbel
   go_wp2_with fail
   clear x0 y0 x1 y1
   clear HX0 HY0 HB0
   generalize wr = wra at *
   have HX1 := Lib.hid X0
   have HY1 := Lib.hid Y0
   have HB1 := Lib.hid B0
   clear X0 Y0 B0
   go_loopw [6] (fun i wr => ∃ k : Nat, k ≤ na ∧ i = .int .i64 k ∧ Below wra.heap.size wra wr)
    (fun i _ => na - (intOf i).toNat)
   case atStart => exact ⟨0, by omega, rfl, Below.refl _ _⟩
   case round =>
    obtain ⟨k, hk, rfl, hbel⟩ := hrel
    have X0 := HX1.out.below hbel HX1.out.lt
    have Y0 := HY1.out.below hbel HY1.out.lt
    have B0 := HB1.out.trans (hbel.mono HB1.out.size)
    have x0 := X0.cell 2
    have y0 := Y0.cell 2
    have x1 := X0.cell 3
    have y1 := Y0.cell 3
    by_cases hlt : k < na
    ·obtain ⟨b1, o1, x, rfl, hb1, hx, c0, c1, c2, c3⟩ := (HM.out.at_.below B0).act hlt
     obtain ⟨b2, o2, y, rfl, hb2, hy, d0, d1, d2, d3⟩ := (HN.out.at_.below B0).act hlt
     obtain rfl : x = y := by rw [hx] at hy; exact Option.some.inj hy
     have HX := Lib.hid hx
     clear hx hy
     have kI : (k : Int) < (na : Int) := by omega
     have k0 : (0 : Int) ≤ (k : Int) := by omega
     go_wp2_with fail
     go_quiet (fail)
     go_wp2_with fail
     go_roundw
     case rel => exact ⟨k + 1, by omega, by go_num, below_drewN hbel _⟩
     case measure => simp [intOf]; omega
    ·
     have hke : k = na := by omega
     clear hbel
     go_wp2_with fail
     clear x0 y0 x1 y1
     clear HX1 HY1 HB1
     generalize wr = wrb at *
     have HX2 := Lib.hid X0
     have HY2 := Lib.hid Y0
     have HB2 := Lib.hid B0
     clear X0 Y0 B0
     go_loopw [7] (fun i wr => ∃ k : Nat, k ≤ nt ∧ i = .int .i64 k ∧ Below wrb.heap.size wrb wr)
      (fun i _ => nt - (intOf i).toNat)
     case atStart => exact ⟨0, by omega, rfl, Below.refl _ _⟩
     case round =>
      obtain ⟨k, hk, rfl, hbel⟩ := hrel
      have X0 := HX2.out.below hbel HX2.out.lt
      have Y0 := HY2.out.below hbel HY2.out.lt
      have B0 := HB2.out.trans (hbel.mono HB2.out.size)
      have x0 := X0.cell 3
      have y0 := Y0.cell 3
      by_cases hlt : k < nt
      ·obtain ⟨b1, o1, x, rfl, hb1, hx, c0, c1, c2, c3, c4, c5⟩ := (HM.out.at_.below B0).tast hlt
       obtain ⟨b2, o2, y, rfl, hb2, hy, d0, d1, d2, d3, d4, d5⟩ := (HN.out.at_.below B0).tast hlt
       obtain rfl : x = y := by rw [hx] at hy; exact Option.some.inj hy
       have HX := Lib.hid hx
       clear hx hy
       have kI : (k : Int) < (nt : Int) := by omega
       have k0 : (0 : Int) ≤ (k : Int) := by omega
       go_wp2_with fail
       go_quiet (fail)
       go_wp2_with fail
       go_roundw
       case rel => exact ⟨k + 1, by omega, by go_num, below_drewN hbel _⟩
       case measure => simp [intOf]; omega
      ·
       have hke : k = nt := by omega
       clear hbel
       go_wp2_with fail
       go_ret
       exact ⟨rfl, B0⟩
end Go.Proofs.Ythofngceiecniaa
/- The answer's within, and Index. -/
namespace Go.Proofs.Ythofngceiecniaa
open Go.RowKit

def wiB (n lo hi : Int) : Bool := decide (lo ≤ n ∧ n ≤ hi)
theorem within_any (n lo hi : Int) (w : World) : Calls Try.prog 46 #[.int .i64 n, .int .i64 lo, .int .i64 hi] w fun e w' => e = .returned (.bool (wiB n lo hi)) ∧ w = w' := by
 by_cases h1 : lo ≤ n
 all_goals
  go_enter Try.func46, Try.ntmps46
  go_wp2_with fail
  go_ret
  refine ⟨ret_bool ?_, rfl⟩
  unfold wiB
  by_cases h2 : n ≤ hi <;> simp [h1, h2]
set_option maxRecDepth 100000 in
set_option maxHeartbeats 4000000 in
theorem rindex_any (Av : Option Addr) (nv cv : Nat) (Aa : Option Addr) (na ca : Nat) (At : Option Addr) (nt ct : Nat) (m : Mix) (id : Int) (w : World) (h : MixS w Av nv Aa na At nt m) :
  Calls Try.prog 58 #[.agg #[.int .i64 m.fountains, .slice Av nv cv, .slice Aa na ca, .slice At nt ct], .int .i64 id] w fun e w' => e = .returned (.int .i64 (idxV m.vessels id)) ∧ Below w.heap.size w w' := by
 have HM := Lib.hid h
 have hnv := h.hv
 have HLV := Lib.hid h.at_.lenV
 clear h
 go_enter Try.func58, Try.ntmps58
 go_wp2_with fail
 have HB := Lib.hid ((Below.refl w.heap.size w).alloc (Nat.le_refl _) (.cells #[.int .i64 m.fountains, .slice Av nv cv, .slice Aa na ca, .slice At nt ct] 26))
 have HX := Lib.hid (Blk.new w 26 #[.int .i64 m.fountains, .slice Av nv cv, .slice Aa na ca, .slice At nt ct])
 generalize w.alloc (.cells #[.int .i64 m.fountains, .slice Av nv cv, .slice Aa na ca, .slice At nt ct] 26) = w0 at *
 go_loop [5] (fun i => ∃ k : Nat, k ≤ nv ∧ i = .int .i64 k ∧ (∀ y ∈ m.vessels.take k, (y.id == id) = false)) (fun i => nv - (intOf i).toNat)
 case atStart => exact ⟨0, by omega, rfl, by simp⟩
 case round =>
  obtain ⟨k, hk, rfl, hno⟩ := hrel
  have HN := Lib.hid hno
  clear hno
  have x1 : w0.cell? ⟨w.heap.size, 1, none⟩ = some (.slice Av nv cv) := HX.out.cell 1
  have xl := HX.out.lt
  by_cases hlt : k < nv
  ·obtain ⟨b, off, x, rfl, hbB, hx, hc0, hc1⟩ := (HM.out.at_.below HB.out).vess hlt
   have HV := Lib.hid hx
   clear hx
   cases hp : (x.id == id) with
   | true =>
    have HP := Lib.hid hp
    have hp2 : x.id = id := by simpa using hp
    have HE := Lib.hid (idxV_some HV.out HP.out HN.out)
    subst hp2
    clear hp
    go_wp2_with fail
    go_ret
    exact ⟨ret_int HE.out.symm, HB.out⟩
   | false =>
    have HP := Lib.hid hp
    go_wp2_with fail
    go_round
    case rel => exact ⟨k + 1, by omega, by go_num, take_snoc_all HV.out HP.out HN.out⟩
    case measure => simp [intOf]; omega
  ·go_wp2_with fail
   go_ret
   exact ⟨ret_int (idxV_none (by
    have := HN.out
    rwa [List.take_of_length_le (by have := HLV.out; omega)] at this)).symm, HB.out⟩
end Go.Proofs.Ythofngceiecniaa
/- The answer's done: plain words. -/
namespace Go.Proofs.Ythofngceiecniaa
open Go.RowKit

section
variable {m : Mix} {s : Held} {x : MAct} {jf jt : Int}
theorem dk1 (hk : x.kind = 1) (ht : idxV m.vessels x.to = jt) : doneM m s x = if (1 ≤ x.fr ∧ x.fr ≤ m.fountains) ∧ 0 ≤ jt ∧ 1 ≤ x.drops ∧ x.drops ≤ sizeV m.vessels jt - heldAt s jt then some (s.set jt.toNat (heldAt s jt + x.drops)) else none := by
 unfold doneM
 rw [if_pos hk, ht]
theorem dk0 (hk : x.kind ≠ 1) (hf : idxV m.vessels x.fr = jf) (h0 : jf < 0) : doneM m s x = none := by
 unfold doneM
 rw [if_neg hk, hf, if_pos h0]
theorem dk2 (hk : x.kind = 2) (hf : idxV m.vessels x.fr = jf) (ht : idxV m.vessels x.to = jt) (h0 : 0 ≤ jf) : doneM m s x = if jt ≠ jf ∧ (1 ≤ x.drops ∧ x.drops ≤ heldAt s jf) ∧ 0 ≤ jt ∧ x.drops ≤ sizeV m.vessels jt - heldAt s jt then some ((s.set jf.toNat (heldAt s jf - x.drops)).set jt.toNat (heldAt s jt + x.drops)) else none := by
 unfold doneM
 rw [if_neg (by omega), hf, if_neg (by omega), if_pos hk, ht]
 by_cases e : x.fr = x.to
 ·have : jt = jf := by rw [← hf, ← ht, e]
  rw [if_neg (fun h => h.1 e), if_neg (fun h => h.1 this)]
 ·have hne : 0 ≤ jt → jt ≠ jf := fun h1 h2 => e (idxV_inj (l := m.vessels) (by rw [hf]; exact h0) (by rw [hf, ht, h2]))
  by_cases c : (1 ≤ x.drops ∧ x.drops ≤ heldAt s jf) ∧ 0 ≤ jt ∧ x.drops ≤ sizeV m.vessels jt - heldAt s jt
  ·rw [if_pos ⟨e, c⟩, if_pos ⟨hne c.2.1, c⟩]
  ·rw [if_neg (fun h => c h.2), if_neg (fun h => c h.2)]
theorem dk3 (hk : x.kind = 3) (hf : idxV m.vessels x.fr = jf) (h0 : 0 ≤ jf) : doneM m s x = if x.to = 0 ∧ 1 ≤ x.drops ∧ x.drops ≤ heldAt s jf then some (s.set jf.toNat (heldAt s jf - x.drops)) else none := by
 unfold doneM
 rw [if_neg (by omega), hf, if_neg (by omega), if_neg (by omega), if_pos hk]
theorem dk4 (hk : x.kind = 4) (hf : idxV m.vessels x.fr = jf) (h0 : 0 ≤ jf) : doneM m s x = if x.to = 0 ∧ x.drops = 0 then some (s.set jf.toNat 0) else none := by
 unfold doneM
 rw [if_neg (by omega), hf, if_neg (by omega), if_neg (by omega), if_neg (by omega), if_pos hk]
theorem dk5 (h1 : x.kind ≠ 1) (h2 : x.kind ≠ 2) (h3 : x.kind ≠ 3) (h4 : x.kind ≠ 4) : doneM m s x = none := by
 unfold doneM
 rw [if_neg h1, if_neg h2, if_neg h3, if_neg h4]
 split <;> rfl
theorem heldC_set {s : Held} (hs : s.length = 4) {q : Nat} (hq : q < 4) (v : Int) : (heldC s).toArray.setIfInBounds q (.int .i64 v) = (heldC (s.set q v)).toArray := by
 match s, hs, q, hq with
 | [a, b, c, d], _, 0, _ => rfl
 | [a, b, c, d], _, 1, _ => rfl
 | [a, b, c, d], _, 2, _ => rfl
 | [a, b, c, d], _, 3, _ => rfl
/-- What the answer's done says. -/
def RDoneOut (w : World) (m : Mix) (s : Held) (x : MAct) (e : Ending) (w' : World) : Prop :=
 Below w.heap.size w w' ∧ ∃ s2 b, e = .returned (.tuple #[.agg #[.int .i64 (heldAt s2 0), .int .i64 (heldAt s2 1), .int .i64 (heldAt s2 2), .int .i64 (heldAt s2 3)], .bool b]) ∧ ((b = true ∧ doneM m s x = some s2) ∨ (b = false ∧ doneM m s x = none))
end
end Go.Proofs.Ythofngceiecniaa
/- The answer's done. -/
namespace Go.Proofs.Ythofngceiecniaa
open Go.RowKit

theorem lay_set1 {w W : World} {t0 t2 t3 : TypeId} {c0 c2 c3 : Array Value} {s : Held} (h : Lay w W [(w.heap.size, t0, c0), (w.heap.size + 1, 110, (heldC s).toArray), (w.heap.size + 1 + 1, t2, c2), (w.heap.size + 1 + 1 + 1, t3, c3)]) (q : Nat) (hs : s.length = 4) (hq : q < 4) (v : Int) :
  Lay w (W.setCell ⟨w.heap.size + 1, q, none⟩ (.int .i64 v)) [(w.heap.size, t0, c0), (w.heap.size + 1, 110, (heldC (s.set q v)).toArray), (w.heap.size + 1 + 1, t2, c2), (w.heap.size + 1 + 1 + 1, t3, c3)] := by
 have hg := grown_setCell (row := some (w.heap.size + 1)) (grown_refl W _) (p := ⟨w.heap.size + 1, q, none⟩) (.inl rfl) (.int .i64 v)
 refine ⟨h.1.setCell (p := ⟨w.heap.size + 1, q, none⟩) (by simp) _, fun b hb => ?_⟩
 simp only [List.mem_cons, List.not_mem_nil, or_false] at hb
 rcases hb with rfl | rfl | rfl | rfl
 ·exact ⟨h.ge 0 rfl, (h.blk 0 rfl).grown hg (by simp)⟩
 ·refine ⟨h.ge 1 rfl, ?_⟩
  have := (h.blk 1 rfl).set_ q (.int .i64 v)
  rwa [heldC_set hs hq] at this
 ·exact ⟨h.ge 2 rfl, (h.blk 2 rfl).grown hg (fun e => by have := Option.some.inj e; omega)⟩
 ·exact ⟨h.ge 3 rfl, (h.blk 3 rfl).grown hg (fun e => by have := Option.some.inj e; omega)⟩
set_option maxRecDepth 100000 in
set_option maxHeartbeats 16000000 in
theorem rdone_in (Av : Option Addr) (nv cv : Nat) (Aa : Option Addr) (na ca : Nat) (At : Option Addr) (nt ct : Nat) (m : Mix) (s : Held) (x : MAct) (w : World) (h : MixS w Av nv Aa na At nt m) (hz : VesOk m) (hv4 : nv ≤ 4) (hsl : s.length = 4) (hs : ∀ q : Nat, 0 ≤ heldAt s q ∧ heldAt s q ≤ 12) :
  CallsIn Fence.wide 9 Try.prog 94 #[.agg #[.int .i64 m.fountains, .slice Av nv cv, .slice Aa na ca, .slice At nt ct], .agg #[.int .i64 (heldAt s 0), .int .i64 (heldAt s 1), .int .i64 (heldAt s 2), .int .i64 (heldAt s 3)], .agg #[.int .i64 x.kind, .int .i64 x.fr, .int .i64 x.to, .int .i64 x.drops]] w (RDoneOut w m s x) := by
 have HV4 := Lib.hid hv4
 clear hv4
 have HM := Lib.hid h
 have HZ := Lib.hid hz
 have HS := Lib.hid hs
 have HSL := Lib.hid hsl
 clear h hz hs hsl
 refine callsIn_of_wp Try.func94 rfl trivial ?_ rfl
 simp only [Try.ntmps94, List.size_toArray, List.length_cons, List.length_nil, Nat.reduceAdd, Nat.reduceSub, Array.replicate_succ, Array.replicate_zero, List.push_toArray, List.append_toArray, List.nil_append, List.cons_append]
 gi_wp2
 have HLay := Lib.hid (Lay.four w 26 #[.int .i64 m.fountains, .slice Av nv cv, .slice Aa na ca, .slice At nt ct] 110 #[.int .i64 (heldAt s 0), .int .i64 (heldAt s 1), .int .i64 (heldAt s 2), .int .i64 (heldAt s 3)] 67 #[.int .i64 x.kind, .int .i64 x.fr, .int .i64 x.to, .int .i64 x.drops] 110 #[.int .i64 0, .int .i64 0, .int .i64 0, .int .i64 0])
 generalize ((((w.alloc (.cells #[.int .i64 m.fountains, .slice Av nv cv, .slice Aa na ca, .slice At nt ct] 26)).alloc (.cells #[.int .i64 (heldAt s 0), .int .i64 (heldAt s 1), .int .i64 (heldAt s 2), .int .i64 (heldAt s 3)] 110)).alloc (.cells #[.int .i64 x.kind, .int .i64 x.fr, .int .i64 x.to, .int .i64 x.drops] 67)).alloc (.cells #[.int .i64 0, .int .i64 0, .int .i64 0, .int .i64 0] 110)) = w0 at *
 refine wpIn_flow_old [([true, true, true, false, true, true, true], 3), ([], 7)] [false, false, false, false, false, false, false, false, true, true] [] (by kernel_rfl) (by kernel_rfl) (by kernel_rfl) (below_drewN (Below.refl _ _) 1) ?_
 refine wpFlow_cons (A := ?AF1) rfl ?hq1 ?_
 case hq1 =>
  rintro σ hσ of hof hcl
  have HOF := Lib.hid hof
  have HCL := Lib.hid hcl
  clear hof hcl
  have c0_ : ∀ z, (of z).cell? ⟨w.heap.size, 0, none⟩ = some (.int .i64 m.fountains) := fun z => ((HLay.out.below (HOF.out z)).blk 0 rfl).cell 0
  have c1_ : ∀ z, (of z).cell? ⟨w.heap.size, 1, none⟩ = some (.slice Av nv cv) := fun z => ((HLay.out.below (HOF.out z)).blk 0 rfl).cell 1
  have c2_ : ∀ z, (of z).cell? ⟨w.heap.size, 2, none⟩ = some (.slice Aa na ca) := fun z => ((HLay.out.below (HOF.out z)).blk 0 rfl).cell 2
  have c3_ : ∀ z, (of z).cell? ⟨w.heap.size, 3, none⟩ = some (.slice At nt ct) := fun z => ((HLay.out.below (HOF.out z)).blk 0 rfl).cell 3
  have c4_ : ∀ z, (of z).cell? ⟨w.heap.size + 1 + 1, 0, none⟩ = some (.int .i64 x.kind) := fun z => ((HLay.out.below (HOF.out z)).blk 2 rfl).cell 0
  have c5_ : ∀ z, (of z).cell? ⟨w.heap.size + 1 + 1, 1, none⟩ = some (.int .i64 x.fr) := fun z => ((HLay.out.below (HOF.out z)).blk 2 rfl).cell 1
  have c6_ : ∀ z, (of z).cell? ⟨w.heap.size + 1 + 1, 2, none⟩ = some (.int .i64 x.to) := fun z => ((HLay.out.below (HOF.out z)).blk 2 rfl).cell 2
  have c7_ : ∀ z, (of z).cell? ⟨w.heap.size + 1 + 1, 3, none⟩ = some (.int .i64 x.drops) := fun z => ((HLay.out.below (HOF.out z)).blk 2 rfl).cell 3
  have hfw : ∀ f, Fence.wide.fn f := fun _ => trivial
  simp only [pickB]
  repeat (gi_big_quiet_step (fail))
  refine wpQuietIn_nil ?_
  exact rfl
 intro W1 hW
 replace HLay := Lib.hid (HLay.out.below hW)
 clear hW
 gi_wp2
 refine ⟨trivial, (callsIn_wide.2 (rindex_any Av nv cv Aa na ca At nt ct m x.fr W1 (HM.out.up HLay.out.1))).mono ?_⟩
 rintro e W2 ⟨rfl, hb⟩
 replace HLay := Lib.hid (HLay.out.below hb)
 gi_wp2
 refine ⟨trivial, hb, ?_⟩
 clear hb
 refine wpFlow_cons rfl Quietly.none ?_
 intro W3 hW
 replace HLay := Lib.hid (HLay.out.below hW)
 clear hW
 gi_wp2
 refine ⟨trivial, (callsIn_wide.2 (rindex_any Av nv cv Aa na ca At nt ct m x.to W3 (HM.out.up HLay.out.1))).mono ?_⟩
 rintro e W4 ⟨rfl, hb⟩
 replace HLay := Lib.hid (HLay.out.below hb)
 gi_wp2
 refine ⟨trivial, hb, ?_⟩
 clear hb
 refine wpFlow_nil (A := ?AF2) ?hq2 ?_
 case hq2 =>
  rintro σ hσ of hof hcl
  have HOF := Lib.hid hof
  have HCL := Lib.hid hcl
  clear hof hcl
  have c0_ : ∀ z, (of z).cell? ⟨w.heap.size, 0, none⟩ = some (.int .i64 m.fountains) := fun z => ((HLay.out.below (HOF.out z)).blk 0 rfl).cell 0
  have c1_ : ∀ z, (of z).cell? ⟨w.heap.size, 1, none⟩ = some (.slice Av nv cv) := fun z => ((HLay.out.below (HOF.out z)).blk 0 rfl).cell 1
  have c2_ : ∀ z, (of z).cell? ⟨w.heap.size, 2, none⟩ = some (.slice Aa na ca) := fun z => ((HLay.out.below (HOF.out z)).blk 0 rfl).cell 2
  have c3_ : ∀ z, (of z).cell? ⟨w.heap.size, 3, none⟩ = some (.slice At nt ct) := fun z => ((HLay.out.below (HOF.out z)).blk 0 rfl).cell 3
  have c4_ : ∀ z, (of z).cell? ⟨w.heap.size + 1 + 1, 0, none⟩ = some (.int .i64 x.kind) := fun z => ((HLay.out.below (HOF.out z)).blk 2 rfl).cell 0
  have c5_ : ∀ z, (of z).cell? ⟨w.heap.size + 1 + 1, 1, none⟩ = some (.int .i64 x.fr) := fun z => ((HLay.out.below (HOF.out z)).blk 2 rfl).cell 1
  have c6_ : ∀ z, (of z).cell? ⟨w.heap.size + 1 + 1, 2, none⟩ = some (.int .i64 x.to) := fun z => ((HLay.out.below (HOF.out z)).blk 2 rfl).cell 2
  have c7_ : ∀ z, (of z).cell? ⟨w.heap.size + 1 + 1, 3, none⟩ = some (.int .i64 x.drops) := fun z => ((HLay.out.below (HOF.out z)).blk 2 rfl).cell 3
  have hfw : ∀ f, Fence.wide.fn f := fun _ => trivial
  simp only [pickB]
  repeat (gi_big_quiet_step (fail))
  refine wpQuietIn_nil ?_
  exact rfl
 intro W5 hW
 replace HLay := Lib.hid (HLay.out.below hW)
 clear hW
 simp only [pickB]
 refine wpT_nil ?_
 obtain ⟨jf, hjf⟩ : ∃ jf, idxV m.vessels x.fr = jf := ⟨_, rfl⟩
 obtain ⟨jt, hjt⟩ : ∃ jt, idxV m.vessels x.to = jt := ⟨_, rfl⟩
 have hfl : 0 ≤ jf → jf < m.vessels.length := fun h => by rw [← hjf] at h ⊢; exact idxV_lt h
 have htl : 0 ≤ jt → jt < m.vessels.length := fun h => by rw [← hjt] at h ⊢; exact idxV_lt h
 rw [hjf, hjt]
 have HJF := Lib.hid hjf
 have HJT := Lib.hid hjt
 have HFL := Lib.hid hfl
 have HTL := Lib.hid htl
 clear hjf hjt hfl htl
 by_cases hk1 : x.kind = 1
 ·
  have k1 : (x.kind == 1) = true := by simpa using hk1
  have x2_0 := (HLay.out.blk 2 rfl).cell 0
  have x2_1 := (HLay.out.blk 2 rfl).cell 1
  have x2_2 := (HLay.out.blk 2 rfl).cell 2
  have x2_3 := (HLay.out.blk 2 rfl).cell 3
  have l2_ := HLay.out.lt 2 rfl
  gi_wp2
  clear x2_0 x2_1 x2_2 x2_3 l2_
  by_cases hf : 1 ≤ x.fr ∧ x.fr ≤ m.fountains
  ·
   have HWI : Hid (wiB x.fr 1 m.fountains = true) := Lib.hid (decide_eq_true hf)
   by_cases hj : jt < 0
   ·
    have hjn : decide (jt < 0) = true := decide_eq_true hj
    have HD : Hid (doneM m s x = none) := Lib.hid (by rw [dk1 hk1 HJT.out, if_neg (by omega)])
    clear hf
    refine wpIn_flow_old [([true, true, true, true], 4), ([false, false, false, false, false, true, true, true, true, true, true, true, true, true, true, true, true, true, true, true, true, true, true], 23)] [false, false, false, false, false, false, false, false, false, false, false, false, false, false, false, false, false, false, false, false, false, false, false, false, true, true] [] (by kernel_rfl) (by kernel_rfl) (by kernel_rfl) (below_drewN (Below.refl _ _) 1) ?_
    refine wpFlow_cons (A := ?AF3) rfl ?hq3 ?_
    case hq3 =>
     rintro σ hσ of hof hcl
     have HOF := Lib.hid hof
     have HCL := Lib.hid hcl
     clear hof hcl
     have c0_ : ∀ z, (of z).cell? ⟨w.heap.size, 0, none⟩ = some (.int .i64 m.fountains) := fun z => ((HLay.out.below (HOF.out z)).blk 0 rfl).cell 0
     have c1_ : ∀ z, (of z).cell? ⟨w.heap.size, 1, none⟩ = some (.slice Av nv cv) := fun z => ((HLay.out.below (HOF.out z)).blk 0 rfl).cell 1
     have c2_ : ∀ z, (of z).cell? ⟨w.heap.size, 2, none⟩ = some (.slice Aa na ca) := fun z => ((HLay.out.below (HOF.out z)).blk 0 rfl).cell 2
     have c3_ : ∀ z, (of z).cell? ⟨w.heap.size, 3, none⟩ = some (.slice At nt ct) := fun z => ((HLay.out.below (HOF.out z)).blk 0 rfl).cell 3
     have c4_ : ∀ z, (of z).cell? ⟨w.heap.size + 1 + 1, 0, none⟩ = some (.int .i64 x.kind) := fun z => ((HLay.out.below (HOF.out z)).blk 2 rfl).cell 0
     have c5_ : ∀ z, (of z).cell? ⟨w.heap.size + 1 + 1, 1, none⟩ = some (.int .i64 x.fr) := fun z => ((HLay.out.below (HOF.out z)).blk 2 rfl).cell 1
     have c6_ : ∀ z, (of z).cell? ⟨w.heap.size + 1 + 1, 2, none⟩ = some (.int .i64 x.to) := fun z => ((HLay.out.below (HOF.out z)).blk 2 rfl).cell 2
     have c7_ : ∀ z, (of z).cell? ⟨w.heap.size + 1 + 1, 3, none⟩ = some (.int .i64 x.drops) := fun z => ((HLay.out.below (HOF.out z)).blk 2 rfl).cell 3
     have hfw : ∀ f, Fence.wide.fn f := fun _ => trivial
     simp only [pickB]
     repeat (gi_big_quiet_step (fail))
     refine wpQuietIn_nil ?_
     exact rfl
    intro W6 hW
    replace HLay := Lib.hid (HLay.out.below hW)
    clear hW
    gi_wp2
    refine ⟨trivial, (callsIn_wide.2 (within_any x.fr 1 m.fountains W6)).mono ?_⟩
    rintro e W7 ⟨rfl, rfl⟩
    rw [HWI.out]
    gi_wp2
    refine ⟨trivial, Below.refl _ _, ?_⟩
    refine wpFlow_cons (A := ?AF4) rfl ?hq4 ?_
    case hq4 =>
     rintro σ hσ of hof hcl
     have HOF := Lib.hid hof
     have HCL := Lib.hid hcl
     clear hof hcl
     have c0_ : ∀ z, (of z).cell? ⟨w.heap.size, 0, none⟩ = some (.int .i64 m.fountains) := fun z => ((HLay.out.below (HOF.out z)).blk 0 rfl).cell 0
     have c1_ : ∀ z, (of z).cell? ⟨w.heap.size, 1, none⟩ = some (.slice Av nv cv) := fun z => ((HLay.out.below (HOF.out z)).blk 0 rfl).cell 1
     have c2_ : ∀ z, (of z).cell? ⟨w.heap.size, 2, none⟩ = some (.slice Aa na ca) := fun z => ((HLay.out.below (HOF.out z)).blk 0 rfl).cell 2
     have c3_ : ∀ z, (of z).cell? ⟨w.heap.size, 3, none⟩ = some (.slice At nt ct) := fun z => ((HLay.out.below (HOF.out z)).blk 0 rfl).cell 3
     have c4_ : ∀ z, (of z).cell? ⟨w.heap.size + 1 + 1, 0, none⟩ = some (.int .i64 x.kind) := fun z => ((HLay.out.below (HOF.out z)).blk 2 rfl).cell 0
     have c5_ : ∀ z, (of z).cell? ⟨w.heap.size + 1 + 1, 1, none⟩ = some (.int .i64 x.fr) := fun z => ((HLay.out.below (HOF.out z)).blk 2 rfl).cell 1
     have c6_ : ∀ z, (of z).cell? ⟨w.heap.size + 1 + 1, 2, none⟩ = some (.int .i64 x.to) := fun z => ((HLay.out.below (HOF.out z)).blk 2 rfl).cell 2
     have c7_ : ∀ z, (of z).cell? ⟨w.heap.size + 1 + 1, 3, none⟩ = some (.int .i64 x.drops) := fun z => ((HLay.out.below (HOF.out z)).blk 2 rfl).cell 3
     have hfw : ∀ f, Fence.wide.fn f := fun _ => trivial
     simp only [pickB]
     repeat (gi_big_quiet_step (fail))
     refine wpQuietIn_nil ?_
     exact rfl
    intro W8 hW
    replace HLay := Lib.hid (HLay.out.below hW)
    clear hW
    gi_wp2
    refine ⟨trivial, ?_⟩
    gi_wp2
    refine ⟨trivial, Below.refl _ _, ?_⟩
    refine wpFlow_nil (A := ?AF5) ?hq5 ?_
    case hq5 =>
     rintro σ hσ of hof hcl
     have HOF := Lib.hid hof
     have HCL := Lib.hid hcl
     clear hof hcl
     have c0_ : ∀ z, (of z).cell? ⟨w.heap.size, 0, none⟩ = some (.int .i64 m.fountains) := fun z => ((HLay.out.below (HOF.out z)).blk 0 rfl).cell 0
     have c1_ : ∀ z, (of z).cell? ⟨w.heap.size, 1, none⟩ = some (.slice Av nv cv) := fun z => ((HLay.out.below (HOF.out z)).blk 0 rfl).cell 1
     have c2_ : ∀ z, (of z).cell? ⟨w.heap.size, 2, none⟩ = some (.slice Aa na ca) := fun z => ((HLay.out.below (HOF.out z)).blk 0 rfl).cell 2
     have c3_ : ∀ z, (of z).cell? ⟨w.heap.size, 3, none⟩ = some (.slice At nt ct) := fun z => ((HLay.out.below (HOF.out z)).blk 0 rfl).cell 3
     have c4_ : ∀ z, (of z).cell? ⟨w.heap.size + 1 + 1, 0, none⟩ = some (.int .i64 x.kind) := fun z => ((HLay.out.below (HOF.out z)).blk 2 rfl).cell 0
     have c5_ : ∀ z, (of z).cell? ⟨w.heap.size + 1 + 1, 1, none⟩ = some (.int .i64 x.fr) := fun z => ((HLay.out.below (HOF.out z)).blk 2 rfl).cell 1
     have c6_ : ∀ z, (of z).cell? ⟨w.heap.size + 1 + 1, 2, none⟩ = some (.int .i64 x.to) := fun z => ((HLay.out.below (HOF.out z)).blk 2 rfl).cell 2
     have c7_ : ∀ z, (of z).cell? ⟨w.heap.size + 1 + 1, 3, none⟩ = some (.int .i64 x.drops) := fun z => ((HLay.out.below (HOF.out z)).blk 2 rfl).cell 3
     have hfw : ∀ f, Fence.wide.fn f := fun _ => trivial
     simp only [pickB]
     repeat (gi_big_quiet_step (fail))
     refine wpQuietIn_nil ?_
     exact rfl
    intro W9 hW
    replace HLay := Lib.hid (HLay.out.below hW)
    clear hW
    simp only [pickB]
    refine wpT_nil ?_
    have x1_0 := (HLay.out.blk 1 rfl).cell 0
    have x1_1 := (HLay.out.blk 1 rfl).cell 1
    have x1_2 := (HLay.out.blk 1 rfl).cell 2
    have x1_3 := (HLay.out.blk 1 rfl).cell 3
    have l1_ := HLay.out.lt 1 rfl
    have r0 := (HLay.out.blk 3 rfl).cell 0
    have rz0 := (HLay.out.blk 3 rfl).frozen 0
    have r1 := (HLay.out.blk 3 rfl).cell 1
    have rz1 := (HLay.out.blk 3 rfl).frozen 1
    have r2 := (HLay.out.blk 3 rfl).cell 2
    have rz2 := (HLay.out.blk 3 rfl).frozen 2
    have r3 := (HLay.out.blk 3 rfl).cell 3
    have rz3 := (HLay.out.blk 3 rfl).frozen 3
    have rl := HLay.out.lt 3 rfl
    gi_wp2
    have R4 := ret4' (HLay.out.blk 3 rfl) HLay.out.1 (HLay.out.ge 3 rfl) (.int .i64 (heldAt s 0)) (.int .i64 (heldAt s 1)) (.int .i64 (heldAt s 2)) (.int .i64 (heldAt s 3))
    have v0 := R4.1.cell 0
    have v1 := R4.1.cell 1
    have v2 := R4.1.cell 2
    have v3 := R4.1.cell 3
    refine bodyPost_ret (v := .tuple #[.agg #[.int .i64 (heldAt s 0), .int .i64 (heldAt s 1), .int .i64 (heldAt s 2), .int .i64 (heldAt s 3)], .bool false]) (by simp [results, Try.results94, go_sem, v0, v1, v2, v3]) rfl ?_
    exact ⟨R4.2.1, s, false, rfl, .inr ⟨rfl, HD.out⟩⟩
   ·
    obtain ⟨q, rfl⟩ : ∃ q : Nat, jt = q := ⟨jt.toNat, by omega⟩
    have hlv := HM.out.at_.lenV
    have hql := HTL.out (by omega)
    have hqn : q < nv := by omega
    have hq4 : q < 4 := by have := HV4.out; omega
    obtain ⟨bv, off, v, hAv, hbv, hv, _, hc1⟩ := HM.out.at_.vess hqn
    have HVS : Hid (sizeV m.vessels (q : Int) = v.size) := Lib.hid (by unfold sizeV; rw [Int.toNat_natCast, hv]; rfl)
    have hvs := HZ.out v (mem_of_at hv)
    have hsq := HS.out q
    have hwr : IntKind.i64.wrap (v.size - heldAt s (q : Int)) = v.size - heldAt s (q : Int) := IntWalk.i64_in _ (by omega)
    have HC1 := Lib.hid hc1
    have HBV := Lib.hid hbv
    have HAV := Lib.hid hAv
    have HQN := Lib.hid hqn
    have HQ_q := Lib.hid hq4
    have hqd : decide ((q : Int) < 0) = false := decide_eq_false (by omega)
    clear hlv hql hv hc1 hbv hAv
    by_cases hd : 1 ≤ x.drops ∧ x.drops ≤ v.size - heldAt s (q : Int)
    ·
     have HWD : Hid (wiB x.drops 1 (v.size - heldAt s (q : Int)) = true) := Lib.hid (decide_eq_true hd)
     have HD : Hid (doneM m s x = some (s.set q (heldAt s (q : Int) + x.drops))) := Lib.hid (by rw [dk1 hk1 HJT.out, HVS.out, if_pos ⟨hf, by omega, hd.1, hd.2⟩, Int.toNat_natCast])
     have HDB := Lib.hid hd
     clear hf hd hj
     refine wpIn_flow_old [([true, true, true, true], 4), ([false, false, false, false, false, true, true, true, true, true, true, true, true, true, true, true, true, true, true, true, true, true, true], 23)] [false, false, false, false, false, false, false, false, false, false, false, false, false, false, false, false, false, false, false, false, false, false, false, false, true, true] [] (by kernel_rfl) (by kernel_rfl) (by kernel_rfl) (below_drewN (Below.refl _ _) 1) ?_
     refine wpFlow_cons (A := ?AF6) rfl ?hq6 ?_
     case hq6 =>
      rintro σ hσ of hof hcl
      have HOF := Lib.hid hof
      have HCL := Lib.hid hcl
      clear hof hcl
      have c0_ : ∀ z, (of z).cell? ⟨w.heap.size, 0, none⟩ = some (.int .i64 m.fountains) := fun z => ((HLay.out.below (HOF.out z)).blk 0 rfl).cell 0
      have c1_ : ∀ z, (of z).cell? ⟨w.heap.size, 2, none⟩ = some (.slice Aa na ca) := fun z => ((HLay.out.below (HOF.out z)).blk 0 rfl).cell 2
      have c2_ : ∀ z, (of z).cell? ⟨w.heap.size, 3, none⟩ = some (.slice At nt ct) := fun z => ((HLay.out.below (HOF.out z)).blk 0 rfl).cell 3
      have c3_ : ∀ z, (of z).cell? ⟨w.heap.size + 1 + 1, 0, none⟩ = some (.int .i64 x.kind) := fun z => ((HLay.out.below (HOF.out z)).blk 2 rfl).cell 0
      have c4_ : ∀ z, (of z).cell? ⟨w.heap.size + 1 + 1, 1, none⟩ = some (.int .i64 x.fr) := fun z => ((HLay.out.below (HOF.out z)).blk 2 rfl).cell 1
      have c5_ : ∀ z, (of z).cell? ⟨w.heap.size + 1 + 1, 2, none⟩ = some (.int .i64 x.to) := fun z => ((HLay.out.below (HOF.out z)).blk 2 rfl).cell 2
      have c6_ : ∀ z, (of z).cell? ⟨w.heap.size + 1 + 1, 3, none⟩ = some (.int .i64 x.drops) := fun z => ((HLay.out.below (HOF.out z)).blk 2 rfl).cell 3
      have hfw : ∀ f, Fence.wide.fn f := fun _ => trivial
      have e0 : ∀ z, (of z).cell? ⟨w.heap.size, 1, none⟩ = some (.slice (some ⟨bv, off, none⟩) nv cv) := fun z => by rw [← HAV.out]; exact ((HLay.out.below (HOF.out z)).blk 0 rfl).cell 1
      have e1 : ∀ z, (of z).cell? ⟨bv, off + q * 2 + 1, none⟩ = some (.int .i64 v.size) := fun z => ((HLay.out.1.trans ((HOF.out z).mono HLay.out.1.size)).cell (p := ⟨bv, off + q * 2 + 1, none⟩) HBV.out).trans HC1.out
      have e2 : ∀ z, (of z).cell? ⟨w.heap.size + 1, q, none⟩ = some (.int .i64 (heldAt s (q : Int))) := fun z => (((HLay.out.below (HOF.out z)).blk 1 rfl).cell q).trans (heldC_at s HQ_q.out)
      simp only [pickB]
      repeat (gi_big_quiet_step (fail))
      refine wpQuietIn_nil ?_
      exact rfl
     intro W10 hW
     replace HLay := Lib.hid (HLay.out.below hW)
     clear hW
     gi_wp2
     refine ⟨trivial, (callsIn_wide.2 (within_any x.fr 1 m.fountains W10)).mono ?_⟩
     rintro e W11 ⟨rfl, rfl⟩
     rw [HWI.out]
     gi_wp2
     refine ⟨trivial, Below.refl _ _, ?_⟩
     refine wpFlow_cons (A := ?AF7) rfl ?hq7 ?_
     case hq7 =>
      rintro σ hσ of hof hcl
      have HOF := Lib.hid hof
      have HCL := Lib.hid hcl
      clear hof hcl
      have c0_ : ∀ z, (of z).cell? ⟨w.heap.size, 0, none⟩ = some (.int .i64 m.fountains) := fun z => ((HLay.out.below (HOF.out z)).blk 0 rfl).cell 0
      have c1_ : ∀ z, (of z).cell? ⟨w.heap.size, 2, none⟩ = some (.slice Aa na ca) := fun z => ((HLay.out.below (HOF.out z)).blk 0 rfl).cell 2
      have c2_ : ∀ z, (of z).cell? ⟨w.heap.size, 3, none⟩ = some (.slice At nt ct) := fun z => ((HLay.out.below (HOF.out z)).blk 0 rfl).cell 3
      have c3_ : ∀ z, (of z).cell? ⟨w.heap.size + 1 + 1, 0, none⟩ = some (.int .i64 x.kind) := fun z => ((HLay.out.below (HOF.out z)).blk 2 rfl).cell 0
      have c4_ : ∀ z, (of z).cell? ⟨w.heap.size + 1 + 1, 1, none⟩ = some (.int .i64 x.fr) := fun z => ((HLay.out.below (HOF.out z)).blk 2 rfl).cell 1
      have c5_ : ∀ z, (of z).cell? ⟨w.heap.size + 1 + 1, 2, none⟩ = some (.int .i64 x.to) := fun z => ((HLay.out.below (HOF.out z)).blk 2 rfl).cell 2
      have c6_ : ∀ z, (of z).cell? ⟨w.heap.size + 1 + 1, 3, none⟩ = some (.int .i64 x.drops) := fun z => ((HLay.out.below (HOF.out z)).blk 2 rfl).cell 3
      have hfw : ∀ f, Fence.wide.fn f := fun _ => trivial
      have e0 : ∀ z, (of z).cell? ⟨w.heap.size, 1, none⟩ = some (.slice (some ⟨bv, off, none⟩) nv cv) := fun z => by rw [← HAV.out]; exact ((HLay.out.below (HOF.out z)).blk 0 rfl).cell 1
      have e1 : ∀ z, (of z).cell? ⟨bv, off + q * 2 + 1, none⟩ = some (.int .i64 v.size) := fun z => ((HLay.out.1.trans ((HOF.out z).mono HLay.out.1.size)).cell (p := ⟨bv, off + q * 2 + 1, none⟩) HBV.out).trans HC1.out
      have e2 : ∀ z, (of z).cell? ⟨w.heap.size + 1, q, none⟩ = some (.int .i64 (heldAt s (q : Int))) := fun z => (((HLay.out.below (HOF.out z)).blk 1 rfl).cell q).trans (heldC_at s HQ_q.out)
      simp only [pickB]
      repeat (gi_big_quiet_step (fail))
      refine wpQuietIn_nil ?_
      exact rfl
     intro W12 hW
     replace HLay := Lib.hid (HLay.out.below hW)
     clear hW
     gi_wp2
     refine ⟨trivial, (callsIn_wide.2 (within_any x.drops 1 (v.size - heldAt s (q : Int)) W12)).mono ?_⟩
     rintro e W13 ⟨rfl, rfl⟩
     rw [HWD.out]
     gi_wp2
     refine ⟨trivial, Below.refl _ _, ?_⟩
     refine wpFlow_nil (A := ?AF8) ?hq8 ?_
     case hq8 =>
      rintro σ hσ of hof hcl
      have HOF := Lib.hid hof
      have HCL := Lib.hid hcl
      clear hof hcl
      have c0_ : ∀ z, (of z).cell? ⟨w.heap.size, 0, none⟩ = some (.int .i64 m.fountains) := fun z => ((HLay.out.below (HOF.out z)).blk 0 rfl).cell 0
      have c1_ : ∀ z, (of z).cell? ⟨w.heap.size, 2, none⟩ = some (.slice Aa na ca) := fun z => ((HLay.out.below (HOF.out z)).blk 0 rfl).cell 2
      have c2_ : ∀ z, (of z).cell? ⟨w.heap.size, 3, none⟩ = some (.slice At nt ct) := fun z => ((HLay.out.below (HOF.out z)).blk 0 rfl).cell 3
      have c3_ : ∀ z, (of z).cell? ⟨w.heap.size + 1 + 1, 0, none⟩ = some (.int .i64 x.kind) := fun z => ((HLay.out.below (HOF.out z)).blk 2 rfl).cell 0
      have c4_ : ∀ z, (of z).cell? ⟨w.heap.size + 1 + 1, 1, none⟩ = some (.int .i64 x.fr) := fun z => ((HLay.out.below (HOF.out z)).blk 2 rfl).cell 1
      have c5_ : ∀ z, (of z).cell? ⟨w.heap.size + 1 + 1, 2, none⟩ = some (.int .i64 x.to) := fun z => ((HLay.out.below (HOF.out z)).blk 2 rfl).cell 2
      have c6_ : ∀ z, (of z).cell? ⟨w.heap.size + 1 + 1, 3, none⟩ = some (.int .i64 x.drops) := fun z => ((HLay.out.below (HOF.out z)).blk 2 rfl).cell 3
      have hfw : ∀ f, Fence.wide.fn f := fun _ => trivial
      simp only [pickB]
      repeat (gi_big_quiet_step (fail))
      refine wpQuietIn_nil ?_
      exact rfl
     intro W14 hW
     replace HLay := Lib.hid (HLay.out.below hW)
     clear hW
     simp only [pickB]
     refine wpT_nil ?_
     gi_wp2
     clear hwr
     have hdb := HDB.out
     have hwa : IntKind.i64.wrap (heldAt s (q : Int) + x.drops) = heldAt s (q : Int) + x.drops := IntWalk.i64_in _ (by omega)
     refine wpIn_flow_old [] [true, true, true, true, true, true, true] [false, false, false, false, false, false, false, true] (by kernel_rfl) (by kernel_rfl) (by kernel_rfl) (below_drewN (Below.refl _ _) 1) ?_
     refine wpFlow_nil (A := ?AF9) ?hq9 ?_
     case hq9 =>
      rintro σ hσ of hof hcl
      have HOF := Lib.hid hof
      have HCL := Lib.hid hcl
      clear hof hcl
      have c0_ : ∀ z, (of z).cell? ⟨w.heap.size + 1 + 1, 3, none⟩ = some (.int .i64 x.drops) := fun z => ((HLay.out.below (HOF.out z)).blk 2 rfl).cell 3
      have hfw : ∀ f, Fence.wide.fn f := fun _ => trivial
      have e2 : ∀ z, (of z).cell? ⟨w.heap.size + 1, q, none⟩ = some (.int .i64 (heldAt s (q : Int))) := fun z => (((HLay.out.below (HOF.out z)).blk 1 rfl).cell q).trans (heldC_at s HQ_q.out)
      simp only [pickB]
      repeat (gi_big_quiet_step (fail))
      refine wpQuietIn_nil ?_
      exact rfl
     intro W15 hW
     replace HLay := Lib.hid (HLay.out.below hW)
     clear hW
     have cq : W15.cell? ⟨w.heap.size + 1, q, none⟩ = some (.int .i64 (heldAt s (q : Int))) := ((HLay.out.blk 1 rfl).cell q).trans (heldC_at s HQ_q.out)
     have fq := (HLay.out.blk 1 rfl).frozen q
     have lq := HLay.out.lt 1 rfl
     simp only [pickB]
     refine wpT_cons ?_
     gi_wp2
     refine wpT_nil ?_
     have HLS := Lib.hid (lay_set1 HLay.out q (HSL.out) HQ_q.out (heldAt s (q : Int) + x.drops))
     generalize W15.setCell ⟨w.heap.size + 1, q, none⟩ (.int .i64 (heldAt s (q : Int) + x.drops)) = V16 at *
     replace HLay := HLS
     clear cq fq lq HLS hwa
     replace HLay := Lib.hid (show Lay w V16 [(w.heap.size, 26, #[.int .i64 m.fountains, .slice Av nv cv, .slice Aa na ca, .slice At nt ct]), (w.heap.size + 1, 110, #[.int .i64 (heldAt (s.set q (heldAt s (q : Int) + x.drops)) 0), .int .i64 (heldAt (s.set q (heldAt s (q : Int) + x.drops)) 1), .int .i64 (heldAt (s.set q (heldAt s (q : Int) + x.drops)) 2), .int .i64 (heldAt (s.set q (heldAt s (q : Int) + x.drops)) 3)]), (w.heap.size + 1 + 1, 67, #[.int .i64 x.kind, .int .i64 x.fr, .int .i64 x.to, .int .i64 x.drops]), (w.heap.size + 1 + 1 + 1, 110, #[.int .i64 0, .int .i64 0, .int .i64 0, .int .i64 0])] from HLay.out)
     have x1_0 := (HLay.out.blk 1 rfl).cell 0
     have x1_1 := (HLay.out.blk 1 rfl).cell 1
     have x1_2 := (HLay.out.blk 1 rfl).cell 2
     have x1_3 := (HLay.out.blk 1 rfl).cell 3
     have l1_ := HLay.out.lt 1 rfl
     have r0 := (HLay.out.blk 3 rfl).cell 0
     have rz0 := (HLay.out.blk 3 rfl).frozen 0
     have r1 := (HLay.out.blk 3 rfl).cell 1
     have rz1 := (HLay.out.blk 3 rfl).frozen 1
     have r2 := (HLay.out.blk 3 rfl).cell 2
     have rz2 := (HLay.out.blk 3 rfl).frozen 2
     have r3 := (HLay.out.blk 3 rfl).cell 3
     have rz3 := (HLay.out.blk 3 rfl).frozen 3
     have rl := HLay.out.lt 3 rfl
     gi_wp2
     have R4 := ret4' (HLay.out.blk 3 rfl) HLay.out.1 (HLay.out.ge 3 rfl) (.int .i64 (heldAt (s.set q (heldAt s (q : Int) + x.drops)) 0)) (.int .i64 (heldAt (s.set q (heldAt s (q : Int) + x.drops)) 1)) (.int .i64 (heldAt (s.set q (heldAt s (q : Int) + x.drops)) 2)) (.int .i64 (heldAt (s.set q (heldAt s (q : Int) + x.drops)) 3))
     have v0 := R4.1.cell 0
     have v1 := R4.1.cell 1
     have v2 := R4.1.cell 2
     have v3 := R4.1.cell 3
     refine bodyPost_ret (v := .tuple #[.agg #[.int .i64 (heldAt (s.set q (heldAt s (q : Int) + x.drops)) 0), .int .i64 (heldAt (s.set q (heldAt s (q : Int) + x.drops)) 1), .int .i64 (heldAt (s.set q (heldAt s (q : Int) + x.drops)) 2), .int .i64 (heldAt (s.set q (heldAt s (q : Int) + x.drops)) 3)], .bool true]) (by simp [results, Try.results94, go_sem, v0, v1, v2, v3]) rfl ?_
     exact ⟨R4.2.1, (s.set q (heldAt s (q : Int) + x.drops)), true, rfl, .inl ⟨rfl, HD.out⟩⟩
    ·
     have HWD : Hid (wiB x.drops 1 (v.size - heldAt s (q : Int)) = false) := Lib.hid (decide_eq_false hd)
     have HD : Hid (doneM m s x = none) := Lib.hid (by rw [dk1 hk1 HJT.out, HVS.out, if_neg (fun h => hd ⟨h.2.2.1, h.2.2.2⟩)])
     have HDB := Lib.hid hd
     clear hf hd hj
     refine wpIn_flow_old [([true, true, true, true], 4), ([false, false, false, false, false, true, true, true, true, true, true, true, true, true, true, true, true, true, true, true, true, true, true], 23)] [false, false, false, false, false, false, false, false, false, false, false, false, false, false, false, false, false, false, false, false, false, false, false, false, true, true] [] (by kernel_rfl) (by kernel_rfl) (by kernel_rfl) (below_drewN (Below.refl _ _) 1) ?_
     refine wpFlow_cons (A := ?AF10) rfl ?hq10 ?_
     case hq10 =>
      rintro σ hσ of hof hcl
      have HOF := Lib.hid hof
      have HCL := Lib.hid hcl
      clear hof hcl
      have c0_ : ∀ z, (of z).cell? ⟨w.heap.size, 0, none⟩ = some (.int .i64 m.fountains) := fun z => ((HLay.out.below (HOF.out z)).blk 0 rfl).cell 0
      have c1_ : ∀ z, (of z).cell? ⟨w.heap.size, 2, none⟩ = some (.slice Aa na ca) := fun z => ((HLay.out.below (HOF.out z)).blk 0 rfl).cell 2
      have c2_ : ∀ z, (of z).cell? ⟨w.heap.size, 3, none⟩ = some (.slice At nt ct) := fun z => ((HLay.out.below (HOF.out z)).blk 0 rfl).cell 3
      have c3_ : ∀ z, (of z).cell? ⟨w.heap.size + 1 + 1, 0, none⟩ = some (.int .i64 x.kind) := fun z => ((HLay.out.below (HOF.out z)).blk 2 rfl).cell 0
      have c4_ : ∀ z, (of z).cell? ⟨w.heap.size + 1 + 1, 1, none⟩ = some (.int .i64 x.fr) := fun z => ((HLay.out.below (HOF.out z)).blk 2 rfl).cell 1
      have c5_ : ∀ z, (of z).cell? ⟨w.heap.size + 1 + 1, 2, none⟩ = some (.int .i64 x.to) := fun z => ((HLay.out.below (HOF.out z)).blk 2 rfl).cell 2
      have c6_ : ∀ z, (of z).cell? ⟨w.heap.size + 1 + 1, 3, none⟩ = some (.int .i64 x.drops) := fun z => ((HLay.out.below (HOF.out z)).blk 2 rfl).cell 3
      have hfw : ∀ f, Fence.wide.fn f := fun _ => trivial
      have e0 : ∀ z, (of z).cell? ⟨w.heap.size, 1, none⟩ = some (.slice (some ⟨bv, off, none⟩) nv cv) := fun z => by rw [← HAV.out]; exact ((HLay.out.below (HOF.out z)).blk 0 rfl).cell 1
      have e1 : ∀ z, (of z).cell? ⟨bv, off + q * 2 + 1, none⟩ = some (.int .i64 v.size) := fun z => ((HLay.out.1.trans ((HOF.out z).mono HLay.out.1.size)).cell (p := ⟨bv, off + q * 2 + 1, none⟩) HBV.out).trans HC1.out
      have e2 : ∀ z, (of z).cell? ⟨w.heap.size + 1, q, none⟩ = some (.int .i64 (heldAt s (q : Int))) := fun z => (((HLay.out.below (HOF.out z)).blk 1 rfl).cell q).trans (heldC_at s HQ_q.out)
      simp only [pickB]
      repeat (gi_big_quiet_step (fail))
      refine wpQuietIn_nil ?_
      exact rfl
     intro W17 hW
     replace HLay := Lib.hid (HLay.out.below hW)
     clear hW
     gi_wp2
     refine ⟨trivial, (callsIn_wide.2 (within_any x.fr 1 m.fountains W17)).mono ?_⟩
     rintro e W18 ⟨rfl, rfl⟩
     rw [HWI.out]
     gi_wp2
     refine ⟨trivial, Below.refl _ _, ?_⟩
     refine wpFlow_cons (A := ?AF11) rfl ?hq11 ?_
     case hq11 =>
      rintro σ hσ of hof hcl
      have HOF := Lib.hid hof
      have HCL := Lib.hid hcl
      clear hof hcl
      have c0_ : ∀ z, (of z).cell? ⟨w.heap.size, 0, none⟩ = some (.int .i64 m.fountains) := fun z => ((HLay.out.below (HOF.out z)).blk 0 rfl).cell 0
      have c1_ : ∀ z, (of z).cell? ⟨w.heap.size, 2, none⟩ = some (.slice Aa na ca) := fun z => ((HLay.out.below (HOF.out z)).blk 0 rfl).cell 2
      have c2_ : ∀ z, (of z).cell? ⟨w.heap.size, 3, none⟩ = some (.slice At nt ct) := fun z => ((HLay.out.below (HOF.out z)).blk 0 rfl).cell 3
      have c3_ : ∀ z, (of z).cell? ⟨w.heap.size + 1 + 1, 0, none⟩ = some (.int .i64 x.kind) := fun z => ((HLay.out.below (HOF.out z)).blk 2 rfl).cell 0
      have c4_ : ∀ z, (of z).cell? ⟨w.heap.size + 1 + 1, 1, none⟩ = some (.int .i64 x.fr) := fun z => ((HLay.out.below (HOF.out z)).blk 2 rfl).cell 1
      have c5_ : ∀ z, (of z).cell? ⟨w.heap.size + 1 + 1, 2, none⟩ = some (.int .i64 x.to) := fun z => ((HLay.out.below (HOF.out z)).blk 2 rfl).cell 2
      have c6_ : ∀ z, (of z).cell? ⟨w.heap.size + 1 + 1, 3, none⟩ = some (.int .i64 x.drops) := fun z => ((HLay.out.below (HOF.out z)).blk 2 rfl).cell 3
      have hfw : ∀ f, Fence.wide.fn f := fun _ => trivial
      have e0 : ∀ z, (of z).cell? ⟨w.heap.size, 1, none⟩ = some (.slice (some ⟨bv, off, none⟩) nv cv) := fun z => by rw [← HAV.out]; exact ((HLay.out.below (HOF.out z)).blk 0 rfl).cell 1
      have e1 : ∀ z, (of z).cell? ⟨bv, off + q * 2 + 1, none⟩ = some (.int .i64 v.size) := fun z => ((HLay.out.1.trans ((HOF.out z).mono HLay.out.1.size)).cell (p := ⟨bv, off + q * 2 + 1, none⟩) HBV.out).trans HC1.out
      have e2 : ∀ z, (of z).cell? ⟨w.heap.size + 1, q, none⟩ = some (.int .i64 (heldAt s (q : Int))) := fun z => (((HLay.out.below (HOF.out z)).blk 1 rfl).cell q).trans (heldC_at s HQ_q.out)
      simp only [pickB]
      repeat (gi_big_quiet_step (fail))
      refine wpQuietIn_nil ?_
      exact rfl
     intro W19 hW
     replace HLay := Lib.hid (HLay.out.below hW)
     clear hW
     gi_wp2
     refine ⟨trivial, (callsIn_wide.2 (within_any x.drops 1 (v.size - heldAt s (q : Int)) W19)).mono ?_⟩
     rintro e W20 ⟨rfl, rfl⟩
     rw [HWD.out]
     gi_wp2
     refine ⟨trivial, Below.refl _ _, ?_⟩
     refine wpFlow_nil (A := ?AF12) ?hq12 ?_
     case hq12 =>
      rintro σ hσ of hof hcl
      have HOF := Lib.hid hof
      have HCL := Lib.hid hcl
      clear hof hcl
      have c0_ : ∀ z, (of z).cell? ⟨w.heap.size, 0, none⟩ = some (.int .i64 m.fountains) := fun z => ((HLay.out.below (HOF.out z)).blk 0 rfl).cell 0
      have c1_ : ∀ z, (of z).cell? ⟨w.heap.size, 2, none⟩ = some (.slice Aa na ca) := fun z => ((HLay.out.below (HOF.out z)).blk 0 rfl).cell 2
      have c2_ : ∀ z, (of z).cell? ⟨w.heap.size, 3, none⟩ = some (.slice At nt ct) := fun z => ((HLay.out.below (HOF.out z)).blk 0 rfl).cell 3
      have c3_ : ∀ z, (of z).cell? ⟨w.heap.size + 1 + 1, 0, none⟩ = some (.int .i64 x.kind) := fun z => ((HLay.out.below (HOF.out z)).blk 2 rfl).cell 0
      have c4_ : ∀ z, (of z).cell? ⟨w.heap.size + 1 + 1, 1, none⟩ = some (.int .i64 x.fr) := fun z => ((HLay.out.below (HOF.out z)).blk 2 rfl).cell 1
      have c5_ : ∀ z, (of z).cell? ⟨w.heap.size + 1 + 1, 2, none⟩ = some (.int .i64 x.to) := fun z => ((HLay.out.below (HOF.out z)).blk 2 rfl).cell 2
      have c6_ : ∀ z, (of z).cell? ⟨w.heap.size + 1 + 1, 3, none⟩ = some (.int .i64 x.drops) := fun z => ((HLay.out.below (HOF.out z)).blk 2 rfl).cell 3
      have hfw : ∀ f, Fence.wide.fn f := fun _ => trivial
      simp only [pickB]
      repeat (gi_big_quiet_step (fail))
      refine wpQuietIn_nil ?_
      exact rfl
     intro W21 hW
     replace HLay := Lib.hid (HLay.out.below hW)
     clear hW
     simp only [pickB]
     refine wpT_nil ?_
     have x1_0 := (HLay.out.blk 1 rfl).cell 0
     have x1_1 := (HLay.out.blk 1 rfl).cell 1
     have x1_2 := (HLay.out.blk 1 rfl).cell 2
     have x1_3 := (HLay.out.blk 1 rfl).cell 3
     have l1_ := HLay.out.lt 1 rfl
     have r0 := (HLay.out.blk 3 rfl).cell 0
     have rz0 := (HLay.out.blk 3 rfl).frozen 0
     have r1 := (HLay.out.blk 3 rfl).cell 1
     have rz1 := (HLay.out.blk 3 rfl).frozen 1
     have r2 := (HLay.out.blk 3 rfl).cell 2
     have rz2 := (HLay.out.blk 3 rfl).frozen 2
     have r3 := (HLay.out.blk 3 rfl).cell 3
     have rz3 := (HLay.out.blk 3 rfl).frozen 3
     have rl := HLay.out.lt 3 rfl
     gi_wp2
     have R4 := ret4' (HLay.out.blk 3 rfl) HLay.out.1 (HLay.out.ge 3 rfl) (.int .i64 (heldAt s 0)) (.int .i64 (heldAt s 1)) (.int .i64 (heldAt s 2)) (.int .i64 (heldAt s 3))
     have v0 := R4.1.cell 0
     have v1 := R4.1.cell 1
     have v2 := R4.1.cell 2
     have v3 := R4.1.cell 3
     refine bodyPost_ret (v := .tuple #[.agg #[.int .i64 (heldAt s 0), .int .i64 (heldAt s 1), .int .i64 (heldAt s 2), .int .i64 (heldAt s 3)], .bool false]) (by simp [results, Try.results94, go_sem, v0, v1, v2, v3]) rfl ?_
     exact ⟨R4.2.1, s, false, rfl, .inr ⟨rfl, HD.out⟩⟩
  ·
   have HWI : Hid (wiB x.fr 1 m.fountains = false) := Lib.hid (decide_eq_false hf)
   have HD : Hid (doneM m s x = none) := Lib.hid (by rw [dk1 hk1 HJT.out, if_neg (fun h => hf h.1)])
   clear hf
   refine wpIn_flow_old [([true, true, true, true], 4), ([false, false, false, false, false, true, true, true, true, true, true, true, true, true, true, true, true, true, true, true, true, true, true], 23)] [false, false, false, false, false, false, false, false, false, false, false, false, false, false, false, false, false, false, false, false, false, false, false, false, true, true] [] (by kernel_rfl) (by kernel_rfl) (by kernel_rfl) (below_drewN (Below.refl _ _) 1) ?_
   refine wpFlow_cons (A := ?AF13) rfl ?hq13 ?_
   case hq13 =>
    rintro σ hσ of hof hcl
    have HOF := Lib.hid hof
    have HCL := Lib.hid hcl
    clear hof hcl
    have c0_ : ∀ z, (of z).cell? ⟨w.heap.size, 0, none⟩ = some (.int .i64 m.fountains) := fun z => ((HLay.out.below (HOF.out z)).blk 0 rfl).cell 0
    have c1_ : ∀ z, (of z).cell? ⟨w.heap.size, 1, none⟩ = some (.slice Av nv cv) := fun z => ((HLay.out.below (HOF.out z)).blk 0 rfl).cell 1
    have c2_ : ∀ z, (of z).cell? ⟨w.heap.size, 2, none⟩ = some (.slice Aa na ca) := fun z => ((HLay.out.below (HOF.out z)).blk 0 rfl).cell 2
    have c3_ : ∀ z, (of z).cell? ⟨w.heap.size, 3, none⟩ = some (.slice At nt ct) := fun z => ((HLay.out.below (HOF.out z)).blk 0 rfl).cell 3
    have c4_ : ∀ z, (of z).cell? ⟨w.heap.size + 1 + 1, 0, none⟩ = some (.int .i64 x.kind) := fun z => ((HLay.out.below (HOF.out z)).blk 2 rfl).cell 0
    have c5_ : ∀ z, (of z).cell? ⟨w.heap.size + 1 + 1, 1, none⟩ = some (.int .i64 x.fr) := fun z => ((HLay.out.below (HOF.out z)).blk 2 rfl).cell 1
    have c6_ : ∀ z, (of z).cell? ⟨w.heap.size + 1 + 1, 2, none⟩ = some (.int .i64 x.to) := fun z => ((HLay.out.below (HOF.out z)).blk 2 rfl).cell 2
    have c7_ : ∀ z, (of z).cell? ⟨w.heap.size + 1 + 1, 3, none⟩ = some (.int .i64 x.drops) := fun z => ((HLay.out.below (HOF.out z)).blk 2 rfl).cell 3
    have hfw : ∀ f, Fence.wide.fn f := fun _ => trivial
    simp only [pickB]
    repeat (gi_big_quiet_step (fail))
    refine wpQuietIn_nil ?_
    exact rfl
   intro W22 hW
   replace HLay := Lib.hid (HLay.out.below hW)
   clear hW
   gi_wp2
   refine ⟨trivial, (callsIn_wide.2 (within_any x.fr 1 m.fountains W22)).mono ?_⟩
   rintro e W23 ⟨rfl, rfl⟩
   rw [HWI.out]
   gi_wp2
   refine ⟨trivial, Below.refl _ _, ?_⟩
   refine wpFlow_cons (A := ?AF14) rfl ?hq14 ?_
   case hq14 =>
    rintro σ hσ of hof hcl
    have HOF := Lib.hid hof
    have HCL := Lib.hid hcl
    clear hof hcl
    have c0_ : ∀ z, (of z).cell? ⟨w.heap.size, 0, none⟩ = some (.int .i64 m.fountains) := fun z => ((HLay.out.below (HOF.out z)).blk 0 rfl).cell 0
    have c1_ : ∀ z, (of z).cell? ⟨w.heap.size, 1, none⟩ = some (.slice Av nv cv) := fun z => ((HLay.out.below (HOF.out z)).blk 0 rfl).cell 1
    have c2_ : ∀ z, (of z).cell? ⟨w.heap.size, 2, none⟩ = some (.slice Aa na ca) := fun z => ((HLay.out.below (HOF.out z)).blk 0 rfl).cell 2
    have c3_ : ∀ z, (of z).cell? ⟨w.heap.size, 3, none⟩ = some (.slice At nt ct) := fun z => ((HLay.out.below (HOF.out z)).blk 0 rfl).cell 3
    have c4_ : ∀ z, (of z).cell? ⟨w.heap.size + 1 + 1, 0, none⟩ = some (.int .i64 x.kind) := fun z => ((HLay.out.below (HOF.out z)).blk 2 rfl).cell 0
    have c5_ : ∀ z, (of z).cell? ⟨w.heap.size + 1 + 1, 1, none⟩ = some (.int .i64 x.fr) := fun z => ((HLay.out.below (HOF.out z)).blk 2 rfl).cell 1
    have c6_ : ∀ z, (of z).cell? ⟨w.heap.size + 1 + 1, 2, none⟩ = some (.int .i64 x.to) := fun z => ((HLay.out.below (HOF.out z)).blk 2 rfl).cell 2
    have c7_ : ∀ z, (of z).cell? ⟨w.heap.size + 1 + 1, 3, none⟩ = some (.int .i64 x.drops) := fun z => ((HLay.out.below (HOF.out z)).blk 2 rfl).cell 3
    have hfw : ∀ f, Fence.wide.fn f := fun _ => trivial
    simp only [pickB]
    repeat (gi_big_quiet_step (fail))
    refine wpQuietIn_nil ?_
    exact rfl
   intro W24 hW
   replace HLay := Lib.hid (HLay.out.below hW)
   clear hW
   gi_wp2
   refine ⟨trivial, ?_⟩
   gi_wp2
   refine ⟨trivial, Below.refl _ _, ?_⟩
   refine wpFlow_nil (A := ?AF15) ?hq15 ?_
   case hq15 =>
    rintro σ hσ of hof hcl
    have HOF := Lib.hid hof
    have HCL := Lib.hid hcl
    clear hof hcl
    have c0_ : ∀ z, (of z).cell? ⟨w.heap.size, 0, none⟩ = some (.int .i64 m.fountains) := fun z => ((HLay.out.below (HOF.out z)).blk 0 rfl).cell 0
    have c1_ : ∀ z, (of z).cell? ⟨w.heap.size, 1, none⟩ = some (.slice Av nv cv) := fun z => ((HLay.out.below (HOF.out z)).blk 0 rfl).cell 1
    have c2_ : ∀ z, (of z).cell? ⟨w.heap.size, 2, none⟩ = some (.slice Aa na ca) := fun z => ((HLay.out.below (HOF.out z)).blk 0 rfl).cell 2
    have c3_ : ∀ z, (of z).cell? ⟨w.heap.size, 3, none⟩ = some (.slice At nt ct) := fun z => ((HLay.out.below (HOF.out z)).blk 0 rfl).cell 3
    have c4_ : ∀ z, (of z).cell? ⟨w.heap.size + 1 + 1, 0, none⟩ = some (.int .i64 x.kind) := fun z => ((HLay.out.below (HOF.out z)).blk 2 rfl).cell 0
    have c5_ : ∀ z, (of z).cell? ⟨w.heap.size + 1 + 1, 1, none⟩ = some (.int .i64 x.fr) := fun z => ((HLay.out.below (HOF.out z)).blk 2 rfl).cell 1
    have c6_ : ∀ z, (of z).cell? ⟨w.heap.size + 1 + 1, 2, none⟩ = some (.int .i64 x.to) := fun z => ((HLay.out.below (HOF.out z)).blk 2 rfl).cell 2
    have c7_ : ∀ z, (of z).cell? ⟨w.heap.size + 1 + 1, 3, none⟩ = some (.int .i64 x.drops) := fun z => ((HLay.out.below (HOF.out z)).blk 2 rfl).cell 3
    have hfw : ∀ f, Fence.wide.fn f := fun _ => trivial
    simp only [pickB]
    repeat (gi_big_quiet_step (fail))
    refine wpQuietIn_nil ?_
    exact rfl
   intro W25 hW
   replace HLay := Lib.hid (HLay.out.below hW)
   clear hW
   simp only [pickB]
   refine wpT_nil ?_
   have x1_0 := (HLay.out.blk 1 rfl).cell 0
   have x1_1 := (HLay.out.blk 1 rfl).cell 1
   have x1_2 := (HLay.out.blk 1 rfl).cell 2
   have x1_3 := (HLay.out.blk 1 rfl).cell 3
   have l1_ := HLay.out.lt 1 rfl
   have r0 := (HLay.out.blk 3 rfl).cell 0
   have rz0 := (HLay.out.blk 3 rfl).frozen 0
   have r1 := (HLay.out.blk 3 rfl).cell 1
   have rz1 := (HLay.out.blk 3 rfl).frozen 1
   have r2 := (HLay.out.blk 3 rfl).cell 2
   have rz2 := (HLay.out.blk 3 rfl).frozen 2
   have r3 := (HLay.out.blk 3 rfl).cell 3
   have rz3 := (HLay.out.blk 3 rfl).frozen 3
   have rl := HLay.out.lt 3 rfl
   gi_wp2
   have R4 := ret4' (HLay.out.blk 3 rfl) HLay.out.1 (HLay.out.ge 3 rfl) (.int .i64 (heldAt s 0)) (.int .i64 (heldAt s 1)) (.int .i64 (heldAt s 2)) (.int .i64 (heldAt s 3))
   have v0 := R4.1.cell 0
   have v1 := R4.1.cell 1
   have v2 := R4.1.cell 2
   have v3 := R4.1.cell 3
   refine bodyPost_ret (v := .tuple #[.agg #[.int .i64 (heldAt s 0), .int .i64 (heldAt s 1), .int .i64 (heldAt s 2), .int .i64 (heldAt s 3)], .bool false]) (by simp [results, Try.results94, go_sem, v0, v1, v2, v3]) rfl ?_
   exact ⟨R4.2.1, s, false, rfl, .inr ⟨rfl, HD.out⟩⟩
 ·
  have k1 : (x.kind == 1) = false := by simpa using hk1
  by_cases hj : jf < 0
  ·
   have hjn : decide (jf < 0) = true := decide_eq_true hj
   have HD : Hid (doneM m s x = none) := Lib.hid (dk0 hk1 HJF.out hj)
   have x2_0 := (HLay.out.blk 2 rfl).cell 0
   have x2_1 := (HLay.out.blk 2 rfl).cell 1
   have x2_2 := (HLay.out.blk 2 rfl).cell 2
   have x2_3 := (HLay.out.blk 2 rfl).cell 3
   have l2_ := HLay.out.lt 2 rfl
   have x1_0 := (HLay.out.blk 1 rfl).cell 0
   have x1_1 := (HLay.out.blk 1 rfl).cell 1
   have x1_2 := (HLay.out.blk 1 rfl).cell 2
   have x1_3 := (HLay.out.blk 1 rfl).cell 3
   have l1_ := HLay.out.lt 1 rfl
   have r0 := (HLay.out.blk 3 rfl).cell 0
   have rz0 := (HLay.out.blk 3 rfl).frozen 0
   have r1 := (HLay.out.blk 3 rfl).cell 1
   have rz1 := (HLay.out.blk 3 rfl).frozen 1
   have r2 := (HLay.out.blk 3 rfl).cell 2
   have rz2 := (HLay.out.blk 3 rfl).frozen 2
   have r3 := (HLay.out.blk 3 rfl).cell 3
   have rz3 := (HLay.out.blk 3 rfl).frozen 3
   have rl := HLay.out.lt 3 rfl
   gi_wp2
   have R4 := ret4' (HLay.out.blk 3 rfl) HLay.out.1 (HLay.out.ge 3 rfl) (.int .i64 (heldAt s 0)) (.int .i64 (heldAt s 1)) (.int .i64 (heldAt s 2)) (.int .i64 (heldAt s 3))
   have v0 := R4.1.cell 0
   have v1 := R4.1.cell 1
   have v2 := R4.1.cell 2
   have v3 := R4.1.cell 3
   refine bodyPost_ret (v := .tuple #[.agg #[.int .i64 (heldAt s 0), .int .i64 (heldAt s 1), .int .i64 (heldAt s 2), .int .i64 (heldAt s 3)], .bool false]) (by simp [results, Try.results94, go_sem, v0, v1, v2, v3]) rfl ?_
   exact ⟨R4.2.1, s, false, rfl, .inr ⟨rfl, HD.out⟩⟩
  ·
   obtain ⟨a, rfl⟩ : ∃ a : Nat, jf = a := ⟨jf.toNat, by omega⟩
   have hasl := HFL.out (by omega)
   have hlv := HM.out.at_.lenV
   have ha4 : a < 4 := by have := HV4.out; omega
   have hsa := HS.out a
   have HQ_a := Lib.hid ha4
   have had : decide ((a : Int) < 0) = false := decide_eq_false (by omega)
   clear hasl hlv
   by_cases hk2 : x.kind = 2
   ·
    have k2 : (x.kind == 2) = true := by simpa using hk2
    have x2_0 := (HLay.out.blk 2 rfl).cell 0
    have x2_1 := (HLay.out.blk 2 rfl).cell 1
    have x2_2 := (HLay.out.blk 2 rfl).cell 2
    have x2_3 := (HLay.out.blk 2 rfl).cell 3
    have l2_ := HLay.out.lt 2 rfl
    gi_wp2
    clear x2_0 x2_1 x2_2 x2_3 l2_
    by_cases hj2 : jt < 0
    ·
     have hjn : decide (jt < 0) = true := decide_eq_true hj2
     have HD : Hid (doneM m s x = none) := Lib.hid (by rw [dk2 hk2 HJF.out HJT.out (by omega), if_neg (fun h => by have := h.2.2.1; omega)])
     clear hk1 hk2
     refine wpIn_flow_old [([true, true, true, true, true, true, true, true, true, true, true, true, true], 13), ([false, false, false, false, false, false, false, false, false, false, false, false, false, false, true, true, true, true, true, true, true, true, true, true, true, true, true, true, true], 29)] [false, false, false, false, false, false, false, false, false, false, false, false, false, false, false, false, false, false, false, false, false, false, false, false, false, false, false, false, false, false, true, true] [] (by kernel_rfl) (by kernel_rfl) (by kernel_rfl) (below_drewN (Below.refl _ _) 1) ?_
     refine wpFlow_cons (A := ?AF16) rfl ?hq16 ?_
     case hq16 =>
      rintro σ hσ of hof hcl
      have HOF := Lib.hid hof
      have HCL := Lib.hid hcl
      clear hof hcl
      have c0_ : ∀ z, (of z).cell? ⟨w.heap.size, 0, none⟩ = some (.int .i64 m.fountains) := fun z => ((HLay.out.below (HOF.out z)).blk 0 rfl).cell 0
      have c1_ : ∀ z, (of z).cell? ⟨w.heap.size, 1, none⟩ = some (.slice Av nv cv) := fun z => ((HLay.out.below (HOF.out z)).blk 0 rfl).cell 1
      have c2_ : ∀ z, (of z).cell? ⟨w.heap.size, 2, none⟩ = some (.slice Aa na ca) := fun z => ((HLay.out.below (HOF.out z)).blk 0 rfl).cell 2
      have c3_ : ∀ z, (of z).cell? ⟨w.heap.size, 3, none⟩ = some (.slice At nt ct) := fun z => ((HLay.out.below (HOF.out z)).blk 0 rfl).cell 3
      have c4_ : ∀ z, (of z).cell? ⟨w.heap.size + 1 + 1, 0, none⟩ = some (.int .i64 x.kind) := fun z => ((HLay.out.below (HOF.out z)).blk 2 rfl).cell 0
      have c5_ : ∀ z, (of z).cell? ⟨w.heap.size + 1 + 1, 1, none⟩ = some (.int .i64 x.fr) := fun z => ((HLay.out.below (HOF.out z)).blk 2 rfl).cell 1
      have c6_ : ∀ z, (of z).cell? ⟨w.heap.size + 1 + 1, 2, none⟩ = some (.int .i64 x.to) := fun z => ((HLay.out.below (HOF.out z)).blk 2 rfl).cell 2
      have c7_ : ∀ z, (of z).cell? ⟨w.heap.size + 1 + 1, 3, none⟩ = some (.int .i64 x.drops) := fun z => ((HLay.out.below (HOF.out z)).blk 2 rfl).cell 3
      have hfw : ∀ f, Fence.wide.fn f := fun _ => trivial
      simp only [pickB]
      repeat (gi_big_quiet_step (fail))
      refine wpQuietIn_nil ?_
      exact rfl
     intro W26 hW
     replace HLay := Lib.hid (HLay.out.below hW)
     clear hW
     gi_wp2
     refine ⟨trivial, ?_⟩
     gi_wp2
     refine ⟨trivial, Below.refl _ _, ?_⟩
     refine wpFlow_cons (A := ?AF17) rfl ?hq17 ?_
     case hq17 =>
      rintro σ hσ of hof hcl
      have HOF := Lib.hid hof
      have HCL := Lib.hid hcl
      clear hof hcl
      have c0_ : ∀ z, (of z).cell? ⟨w.heap.size, 0, none⟩ = some (.int .i64 m.fountains) := fun z => ((HLay.out.below (HOF.out z)).blk 0 rfl).cell 0
      have c1_ : ∀ z, (of z).cell? ⟨w.heap.size, 1, none⟩ = some (.slice Av nv cv) := fun z => ((HLay.out.below (HOF.out z)).blk 0 rfl).cell 1
      have c2_ : ∀ z, (of z).cell? ⟨w.heap.size, 2, none⟩ = some (.slice Aa na ca) := fun z => ((HLay.out.below (HOF.out z)).blk 0 rfl).cell 2
      have c3_ : ∀ z, (of z).cell? ⟨w.heap.size, 3, none⟩ = some (.slice At nt ct) := fun z => ((HLay.out.below (HOF.out z)).blk 0 rfl).cell 3
      have c4_ : ∀ z, (of z).cell? ⟨w.heap.size + 1 + 1, 0, none⟩ = some (.int .i64 x.kind) := fun z => ((HLay.out.below (HOF.out z)).blk 2 rfl).cell 0
      have c5_ : ∀ z, (of z).cell? ⟨w.heap.size + 1 + 1, 1, none⟩ = some (.int .i64 x.fr) := fun z => ((HLay.out.below (HOF.out z)).blk 2 rfl).cell 1
      have c6_ : ∀ z, (of z).cell? ⟨w.heap.size + 1 + 1, 2, none⟩ = some (.int .i64 x.to) := fun z => ((HLay.out.below (HOF.out z)).blk 2 rfl).cell 2
      have c7_ : ∀ z, (of z).cell? ⟨w.heap.size + 1 + 1, 3, none⟩ = some (.int .i64 x.drops) := fun z => ((HLay.out.below (HOF.out z)).blk 2 rfl).cell 3
      have hfw : ∀ f, Fence.wide.fn f := fun _ => trivial
      simp only [pickB]
      repeat (gi_big_quiet_step (fail))
      refine wpQuietIn_nil ?_
      exact rfl
     intro W27 hW
     replace HLay := Lib.hid (HLay.out.below hW)
     clear hW
     gi_wp2
     refine ⟨trivial, ?_⟩
     gi_wp2
     refine ⟨trivial, Below.refl _ _, ?_⟩
     refine wpFlow_nil (A := ?AF18) ?hq18 ?_
     case hq18 =>
      rintro σ hσ of hof hcl
      have HOF := Lib.hid hof
      have HCL := Lib.hid hcl
      clear hof hcl
      have c0_ : ∀ z, (of z).cell? ⟨w.heap.size, 0, none⟩ = some (.int .i64 m.fountains) := fun z => ((HLay.out.below (HOF.out z)).blk 0 rfl).cell 0
      have c1_ : ∀ z, (of z).cell? ⟨w.heap.size, 1, none⟩ = some (.slice Av nv cv) := fun z => ((HLay.out.below (HOF.out z)).blk 0 rfl).cell 1
      have c2_ : ∀ z, (of z).cell? ⟨w.heap.size, 2, none⟩ = some (.slice Aa na ca) := fun z => ((HLay.out.below (HOF.out z)).blk 0 rfl).cell 2
      have c3_ : ∀ z, (of z).cell? ⟨w.heap.size, 3, none⟩ = some (.slice At nt ct) := fun z => ((HLay.out.below (HOF.out z)).blk 0 rfl).cell 3
      have c4_ : ∀ z, (of z).cell? ⟨w.heap.size + 1 + 1, 0, none⟩ = some (.int .i64 x.kind) := fun z => ((HLay.out.below (HOF.out z)).blk 2 rfl).cell 0
      have c5_ : ∀ z, (of z).cell? ⟨w.heap.size + 1 + 1, 1, none⟩ = some (.int .i64 x.fr) := fun z => ((HLay.out.below (HOF.out z)).blk 2 rfl).cell 1
      have c6_ : ∀ z, (of z).cell? ⟨w.heap.size + 1 + 1, 2, none⟩ = some (.int .i64 x.to) := fun z => ((HLay.out.below (HOF.out z)).blk 2 rfl).cell 2
      have c7_ : ∀ z, (of z).cell? ⟨w.heap.size + 1 + 1, 3, none⟩ = some (.int .i64 x.drops) := fun z => ((HLay.out.below (HOF.out z)).blk 2 rfl).cell 3
      have hfw : ∀ f, Fence.wide.fn f := fun _ => trivial
      simp only [pickB]
      repeat (gi_big_quiet_step (fail))
      refine wpQuietIn_nil ?_
      exact rfl
     intro W28 hW
     replace HLay := Lib.hid (HLay.out.below hW)
     clear hW
     simp only [pickB]
     refine wpT_nil ?_
     have x1_0 := (HLay.out.blk 1 rfl).cell 0
     have x1_1 := (HLay.out.blk 1 rfl).cell 1
     have x1_2 := (HLay.out.blk 1 rfl).cell 2
     have x1_3 := (HLay.out.blk 1 rfl).cell 3
     have l1_ := HLay.out.lt 1 rfl
     have r0 := (HLay.out.blk 3 rfl).cell 0
     have rz0 := (HLay.out.blk 3 rfl).frozen 0
     have r1 := (HLay.out.blk 3 rfl).cell 1
     have rz1 := (HLay.out.blk 3 rfl).frozen 1
     have r2 := (HLay.out.blk 3 rfl).cell 2
     have rz2 := (HLay.out.blk 3 rfl).frozen 2
     have r3 := (HLay.out.blk 3 rfl).cell 3
     have rz3 := (HLay.out.blk 3 rfl).frozen 3
     have rl := HLay.out.lt 3 rfl
     gi_wp2
     have R4 := ret4' (HLay.out.blk 3 rfl) HLay.out.1 (HLay.out.ge 3 rfl) (.int .i64 (heldAt s 0)) (.int .i64 (heldAt s 1)) (.int .i64 (heldAt s 2)) (.int .i64 (heldAt s 3))
     have v0 := R4.1.cell 0
     have v1 := R4.1.cell 1
     have v2 := R4.1.cell 2
     have v3 := R4.1.cell 3
     refine bodyPost_ret (v := .tuple #[.agg #[.int .i64 (heldAt s 0), .int .i64 (heldAt s 1), .int .i64 (heldAt s 2), .int .i64 (heldAt s 3)], .bool false]) (by simp [results, Try.results94, go_sem, v0, v1, v2, v3]) rfl ?_
     exact ⟨R4.2.1, s, false, rfl, .inr ⟨rfl, HD.out⟩⟩
    ·
     obtain ⟨q, rfl⟩ : ∃ q : Nat, jt = q := ⟨jt.toNat, by omega⟩
     have hlv := HM.out.at_.lenV
     have hql := HTL.out (by omega)
     have hqn : q < nv := by omega
     have hq4 : q < 4 := by have := HV4.out; omega
     obtain ⟨bv, off, v, hAv, hbv, hv, _, hc1⟩ := HM.out.at_.vess hqn
     have HVS : Hid (sizeV m.vessels (q : Int) = v.size) := Lib.hid (by unfold sizeV; rw [Int.toNat_natCast, hv]; rfl)
     have hvs := HZ.out v (mem_of_at hv)
     have hsq := HS.out q
     have hwr : IntKind.i64.wrap (v.size - heldAt s (q : Int)) = v.size - heldAt s (q : Int) := IntWalk.i64_in _ (by omega)
     have HC1 := Lib.hid hc1
     have HBV := Lib.hid hbv
     have HAV := Lib.hid hAv
     have HQN := Lib.hid hqn
     have HQ_q := Lib.hid hq4
     have hqd : decide ((q : Int) < 0) = false := decide_eq_false (by omega)
     clear hlv hql hv hc1 hbv hAv
     by_cases hqa : q = a
     ·
      have hqe : (((q : Nat) : Int) == ((a : Nat) : Int)) = true := by simp [hqa]
      have HD : Hid (doneM m s x = none) := Lib.hid (by rw [dk2 hk2 HJF.out HJT.out (by omega), if_neg (fun h => h.1 (by rw [hqa]))])
      have HQA := Lib.hid hqa
      clear hk1 hk2 hqa hwr
      refine wpIn_flow_old [([true, true, true, true, true, true, true, true, true, true, true, true, true], 13), ([false, false, false, false, false, false, false, false, false, false, false, false, false, false, true, true, true, true, true, true, true, true, true, true, true, true, true, true, true], 29)] [false, false, false, false, false, false, false, false, false, false, false, false, false, false, false, false, false, false, false, false, false, false, false, false, false, false, false, false, false, false, true, true] [] (by kernel_rfl) (by kernel_rfl) (by kernel_rfl) (below_drewN (Below.refl _ _) 1) ?_
      refine wpFlow_cons (A := ?AF19) rfl ?hq19 ?_
      case hq19 =>
       rintro σ hσ of hof hcl
       have HOF := Lib.hid hof
       have HCL := Lib.hid hcl
       clear hof hcl
       have c0_ : ∀ z, (of z).cell? ⟨w.heap.size, 0, none⟩ = some (.int .i64 m.fountains) := fun z => ((HLay.out.below (HOF.out z)).blk 0 rfl).cell 0
       have c1_ : ∀ z, (of z).cell? ⟨w.heap.size, 1, none⟩ = some (.slice Av nv cv) := fun z => ((HLay.out.below (HOF.out z)).blk 0 rfl).cell 1
       have c2_ : ∀ z, (of z).cell? ⟨w.heap.size, 2, none⟩ = some (.slice Aa na ca) := fun z => ((HLay.out.below (HOF.out z)).blk 0 rfl).cell 2
       have c3_ : ∀ z, (of z).cell? ⟨w.heap.size, 3, none⟩ = some (.slice At nt ct) := fun z => ((HLay.out.below (HOF.out z)).blk 0 rfl).cell 3
       have c4_ : ∀ z, (of z).cell? ⟨w.heap.size + 1 + 1, 0, none⟩ = some (.int .i64 x.kind) := fun z => ((HLay.out.below (HOF.out z)).blk 2 rfl).cell 0
       have c5_ : ∀ z, (of z).cell? ⟨w.heap.size + 1 + 1, 1, none⟩ = some (.int .i64 x.fr) := fun z => ((HLay.out.below (HOF.out z)).blk 2 rfl).cell 1
       have c6_ : ∀ z, (of z).cell? ⟨w.heap.size + 1 + 1, 2, none⟩ = some (.int .i64 x.to) := fun z => ((HLay.out.below (HOF.out z)).blk 2 rfl).cell 2
       have c7_ : ∀ z, (of z).cell? ⟨w.heap.size + 1 + 1, 3, none⟩ = some (.int .i64 x.drops) := fun z => ((HLay.out.below (HOF.out z)).blk 2 rfl).cell 3
       have hfw : ∀ f, Fence.wide.fn f := fun _ => trivial
       simp only [pickB]
       repeat (gi_big_quiet_step (fail))
       refine wpQuietIn_nil ?_
       exact rfl
      intro W29 hW
      replace HLay := Lib.hid (HLay.out.below hW)
      clear hW
      gi_wp2
      refine ⟨trivial, ?_⟩
      gi_wp2
      refine ⟨trivial, Below.refl _ _, ?_⟩
      refine wpFlow_cons (A := ?AF20) rfl ?hq20 ?_
      case hq20 =>
       rintro σ hσ of hof hcl
       have HOF := Lib.hid hof
       have HCL := Lib.hid hcl
       clear hof hcl
       have c0_ : ∀ z, (of z).cell? ⟨w.heap.size, 0, none⟩ = some (.int .i64 m.fountains) := fun z => ((HLay.out.below (HOF.out z)).blk 0 rfl).cell 0
       have c1_ : ∀ z, (of z).cell? ⟨w.heap.size, 1, none⟩ = some (.slice Av nv cv) := fun z => ((HLay.out.below (HOF.out z)).blk 0 rfl).cell 1
       have c2_ : ∀ z, (of z).cell? ⟨w.heap.size, 2, none⟩ = some (.slice Aa na ca) := fun z => ((HLay.out.below (HOF.out z)).blk 0 rfl).cell 2
       have c3_ : ∀ z, (of z).cell? ⟨w.heap.size, 3, none⟩ = some (.slice At nt ct) := fun z => ((HLay.out.below (HOF.out z)).blk 0 rfl).cell 3
       have c4_ : ∀ z, (of z).cell? ⟨w.heap.size + 1 + 1, 0, none⟩ = some (.int .i64 x.kind) := fun z => ((HLay.out.below (HOF.out z)).blk 2 rfl).cell 0
       have c5_ : ∀ z, (of z).cell? ⟨w.heap.size + 1 + 1, 1, none⟩ = some (.int .i64 x.fr) := fun z => ((HLay.out.below (HOF.out z)).blk 2 rfl).cell 1
       have c6_ : ∀ z, (of z).cell? ⟨w.heap.size + 1 + 1, 2, none⟩ = some (.int .i64 x.to) := fun z => ((HLay.out.below (HOF.out z)).blk 2 rfl).cell 2
       have c7_ : ∀ z, (of z).cell? ⟨w.heap.size + 1 + 1, 3, none⟩ = some (.int .i64 x.drops) := fun z => ((HLay.out.below (HOF.out z)).blk 2 rfl).cell 3
       have hfw : ∀ f, Fence.wide.fn f := fun _ => trivial
       simp only [pickB]
       repeat (gi_big_quiet_step (fail))
       refine wpQuietIn_nil ?_
       exact rfl
      intro W30 hW
      replace HLay := Lib.hid (HLay.out.below hW)
      clear hW
      gi_wp2
      refine ⟨trivial, ?_⟩
      gi_wp2
      refine ⟨trivial, Below.refl _ _, ?_⟩
      refine wpFlow_nil (A := ?AF21) ?hq21 ?_
      case hq21 =>
       rintro σ hσ of hof hcl
       have HOF := Lib.hid hof
       have HCL := Lib.hid hcl
       clear hof hcl
       have c0_ : ∀ z, (of z).cell? ⟨w.heap.size, 0, none⟩ = some (.int .i64 m.fountains) := fun z => ((HLay.out.below (HOF.out z)).blk 0 rfl).cell 0
       have c1_ : ∀ z, (of z).cell? ⟨w.heap.size, 1, none⟩ = some (.slice Av nv cv) := fun z => ((HLay.out.below (HOF.out z)).blk 0 rfl).cell 1
       have c2_ : ∀ z, (of z).cell? ⟨w.heap.size, 2, none⟩ = some (.slice Aa na ca) := fun z => ((HLay.out.below (HOF.out z)).blk 0 rfl).cell 2
       have c3_ : ∀ z, (of z).cell? ⟨w.heap.size, 3, none⟩ = some (.slice At nt ct) := fun z => ((HLay.out.below (HOF.out z)).blk 0 rfl).cell 3
       have c4_ : ∀ z, (of z).cell? ⟨w.heap.size + 1 + 1, 0, none⟩ = some (.int .i64 x.kind) := fun z => ((HLay.out.below (HOF.out z)).blk 2 rfl).cell 0
       have c5_ : ∀ z, (of z).cell? ⟨w.heap.size + 1 + 1, 1, none⟩ = some (.int .i64 x.fr) := fun z => ((HLay.out.below (HOF.out z)).blk 2 rfl).cell 1
       have c6_ : ∀ z, (of z).cell? ⟨w.heap.size + 1 + 1, 2, none⟩ = some (.int .i64 x.to) := fun z => ((HLay.out.below (HOF.out z)).blk 2 rfl).cell 2
       have c7_ : ∀ z, (of z).cell? ⟨w.heap.size + 1 + 1, 3, none⟩ = some (.int .i64 x.drops) := fun z => ((HLay.out.below (HOF.out z)).blk 2 rfl).cell 3
       have hfw : ∀ f, Fence.wide.fn f := fun _ => trivial
       simp only [pickB]
       repeat (gi_big_quiet_step (fail))
       refine wpQuietIn_nil ?_
       exact rfl
      intro W31 hW
      replace HLay := Lib.hid (HLay.out.below hW)
      clear hW
      simp only [pickB]
      refine wpT_nil ?_
      have x1_0 := (HLay.out.blk 1 rfl).cell 0
      have x1_1 := (HLay.out.blk 1 rfl).cell 1
      have x1_2 := (HLay.out.blk 1 rfl).cell 2
      have x1_3 := (HLay.out.blk 1 rfl).cell 3
      have l1_ := HLay.out.lt 1 rfl
      have r0 := (HLay.out.blk 3 rfl).cell 0
      have rz0 := (HLay.out.blk 3 rfl).frozen 0
      have r1 := (HLay.out.blk 3 rfl).cell 1
      have rz1 := (HLay.out.blk 3 rfl).frozen 1
      have r2 := (HLay.out.blk 3 rfl).cell 2
      have rz2 := (HLay.out.blk 3 rfl).frozen 2
      have r3 := (HLay.out.blk 3 rfl).cell 3
      have rz3 := (HLay.out.blk 3 rfl).frozen 3
      have rl := HLay.out.lt 3 rfl
      gi_wp2
      have R4 := ret4' (HLay.out.blk 3 rfl) HLay.out.1 (HLay.out.ge 3 rfl) (.int .i64 (heldAt s 0)) (.int .i64 (heldAt s 1)) (.int .i64 (heldAt s 2)) (.int .i64 (heldAt s 3))
      have v0 := R4.1.cell 0
      have v1 := R4.1.cell 1
      have v2 := R4.1.cell 2
      have v3 := R4.1.cell 3
      refine bodyPost_ret (v := .tuple #[.agg #[.int .i64 (heldAt s 0), .int .i64 (heldAt s 1), .int .i64 (heldAt s 2), .int .i64 (heldAt s 3)], .bool false]) (by simp [results, Try.results94, go_sem, v0, v1, v2, v3]) rfl ?_
      exact ⟨R4.2.1, s, false, rfl, .inr ⟨rfl, HD.out⟩⟩
     ·
      have hqe : (((q : Nat) : Int) == ((a : Nat) : Int)) = false := by simp; omega
      by_cases hd : 1 ≤ x.drops ∧ x.drops ≤ heldAt s (a : Int)
      ·
       have HW1 : Hid (wiB x.drops 1 (heldAt s (a : Int)) = true) := Lib.hid (decide_eq_true hd)
       by_cases he : 1 ≤ x.drops ∧ x.drops ≤ v.size - heldAt s (q : Int)
       ·
        have HWD : Hid (wiB x.drops 1 (v.size - heldAt s (q : Int)) = true) := Lib.hid (decide_eq_true he)
        have HD : Hid (doneM m s x = some ((s.set a (heldAt s (a : Int) - x.drops)).set q (heldAt s (q : Int) + x.drops))) := Lib.hid (by rw [dk2 hk2 HJF.out HJT.out (by omega), HVS.out, if_pos ⟨fun e => hqa (by omega), hd, by omega, he.2⟩, Int.toNat_natCast, Int.toNat_natCast])
        have HDB := Lib.hid (And.intro hd he)
        have HQA := Lib.hid hqa
        clear hk1 hk2 hd he hj2 hqa
        refine wpIn_flow_old [([true, true, true, true, true, true, true, true, true, true, true, true, true], 13), ([false, false, false, false, false, false, false, false, false, false, false, false, false, false, true, true, true, true, true, true, true, true, true, true, true, true, true, true, true], 29)] [false, false, false, false, false, false, false, false, false, false, false, false, false, false, false, false, false, false, false, false, false, false, false, false, false, false, false, false, false, false, true, true] [] (by kernel_rfl) (by kernel_rfl) (by kernel_rfl) (below_drewN (Below.refl _ _) 1) ?_
        refine wpFlow_cons (A := ?AF22) rfl ?hq22 ?_
        case hq22 =>
         rintro σ hσ of hof hcl
         have HOF := Lib.hid hof
         have HCL := Lib.hid hcl
         clear hof hcl
         have c0_ : ∀ z, (of z).cell? ⟨w.heap.size, 0, none⟩ = some (.int .i64 m.fountains) := fun z => ((HLay.out.below (HOF.out z)).blk 0 rfl).cell 0
         have c1_ : ∀ z, (of z).cell? ⟨w.heap.size, 2, none⟩ = some (.slice Aa na ca) := fun z => ((HLay.out.below (HOF.out z)).blk 0 rfl).cell 2
         have c2_ : ∀ z, (of z).cell? ⟨w.heap.size, 3, none⟩ = some (.slice At nt ct) := fun z => ((HLay.out.below (HOF.out z)).blk 0 rfl).cell 3
         have c3_ : ∀ z, (of z).cell? ⟨w.heap.size + 1 + 1, 0, none⟩ = some (.int .i64 x.kind) := fun z => ((HLay.out.below (HOF.out z)).blk 2 rfl).cell 0
         have c4_ : ∀ z, (of z).cell? ⟨w.heap.size + 1 + 1, 1, none⟩ = some (.int .i64 x.fr) := fun z => ((HLay.out.below (HOF.out z)).blk 2 rfl).cell 1
         have c5_ : ∀ z, (of z).cell? ⟨w.heap.size + 1 + 1, 2, none⟩ = some (.int .i64 x.to) := fun z => ((HLay.out.below (HOF.out z)).blk 2 rfl).cell 2
         have c6_ : ∀ z, (of z).cell? ⟨w.heap.size + 1 + 1, 3, none⟩ = some (.int .i64 x.drops) := fun z => ((HLay.out.below (HOF.out z)).blk 2 rfl).cell 3
         have hfw : ∀ f, Fence.wide.fn f := fun _ => trivial
         have e0 : ∀ z, (of z).cell? ⟨w.heap.size, 1, none⟩ = some (.slice (some ⟨bv, off, none⟩) nv cv) := fun z => by rw [← HAV.out]; exact ((HLay.out.below (HOF.out z)).blk 0 rfl).cell 1
         have e1 : ∀ z, (of z).cell? ⟨bv, off + q * 2 + 1, none⟩ = some (.int .i64 v.size) := fun z => ((HLay.out.1.trans ((HOF.out z).mono HLay.out.1.size)).cell (p := ⟨bv, off + q * 2 + 1, none⟩) HBV.out).trans HC1.out
         have e2 : ∀ z, (of z).cell? ⟨w.heap.size + 1, q, none⟩ = some (.int .i64 (heldAt s (q : Int))) := fun z => (((HLay.out.below (HOF.out z)).blk 1 rfl).cell q).trans (heldC_at s HQ_q.out)
         have ea : ∀ z, (of z).cell? ⟨w.heap.size + 1, a, none⟩ = some (.int .i64 (heldAt s (a : Int))) := fun z => (((HLay.out.below (HOF.out z)).blk 1 rfl).cell a).trans (heldC_at s HQ_a.out)
         simp only [pickB]
         repeat (gi_big_quiet_step (fail))
         refine wpQuietIn_nil ?_
         exact rfl
        intro W32 hW
        replace HLay := Lib.hid (HLay.out.below hW)
        clear hW
        gi_wp2
        refine ⟨trivial, (callsIn_wide.2 (within_any x.drops 1 (heldAt s (a : Int)) W32)).mono ?_⟩
        rintro e W33 ⟨rfl, rfl⟩
        rw [HW1.out]
        gi_wp2
        refine ⟨trivial, Below.refl _ _, ?_⟩
        refine wpFlow_cons (A := ?AF23) rfl ?hq23 ?_
        case hq23 =>
         rintro σ hσ of hof hcl
         have HOF := Lib.hid hof
         have HCL := Lib.hid hcl
         clear hof hcl
         have c0_ : ∀ z, (of z).cell? ⟨w.heap.size, 0, none⟩ = some (.int .i64 m.fountains) := fun z => ((HLay.out.below (HOF.out z)).blk 0 rfl).cell 0
         have c1_ : ∀ z, (of z).cell? ⟨w.heap.size, 2, none⟩ = some (.slice Aa na ca) := fun z => ((HLay.out.below (HOF.out z)).blk 0 rfl).cell 2
         have c2_ : ∀ z, (of z).cell? ⟨w.heap.size, 3, none⟩ = some (.slice At nt ct) := fun z => ((HLay.out.below (HOF.out z)).blk 0 rfl).cell 3
         have c3_ : ∀ z, (of z).cell? ⟨w.heap.size + 1 + 1, 0, none⟩ = some (.int .i64 x.kind) := fun z => ((HLay.out.below (HOF.out z)).blk 2 rfl).cell 0
         have c4_ : ∀ z, (of z).cell? ⟨w.heap.size + 1 + 1, 1, none⟩ = some (.int .i64 x.fr) := fun z => ((HLay.out.below (HOF.out z)).blk 2 rfl).cell 1
         have c5_ : ∀ z, (of z).cell? ⟨w.heap.size + 1 + 1, 2, none⟩ = some (.int .i64 x.to) := fun z => ((HLay.out.below (HOF.out z)).blk 2 rfl).cell 2
         have c6_ : ∀ z, (of z).cell? ⟨w.heap.size + 1 + 1, 3, none⟩ = some (.int .i64 x.drops) := fun z => ((HLay.out.below (HOF.out z)).blk 2 rfl).cell 3
         have hfw : ∀ f, Fence.wide.fn f := fun _ => trivial
         have e0 : ∀ z, (of z).cell? ⟨w.heap.size, 1, none⟩ = some (.slice (some ⟨bv, off, none⟩) nv cv) := fun z => by rw [← HAV.out]; exact ((HLay.out.below (HOF.out z)).blk 0 rfl).cell 1
         have e1 : ∀ z, (of z).cell? ⟨bv, off + q * 2 + 1, none⟩ = some (.int .i64 v.size) := fun z => ((HLay.out.1.trans ((HOF.out z).mono HLay.out.1.size)).cell (p := ⟨bv, off + q * 2 + 1, none⟩) HBV.out).trans HC1.out
         have e2 : ∀ z, (of z).cell? ⟨w.heap.size + 1, q, none⟩ = some (.int .i64 (heldAt s (q : Int))) := fun z => (((HLay.out.below (HOF.out z)).blk 1 rfl).cell q).trans (heldC_at s HQ_q.out)
         have ea : ∀ z, (of z).cell? ⟨w.heap.size + 1, a, none⟩ = some (.int .i64 (heldAt s (a : Int))) := fun z => (((HLay.out.below (HOF.out z)).blk 1 rfl).cell a).trans (heldC_at s HQ_a.out)
         simp only [pickB]
         repeat (gi_big_quiet_step (fail))
         refine wpQuietIn_nil ?_
         exact rfl
        intro W34 hW
        replace HLay := Lib.hid (HLay.out.below hW)
        clear hW
        gi_wp2
        refine ⟨trivial, (callsIn_wide.2 (within_any x.drops 1 (v.size - heldAt s (q : Int)) W34)).mono ?_⟩
        rintro e W35 ⟨rfl, rfl⟩
        rw [HWD.out]
        gi_wp2
        refine ⟨trivial, Below.refl _ _, ?_⟩
        refine wpFlow_nil (A := ?AF24) ?hq24 ?_
        case hq24 =>
         rintro σ hσ of hof hcl
         have HOF := Lib.hid hof
         have HCL := Lib.hid hcl
         clear hof hcl
         have c0_ : ∀ z, (of z).cell? ⟨w.heap.size, 0, none⟩ = some (.int .i64 m.fountains) := fun z => ((HLay.out.below (HOF.out z)).blk 0 rfl).cell 0
         have c1_ : ∀ z, (of z).cell? ⟨w.heap.size, 2, none⟩ = some (.slice Aa na ca) := fun z => ((HLay.out.below (HOF.out z)).blk 0 rfl).cell 2
         have c2_ : ∀ z, (of z).cell? ⟨w.heap.size, 3, none⟩ = some (.slice At nt ct) := fun z => ((HLay.out.below (HOF.out z)).blk 0 rfl).cell 3
         have c3_ : ∀ z, (of z).cell? ⟨w.heap.size + 1 + 1, 0, none⟩ = some (.int .i64 x.kind) := fun z => ((HLay.out.below (HOF.out z)).blk 2 rfl).cell 0
         have c4_ : ∀ z, (of z).cell? ⟨w.heap.size + 1 + 1, 1, none⟩ = some (.int .i64 x.fr) := fun z => ((HLay.out.below (HOF.out z)).blk 2 rfl).cell 1
         have c5_ : ∀ z, (of z).cell? ⟨w.heap.size + 1 + 1, 2, none⟩ = some (.int .i64 x.to) := fun z => ((HLay.out.below (HOF.out z)).blk 2 rfl).cell 2
         have c6_ : ∀ z, (of z).cell? ⟨w.heap.size + 1 + 1, 3, none⟩ = some (.int .i64 x.drops) := fun z => ((HLay.out.below (HOF.out z)).blk 2 rfl).cell 3
         have hfw : ∀ f, Fence.wide.fn f := fun _ => trivial
         simp only [pickB]
         repeat (gi_big_quiet_step (fail))
         refine wpQuietIn_nil ?_
         exact rfl
        intro W36 hW
        replace HLay := Lib.hid (HLay.out.below hW)
        clear hW
        simp only [pickB]
        refine wpT_nil ?_
        gi_wp2
        clear hwr
        obtain ⟨hdb1, hdb2⟩ := HDB.out
        have hwa : IntKind.i64.wrap (heldAt s (a : Int) - x.drops) = heldAt s (a : Int) - x.drops := IntWalk.i64_in _ (by omega)
        refine wpIn_flow_old [] [true, true, true, true, true, true, true] [false, false, false, false, false, false, false, true] (by kernel_rfl) (by kernel_rfl) (by kernel_rfl) (below_drewN (Below.refl _ _) 1) ?_
        refine wpFlow_nil (A := ?AF25) ?hq25 ?_
        case hq25 =>
         rintro σ hσ of hof hcl
         have HOF := Lib.hid hof
         have HCL := Lib.hid hcl
         clear hof hcl
         have c0_ : ∀ z, (of z).cell? ⟨w.heap.size + 1 + 1, 3, none⟩ = some (.int .i64 x.drops) := fun z => ((HLay.out.below (HOF.out z)).blk 2 rfl).cell 3
         have hfw : ∀ f, Fence.wide.fn f := fun _ => trivial
         have e2 : ∀ z, (of z).cell? ⟨w.heap.size + 1, a, none⟩ = some (.int .i64 (heldAt s (a : Int))) := fun z => (((HLay.out.below (HOF.out z)).blk 1 rfl).cell a).trans (heldC_at s HQ_a.out)
         simp only [pickB]
         repeat (gi_big_quiet_step (fail))
         refine wpQuietIn_nil ?_
         exact rfl
        intro W37 hW
        replace HLay := Lib.hid (HLay.out.below hW)
        clear hW
        have cq : W37.cell? ⟨w.heap.size + 1, a, none⟩ = some (.int .i64 (heldAt s (a : Int))) := ((HLay.out.blk 1 rfl).cell a).trans (heldC_at s HQ_a.out)
        have fq := (HLay.out.blk 1 rfl).frozen a
        have lq := HLay.out.lt 1 rfl
        simp only [pickB]
        refine wpT_cons ?_
        gi_wp2
        refine wpT_nil ?_
        have HLS := Lib.hid (lay_set1 HLay.out a (HSL.out) HQ_a.out (heldAt s (a : Int) - x.drops))
        generalize W37.setCell ⟨w.heap.size + 1, a, none⟩ (.int .i64 (heldAt s (a : Int) - x.drops)) = V38 at *
        replace HLay := HLS
        clear cq fq lq HLS hwa
        replace HLay := Lib.hid (show Lay w V38 [(w.heap.size, 26, #[.int .i64 m.fountains, .slice Av nv cv, .slice Aa na ca, .slice At nt ct]), (w.heap.size + 1, 110, #[.int .i64 (heldAt (s.set a (heldAt s (a : Int) - x.drops)) 0), .int .i64 (heldAt (s.set a (heldAt s (a : Int) - x.drops)) 1), .int .i64 (heldAt (s.set a (heldAt s (a : Int) - x.drops)) 2), .int .i64 (heldAt (s.set a (heldAt s (a : Int) - x.drops)) 3)]), (w.heap.size + 1 + 1, 67, #[.int .i64 x.kind, .int .i64 x.fr, .int .i64 x.to, .int .i64 x.drops]), (w.heap.size + 1 + 1 + 1, 110, #[.int .i64 0, .int .i64 0, .int .i64 0, .int .i64 0])] from HLay.out)
        have HS1 : Hid (heldAt (s.set a (heldAt s (a : Int) - x.drops)) (q : Int) = heldAt s (q : Int)) := Lib.hid (by rw [show s.set a (heldAt s (a : Int) - x.drops) = s.set ((a : Int)).toNat (heldAt s (a : Int) - x.drops) from by rw [Int.toNat_natCast], heldAt_set (by omega) (by omega) (by have := HSL.out; have := HQ_a.out; omega), if_neg (by have := HQA.out; omega)])
        have HSL1 : Hid ((s.set a (heldAt s (a : Int) - x.drops)).length = 4) := Lib.hid (by rw [List.length_set]; exact HSL.out)
        gi_wp2
        have hwa : IntKind.i64.wrap (heldAt s (q : Int) + x.drops) = heldAt s (q : Int) + x.drops := IntWalk.i64_in _ (by omega)
        refine wpIn_flow_old [] [true, true, true, true, true, true, true] [false, false, false, false, false, false, false, true] (by kernel_rfl) (by kernel_rfl) (by kernel_rfl) (below_drewN (Below.refl _ _) 1) ?_
        refine wpFlow_nil (A := ?AF26) ?hq26 ?_
        case hq26 =>
         rintro σ hσ of hof hcl
         have HOF := Lib.hid hof
         have HCL := Lib.hid hcl
         clear hof hcl
         have c0_ : ∀ z, (of z).cell? ⟨w.heap.size + 1 + 1, 3, none⟩ = some (.int .i64 x.drops) := fun z => ((HLay.out.below (HOF.out z)).blk 2 rfl).cell 3
         have hfw : ∀ f, Fence.wide.fn f := fun _ => trivial
         have e2 : ∀ z, (of z).cell? ⟨w.heap.size + 1, q, none⟩ = some (.int .i64 (heldAt s (q : Int))) := fun z => by rw [← HS1.out]; exact (((HLay.out.below (HOF.out z)).blk 1 rfl).cell q).trans (heldC_at (s.set a (heldAt s (a : Int) - x.drops)) HQ_q.out)
         simp only [pickB]
         repeat (gi_big_quiet_step (fail))
         refine wpQuietIn_nil ?_
         exact rfl
        intro W39 hW
        replace HLay := Lib.hid (HLay.out.below hW)
        clear hW
        have cq : W39.cell? ⟨w.heap.size + 1, q, none⟩ = some (.int .i64 (heldAt s (q : Int))) := by rw [← HS1.out]; exact ((HLay.out.blk 1 rfl).cell q).trans (heldC_at (s.set a (heldAt s (a : Int) - x.drops)) HQ_q.out)
        have fq := (HLay.out.blk 1 rfl).frozen q
        have lq := HLay.out.lt 1 rfl
        simp only [pickB]
        refine wpT_cons ?_
        gi_wp2
        refine wpT_nil ?_
        have HLS := Lib.hid (lay_set1 HLay.out q (HSL1.out) HQ_q.out (heldAt s (q : Int) + x.drops))
        generalize W39.setCell ⟨w.heap.size + 1, q, none⟩ (.int .i64 (heldAt s (q : Int) + x.drops)) = V40 at *
        replace HLay := HLS
        clear cq fq lq HLS hwa
        replace HLay := Lib.hid (show Lay w V40 [(w.heap.size, 26, #[.int .i64 m.fountains, .slice Av nv cv, .slice Aa na ca, .slice At nt ct]), (w.heap.size + 1, 110, #[.int .i64 (heldAt ((s.set a (heldAt s (a : Int) - x.drops)).set q (heldAt s (q : Int) + x.drops)) 0), .int .i64 (heldAt ((s.set a (heldAt s (a : Int) - x.drops)).set q (heldAt s (q : Int) + x.drops)) 1), .int .i64 (heldAt ((s.set a (heldAt s (a : Int) - x.drops)).set q (heldAt s (q : Int) + x.drops)) 2), .int .i64 (heldAt ((s.set a (heldAt s (a : Int) - x.drops)).set q (heldAt s (q : Int) + x.drops)) 3)]), (w.heap.size + 1 + 1, 67, #[.int .i64 x.kind, .int .i64 x.fr, .int .i64 x.to, .int .i64 x.drops]), (w.heap.size + 1 + 1 + 1, 110, #[.int .i64 0, .int .i64 0, .int .i64 0, .int .i64 0])] from HLay.out)
        have x1_0 := (HLay.out.blk 1 rfl).cell 0
        have x1_1 := (HLay.out.blk 1 rfl).cell 1
        have x1_2 := (HLay.out.blk 1 rfl).cell 2
        have x1_3 := (HLay.out.blk 1 rfl).cell 3
        have l1_ := HLay.out.lt 1 rfl
        have r0 := (HLay.out.blk 3 rfl).cell 0
        have rz0 := (HLay.out.blk 3 rfl).frozen 0
        have r1 := (HLay.out.blk 3 rfl).cell 1
        have rz1 := (HLay.out.blk 3 rfl).frozen 1
        have r2 := (HLay.out.blk 3 rfl).cell 2
        have rz2 := (HLay.out.blk 3 rfl).frozen 2
        have r3 := (HLay.out.blk 3 rfl).cell 3
        have rz3 := (HLay.out.blk 3 rfl).frozen 3
        have rl := HLay.out.lt 3 rfl
        gi_wp2
        have R4 := ret4' (HLay.out.blk 3 rfl) HLay.out.1 (HLay.out.ge 3 rfl) (.int .i64 (heldAt ((s.set a (heldAt s (a : Int) - x.drops)).set q (heldAt s (q : Int) + x.drops)) 0)) (.int .i64 (heldAt ((s.set a (heldAt s (a : Int) - x.drops)).set q (heldAt s (q : Int) + x.drops)) 1)) (.int .i64 (heldAt ((s.set a (heldAt s (a : Int) - x.drops)).set q (heldAt s (q : Int) + x.drops)) 2)) (.int .i64 (heldAt ((s.set a (heldAt s (a : Int) - x.drops)).set q (heldAt s (q : Int) + x.drops)) 3))
        have v0 := R4.1.cell 0
        have v1 := R4.1.cell 1
        have v2 := R4.1.cell 2
        have v3 := R4.1.cell 3
        refine bodyPost_ret (v := .tuple #[.agg #[.int .i64 (heldAt ((s.set a (heldAt s (a : Int) - x.drops)).set q (heldAt s (q : Int) + x.drops)) 0), .int .i64 (heldAt ((s.set a (heldAt s (a : Int) - x.drops)).set q (heldAt s (q : Int) + x.drops)) 1), .int .i64 (heldAt ((s.set a (heldAt s (a : Int) - x.drops)).set q (heldAt s (q : Int) + x.drops)) 2), .int .i64 (heldAt ((s.set a (heldAt s (a : Int) - x.drops)).set q (heldAt s (q : Int) + x.drops)) 3)], .bool true]) (by simp [results, Try.results94, go_sem, v0, v1, v2, v3]) rfl ?_
        exact ⟨R4.2.1, ((s.set a (heldAt s (a : Int) - x.drops)).set q (heldAt s (q : Int) + x.drops)), true, rfl, .inl ⟨rfl, HD.out⟩⟩
       ·
        have HWD : Hid (wiB x.drops 1 (v.size - heldAt s (q : Int)) = false) := Lib.hid (decide_eq_false he)
        have HD : Hid (doneM m s x = none) := Lib.hid (by rw [dk2 hk2 HJF.out HJT.out (by omega), HVS.out, if_neg (fun h => he ⟨h.2.1.1, h.2.2.2⟩)])
        have HDB := Lib.hid (And.intro hd he)
        have HQA := Lib.hid hqa
        clear hk1 hk2 hd he hj2 hqa
        refine wpIn_flow_old [([true, true, true, true, true, true, true, true, true, true, true, true, true], 13), ([false, false, false, false, false, false, false, false, false, false, false, false, false, false, true, true, true, true, true, true, true, true, true, true, true, true, true, true, true], 29)] [false, false, false, false, false, false, false, false, false, false, false, false, false, false, false, false, false, false, false, false, false, false, false, false, false, false, false, false, false, false, true, true] [] (by kernel_rfl) (by kernel_rfl) (by kernel_rfl) (below_drewN (Below.refl _ _) 1) ?_
        refine wpFlow_cons (A := ?AF27) rfl ?hq27 ?_
        case hq27 =>
         rintro σ hσ of hof hcl
         have HOF := Lib.hid hof
         have HCL := Lib.hid hcl
         clear hof hcl
         have c0_ : ∀ z, (of z).cell? ⟨w.heap.size, 0, none⟩ = some (.int .i64 m.fountains) := fun z => ((HLay.out.below (HOF.out z)).blk 0 rfl).cell 0
         have c1_ : ∀ z, (of z).cell? ⟨w.heap.size, 2, none⟩ = some (.slice Aa na ca) := fun z => ((HLay.out.below (HOF.out z)).blk 0 rfl).cell 2
         have c2_ : ∀ z, (of z).cell? ⟨w.heap.size, 3, none⟩ = some (.slice At nt ct) := fun z => ((HLay.out.below (HOF.out z)).blk 0 rfl).cell 3
         have c3_ : ∀ z, (of z).cell? ⟨w.heap.size + 1 + 1, 0, none⟩ = some (.int .i64 x.kind) := fun z => ((HLay.out.below (HOF.out z)).blk 2 rfl).cell 0
         have c4_ : ∀ z, (of z).cell? ⟨w.heap.size + 1 + 1, 1, none⟩ = some (.int .i64 x.fr) := fun z => ((HLay.out.below (HOF.out z)).blk 2 rfl).cell 1
         have c5_ : ∀ z, (of z).cell? ⟨w.heap.size + 1 + 1, 2, none⟩ = some (.int .i64 x.to) := fun z => ((HLay.out.below (HOF.out z)).blk 2 rfl).cell 2
         have c6_ : ∀ z, (of z).cell? ⟨w.heap.size + 1 + 1, 3, none⟩ = some (.int .i64 x.drops) := fun z => ((HLay.out.below (HOF.out z)).blk 2 rfl).cell 3
         have hfw : ∀ f, Fence.wide.fn f := fun _ => trivial
         have e0 : ∀ z, (of z).cell? ⟨w.heap.size, 1, none⟩ = some (.slice (some ⟨bv, off, none⟩) nv cv) := fun z => by rw [← HAV.out]; exact ((HLay.out.below (HOF.out z)).blk 0 rfl).cell 1
         have e1 : ∀ z, (of z).cell? ⟨bv, off + q * 2 + 1, none⟩ = some (.int .i64 v.size) := fun z => ((HLay.out.1.trans ((HOF.out z).mono HLay.out.1.size)).cell (p := ⟨bv, off + q * 2 + 1, none⟩) HBV.out).trans HC1.out
         have e2 : ∀ z, (of z).cell? ⟨w.heap.size + 1, q, none⟩ = some (.int .i64 (heldAt s (q : Int))) := fun z => (((HLay.out.below (HOF.out z)).blk 1 rfl).cell q).trans (heldC_at s HQ_q.out)
         have ea : ∀ z, (of z).cell? ⟨w.heap.size + 1, a, none⟩ = some (.int .i64 (heldAt s (a : Int))) := fun z => (((HLay.out.below (HOF.out z)).blk 1 rfl).cell a).trans (heldC_at s HQ_a.out)
         simp only [pickB]
         repeat (gi_big_quiet_step (fail))
         refine wpQuietIn_nil ?_
         exact rfl
        intro W41 hW
        replace HLay := Lib.hid (HLay.out.below hW)
        clear hW
        gi_wp2
        refine ⟨trivial, (callsIn_wide.2 (within_any x.drops 1 (heldAt s (a : Int)) W41)).mono ?_⟩
        rintro e W42 ⟨rfl, rfl⟩
        rw [HW1.out]
        gi_wp2
        refine ⟨trivial, Below.refl _ _, ?_⟩
        refine wpFlow_cons (A := ?AF28) rfl ?hq28 ?_
        case hq28 =>
         rintro σ hσ of hof hcl
         have HOF := Lib.hid hof
         have HCL := Lib.hid hcl
         clear hof hcl
         have c0_ : ∀ z, (of z).cell? ⟨w.heap.size, 0, none⟩ = some (.int .i64 m.fountains) := fun z => ((HLay.out.below (HOF.out z)).blk 0 rfl).cell 0
         have c1_ : ∀ z, (of z).cell? ⟨w.heap.size, 2, none⟩ = some (.slice Aa na ca) := fun z => ((HLay.out.below (HOF.out z)).blk 0 rfl).cell 2
         have c2_ : ∀ z, (of z).cell? ⟨w.heap.size, 3, none⟩ = some (.slice At nt ct) := fun z => ((HLay.out.below (HOF.out z)).blk 0 rfl).cell 3
         have c3_ : ∀ z, (of z).cell? ⟨w.heap.size + 1 + 1, 0, none⟩ = some (.int .i64 x.kind) := fun z => ((HLay.out.below (HOF.out z)).blk 2 rfl).cell 0
         have c4_ : ∀ z, (of z).cell? ⟨w.heap.size + 1 + 1, 1, none⟩ = some (.int .i64 x.fr) := fun z => ((HLay.out.below (HOF.out z)).blk 2 rfl).cell 1
         have c5_ : ∀ z, (of z).cell? ⟨w.heap.size + 1 + 1, 2, none⟩ = some (.int .i64 x.to) := fun z => ((HLay.out.below (HOF.out z)).blk 2 rfl).cell 2
         have c6_ : ∀ z, (of z).cell? ⟨w.heap.size + 1 + 1, 3, none⟩ = some (.int .i64 x.drops) := fun z => ((HLay.out.below (HOF.out z)).blk 2 rfl).cell 3
         have hfw : ∀ f, Fence.wide.fn f := fun _ => trivial
         have e0 : ∀ z, (of z).cell? ⟨w.heap.size, 1, none⟩ = some (.slice (some ⟨bv, off, none⟩) nv cv) := fun z => by rw [← HAV.out]; exact ((HLay.out.below (HOF.out z)).blk 0 rfl).cell 1
         have e1 : ∀ z, (of z).cell? ⟨bv, off + q * 2 + 1, none⟩ = some (.int .i64 v.size) := fun z => ((HLay.out.1.trans ((HOF.out z).mono HLay.out.1.size)).cell (p := ⟨bv, off + q * 2 + 1, none⟩) HBV.out).trans HC1.out
         have e2 : ∀ z, (of z).cell? ⟨w.heap.size + 1, q, none⟩ = some (.int .i64 (heldAt s (q : Int))) := fun z => (((HLay.out.below (HOF.out z)).blk 1 rfl).cell q).trans (heldC_at s HQ_q.out)
         have ea : ∀ z, (of z).cell? ⟨w.heap.size + 1, a, none⟩ = some (.int .i64 (heldAt s (a : Int))) := fun z => (((HLay.out.below (HOF.out z)).blk 1 rfl).cell a).trans (heldC_at s HQ_a.out)
         simp only [pickB]
         repeat (gi_big_quiet_step (fail))
         refine wpQuietIn_nil ?_
         exact rfl
        intro W43 hW
        replace HLay := Lib.hid (HLay.out.below hW)
        clear hW
        gi_wp2
        refine ⟨trivial, (callsIn_wide.2 (within_any x.drops 1 (v.size - heldAt s (q : Int)) W43)).mono ?_⟩
        rintro e W44 ⟨rfl, rfl⟩
        rw [HWD.out]
        gi_wp2
        refine ⟨trivial, Below.refl _ _, ?_⟩
        refine wpFlow_nil (A := ?AF29) ?hq29 ?_
        case hq29 =>
         rintro σ hσ of hof hcl
         have HOF := Lib.hid hof
         have HCL := Lib.hid hcl
         clear hof hcl
         have c0_ : ∀ z, (of z).cell? ⟨w.heap.size, 0, none⟩ = some (.int .i64 m.fountains) := fun z => ((HLay.out.below (HOF.out z)).blk 0 rfl).cell 0
         have c1_ : ∀ z, (of z).cell? ⟨w.heap.size, 2, none⟩ = some (.slice Aa na ca) := fun z => ((HLay.out.below (HOF.out z)).blk 0 rfl).cell 2
         have c2_ : ∀ z, (of z).cell? ⟨w.heap.size, 3, none⟩ = some (.slice At nt ct) := fun z => ((HLay.out.below (HOF.out z)).blk 0 rfl).cell 3
         have c3_ : ∀ z, (of z).cell? ⟨w.heap.size + 1 + 1, 0, none⟩ = some (.int .i64 x.kind) := fun z => ((HLay.out.below (HOF.out z)).blk 2 rfl).cell 0
         have c4_ : ∀ z, (of z).cell? ⟨w.heap.size + 1 + 1, 1, none⟩ = some (.int .i64 x.fr) := fun z => ((HLay.out.below (HOF.out z)).blk 2 rfl).cell 1
         have c5_ : ∀ z, (of z).cell? ⟨w.heap.size + 1 + 1, 2, none⟩ = some (.int .i64 x.to) := fun z => ((HLay.out.below (HOF.out z)).blk 2 rfl).cell 2
         have c6_ : ∀ z, (of z).cell? ⟨w.heap.size + 1 + 1, 3, none⟩ = some (.int .i64 x.drops) := fun z => ((HLay.out.below (HOF.out z)).blk 2 rfl).cell 3
         have hfw : ∀ f, Fence.wide.fn f := fun _ => trivial
         simp only [pickB]
         repeat (gi_big_quiet_step (fail))
         refine wpQuietIn_nil ?_
         exact rfl
        intro W45 hW
        replace HLay := Lib.hid (HLay.out.below hW)
        clear hW
        simp only [pickB]
        refine wpT_nil ?_
        have x1_0 := (HLay.out.blk 1 rfl).cell 0
        have x1_1 := (HLay.out.blk 1 rfl).cell 1
        have x1_2 := (HLay.out.blk 1 rfl).cell 2
        have x1_3 := (HLay.out.blk 1 rfl).cell 3
        have l1_ := HLay.out.lt 1 rfl
        have r0 := (HLay.out.blk 3 rfl).cell 0
        have rz0 := (HLay.out.blk 3 rfl).frozen 0
        have r1 := (HLay.out.blk 3 rfl).cell 1
        have rz1 := (HLay.out.blk 3 rfl).frozen 1
        have r2 := (HLay.out.blk 3 rfl).cell 2
        have rz2 := (HLay.out.blk 3 rfl).frozen 2
        have r3 := (HLay.out.blk 3 rfl).cell 3
        have rz3 := (HLay.out.blk 3 rfl).frozen 3
        have rl := HLay.out.lt 3 rfl
        gi_wp2
        have R4 := ret4' (HLay.out.blk 3 rfl) HLay.out.1 (HLay.out.ge 3 rfl) (.int .i64 (heldAt s 0)) (.int .i64 (heldAt s 1)) (.int .i64 (heldAt s 2)) (.int .i64 (heldAt s 3))
        have v0 := R4.1.cell 0
        have v1 := R4.1.cell 1
        have v2 := R4.1.cell 2
        have v3 := R4.1.cell 3
        refine bodyPost_ret (v := .tuple #[.agg #[.int .i64 (heldAt s 0), .int .i64 (heldAt s 1), .int .i64 (heldAt s 2), .int .i64 (heldAt s 3)], .bool false]) (by simp [results, Try.results94, go_sem, v0, v1, v2, v3]) rfl ?_
        exact ⟨R4.2.1, s, false, rfl, .inr ⟨rfl, HD.out⟩⟩
      ·
       have HW1 : Hid (wiB x.drops 1 (heldAt s (a : Int)) = false) := Lib.hid (decide_eq_false hd)
       have HD : Hid (doneM m s x = none) := Lib.hid (by rw [dk2 hk2 HJF.out HJT.out (by omega), if_neg (fun h => hd h.2.1)])
       have HQA := Lib.hid hqa
       clear hk1 hk2 hd hqa
       refine wpIn_flow_old [([true, true, true, true, true, true, true, true, true, true, true, true, true], 13), ([false, false, false, false, false, false, false, false, false, false, false, false, false, false, true, true, true, true, true, true, true, true, true, true, true, true, true, true, true], 29)] [false, false, false, false, false, false, false, false, false, false, false, false, false, false, false, false, false, false, false, false, false, false, false, false, false, false, false, false, false, false, true, true] [] (by kernel_rfl) (by kernel_rfl) (by kernel_rfl) (below_drewN (Below.refl _ _) 1) ?_
       refine wpFlow_cons (A := ?AF30) rfl ?hq30 ?_
       case hq30 =>
        rintro σ hσ of hof hcl
        have HOF := Lib.hid hof
        have HCL := Lib.hid hcl
        clear hof hcl
        have c0_ : ∀ z, (of z).cell? ⟨w.heap.size, 0, none⟩ = some (.int .i64 m.fountains) := fun z => ((HLay.out.below (HOF.out z)).blk 0 rfl).cell 0
        have c1_ : ∀ z, (of z).cell? ⟨w.heap.size, 2, none⟩ = some (.slice Aa na ca) := fun z => ((HLay.out.below (HOF.out z)).blk 0 rfl).cell 2
        have c2_ : ∀ z, (of z).cell? ⟨w.heap.size, 3, none⟩ = some (.slice At nt ct) := fun z => ((HLay.out.below (HOF.out z)).blk 0 rfl).cell 3
        have c3_ : ∀ z, (of z).cell? ⟨w.heap.size + 1 + 1, 0, none⟩ = some (.int .i64 x.kind) := fun z => ((HLay.out.below (HOF.out z)).blk 2 rfl).cell 0
        have c4_ : ∀ z, (of z).cell? ⟨w.heap.size + 1 + 1, 1, none⟩ = some (.int .i64 x.fr) := fun z => ((HLay.out.below (HOF.out z)).blk 2 rfl).cell 1
        have c5_ : ∀ z, (of z).cell? ⟨w.heap.size + 1 + 1, 2, none⟩ = some (.int .i64 x.to) := fun z => ((HLay.out.below (HOF.out z)).blk 2 rfl).cell 2
        have c6_ : ∀ z, (of z).cell? ⟨w.heap.size + 1 + 1, 3, none⟩ = some (.int .i64 x.drops) := fun z => ((HLay.out.below (HOF.out z)).blk 2 rfl).cell 3
        have hfw : ∀ f, Fence.wide.fn f := fun _ => trivial
        have e0 : ∀ z, (of z).cell? ⟨w.heap.size, 1, none⟩ = some (.slice (some ⟨bv, off, none⟩) nv cv) := fun z => by rw [← HAV.out]; exact ((HLay.out.below (HOF.out z)).blk 0 rfl).cell 1
        have e1 : ∀ z, (of z).cell? ⟨bv, off + q * 2 + 1, none⟩ = some (.int .i64 v.size) := fun z => ((HLay.out.1.trans ((HOF.out z).mono HLay.out.1.size)).cell (p := ⟨bv, off + q * 2 + 1, none⟩) HBV.out).trans HC1.out
        have e2 : ∀ z, (of z).cell? ⟨w.heap.size + 1, q, none⟩ = some (.int .i64 (heldAt s (q : Int))) := fun z => (((HLay.out.below (HOF.out z)).blk 1 rfl).cell q).trans (heldC_at s HQ_q.out)
        have ea : ∀ z, (of z).cell? ⟨w.heap.size + 1, a, none⟩ = some (.int .i64 (heldAt s (a : Int))) := fun z => (((HLay.out.below (HOF.out z)).blk 1 rfl).cell a).trans (heldC_at s HQ_a.out)
        simp only [pickB]
        repeat (gi_big_quiet_step (fail))
        refine wpQuietIn_nil ?_
        exact rfl
       intro W46 hW
       replace HLay := Lib.hid (HLay.out.below hW)
       clear hW
       gi_wp2
       refine ⟨trivial, (callsIn_wide.2 (within_any x.drops 1 (heldAt s (a : Int)) W46)).mono ?_⟩
       rintro e W47 ⟨rfl, rfl⟩
       rw [HW1.out]
       gi_wp2
       refine ⟨trivial, Below.refl _ _, ?_⟩
       refine wpFlow_cons (A := ?AF31) rfl ?hq31 ?_
       case hq31 =>
        rintro σ hσ of hof hcl
        have HOF := Lib.hid hof
        have HCL := Lib.hid hcl
        clear hof hcl
        have c0_ : ∀ z, (of z).cell? ⟨w.heap.size, 0, none⟩ = some (.int .i64 m.fountains) := fun z => ((HLay.out.below (HOF.out z)).blk 0 rfl).cell 0
        have c1_ : ∀ z, (of z).cell? ⟨w.heap.size, 2, none⟩ = some (.slice Aa na ca) := fun z => ((HLay.out.below (HOF.out z)).blk 0 rfl).cell 2
        have c2_ : ∀ z, (of z).cell? ⟨w.heap.size, 3, none⟩ = some (.slice At nt ct) := fun z => ((HLay.out.below (HOF.out z)).blk 0 rfl).cell 3
        have c3_ : ∀ z, (of z).cell? ⟨w.heap.size + 1 + 1, 0, none⟩ = some (.int .i64 x.kind) := fun z => ((HLay.out.below (HOF.out z)).blk 2 rfl).cell 0
        have c4_ : ∀ z, (of z).cell? ⟨w.heap.size + 1 + 1, 1, none⟩ = some (.int .i64 x.fr) := fun z => ((HLay.out.below (HOF.out z)).blk 2 rfl).cell 1
        have c5_ : ∀ z, (of z).cell? ⟨w.heap.size + 1 + 1, 2, none⟩ = some (.int .i64 x.to) := fun z => ((HLay.out.below (HOF.out z)).blk 2 rfl).cell 2
        have c6_ : ∀ z, (of z).cell? ⟨w.heap.size + 1 + 1, 3, none⟩ = some (.int .i64 x.drops) := fun z => ((HLay.out.below (HOF.out z)).blk 2 rfl).cell 3
        have hfw : ∀ f, Fence.wide.fn f := fun _ => trivial
        have e0 : ∀ z, (of z).cell? ⟨w.heap.size, 1, none⟩ = some (.slice (some ⟨bv, off, none⟩) nv cv) := fun z => by rw [← HAV.out]; exact ((HLay.out.below (HOF.out z)).blk 0 rfl).cell 1
        have e1 : ∀ z, (of z).cell? ⟨bv, off + q * 2 + 1, none⟩ = some (.int .i64 v.size) := fun z => ((HLay.out.1.trans ((HOF.out z).mono HLay.out.1.size)).cell (p := ⟨bv, off + q * 2 + 1, none⟩) HBV.out).trans HC1.out
        have e2 : ∀ z, (of z).cell? ⟨w.heap.size + 1, q, none⟩ = some (.int .i64 (heldAt s (q : Int))) := fun z => (((HLay.out.below (HOF.out z)).blk 1 rfl).cell q).trans (heldC_at s HQ_q.out)
        have ea : ∀ z, (of z).cell? ⟨w.heap.size + 1, a, none⟩ = some (.int .i64 (heldAt s (a : Int))) := fun z => (((HLay.out.below (HOF.out z)).blk 1 rfl).cell a).trans (heldC_at s HQ_a.out)
        simp only [pickB]
        repeat (gi_big_quiet_step (fail))
        refine wpQuietIn_nil ?_
        exact rfl
       intro W48 hW
       replace HLay := Lib.hid (HLay.out.below hW)
       clear hW
       gi_wp2
       refine ⟨trivial, ?_⟩
       gi_wp2
       refine ⟨trivial, Below.refl _ _, ?_⟩
       refine wpFlow_nil (A := ?AF32) ?hq32 ?_
       case hq32 =>
        rintro σ hσ of hof hcl
        have HOF := Lib.hid hof
        have HCL := Lib.hid hcl
        clear hof hcl
        have c0_ : ∀ z, (of z).cell? ⟨w.heap.size, 0, none⟩ = some (.int .i64 m.fountains) := fun z => ((HLay.out.below (HOF.out z)).blk 0 rfl).cell 0
        have c1_ : ∀ z, (of z).cell? ⟨w.heap.size, 2, none⟩ = some (.slice Aa na ca) := fun z => ((HLay.out.below (HOF.out z)).blk 0 rfl).cell 2
        have c2_ : ∀ z, (of z).cell? ⟨w.heap.size, 3, none⟩ = some (.slice At nt ct) := fun z => ((HLay.out.below (HOF.out z)).blk 0 rfl).cell 3
        have c3_ : ∀ z, (of z).cell? ⟨w.heap.size + 1 + 1, 0, none⟩ = some (.int .i64 x.kind) := fun z => ((HLay.out.below (HOF.out z)).blk 2 rfl).cell 0
        have c4_ : ∀ z, (of z).cell? ⟨w.heap.size + 1 + 1, 1, none⟩ = some (.int .i64 x.fr) := fun z => ((HLay.out.below (HOF.out z)).blk 2 rfl).cell 1
        have c5_ : ∀ z, (of z).cell? ⟨w.heap.size + 1 + 1, 2, none⟩ = some (.int .i64 x.to) := fun z => ((HLay.out.below (HOF.out z)).blk 2 rfl).cell 2
        have c6_ : ∀ z, (of z).cell? ⟨w.heap.size + 1 + 1, 3, none⟩ = some (.int .i64 x.drops) := fun z => ((HLay.out.below (HOF.out z)).blk 2 rfl).cell 3
        have hfw : ∀ f, Fence.wide.fn f := fun _ => trivial
        simp only [pickB]
        repeat (gi_big_quiet_step (fail))
        refine wpQuietIn_nil ?_
        exact rfl
       intro W49 hW
       replace HLay := Lib.hid (HLay.out.below hW)
       clear hW
       simp only [pickB]
       refine wpT_nil ?_
       have x1_0 := (HLay.out.blk 1 rfl).cell 0
       have x1_1 := (HLay.out.blk 1 rfl).cell 1
       have x1_2 := (HLay.out.blk 1 rfl).cell 2
       have x1_3 := (HLay.out.blk 1 rfl).cell 3
       have l1_ := HLay.out.lt 1 rfl
       have r0 := (HLay.out.blk 3 rfl).cell 0
       have rz0 := (HLay.out.blk 3 rfl).frozen 0
       have r1 := (HLay.out.blk 3 rfl).cell 1
       have rz1 := (HLay.out.blk 3 rfl).frozen 1
       have r2 := (HLay.out.blk 3 rfl).cell 2
       have rz2 := (HLay.out.blk 3 rfl).frozen 2
       have r3 := (HLay.out.blk 3 rfl).cell 3
       have rz3 := (HLay.out.blk 3 rfl).frozen 3
       have rl := HLay.out.lt 3 rfl
       gi_wp2
       have R4 := ret4' (HLay.out.blk 3 rfl) HLay.out.1 (HLay.out.ge 3 rfl) (.int .i64 (heldAt s 0)) (.int .i64 (heldAt s 1)) (.int .i64 (heldAt s 2)) (.int .i64 (heldAt s 3))
       have v0 := R4.1.cell 0
       have v1 := R4.1.cell 1
       have v2 := R4.1.cell 2
       have v3 := R4.1.cell 3
       refine bodyPost_ret (v := .tuple #[.agg #[.int .i64 (heldAt s 0), .int .i64 (heldAt s 1), .int .i64 (heldAt s 2), .int .i64 (heldAt s 3)], .bool false]) (by simp [results, Try.results94, go_sem, v0, v1, v2, v3]) rfl ?_
       exact ⟨R4.2.1, s, false, rfl, .inr ⟨rfl, HD.out⟩⟩
   ·
    have k2 : (x.kind == 2) = false := by simpa using hk2
    by_cases hk3 : x.kind = 3
    ·
     have k3 : (x.kind == 3) = true := by simpa using hk3
     have x2_0 := (HLay.out.blk 2 rfl).cell 0
     have x2_1 := (HLay.out.blk 2 rfl).cell 1
     have x2_2 := (HLay.out.blk 2 rfl).cell 2
     have x2_3 := (HLay.out.blk 2 rfl).cell 3
     have l2_ := HLay.out.lt 2 rfl
     gi_wp2
     clear x2_0 x2_1 x2_2 x2_3 l2_
     by_cases ht : x.to = 0
     ·
      have htn : (x.to != 0) = false := by simpa using ht
      by_cases hd : 1 ≤ x.drops ∧ x.drops ≤ heldAt s (a : Int)
      ·
       have HWD : Hid (wiB x.drops 1 (heldAt s (a : Int)) = true) := Lib.hid (decide_eq_true hd)
       have HD : Hid (doneM m s x = some (s.set a (heldAt s (a : Int) - x.drops))) := Lib.hid (by rw [dk3 hk3 HJF.out (by omega), if_pos ⟨ht, hd⟩, Int.toNat_natCast])
       have HDB := Lib.hid hd
       clear hk1 hk2 hk3 hd ht
       refine wpIn_flow_old [([true, true, true, true, true, true, true, true, true], 9)] [false, false, false, false, false, false, false, false, false, false, true, true] [] (by kernel_rfl) (by kernel_rfl) (by kernel_rfl) (below_drewN (Below.refl _ _) 1) ?_
       refine wpFlow_cons (A := ?AF33) rfl ?hq33 ?_
       case hq33 =>
        rintro σ hσ of hof hcl
        have HOF := Lib.hid hof
        have HCL := Lib.hid hcl
        clear hof hcl
        have c0_ : ∀ z, (of z).cell? ⟨w.heap.size, 0, none⟩ = some (.int .i64 m.fountains) := fun z => ((HLay.out.below (HOF.out z)).blk 0 rfl).cell 0
        have c1_ : ∀ z, (of z).cell? ⟨w.heap.size, 1, none⟩ = some (.slice Av nv cv) := fun z => ((HLay.out.below (HOF.out z)).blk 0 rfl).cell 1
        have c2_ : ∀ z, (of z).cell? ⟨w.heap.size, 2, none⟩ = some (.slice Aa na ca) := fun z => ((HLay.out.below (HOF.out z)).blk 0 rfl).cell 2
        have c3_ : ∀ z, (of z).cell? ⟨w.heap.size, 3, none⟩ = some (.slice At nt ct) := fun z => ((HLay.out.below (HOF.out z)).blk 0 rfl).cell 3
        have c4_ : ∀ z, (of z).cell? ⟨w.heap.size + 1 + 1, 0, none⟩ = some (.int .i64 x.kind) := fun z => ((HLay.out.below (HOF.out z)).blk 2 rfl).cell 0
        have c5_ : ∀ z, (of z).cell? ⟨w.heap.size + 1 + 1, 1, none⟩ = some (.int .i64 x.fr) := fun z => ((HLay.out.below (HOF.out z)).blk 2 rfl).cell 1
        have c6_ : ∀ z, (of z).cell? ⟨w.heap.size + 1 + 1, 2, none⟩ = some (.int .i64 x.to) := fun z => ((HLay.out.below (HOF.out z)).blk 2 rfl).cell 2
        have c7_ : ∀ z, (of z).cell? ⟨w.heap.size + 1 + 1, 3, none⟩ = some (.int .i64 x.drops) := fun z => ((HLay.out.below (HOF.out z)).blk 2 rfl).cell 3
        have hfw : ∀ f, Fence.wide.fn f := fun _ => trivial
        have ea : ∀ z, (of z).cell? ⟨w.heap.size + 1, a, none⟩ = some (.int .i64 (heldAt s (a : Int))) := fun z => (((HLay.out.below (HOF.out z)).blk 1 rfl).cell a).trans (heldC_at s HQ_a.out)
        simp only [pickB]
        repeat (gi_big_quiet_step (fail))
        refine wpQuietIn_nil ?_
        exact rfl
       intro W50 hW
       replace HLay := Lib.hid (HLay.out.below hW)
       clear hW
       gi_wp2
       refine ⟨trivial, (callsIn_wide.2 (within_any x.drops 1 (heldAt s (a : Int)) W50)).mono ?_⟩
       rintro e W51 ⟨rfl, rfl⟩
       rw [HWD.out]
       gi_wp2
       refine ⟨trivial, Below.refl _ _, ?_⟩
       refine wpFlow_nil (A := ?AF34) ?hq34 ?_
       case hq34 =>
        rintro σ hσ of hof hcl
        have HOF := Lib.hid hof
        have HCL := Lib.hid hcl
        clear hof hcl
        have c0_ : ∀ z, (of z).cell? ⟨w.heap.size, 0, none⟩ = some (.int .i64 m.fountains) := fun z => ((HLay.out.below (HOF.out z)).blk 0 rfl).cell 0
        have c1_ : ∀ z, (of z).cell? ⟨w.heap.size, 1, none⟩ = some (.slice Av nv cv) := fun z => ((HLay.out.below (HOF.out z)).blk 0 rfl).cell 1
        have c2_ : ∀ z, (of z).cell? ⟨w.heap.size, 2, none⟩ = some (.slice Aa na ca) := fun z => ((HLay.out.below (HOF.out z)).blk 0 rfl).cell 2
        have c3_ : ∀ z, (of z).cell? ⟨w.heap.size, 3, none⟩ = some (.slice At nt ct) := fun z => ((HLay.out.below (HOF.out z)).blk 0 rfl).cell 3
        have c4_ : ∀ z, (of z).cell? ⟨w.heap.size + 1 + 1, 0, none⟩ = some (.int .i64 x.kind) := fun z => ((HLay.out.below (HOF.out z)).blk 2 rfl).cell 0
        have c5_ : ∀ z, (of z).cell? ⟨w.heap.size + 1 + 1, 1, none⟩ = some (.int .i64 x.fr) := fun z => ((HLay.out.below (HOF.out z)).blk 2 rfl).cell 1
        have c6_ : ∀ z, (of z).cell? ⟨w.heap.size + 1 + 1, 2, none⟩ = some (.int .i64 x.to) := fun z => ((HLay.out.below (HOF.out z)).blk 2 rfl).cell 2
        have c7_ : ∀ z, (of z).cell? ⟨w.heap.size + 1 + 1, 3, none⟩ = some (.int .i64 x.drops) := fun z => ((HLay.out.below (HOF.out z)).blk 2 rfl).cell 3
        have hfw : ∀ f, Fence.wide.fn f := fun _ => trivial
        simp only [pickB]
        repeat (gi_big_quiet_step (fail))
        refine wpQuietIn_nil ?_
        exact rfl
       intro W52 hW
       replace HLay := Lib.hid (HLay.out.below hW)
       clear hW
       simp only [pickB]
       refine wpT_nil ?_
       gi_wp2
       obtain ⟨hdb1, hdb2⟩ := HDB.out
       have hwa : IntKind.i64.wrap (heldAt s (a : Int) - x.drops) = heldAt s (a : Int) - x.drops := IntWalk.i64_in _ (by omega)
       refine wpIn_flow_old [] [true, true, true, true, true, true, true] [false, false, false, false, false, false, false, true] (by kernel_rfl) (by kernel_rfl) (by kernel_rfl) (below_drewN (Below.refl _ _) 1) ?_
       refine wpFlow_nil (A := ?AF35) ?hq35 ?_
       case hq35 =>
        rintro σ hσ of hof hcl
        have HOF := Lib.hid hof
        have HCL := Lib.hid hcl
        clear hof hcl
        have c0_ : ∀ z, (of z).cell? ⟨w.heap.size + 1 + 1, 3, none⟩ = some (.int .i64 x.drops) := fun z => ((HLay.out.below (HOF.out z)).blk 2 rfl).cell 3
        have hfw : ∀ f, Fence.wide.fn f := fun _ => trivial
        have e2 : ∀ z, (of z).cell? ⟨w.heap.size + 1, a, none⟩ = some (.int .i64 (heldAt s (a : Int))) := fun z => (((HLay.out.below (HOF.out z)).blk 1 rfl).cell a).trans (heldC_at s HQ_a.out)
        simp only [pickB]
        repeat (gi_big_quiet_step (fail))
        refine wpQuietIn_nil ?_
        exact rfl
       intro W53 hW
       replace HLay := Lib.hid (HLay.out.below hW)
       clear hW
       have cq : W53.cell? ⟨w.heap.size + 1, a, none⟩ = some (.int .i64 (heldAt s (a : Int))) := ((HLay.out.blk 1 rfl).cell a).trans (heldC_at s HQ_a.out)
       have fq := (HLay.out.blk 1 rfl).frozen a
       have lq := HLay.out.lt 1 rfl
       simp only [pickB]
       refine wpT_cons ?_
       gi_wp2
       refine wpT_nil ?_
       have HLS := Lib.hid (lay_set1 HLay.out a (HSL.out) HQ_a.out (heldAt s (a : Int) - x.drops))
       generalize W53.setCell ⟨w.heap.size + 1, a, none⟩ (.int .i64 (heldAt s (a : Int) - x.drops)) = V54 at *
       replace HLay := HLS
       clear cq fq lq HLS hwa
       replace HLay := Lib.hid (show Lay w V54 [(w.heap.size, 26, #[.int .i64 m.fountains, .slice Av nv cv, .slice Aa na ca, .slice At nt ct]), (w.heap.size + 1, 110, #[.int .i64 (heldAt (s.set a (heldAt s (a : Int) - x.drops)) 0), .int .i64 (heldAt (s.set a (heldAt s (a : Int) - x.drops)) 1), .int .i64 (heldAt (s.set a (heldAt s (a : Int) - x.drops)) 2), .int .i64 (heldAt (s.set a (heldAt s (a : Int) - x.drops)) 3)]), (w.heap.size + 1 + 1, 67, #[.int .i64 x.kind, .int .i64 x.fr, .int .i64 x.to, .int .i64 x.drops]), (w.heap.size + 1 + 1 + 1, 110, #[.int .i64 0, .int .i64 0, .int .i64 0, .int .i64 0])] from HLay.out)
       have x1_0 := (HLay.out.blk 1 rfl).cell 0
       have x1_1 := (HLay.out.blk 1 rfl).cell 1
       have x1_2 := (HLay.out.blk 1 rfl).cell 2
       have x1_3 := (HLay.out.blk 1 rfl).cell 3
       have l1_ := HLay.out.lt 1 rfl
       have r0 := (HLay.out.blk 3 rfl).cell 0
       have rz0 := (HLay.out.blk 3 rfl).frozen 0
       have r1 := (HLay.out.blk 3 rfl).cell 1
       have rz1 := (HLay.out.blk 3 rfl).frozen 1
       have r2 := (HLay.out.blk 3 rfl).cell 2
       have rz2 := (HLay.out.blk 3 rfl).frozen 2
       have r3 := (HLay.out.blk 3 rfl).cell 3
       have rz3 := (HLay.out.blk 3 rfl).frozen 3
       have rl := HLay.out.lt 3 rfl
       gi_wp2
       have R4 := ret4' (HLay.out.blk 3 rfl) HLay.out.1 (HLay.out.ge 3 rfl) (.int .i64 (heldAt (s.set a (heldAt s (a : Int) - x.drops)) 0)) (.int .i64 (heldAt (s.set a (heldAt s (a : Int) - x.drops)) 1)) (.int .i64 (heldAt (s.set a (heldAt s (a : Int) - x.drops)) 2)) (.int .i64 (heldAt (s.set a (heldAt s (a : Int) - x.drops)) 3))
       have v0 := R4.1.cell 0
       have v1 := R4.1.cell 1
       have v2 := R4.1.cell 2
       have v3 := R4.1.cell 3
       refine bodyPost_ret (v := .tuple #[.agg #[.int .i64 (heldAt (s.set a (heldAt s (a : Int) - x.drops)) 0), .int .i64 (heldAt (s.set a (heldAt s (a : Int) - x.drops)) 1), .int .i64 (heldAt (s.set a (heldAt s (a : Int) - x.drops)) 2), .int .i64 (heldAt (s.set a (heldAt s (a : Int) - x.drops)) 3)], .bool true]) (by simp [results, Try.results94, go_sem, v0, v1, v2, v3]) rfl ?_
       exact ⟨R4.2.1, (s.set a (heldAt s (a : Int) - x.drops)), true, rfl, .inl ⟨rfl, HD.out⟩⟩
      ·
       have HWD : Hid (wiB x.drops 1 (heldAt s (a : Int)) = false) := Lib.hid (decide_eq_false hd)
       have HD : Hid (doneM m s x = none) := Lib.hid (by rw [dk3 hk3 HJF.out (by omega), if_neg (fun h => hd h.2)])
       have HDB := Lib.hid hd
       clear hk1 hk2 hk3 hd ht
       refine wpIn_flow_old [([true, true, true, true, true, true, true, true, true], 9)] [false, false, false, false, false, false, false, false, false, false, true, true] [] (by kernel_rfl) (by kernel_rfl) (by kernel_rfl) (below_drewN (Below.refl _ _) 1) ?_
       refine wpFlow_cons (A := ?AF36) rfl ?hq36 ?_
       case hq36 =>
        rintro σ hσ of hof hcl
        have HOF := Lib.hid hof
        have HCL := Lib.hid hcl
        clear hof hcl
        have c0_ : ∀ z, (of z).cell? ⟨w.heap.size, 0, none⟩ = some (.int .i64 m.fountains) := fun z => ((HLay.out.below (HOF.out z)).blk 0 rfl).cell 0
        have c1_ : ∀ z, (of z).cell? ⟨w.heap.size, 1, none⟩ = some (.slice Av nv cv) := fun z => ((HLay.out.below (HOF.out z)).blk 0 rfl).cell 1
        have c2_ : ∀ z, (of z).cell? ⟨w.heap.size, 2, none⟩ = some (.slice Aa na ca) := fun z => ((HLay.out.below (HOF.out z)).blk 0 rfl).cell 2
        have c3_ : ∀ z, (of z).cell? ⟨w.heap.size, 3, none⟩ = some (.slice At nt ct) := fun z => ((HLay.out.below (HOF.out z)).blk 0 rfl).cell 3
        have c4_ : ∀ z, (of z).cell? ⟨w.heap.size + 1 + 1, 0, none⟩ = some (.int .i64 x.kind) := fun z => ((HLay.out.below (HOF.out z)).blk 2 rfl).cell 0
        have c5_ : ∀ z, (of z).cell? ⟨w.heap.size + 1 + 1, 1, none⟩ = some (.int .i64 x.fr) := fun z => ((HLay.out.below (HOF.out z)).blk 2 rfl).cell 1
        have c6_ : ∀ z, (of z).cell? ⟨w.heap.size + 1 + 1, 2, none⟩ = some (.int .i64 x.to) := fun z => ((HLay.out.below (HOF.out z)).blk 2 rfl).cell 2
        have c7_ : ∀ z, (of z).cell? ⟨w.heap.size + 1 + 1, 3, none⟩ = some (.int .i64 x.drops) := fun z => ((HLay.out.below (HOF.out z)).blk 2 rfl).cell 3
        have hfw : ∀ f, Fence.wide.fn f := fun _ => trivial
        have ea : ∀ z, (of z).cell? ⟨w.heap.size + 1, a, none⟩ = some (.int .i64 (heldAt s (a : Int))) := fun z => (((HLay.out.below (HOF.out z)).blk 1 rfl).cell a).trans (heldC_at s HQ_a.out)
        simp only [pickB]
        repeat (gi_big_quiet_step (fail))
        refine wpQuietIn_nil ?_
        exact rfl
       intro W55 hW
       replace HLay := Lib.hid (HLay.out.below hW)
       clear hW
       gi_wp2
       refine ⟨trivial, (callsIn_wide.2 (within_any x.drops 1 (heldAt s (a : Int)) W55)).mono ?_⟩
       rintro e W56 ⟨rfl, rfl⟩
       rw [HWD.out]
       gi_wp2
       refine ⟨trivial, Below.refl _ _, ?_⟩
       refine wpFlow_nil (A := ?AF37) ?hq37 ?_
       case hq37 =>
        rintro σ hσ of hof hcl
        have HOF := Lib.hid hof
        have HCL := Lib.hid hcl
        clear hof hcl
        have c0_ : ∀ z, (of z).cell? ⟨w.heap.size, 0, none⟩ = some (.int .i64 m.fountains) := fun z => ((HLay.out.below (HOF.out z)).blk 0 rfl).cell 0
        have c1_ : ∀ z, (of z).cell? ⟨w.heap.size, 1, none⟩ = some (.slice Av nv cv) := fun z => ((HLay.out.below (HOF.out z)).blk 0 rfl).cell 1
        have c2_ : ∀ z, (of z).cell? ⟨w.heap.size, 2, none⟩ = some (.slice Aa na ca) := fun z => ((HLay.out.below (HOF.out z)).blk 0 rfl).cell 2
        have c3_ : ∀ z, (of z).cell? ⟨w.heap.size, 3, none⟩ = some (.slice At nt ct) := fun z => ((HLay.out.below (HOF.out z)).blk 0 rfl).cell 3
        have c4_ : ∀ z, (of z).cell? ⟨w.heap.size + 1 + 1, 0, none⟩ = some (.int .i64 x.kind) := fun z => ((HLay.out.below (HOF.out z)).blk 2 rfl).cell 0
        have c5_ : ∀ z, (of z).cell? ⟨w.heap.size + 1 + 1, 1, none⟩ = some (.int .i64 x.fr) := fun z => ((HLay.out.below (HOF.out z)).blk 2 rfl).cell 1
        have c6_ : ∀ z, (of z).cell? ⟨w.heap.size + 1 + 1, 2, none⟩ = some (.int .i64 x.to) := fun z => ((HLay.out.below (HOF.out z)).blk 2 rfl).cell 2
        have c7_ : ∀ z, (of z).cell? ⟨w.heap.size + 1 + 1, 3, none⟩ = some (.int .i64 x.drops) := fun z => ((HLay.out.below (HOF.out z)).blk 2 rfl).cell 3
        have hfw : ∀ f, Fence.wide.fn f := fun _ => trivial
        simp only [pickB]
        repeat (gi_big_quiet_step (fail))
        refine wpQuietIn_nil ?_
        exact rfl
       intro W57 hW
       replace HLay := Lib.hid (HLay.out.below hW)
       clear hW
       simp only [pickB]
       refine wpT_nil ?_
       have x1_0 := (HLay.out.blk 1 rfl).cell 0
       have x1_1 := (HLay.out.blk 1 rfl).cell 1
       have x1_2 := (HLay.out.blk 1 rfl).cell 2
       have x1_3 := (HLay.out.blk 1 rfl).cell 3
       have l1_ := HLay.out.lt 1 rfl
       have r0 := (HLay.out.blk 3 rfl).cell 0
       have rz0 := (HLay.out.blk 3 rfl).frozen 0
       have r1 := (HLay.out.blk 3 rfl).cell 1
       have rz1 := (HLay.out.blk 3 rfl).frozen 1
       have r2 := (HLay.out.blk 3 rfl).cell 2
       have rz2 := (HLay.out.blk 3 rfl).frozen 2
       have r3 := (HLay.out.blk 3 rfl).cell 3
       have rz3 := (HLay.out.blk 3 rfl).frozen 3
       have rl := HLay.out.lt 3 rfl
       gi_wp2
       have R4 := ret4' (HLay.out.blk 3 rfl) HLay.out.1 (HLay.out.ge 3 rfl) (.int .i64 (heldAt s 0)) (.int .i64 (heldAt s 1)) (.int .i64 (heldAt s 2)) (.int .i64 (heldAt s 3))
       have v0 := R4.1.cell 0
       have v1 := R4.1.cell 1
       have v2 := R4.1.cell 2
       have v3 := R4.1.cell 3
       refine bodyPost_ret (v := .tuple #[.agg #[.int .i64 (heldAt s 0), .int .i64 (heldAt s 1), .int .i64 (heldAt s 2), .int .i64 (heldAt s 3)], .bool false]) (by simp [results, Try.results94, go_sem, v0, v1, v2, v3]) rfl ?_
       exact ⟨R4.2.1, s, false, rfl, .inr ⟨rfl, HD.out⟩⟩
     ·
      have htn : (x.to != 0) = true := by simpa using ht
      have HD : Hid (doneM m s x = none) := Lib.hid (by rw [dk3 hk3 HJF.out (by omega), if_neg (fun h => ht h.1)])
      clear hk1 hk2 hk3 ht
      refine wpIn_flow_old [([true, true, true, true, true, true, true, true, true], 9)] [false, false, false, false, false, false, false, false, false, false, true, true] [] (by kernel_rfl) (by kernel_rfl) (by kernel_rfl) (below_drewN (Below.refl _ _) 1) ?_
      refine wpFlow_cons (A := ?AF38) rfl ?hq38 ?_
      case hq38 =>
       rintro σ hσ of hof hcl
       have HOF := Lib.hid hof
       have HCL := Lib.hid hcl
       clear hof hcl
       have c0_ : ∀ z, (of z).cell? ⟨w.heap.size, 0, none⟩ = some (.int .i64 m.fountains) := fun z => ((HLay.out.below (HOF.out z)).blk 0 rfl).cell 0
       have c1_ : ∀ z, (of z).cell? ⟨w.heap.size, 1, none⟩ = some (.slice Av nv cv) := fun z => ((HLay.out.below (HOF.out z)).blk 0 rfl).cell 1
       have c2_ : ∀ z, (of z).cell? ⟨w.heap.size, 2, none⟩ = some (.slice Aa na ca) := fun z => ((HLay.out.below (HOF.out z)).blk 0 rfl).cell 2
       have c3_ : ∀ z, (of z).cell? ⟨w.heap.size, 3, none⟩ = some (.slice At nt ct) := fun z => ((HLay.out.below (HOF.out z)).blk 0 rfl).cell 3
       have c4_ : ∀ z, (of z).cell? ⟨w.heap.size + 1 + 1, 0, none⟩ = some (.int .i64 x.kind) := fun z => ((HLay.out.below (HOF.out z)).blk 2 rfl).cell 0
       have c5_ : ∀ z, (of z).cell? ⟨w.heap.size + 1 + 1, 1, none⟩ = some (.int .i64 x.fr) := fun z => ((HLay.out.below (HOF.out z)).blk 2 rfl).cell 1
       have c6_ : ∀ z, (of z).cell? ⟨w.heap.size + 1 + 1, 2, none⟩ = some (.int .i64 x.to) := fun z => ((HLay.out.below (HOF.out z)).blk 2 rfl).cell 2
       have c7_ : ∀ z, (of z).cell? ⟨w.heap.size + 1 + 1, 3, none⟩ = some (.int .i64 x.drops) := fun z => ((HLay.out.below (HOF.out z)).blk 2 rfl).cell 3
       have hfw : ∀ f, Fence.wide.fn f := fun _ => trivial
       simp only [pickB]
       repeat (gi_big_quiet_step (fail))
       refine wpQuietIn_nil ?_
       exact rfl
      intro W58 hW
      replace HLay := Lib.hid (HLay.out.below hW)
      clear hW
      gi_wp2
      refine ⟨trivial, ?_⟩
      gi_wp2
      refine ⟨trivial, Below.refl _ _, ?_⟩
      refine wpFlow_nil (A := ?AF39) ?hq39 ?_
      case hq39 =>
       rintro σ hσ of hof hcl
       have HOF := Lib.hid hof
       have HCL := Lib.hid hcl
       clear hof hcl
       have c0_ : ∀ z, (of z).cell? ⟨w.heap.size, 0, none⟩ = some (.int .i64 m.fountains) := fun z => ((HLay.out.below (HOF.out z)).blk 0 rfl).cell 0
       have c1_ : ∀ z, (of z).cell? ⟨w.heap.size, 1, none⟩ = some (.slice Av nv cv) := fun z => ((HLay.out.below (HOF.out z)).blk 0 rfl).cell 1
       have c2_ : ∀ z, (of z).cell? ⟨w.heap.size, 2, none⟩ = some (.slice Aa na ca) := fun z => ((HLay.out.below (HOF.out z)).blk 0 rfl).cell 2
       have c3_ : ∀ z, (of z).cell? ⟨w.heap.size, 3, none⟩ = some (.slice At nt ct) := fun z => ((HLay.out.below (HOF.out z)).blk 0 rfl).cell 3
       have c4_ : ∀ z, (of z).cell? ⟨w.heap.size + 1 + 1, 0, none⟩ = some (.int .i64 x.kind) := fun z => ((HLay.out.below (HOF.out z)).blk 2 rfl).cell 0
       have c5_ : ∀ z, (of z).cell? ⟨w.heap.size + 1 + 1, 1, none⟩ = some (.int .i64 x.fr) := fun z => ((HLay.out.below (HOF.out z)).blk 2 rfl).cell 1
       have c6_ : ∀ z, (of z).cell? ⟨w.heap.size + 1 + 1, 2, none⟩ = some (.int .i64 x.to) := fun z => ((HLay.out.below (HOF.out z)).blk 2 rfl).cell 2
       have c7_ : ∀ z, (of z).cell? ⟨w.heap.size + 1 + 1, 3, none⟩ = some (.int .i64 x.drops) := fun z => ((HLay.out.below (HOF.out z)).blk 2 rfl).cell 3
       have hfw : ∀ f, Fence.wide.fn f := fun _ => trivial
       simp only [pickB]
       repeat (gi_big_quiet_step (fail))
       refine wpQuietIn_nil ?_
       exact rfl
      intro W59 hW
      replace HLay := Lib.hid (HLay.out.below hW)
      clear hW
      simp only [pickB]
      refine wpT_nil ?_
      have x1_0 := (HLay.out.blk 1 rfl).cell 0
      have x1_1 := (HLay.out.blk 1 rfl).cell 1
      have x1_2 := (HLay.out.blk 1 rfl).cell 2
      have x1_3 := (HLay.out.blk 1 rfl).cell 3
      have l1_ := HLay.out.lt 1 rfl
      have r0 := (HLay.out.blk 3 rfl).cell 0
      have rz0 := (HLay.out.blk 3 rfl).frozen 0
      have r1 := (HLay.out.blk 3 rfl).cell 1
      have rz1 := (HLay.out.blk 3 rfl).frozen 1
      have r2 := (HLay.out.blk 3 rfl).cell 2
      have rz2 := (HLay.out.blk 3 rfl).frozen 2
      have r3 := (HLay.out.blk 3 rfl).cell 3
      have rz3 := (HLay.out.blk 3 rfl).frozen 3
      have rl := HLay.out.lt 3 rfl
      gi_wp2
      have R4 := ret4' (HLay.out.blk 3 rfl) HLay.out.1 (HLay.out.ge 3 rfl) (.int .i64 (heldAt s 0)) (.int .i64 (heldAt s 1)) (.int .i64 (heldAt s 2)) (.int .i64 (heldAt s 3))
      have v0 := R4.1.cell 0
      have v1 := R4.1.cell 1
      have v2 := R4.1.cell 2
      have v3 := R4.1.cell 3
      refine bodyPost_ret (v := .tuple #[.agg #[.int .i64 (heldAt s 0), .int .i64 (heldAt s 1), .int .i64 (heldAt s 2), .int .i64 (heldAt s 3)], .bool false]) (by simp [results, Try.results94, go_sem, v0, v1, v2, v3]) rfl ?_
      exact ⟨R4.2.1, s, false, rfl, .inr ⟨rfl, HD.out⟩⟩
    ·
     have k3 : (x.kind == 3) = false := by simpa using hk3
     by_cases hk4 : x.kind = 4
     ·
      have k4 : (x.kind == 4) = true := by simpa using hk4
      by_cases ht : x.to = 0 ∧ x.drops = 0
      ·
       have ht1 : (x.to != 0) = false := by simpa using ht.1
       have ht2 : (x.drops != 0) = false := by simpa using ht.2
       have HD : Hid (doneM m s x = some (s.set a 0)) := Lib.hid (by rw [dk4 hk4 HJF.out (by omega), if_pos ht, Int.toNat_natCast])
       clear hk1 hk2 hk3 hk4 ht
       have x2_0 := (HLay.out.blk 2 rfl).cell 0
       have x2_1 := (HLay.out.blk 2 rfl).cell 1
       have x2_2 := (HLay.out.blk 2 rfl).cell 2
       have x2_3 := (HLay.out.blk 2 rfl).cell 3
       have l2_ := HLay.out.lt 2 rfl
       gi_upto_region 24 with fail
       clear x2_0 x2_1 x2_2 x2_3 l2_
       have cq : W5.cell? ⟨w.heap.size + 1, a, none⟩ = some (.int .i64 (heldAt s (a : Int))) := ((HLay.out.blk 1 rfl).cell a).trans (heldC_at s HQ_a.out)
       have fq := (HLay.out.blk 1 rfl).frozen a
       have lq := HLay.out.lt 1 rfl
       gi_upto_region 25 with fail
       have HLS := Lib.hid (lay_set1 HLay.out a HSL.out HQ_a.out 0)
       generalize W5.setCell ⟨w.heap.size + 1, a, none⟩ (.int .i64 0) = W99 at *
       replace HLay := HLS
       clear cq fq lq HLS
       replace HLay := Lib.hid (show Lay w W99 [(w.heap.size, 26, #[.int .i64 m.fountains, .slice Av nv cv, .slice Aa na ca, .slice At nt ct]), (w.heap.size + 1, 110, #[.int .i64 (heldAt (s.set a 0) 0), .int .i64 (heldAt (s.set a 0) 1), .int .i64 (heldAt (s.set a 0) 2), .int .i64 (heldAt (s.set a 0) 3)]), (w.heap.size + 1 + 1, 67, #[.int .i64 x.kind, .int .i64 x.fr, .int .i64 x.to, .int .i64 x.drops]), (w.heap.size + 1 + 1 + 1, 110, #[.int .i64 0, .int .i64 0, .int .i64 0, .int .i64 0])] from HLay.out)
       have x1_0 := (HLay.out.blk 1 rfl).cell 0
       have x1_1 := (HLay.out.blk 1 rfl).cell 1
       have x1_2 := (HLay.out.blk 1 rfl).cell 2
       have x1_3 := (HLay.out.blk 1 rfl).cell 3
       have l1_ := HLay.out.lt 1 rfl
       have r0 := (HLay.out.blk 3 rfl).cell 0
       have rz0 := (HLay.out.blk 3 rfl).frozen 0
       have r1 := (HLay.out.blk 3 rfl).cell 1
       have rz1 := (HLay.out.blk 3 rfl).frozen 1
       have r2 := (HLay.out.blk 3 rfl).cell 2
       have rz2 := (HLay.out.blk 3 rfl).frozen 2
       have r3 := (HLay.out.blk 3 rfl).cell 3
       have rz3 := (HLay.out.blk 3 rfl).frozen 3
       have rl := HLay.out.lt 3 rfl
       gi_wp2
       have R4 := ret4' (HLay.out.blk 3 rfl) HLay.out.1 (HLay.out.ge 3 rfl) (.int .i64 (heldAt (s.set a 0) 0)) (.int .i64 (heldAt (s.set a 0) 1)) (.int .i64 (heldAt (s.set a 0) 2)) (.int .i64 (heldAt (s.set a 0) 3))
       have v0 := R4.1.cell 0
       have v1 := R4.1.cell 1
       have v2 := R4.1.cell 2
       have v3 := R4.1.cell 3
       refine bodyPost_ret (v := .tuple #[.agg #[.int .i64 (heldAt (s.set a 0) 0), .int .i64 (heldAt (s.set a 0) 1), .int .i64 (heldAt (s.set a 0) 2), .int .i64 (heldAt (s.set a 0) 3)], .bool true]) (by simp [results, Try.results94, go_sem, v0, v1, v2, v3]) rfl ?_
       exact ⟨R4.2.1, (s.set a 0), true, rfl, .inl ⟨rfl, HD.out⟩⟩
      ·
       have HD : Hid (doneM m s x = none) := Lib.hid (by rw [dk4 hk4 HJF.out (by omega), if_neg ht])
       rcases (show (x.to != 0) = true ∨ ((x.to != 0) = false ∧ (x.drops != 0) = true) by
        by_cases q : x.to = 0
        ·right; exact ⟨by simpa using q, by simpa using fun r => ht ⟨q, r⟩⟩
        ·left; simpa using q) with ht1 | ⟨ht1, ht2⟩
       all_goals
        clear ht hk1 hk2 hk3 hk4
        have x2_0 := (HLay.out.blk 2 rfl).cell 0
        have x2_1 := (HLay.out.blk 2 rfl).cell 1
        have x2_2 := (HLay.out.blk 2 rfl).cell 2
        have x2_3 := (HLay.out.blk 2 rfl).cell 3
        have l2_ := HLay.out.lt 2 rfl
        have x1_0 := (HLay.out.blk 1 rfl).cell 0
        have x1_1 := (HLay.out.blk 1 rfl).cell 1
        have x1_2 := (HLay.out.blk 1 rfl).cell 2
        have x1_3 := (HLay.out.blk 1 rfl).cell 3
        have l1_ := HLay.out.lt 1 rfl
        have r0 := (HLay.out.blk 3 rfl).cell 0
        have rz0 := (HLay.out.blk 3 rfl).frozen 0
        have r1 := (HLay.out.blk 3 rfl).cell 1
        have rz1 := (HLay.out.blk 3 rfl).frozen 1
        have r2 := (HLay.out.blk 3 rfl).cell 2
        have rz2 := (HLay.out.blk 3 rfl).frozen 2
        have r3 := (HLay.out.blk 3 rfl).cell 3
        have rz3 := (HLay.out.blk 3 rfl).frozen 3
        have rl := HLay.out.lt 3 rfl
        gi_wp2
        have R4 := ret4' (HLay.out.blk 3 rfl) HLay.out.1 (HLay.out.ge 3 rfl) (.int .i64 (heldAt s 0)) (.int .i64 (heldAt s 1)) (.int .i64 (heldAt s 2)) (.int .i64 (heldAt s 3))
        have v0 := R4.1.cell 0
        have v1 := R4.1.cell 1
        have v2 := R4.1.cell 2
        have v3 := R4.1.cell 3
        refine bodyPost_ret (v := .tuple #[.agg #[.int .i64 (heldAt s 0), .int .i64 (heldAt s 1), .int .i64 (heldAt s 2), .int .i64 (heldAt s 3)], .bool false]) (by simp [results, Try.results94, go_sem, v0, v1, v2, v3]) rfl ?_
        exact ⟨R4.2.1, s, false, rfl, .inr ⟨rfl, HD.out⟩⟩
     ·
      have k4 : (x.kind == 4) = false := by simpa using hk4
      have HD : Hid (doneM m s x = none) := Lib.hid (dk5 hk1 hk2 hk3 hk4)
      clear hk1 hk2 hk3 hk4
      have x2_0 := (HLay.out.blk 2 rfl).cell 0
      have x2_1 := (HLay.out.blk 2 rfl).cell 1
      have x2_2 := (HLay.out.blk 2 rfl).cell 2
      have x2_3 := (HLay.out.blk 2 rfl).cell 3
      have l2_ := HLay.out.lt 2 rfl
      have x1_0 := (HLay.out.blk 1 rfl).cell 0
      have x1_1 := (HLay.out.blk 1 rfl).cell 1
      have x1_2 := (HLay.out.blk 1 rfl).cell 2
      have x1_3 := (HLay.out.blk 1 rfl).cell 3
      have l1_ := HLay.out.lt 1 rfl
      have r0 := (HLay.out.blk 3 rfl).cell 0
      have rz0 := (HLay.out.blk 3 rfl).frozen 0
      have r1 := (HLay.out.blk 3 rfl).cell 1
      have rz1 := (HLay.out.blk 3 rfl).frozen 1
      have r2 := (HLay.out.blk 3 rfl).cell 2
      have rz2 := (HLay.out.blk 3 rfl).frozen 2
      have r3 := (HLay.out.blk 3 rfl).cell 3
      have rz3 := (HLay.out.blk 3 rfl).frozen 3
      have rl := HLay.out.lt 3 rfl
      gi_wp2
      have R4 := ret4' (HLay.out.blk 3 rfl) HLay.out.1 (HLay.out.ge 3 rfl) (.int .i64 (heldAt s 0)) (.int .i64 (heldAt s 1)) (.int .i64 (heldAt s 2)) (.int .i64 (heldAt s 3))
      have v0 := R4.1.cell 0
      have v1 := R4.1.cell 1
      have v2 := R4.1.cell 2
      have v3 := R4.1.cell 3
      refine bodyPost_ret (v := .tuple #[.agg #[.int .i64 (heldAt s 0), .int .i64 (heldAt s 1), .int .i64 (heldAt s 2), .int .i64 (heldAt s 3)], .bool false]) (by simp [results, Try.results94, go_sem, v0, v1, v2, v3]) rfl ?_
      exact ⟨R4.2.1, s, false, rfl, .inr ⟨rfl, HD.out⟩⟩

end Go.Proofs.Ythofngceiecniaa
