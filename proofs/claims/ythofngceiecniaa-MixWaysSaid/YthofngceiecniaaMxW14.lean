/- MixWays: whatever the mixed water and the whole numbers, the law answers true. No conditions. -/
import Derived.Sort.CutIn
import Derived.Laws.StructEq
import Derived.Sort.WalkA
import Derived.Lib.SmallJoins
import Derived.LaidHandle
import Derived.ChangeArms
import Derived.ChangeSame
import Derived.Test.YthofngceiecniaaRows
import Derived.OpenShut
import Derived.ShutString
import Derived.ChangeOld
import Derived.Test.YthofngceiecniaaMxW13
set_option linter.unusedVariables false
/- aguadorref04.Twin. -/
namespace Go.Proofs.Ythofngceiecniaa
section
open Go.RowKit
structure TwGh where
 e1 : Nat
 e2 : Nat
 e3 : Nat
 A1 : Option Addr
 c1 : Nat
 A2 : Option Addr
 c2 : Nat
 A3 : Option Addr
 c3 : Nat
structure MixNew (w : World) (base : Nat) (A1 : Option Addr) (nv c1 : Nat) (A2 : Option Addr) (na c2 : Nat) (A3 : Option Addr) (nt c3 : Nat) (m : Mix) : Prop where
 v : Own w base 80 2 A1 nv c1 (m.vessels.flatMap Vess.vals)
 a : Own w base 67 4 A2 na c2 (m.acts.flatMap MAct.vals)
 t : Own w base 65 6 A3 nt c3 (m.tastes.flatMap Tast.vals)
def TwinOut (w : World) (nv na nt : Nat) (m : Mix) (e : Ending) (w' : World) : Prop :=
 ∃ A1 c1 A2 c2 A3 c3, e = .returned (.agg #[.int .i64 m.fountains, .slice A1 nv c1, .slice A2 na c2, .slice A3 nt c3]) ∧ MixNew w' w.heap.size A1 nv c1 A2 na c2 A3 nt c3 m ∧ Below w.heap.size w w'
set_option maxRecDepth 100000 in
set_option maxHeartbeats 16000000 in
theorem twin_in (Av : Option Addr) (nv cv : Nat) (Aa : Option Addr) (na ca : Nat) (At : Option Addr) (nt ct : Nat) (m : Mix) (w : World) (h : MixS w Av nv Aa na At nt m) :
  CallsIn Fence.wide 9 Try.prog 8 #[.agg #[.int .i64 m.fountains, .slice Av nv cv, .slice Aa na ca, .slice At nt ct]] w (TwinOut w nv na nt m) := by
 have HM := lh h
 have hnv := h.hv
 have hna := h.ha
 have hnt := h.ht
 clear h
 refine callsIn_of_wp Try.func8 rfl trivial ?_ rfl
 simp only [Try.ntmps8, List.size_toArray, List.length_cons, List.length_nil, Nat.reduceAdd, Nat.reduceSub, Array.replicate_succ, Array.replicate_zero, List.push_toArray, List.append_toArray, List.nil_append, List.cons_append]
 gi_wp2
 have Ly := lh (Lay.two w 26 #[.int .i64 m.fountains, .slice Av nv cv, .slice Aa na ca, .slice At nt ct] 26 #[.int .i64 0, .slice none 0 0, .slice none 0 0, .slice none 0 0])
 generalize ((w.alloc (.cells #[.int .i64 m.fountains, .slice Av nv cv, .slice Aa na ca, .slice At nt ct] 26)).alloc (.cells #[.int .i64 0, .slice none 0 0, .slice none 0 0, .slice none 0 0] 26)) = w0 at *
 have HB0 := lh Ly.out.1
 have HX0 := lh (Ly.out.blk 0 rfl)
 have HZ0 := lh (Ly.out.blk 1 rfl)
 clear Ly
 refine wpIn_region_stepsD (by kernel_rfl) (by kernel_rfl) (fun σ : TwGh × (Nat → Value) => { tmps := #[.agg #[.int .i64 m.fountains, .slice Av nv cv, .slice Aa na ca, .slice At nt ct], .pointer (some ⟨w.heap.size, 0, none⟩), .pointer (some ⟨w.heap.size + 1, 0, none⟩), σ.2 3, σ.2 4, σ.2 5, σ.2 6, σ.2 7, σ.2 8, σ.2 9, σ.2 10, σ.2 11, σ.2 12, σ.2 13, σ.2 14, σ.2 15, σ.2 16, σ.2 17], defers := [] })
  (fun L σ W => (Below w.heap.size w W) ∧ (Blk W w.heap.size 26 #[.int .i64 m.fountains, .slice Av nv cv, .slice Aa na ca, .slice At nt ct]) ∧ (L 15 = false → Blk W (w.heap.size + 1) 26 #[.int .i64 0, .slice none 0 0, .slice none 0 0, .slice none 0 0]) ∧ (L 15 = true → Blk W (w.heap.size + 1) 26 #[.int .i64 m.fountains, .slice σ.1.A1 nv σ.1.c1, .slice σ.1.A2 na σ.1.c2, .slice σ.1.A3 nt σ.1.c3]) ∧ (L 2 = true → L 5 = false → Own W (w.heap.size + 2) 80 2 (some ⟨σ.1.e1, 0, none⟩) 0 0 []) ∧ (L 6 = true → L 9 = false → Own W (w.heap.size + 2) 67 4 (some ⟨σ.1.e2, 0, none⟩) 0 0 []) ∧ (L 10 = true → L 13 = false → Own W (w.heap.size + 2) 65 6 (some ⟨σ.1.e3, 0, none⟩) 0 0 []) ∧ (L 5 = true → Own W (w.heap.size + 2) 80 2 σ.1.A1 nv σ.1.c1 (m.vessels.flatMap Vess.vals)) ∧ (L 9 = true → Own W (w.heap.size + 2) 67 4 σ.1.A2 na σ.1.c2 (m.acts.flatMap MAct.vals)) ∧ (L 13 = true → Own W (w.heap.size + 2) 65 6 σ.1.A3 nt σ.1.c3 (m.tastes.flatMap Tast.vals)) ∧ (L 0 = true → σ.2 3 = .pointer (some ⟨w.heap.size, 0, none⟩)) ∧ (L 1 = true → σ.2 4 = .int .i64 m.fountains) ∧ (L 2 = true → σ.2 5 = .slice (some ⟨σ.1.e1, 0, none⟩) 0 0) ∧ (L 3 = true → σ.2 6 = .pointer (some ⟨w.heap.size, 1, none⟩)) ∧ (L 4 = true → σ.2 7 = .slice Av nv cv) ∧ (L 5 = true → σ.2 8 = .slice σ.1.A1 nv σ.1.c1) ∧ (L 6 = true → σ.2 9 = .slice (some ⟨σ.1.e2, 0, none⟩) 0 0) ∧ (L 7 = true → σ.2 10 = .pointer (some ⟨w.heap.size, 2, none⟩)) ∧ (L 8 = true → σ.2 11 = .slice Aa na ca) ∧ (L 9 = true → σ.2 12 = .slice σ.1.A2 na σ.1.c2) ∧ (L 10 = true → σ.2 13 = .slice (some ⟨σ.1.e3, 0, none⟩) 0 0) ∧ (L 11 = true → σ.2 14 = .pointer (some ⟨w.heap.size, 3, none⟩)) ∧ (L 12 = true → σ.2 15 = .slice At nt ct) ∧ (L 13 = true → σ.2 16 = .slice σ.1.A3 nt σ.1.c3) ∧ (L 14 = true → σ.2 17 = .agg #[.int .i64 m.fountains, .slice σ.1.A1 nv σ.1.c1, .slice σ.1.A2 na σ.1.c2, .slice σ.1.A3 nt σ.1.c3]))
  (⟨0, 0, 0, none, 0, none, 0, none, 0⟩, fun k => undef) rfl ?_ ?_ ?_
 ·exact ⟨below_drewN HB0.out 1, HX0.out.drewN 1, (fun _ => HZ0.out.drewN 1), (fun h => by cases h), (fun h => by cases h), (fun h => by cases h), (fun h => by cases h), (fun h => by cases h), (fun h => by cases h), (fun h => by cases h), (fun h => by cases h), (fun h => by cases h), (fun h => by cases h), (fun h => by cases h), (fun h => by cases h), (fun h => by cases h), (fun h => by cases h), (fun h => by cases h), (fun h => by cases h), (fun h => by cases h), (fun h => by cases h), (fun h => by cases h), (fun h => by cases h), (fun h => by cases h), (fun h => by cases h)⟩
 ·refine ⟨?_, ?_, ?_, ?_, ?_, ?_, ?_, ?_, ?_, ?_, ?_, ?_, ?_, ?_, ?_, ?_, trivial⟩
  ·rintro L ⟨gh, s⟩ W hu hd hdn ⟨g1, m0, gz0, gz1, q1, q2, q3, o1, o2, o3, f0, f1, f2, f3, f4, f5, f6, f7, f8, f9, f10, f11, f12, f13, f14⟩ K Q hK
   try dsimp only at g1 m0 gz0 gz1 q1 q2 q3 o1 o2 o3 f0 f1 f2 f3 f4 f5 f6 f7 f8 f9 f10 f11 f12 f13 f14 ⊢
   have hxl := HX0.out.lt
   have HF := lh (ai g1 (ai m0 (ai gz0 (ai gz1 (ai q1 (ai q2 (ai q3 (ai o1 (ai o2 (ai o3 (ai f0 (ai f1 (ai f2 (ai f3 (ai f4 (ai f5 (ai f6 (ai f7 (ai f8 (ai f9 (ai f10 (ai f11 (ai f12 (ai f13 f14))))))))))))))))))))))))
   clear f14 f13 f12 f11 f10 f9 f8 f7 f6 f5 f4 f3 f2 f1 f0 o3 o2 o1 q3 q2 q1 gz1 gz0 m0 g1 hd
   try simp only
   gi_wp2
   obtain ⟨g1, m0, gz0, gz1, q1, q2, q3, o1, o2, o3, f0, f1, f2, f3, f4, f5, f6, f7, f8, f9, f10, f11, f12, f13, f14⟩ := HF.out
   exact hK (gh, (upd s 3 (.pointer (some ⟨w.heap.size, 0, none⟩)))) _ ⟨g1, m0, gz0, gz1, q1, q2, q3, o1, o2, o3, (fun _ => rfl), f1, f2, f3, f4, f5, f6, f7, f8, f9, f10, f11, f12, f13, f14⟩
  ·rintro L ⟨gh, s⟩ W hu hd hdn ⟨g1, m0, gz0, gz1, q1, q2, q3, o1, o2, o3, f0, f1, f2, f3, f4, f5, f6, f7, f8, f9, f10, f11, f12, f13, f14⟩ K Q hK
   try dsimp only at g1 m0 gz0 gz1 q1 q2 q3 o1 o2 o3 f0 f1 f2 f3 f4 f5 f6 f7 f8 f9 f10 f11 f12 f13 f14 ⊢
   have e0 := f0 (hd.at_ 0 rfl)
   have c0 : W.cell? ⟨w.heap.size, 0, none⟩ = some (.int .i64 m.fountains) := m0.cell 0
   have HF := lh (ai g1 (ai m0 (ai gz0 (ai gz1 (ai q1 (ai q2 (ai q3 (ai o1 (ai o2 (ai o3 (ai f0 (ai f1 (ai f2 (ai f3 (ai f4 (ai f5 (ai f6 (ai f7 (ai f8 (ai f9 (ai f10 (ai f11 (ai f12 (ai f13 f14))))))))))))))))))))))))
   clear f14 f13 f12 f11 f10 f9 f8 f7 f6 f5 f4 f3 f2 f1 f0 o3 o2 o1 q3 q2 q1 gz1 gz0 m0 g1 hd
   try simp only at e0 ⊢
   gi_wp2
   obtain ⟨g1, m0, gz0, gz1, q1, q2, q3, o1, o2, o3, f0, f1, f2, f3, f4, f5, f6, f7, f8, f9, f10, f11, f12, f13, f14⟩ := HF.out
   exact hK (gh, (upd (upd s 3 (.pointer (some ⟨w.heap.size, 0, none⟩))) 4 (.int .i64 m.fountains))) _ ⟨g1, m0, gz0, gz1, q1, q2, q3, o1, o2, o3, (fun _ => rfl), (fun _ => rfl), f2, f3, f4, f5, f6, f7, f8, f9, f10, f11, f12, f13, f14⟩
  ·rintro L ⟨gh, s⟩ W hu hd hdn ⟨g1, m0, gz0, gz1, q1, q2, q3, o1, o2, o3, f0, f1, f2, f3, f4, f5, f6, f7, f8, f9, f10, f11, f12, f13, f14⟩ K Q hK
   try dsimp only at g1 m0 gz0 gz1 q1 q2 q3 o1 o2 o3 f0 f1 f2 f3 f4 f5 f6 f7 f8 f9 f10 f11 f12 f13 f14 ⊢
   have h15 : L 15 = false := by
    cases hc : L 15 with
    | false => rfl
    | true => exact hdn.no 15 2 hc rfl hu
   have hWq : w.heap.size + 2 ≤ W.heap.size := (gz0 h15).lt
   have HWq := lh hWq
   clear hWq
   have HF := lh (ai g1 (ai m0 (ai gz0 (ai gz1 (ai q1 (ai q2 (ai q3 (ai o1 (ai o2 (ai o3 (ai f0 (ai f1 (ai f2 (ai f3 (ai f4 (ai f5 (ai f6 (ai f7 (ai f8 (ai f9 (ai f10 (ai f11 (ai f12 (ai f13 f14))))))))))))))))))))))))
   clear f14 f13 f12 f11 f10 f9 f8 f7 f6 f5 f4 f3 f2 f1 f0 o3 o2 o1 q3 q2 q1 gz1 gz0 m0 g1 hd
   try simp only
   gi_wp2
   obtain ⟨g1, m0, gz0, gz1, q1, q2, q3, o1, o2, o3, f0, f1, f2, f3, f4, f5, f6, f7, f8, f9, f10, f11, f12, f13, f14⟩ := HF.out
   have hb : Below W.heap.size W (W.alloc (.cells #[] 80)) := (Below.refl _ _).alloc (Nat.le_refl _) _
   exact hK ({ gh with e1 := W.heap.size }, (upd s 5 (.slice (some ⟨W.heap.size, 0, none⟩) 0 0))) _ ⟨(g1.trans (hb.mono g1.size)), (m0.below hb m0.lt), (fun h => (gz0 h).below hb (gz0 h).lt), (fun h => (gz1 h).below hb (gz1 h).lt), (fun _ _ => World.ownsRow_made W #[] 0 HWq.out (Nat.zero_le _) (by simp)), (fun h q => (q2 h q).below hb (Nat.le_refl _)), (fun h q => (q3 h q).below hb (Nat.le_refl _)), (fun h => (o1 h).below hb (Nat.le_refl _)), (fun h => (o2 h).below hb (Nat.le_refl _)), (fun h => (o3 h).below hb (Nat.le_refl _)), f0, f1, (fun _ => rfl), f3, f4, f5, f6, f7, f8, f9, f10, f11, f12, f13, f14⟩
  ·rintro L ⟨gh, s⟩ W hu hd hdn ⟨g1, m0, gz0, gz1, q1, q2, q3, o1, o2, o3, f0, f1, f2, f3, f4, f5, f6, f7, f8, f9, f10, f11, f12, f13, f14⟩ K Q hK
   try dsimp only at g1 m0 gz0 gz1 q1 q2 q3 o1 o2 o3 f0 f1 f2 f3 f4 f5 f6 f7 f8 f9 f10 f11 f12 f13 f14 ⊢
   have HF := lh (ai g1 (ai m0 (ai gz0 (ai gz1 (ai q1 (ai q2 (ai q3 (ai o1 (ai o2 (ai o3 (ai f0 (ai f1 (ai f2 (ai f3 (ai f4 (ai f5 (ai f6 (ai f7 (ai f8 (ai f9 (ai f10 (ai f11 (ai f12 (ai f13 f14))))))))))))))))))))))))
   clear f14 f13 f12 f11 f10 f9 f8 f7 f6 f5 f4 f3 f2 f1 f0 o3 o2 o1 q3 q2 q1 gz1 gz0 m0 g1 hd
   try simp only
   gi_wp2
   obtain ⟨g1, m0, gz0, gz1, q1, q2, q3, o1, o2, o3, f0, f1, f2, f3, f4, f5, f6, f7, f8, f9, f10, f11, f12, f13, f14⟩ := HF.out
   exact hK (gh, (upd s 6 (.pointer (some ⟨w.heap.size, 1, none⟩)))) _ ⟨g1, m0, gz0, gz1, q1, q2, q3, o1, o2, o3, f0, f1, f2, (fun _ => rfl), f4, f5, f6, f7, f8, f9, f10, f11, f12, f13, f14⟩
  ·rintro L ⟨gh, s⟩ W hu hd hdn ⟨g1, m0, gz0, gz1, q1, q2, q3, o1, o2, o3, f0, f1, f2, f3, f4, f5, f6, f7, f8, f9, f10, f11, f12, f13, f14⟩ K Q hK
   try dsimp only at g1 m0 gz0 gz1 q1 q2 q3 o1 o2 o3 f0 f1 f2 f3 f4 f5 f6 f7 f8 f9 f10 f11 f12 f13 f14 ⊢
   have e3 := f3 (hd.at_ 3 rfl)
   have c0 : W.cell? ⟨w.heap.size, 1, none⟩ = some (.slice Av nv cv) := m0.cell 1
   have HF := lh (ai g1 (ai m0 (ai gz0 (ai gz1 (ai q1 (ai q2 (ai q3 (ai o1 (ai o2 (ai o3 (ai f0 (ai f1 (ai f2 (ai f3 (ai f4 (ai f5 (ai f6 (ai f7 (ai f8 (ai f9 (ai f10 (ai f11 (ai f12 (ai f13 f14))))))))))))))))))))))))
   clear f14 f13 f12 f11 f10 f9 f8 f7 f6 f5 f4 f3 f2 f1 f0 o3 o2 o1 q3 q2 q1 gz1 gz0 m0 g1 hd
   try simp only at e3 ⊢
   gi_wp2
   obtain ⟨g1, m0, gz0, gz1, q1, q2, q3, o1, o2, o3, f0, f1, f2, f3, f4, f5, f6, f7, f8, f9, f10, f11, f12, f13, f14⟩ := HF.out
   exact hK (gh, (upd (upd s 6 (.pointer (some ⟨w.heap.size, 1, none⟩))) 7 (.slice Av nv cv))) _ ⟨g1, m0, gz0, gz1, q1, q2, q3, o1, o2, o3, f0, f1, f2, (fun _ => rfl), (fun _ => rfl), f5, f6, f7, f8, f9, f10, f11, f12, f13, f14⟩
  ·rintro L ⟨gh, s⟩ W hu hd hdn ⟨g1, m0, gz0, gz1, q1, q2, q3, o1, o2, o3, f0, f1, f2, f3, f4, f5, f6, f7, f8, f9, f10, f11, f12, f13, f14⟩ K Q hK
   try dsimp only at g1 m0 gz0 gz1 q1 q2 q3 o1 o2 o3 f0 f1 f2 f3 f4 f5 f6 f7 f8 f9 f10 f11 f12 f13 f14 ⊢
   have e2 := f2 (hd.at_ 2 rfl)
   have e4 := f4 (hd.at_ 4 rfl)
   have h15 : L 15 = false := by
    cases hc : L 15 with
    | false => rfl
    | true => exact hdn.no 15 5 hc rfl hu
   have h14 : L 14 = false := by
    cases hc : L 14 with
    | false => rfl
    | true => exact hdn.no 14 5 hc rfl hu
   have hWq : w.heap.size + 2 ≤ W.heap.size := (gz0 h15).lt
   have HWq := lh hWq
   clear hWq
   have HE := lh (q1 (hd.at_ 2 rfl) hu)
   have HG1 := lh g1
   have HF := lh (ai g1 (ai m0 (ai gz0 (ai gz1 (ai q1 (ai q2 (ai q3 (ai o1 (ai o2 (ai o3 (ai f0 (ai f1 (ai f2 (ai f3 (ai f4 (ai f5 (ai f6 (ai f7 (ai f8 (ai f9 (ai f10 (ai f11 (ai f12 (ai f13 f14))))))))))))))))))))))))
   clear f14 f13 f12 f11 f10 f9 f8 f7 f6 f5 f4 f3 f2 f1 f0 o3 o2 o1 q3 q2 q1 gz1 gz0 m0 g1 hd
   try simp only at e2 e4 ⊢
   gi_wp2_with (first | (gi_at_builtin; refine wpListIn_append_fresh rfl (.tmp 5) (.tmp 7) (by rfl) elem_vess e2 HE.out e4 ((HM.out.at_.up HG1.out).vessels) (vess_one m.vessels) (by unfold maxLen; omega) (by omega) HWq.out ?_) | fail)
   rintro AN cN W1 hO hb hA
   gi_wp2
   obtain ⟨g1, m0, gz0, gz1, q1, q2, q3, o1, o2, o3, f0, f1, f2, f3, f4, f5, f6, f7, f8, f9, f10, f11, f12, f13, f14⟩ := HF.out
   exact hK ({ gh with A1 := AN, c1 := cN }, (upd (upd (upd s 5 (.slice (some ⟨gh.e1, 0, none⟩) 0 0)) 7 (.slice Av nv cv)) 8 (.slice AN nv cN))) _ ⟨(g1.trans (hb.mono g1.size)), (m0.below hb m0.lt), (fun h => (gz0 h).below hb (gz0 h).lt), (fun h => absurd (h15.symm.trans h) (by decide)), (fun _ h => by cases h), (fun h q => (q2 h q).below hb (Nat.le_refl _)), (fun h q => (q3 h q).below hb (Nat.le_refl _)), (fun _ => hO), (fun h => (o2 h).below hb (Nat.le_refl _)), (fun h => (o3 h).below hb (Nat.le_refl _)), f0, f1, (fun _ => rfl), f3, (fun _ => rfl), (fun _ => rfl), f6, f7, f8, f9, f10, f11, f12, f13, (fun h => absurd (h14.symm.trans h) (by decide))⟩
  ·rintro L ⟨gh, s⟩ W hu hd hdn ⟨g1, m0, gz0, gz1, q1, q2, q3, o1, o2, o3, f0, f1, f2, f3, f4, f5, f6, f7, f8, f9, f10, f11, f12, f13, f14⟩ K Q hK
   try dsimp only at g1 m0 gz0 gz1 q1 q2 q3 o1 o2 o3 f0 f1 f2 f3 f4 f5 f6 f7 f8 f9 f10 f11 f12 f13 f14 ⊢
   have h15 : L 15 = false := by
    cases hc : L 15 with
    | false => rfl
    | true => exact hdn.no 15 6 hc rfl hu
   have hWq : w.heap.size + 2 ≤ W.heap.size := (gz0 h15).lt
   have HWq := lh hWq
   clear hWq
   have HF := lh (ai g1 (ai m0 (ai gz0 (ai gz1 (ai q1 (ai q2 (ai q3 (ai o1 (ai o2 (ai o3 (ai f0 (ai f1 (ai f2 (ai f3 (ai f4 (ai f5 (ai f6 (ai f7 (ai f8 (ai f9 (ai f10 (ai f11 (ai f12 (ai f13 f14))))))))))))))))))))))))
   clear f14 f13 f12 f11 f10 f9 f8 f7 f6 f5 f4 f3 f2 f1 f0 o3 o2 o1 q3 q2 q1 gz1 gz0 m0 g1 hd
   try simp only
   gi_wp2
   obtain ⟨g1, m0, gz0, gz1, q1, q2, q3, o1, o2, o3, f0, f1, f2, f3, f4, f5, f6, f7, f8, f9, f10, f11, f12, f13, f14⟩ := HF.out
   have hb : Below W.heap.size W (W.alloc (.cells #[] 67)) := (Below.refl _ _).alloc (Nat.le_refl _) _
   exact hK ({ gh with e2 := W.heap.size }, (upd s 9 (.slice (some ⟨W.heap.size, 0, none⟩) 0 0))) _ ⟨(g1.trans (hb.mono g1.size)), (m0.below hb m0.lt), (fun h => (gz0 h).below hb (gz0 h).lt), (fun h => (gz1 h).below hb (gz1 h).lt), (fun h q => (q1 h q).below hb (Nat.le_refl _)), (fun _ _ => World.ownsRow_made W #[] 0 HWq.out (Nat.zero_le _) (by simp)), (fun h q => (q3 h q).below hb (Nat.le_refl _)), (fun h => (o1 h).below hb (Nat.le_refl _)), (fun h => (o2 h).below hb (Nat.le_refl _)), (fun h => (o3 h).below hb (Nat.le_refl _)), f0, f1, f2, f3, f4, f5, (fun _ => rfl), f7, f8, f9, f10, f11, f12, f13, f14⟩
  ·rintro L ⟨gh, s⟩ W hu hd hdn ⟨g1, m0, gz0, gz1, q1, q2, q3, o1, o2, o3, f0, f1, f2, f3, f4, f5, f6, f7, f8, f9, f10, f11, f12, f13, f14⟩ K Q hK
   try dsimp only at g1 m0 gz0 gz1 q1 q2 q3 o1 o2 o3 f0 f1 f2 f3 f4 f5 f6 f7 f8 f9 f10 f11 f12 f13 f14 ⊢
   have HF := lh (ai g1 (ai m0 (ai gz0 (ai gz1 (ai q1 (ai q2 (ai q3 (ai o1 (ai o2 (ai o3 (ai f0 (ai f1 (ai f2 (ai f3 (ai f4 (ai f5 (ai f6 (ai f7 (ai f8 (ai f9 (ai f10 (ai f11 (ai f12 (ai f13 f14))))))))))))))))))))))))
   clear f14 f13 f12 f11 f10 f9 f8 f7 f6 f5 f4 f3 f2 f1 f0 o3 o2 o1 q3 q2 q1 gz1 gz0 m0 g1 hd
   try simp only
   gi_wp2
   obtain ⟨g1, m0, gz0, gz1, q1, q2, q3, o1, o2, o3, f0, f1, f2, f3, f4, f5, f6, f7, f8, f9, f10, f11, f12, f13, f14⟩ := HF.out
   exact hK (gh, (upd s 10 (.pointer (some ⟨w.heap.size, 2, none⟩)))) _ ⟨g1, m0, gz0, gz1, q1, q2, q3, o1, o2, o3, f0, f1, f2, f3, f4, f5, f6, (fun _ => rfl), f8, f9, f10, f11, f12, f13, f14⟩
  ·rintro L ⟨gh, s⟩ W hu hd hdn ⟨g1, m0, gz0, gz1, q1, q2, q3, o1, o2, o3, f0, f1, f2, f3, f4, f5, f6, f7, f8, f9, f10, f11, f12, f13, f14⟩ K Q hK
   try dsimp only at g1 m0 gz0 gz1 q1 q2 q3 o1 o2 o3 f0 f1 f2 f3 f4 f5 f6 f7 f8 f9 f10 f11 f12 f13 f14 ⊢
   have e7 := f7 (hd.at_ 7 rfl)
   have c0 : W.cell? ⟨w.heap.size, 2, none⟩ = some (.slice Aa na ca) := m0.cell 2
   have HF := lh (ai g1 (ai m0 (ai gz0 (ai gz1 (ai q1 (ai q2 (ai q3 (ai o1 (ai o2 (ai o3 (ai f0 (ai f1 (ai f2 (ai f3 (ai f4 (ai f5 (ai f6 (ai f7 (ai f8 (ai f9 (ai f10 (ai f11 (ai f12 (ai f13 f14))))))))))))))))))))))))
   clear f14 f13 f12 f11 f10 f9 f8 f7 f6 f5 f4 f3 f2 f1 f0 o3 o2 o1 q3 q2 q1 gz1 gz0 m0 g1 hd
   try simp only at e7 ⊢
   gi_wp2
   obtain ⟨g1, m0, gz0, gz1, q1, q2, q3, o1, o2, o3, f0, f1, f2, f3, f4, f5, f6, f7, f8, f9, f10, f11, f12, f13, f14⟩ := HF.out
   exact hK (gh, (upd (upd s 10 (.pointer (some ⟨w.heap.size, 2, none⟩))) 11 (.slice Aa na ca))) _ ⟨g1, m0, gz0, gz1, q1, q2, q3, o1, o2, o3, f0, f1, f2, f3, f4, f5, f6, (fun _ => rfl), (fun _ => rfl), f9, f10, f11, f12, f13, f14⟩
  ·rintro L ⟨gh, s⟩ W hu hd hdn ⟨g1, m0, gz0, gz1, q1, q2, q3, o1, o2, o3, f0, f1, f2, f3, f4, f5, f6, f7, f8, f9, f10, f11, f12, f13, f14⟩ K Q hK
   try dsimp only at g1 m0 gz0 gz1 q1 q2 q3 o1 o2 o3 f0 f1 f2 f3 f4 f5 f6 f7 f8 f9 f10 f11 f12 f13 f14 ⊢
   have e6 := f6 (hd.at_ 6 rfl)
   have e8 := f8 (hd.at_ 8 rfl)
   have h15 : L 15 = false := by
    cases hc : L 15 with
    | false => rfl
    | true => exact hdn.no 15 9 hc rfl hu
   have h14 : L 14 = false := by
    cases hc : L 14 with
    | false => rfl
    | true => exact hdn.no 14 9 hc rfl hu
   have hWq : w.heap.size + 2 ≤ W.heap.size := (gz0 h15).lt
   have HWq := lh hWq
   clear hWq
   have HE := lh (q2 (hd.at_ 6 rfl) hu)
   have HG1 := lh g1
   have HF := lh (ai g1 (ai m0 (ai gz0 (ai gz1 (ai q1 (ai q2 (ai q3 (ai o1 (ai o2 (ai o3 (ai f0 (ai f1 (ai f2 (ai f3 (ai f4 (ai f5 (ai f6 (ai f7 (ai f8 (ai f9 (ai f10 (ai f11 (ai f12 (ai f13 f14))))))))))))))))))))))))
   clear f14 f13 f12 f11 f10 f9 f8 f7 f6 f5 f4 f3 f2 f1 f0 o3 o2 o1 q3 q2 q1 gz1 gz0 m0 g1 hd
   try simp only at e6 e8 ⊢
   gi_wp2_with (first | (gi_at_builtin; refine wpListIn_append_fresh rfl (.tmp 9) (.tmp 11) (by rfl) elem_act e6 HE.out e8 ((HM.out.at_.up HG1.out).acts) (act_one m.acts) (by unfold maxLen; omega) (by omega) HWq.out ?_) | fail)
   rintro AN cN W1 hO hb hA
   gi_wp2
   obtain ⟨g1, m0, gz0, gz1, q1, q2, q3, o1, o2, o3, f0, f1, f2, f3, f4, f5, f6, f7, f8, f9, f10, f11, f12, f13, f14⟩ := HF.out
   exact hK ({ gh with A2 := AN, c2 := cN }, (upd (upd (upd s 9 (.slice (some ⟨gh.e2, 0, none⟩) 0 0)) 11 (.slice Aa na ca)) 12 (.slice AN na cN))) _ ⟨(g1.trans (hb.mono g1.size)), (m0.below hb m0.lt), (fun h => (gz0 h).below hb (gz0 h).lt), (fun h => absurd (h15.symm.trans h) (by decide)), (fun h q => (q1 h q).below hb (Nat.le_refl _)), (fun _ h => by cases h), (fun h q => (q3 h q).below hb (Nat.le_refl _)), (fun h => (o1 h).below hb (Nat.le_refl _)), (fun _ => hO), (fun h => (o3 h).below hb (Nat.le_refl _)), f0, f1, f2, f3, f4, f5, (fun _ => rfl), f7, (fun _ => rfl), (fun _ => rfl), f10, f11, f12, f13, (fun h => absurd (h14.symm.trans h) (by decide))⟩
  ·rintro L ⟨gh, s⟩ W hu hd hdn ⟨g1, m0, gz0, gz1, q1, q2, q3, o1, o2, o3, f0, f1, f2, f3, f4, f5, f6, f7, f8, f9, f10, f11, f12, f13, f14⟩ K Q hK
   try dsimp only at g1 m0 gz0 gz1 q1 q2 q3 o1 o2 o3 f0 f1 f2 f3 f4 f5 f6 f7 f8 f9 f10 f11 f12 f13 f14 ⊢
   have h15 : L 15 = false := by
    cases hc : L 15 with
    | false => rfl
    | true => exact hdn.no 15 10 hc rfl hu
   have hWq : w.heap.size + 2 ≤ W.heap.size := (gz0 h15).lt
   have HWq := lh hWq
   clear hWq
   have HF := lh (ai g1 (ai m0 (ai gz0 (ai gz1 (ai q1 (ai q2 (ai q3 (ai o1 (ai o2 (ai o3 (ai f0 (ai f1 (ai f2 (ai f3 (ai f4 (ai f5 (ai f6 (ai f7 (ai f8 (ai f9 (ai f10 (ai f11 (ai f12 (ai f13 f14))))))))))))))))))))))))
   clear f14 f13 f12 f11 f10 f9 f8 f7 f6 f5 f4 f3 f2 f1 f0 o3 o2 o1 q3 q2 q1 gz1 gz0 m0 g1 hd
   try simp only
   gi_wp2
   obtain ⟨g1, m0, gz0, gz1, q1, q2, q3, o1, o2, o3, f0, f1, f2, f3, f4, f5, f6, f7, f8, f9, f10, f11, f12, f13, f14⟩ := HF.out
   have hb : Below W.heap.size W (W.alloc (.cells #[] 65)) := (Below.refl _ _).alloc (Nat.le_refl _) _
   exact hK ({ gh with e3 := W.heap.size }, (upd s 13 (.slice (some ⟨W.heap.size, 0, none⟩) 0 0))) _ ⟨(g1.trans (hb.mono g1.size)), (m0.below hb m0.lt), (fun h => (gz0 h).below hb (gz0 h).lt), (fun h => (gz1 h).below hb (gz1 h).lt), (fun h q => (q1 h q).below hb (Nat.le_refl _)), (fun h q => (q2 h q).below hb (Nat.le_refl _)), (fun _ _ => World.ownsRow_made W #[] 0 HWq.out (Nat.zero_le _) (by simp)), (fun h => (o1 h).below hb (Nat.le_refl _)), (fun h => (o2 h).below hb (Nat.le_refl _)), (fun h => (o3 h).below hb (Nat.le_refl _)), f0, f1, f2, f3, f4, f5, f6, f7, f8, f9, (fun _ => rfl), f11, f12, f13, f14⟩
  ·rintro L ⟨gh, s⟩ W hu hd hdn ⟨g1, m0, gz0, gz1, q1, q2, q3, o1, o2, o3, f0, f1, f2, f3, f4, f5, f6, f7, f8, f9, f10, f11, f12, f13, f14⟩ K Q hK
   try dsimp only at g1 m0 gz0 gz1 q1 q2 q3 o1 o2 o3 f0 f1 f2 f3 f4 f5 f6 f7 f8 f9 f10 f11 f12 f13 f14 ⊢
   have HF := lh (ai g1 (ai m0 (ai gz0 (ai gz1 (ai q1 (ai q2 (ai q3 (ai o1 (ai o2 (ai o3 (ai f0 (ai f1 (ai f2 (ai f3 (ai f4 (ai f5 (ai f6 (ai f7 (ai f8 (ai f9 (ai f10 (ai f11 (ai f12 (ai f13 f14))))))))))))))))))))))))
   clear f14 f13 f12 f11 f10 f9 f8 f7 f6 f5 f4 f3 f2 f1 f0 o3 o2 o1 q3 q2 q1 gz1 gz0 m0 g1 hd
   try simp only
   gi_wp2
   obtain ⟨g1, m0, gz0, gz1, q1, q2, q3, o1, o2, o3, f0, f1, f2, f3, f4, f5, f6, f7, f8, f9, f10, f11, f12, f13, f14⟩ := HF.out
   exact hK (gh, (upd s 14 (.pointer (some ⟨w.heap.size, 3, none⟩)))) _ ⟨g1, m0, gz0, gz1, q1, q2, q3, o1, o2, o3, f0, f1, f2, f3, f4, f5, f6, f7, f8, f9, f10, (fun _ => rfl), f12, f13, f14⟩
  ·rintro L ⟨gh, s⟩ W hu hd hdn ⟨g1, m0, gz0, gz1, q1, q2, q3, o1, o2, o3, f0, f1, f2, f3, f4, f5, f6, f7, f8, f9, f10, f11, f12, f13, f14⟩ K Q hK
   try dsimp only at g1 m0 gz0 gz1 q1 q2 q3 o1 o2 o3 f0 f1 f2 f3 f4 f5 f6 f7 f8 f9 f10 f11 f12 f13 f14 ⊢
   have e11 := f11 (hd.at_ 11 rfl)
   have c0 : W.cell? ⟨w.heap.size, 3, none⟩ = some (.slice At nt ct) := m0.cell 3
   have HF := lh (ai g1 (ai m0 (ai gz0 (ai gz1 (ai q1 (ai q2 (ai q3 (ai o1 (ai o2 (ai o3 (ai f0 (ai f1 (ai f2 (ai f3 (ai f4 (ai f5 (ai f6 (ai f7 (ai f8 (ai f9 (ai f10 (ai f11 (ai f12 (ai f13 f14))))))))))))))))))))))))
   clear f14 f13 f12 f11 f10 f9 f8 f7 f6 f5 f4 f3 f2 f1 f0 o3 o2 o1 q3 q2 q1 gz1 gz0 m0 g1 hd
   try simp only at e11 ⊢
   gi_wp2
   obtain ⟨g1, m0, gz0, gz1, q1, q2, q3, o1, o2, o3, f0, f1, f2, f3, f4, f5, f6, f7, f8, f9, f10, f11, f12, f13, f14⟩ := HF.out
   exact hK (gh, (upd (upd s 14 (.pointer (some ⟨w.heap.size, 3, none⟩))) 15 (.slice At nt ct))) _ ⟨g1, m0, gz0, gz1, q1, q2, q3, o1, o2, o3, f0, f1, f2, f3, f4, f5, f6, f7, f8, f9, f10, (fun _ => rfl), (fun _ => rfl), f13, f14⟩
  ·rintro L ⟨gh, s⟩ W hu hd hdn ⟨g1, m0, gz0, gz1, q1, q2, q3, o1, o2, o3, f0, f1, f2, f3, f4, f5, f6, f7, f8, f9, f10, f11, f12, f13, f14⟩ K Q hK
   try dsimp only at g1 m0 gz0 gz1 q1 q2 q3 o1 o2 o3 f0 f1 f2 f3 f4 f5 f6 f7 f8 f9 f10 f11 f12 f13 f14 ⊢
   have e10 := f10 (hd.at_ 10 rfl)
   have e12 := f12 (hd.at_ 12 rfl)
   have h15 : L 15 = false := by
    cases hc : L 15 with
    | false => rfl
    | true => exact hdn.no 15 13 hc rfl hu
   have h14 : L 14 = false := by
    cases hc : L 14 with
    | false => rfl
    | true => exact hdn.no 14 13 hc rfl hu
   have hWq : w.heap.size + 2 ≤ W.heap.size := (gz0 h15).lt
   have HWq := lh hWq
   clear hWq
   have HE := lh (q3 (hd.at_ 10 rfl) hu)
   have HG1 := lh g1
   have HF := lh (ai g1 (ai m0 (ai gz0 (ai gz1 (ai q1 (ai q2 (ai q3 (ai o1 (ai o2 (ai o3 (ai f0 (ai f1 (ai f2 (ai f3 (ai f4 (ai f5 (ai f6 (ai f7 (ai f8 (ai f9 (ai f10 (ai f11 (ai f12 (ai f13 f14))))))))))))))))))))))))
   clear f14 f13 f12 f11 f10 f9 f8 f7 f6 f5 f4 f3 f2 f1 f0 o3 o2 o1 q3 q2 q1 gz1 gz0 m0 g1 hd
   try simp only at e10 e12 ⊢
   gi_wp2_with (first | (gi_at_builtin; refine wpListIn_append_fresh rfl (.tmp 13) (.tmp 15) (by rfl) elem_tast e10 HE.out e12 ((HM.out.at_.up HG1.out).tastes) (tast_one m.tastes) (by unfold maxLen; omega) (by omega) HWq.out ?_) | fail)
   rintro AN cN W1 hO hb hA
   gi_wp2
   obtain ⟨g1, m0, gz0, gz1, q1, q2, q3, o1, o2, o3, f0, f1, f2, f3, f4, f5, f6, f7, f8, f9, f10, f11, f12, f13, f14⟩ := HF.out
   exact hK ({ gh with A3 := AN, c3 := cN }, (upd (upd (upd s 13 (.slice (some ⟨gh.e3, 0, none⟩) 0 0)) 15 (.slice At nt ct)) 16 (.slice AN nt cN))) _ ⟨(g1.trans (hb.mono g1.size)), (m0.below hb m0.lt), (fun h => (gz0 h).below hb (gz0 h).lt), (fun h => absurd (h15.symm.trans h) (by decide)), (fun h q => (q1 h q).below hb (Nat.le_refl _)), (fun h q => (q2 h q).below hb (Nat.le_refl _)), (fun _ h => by cases h), (fun h => (o1 h).below hb (Nat.le_refl _)), (fun h => (o2 h).below hb (Nat.le_refl _)), (fun _ => hO), f0, f1, f2, f3, f4, f5, f6, f7, f8, f9, (fun _ => rfl), f11, (fun _ => rfl), (fun _ => rfl), (fun h => absurd (h14.symm.trans h) (by decide))⟩
  ·rintro L ⟨gh, s⟩ W hu hd hdn ⟨g1, m0, gz0, gz1, q1, q2, q3, o1, o2, o3, f0, f1, f2, f3, f4, f5, f6, f7, f8, f9, f10, f11, f12, f13, f14⟩ K Q hK
   try dsimp only at g1 m0 gz0 gz1 q1 q2 q3 o1 o2 o3 f0 f1 f2 f3 f4 f5 f6 f7 f8 f9 f10 f11 f12 f13 f14 ⊢
   have e1 := f1 (hd.at_ 1 rfl)
   have e5 := f5 (hd.at_ 5 rfl)
   have e9 := f9 (hd.at_ 9 rfl)
   have e13 := f13 (hd.at_ 13 rfl)
   have HF := lh (ai g1 (ai m0 (ai gz0 (ai gz1 (ai q1 (ai q2 (ai q3 (ai o1 (ai o2 (ai o3 (ai f0 (ai f1 (ai f2 (ai f3 (ai f4 (ai f5 (ai f6 (ai f7 (ai f8 (ai f9 (ai f10 (ai f11 (ai f12 (ai f13 f14))))))))))))))))))))))))
   clear f14 f13 f12 f11 f10 f9 f8 f7 f6 f5 f4 f3 f2 f1 f0 o3 o2 o1 q3 q2 q1 gz1 gz0 m0 g1 hd
   try simp only at e1 e5 e9 e13 ⊢
   gi_wp2
   obtain ⟨g1, m0, gz0, gz1, q1, q2, q3, o1, o2, o3, f0, f1, f2, f3, f4, f5, f6, f7, f8, f9, f10, f11, f12, f13, f14⟩ := HF.out
   exact hK (gh, (upd (upd (upd (upd (upd s 4 (.int .i64 m.fountains)) 8 (.slice gh.A1 nv gh.c1)) 12 (.slice gh.A2 na gh.c2)) 16 (.slice gh.A3 nt gh.c3)) 17 (.agg #[.int .i64 m.fountains, .slice gh.A1 nv gh.c1, .slice gh.A2 na gh.c2, .slice gh.A3 nt gh.c3]))) _ ⟨g1, m0, gz0, gz1, q1, q2, q3, o1, o2, o3, f0, (fun _ => rfl), f2, f3, f4, (fun _ => rfl), f6, f7, f8, (fun _ => rfl), f10, f11, f12, (fun _ => rfl), (fun _ => rfl)⟩
  ·rintro L ⟨gh, s⟩ W hu hd hdn ⟨g1, m0, gz0, gz1, q1, q2, q3, o1, o2, o3, f0, f1, f2, f3, f4, f5, f6, f7, f8, f9, f10, f11, f12, f13, f14⟩ K Q hK
   try dsimp only at g1 m0 gz0 gz1 q1 q2 q3 o1 o2 o3 f0 f1 f2 f3 f4 f5 f6 f7 f8 f9 f10 f11 f12 f13 f14 ⊢
   have e14 := f14 (hd.at_ 14 rfl)
   have MB := gz0 hu
   have y0 := MB.cell 0
   have z0 := MB.frozen 0
   have y1 := MB.cell 1
   have z1 := MB.frozen 1
   have y2 := MB.cell 2
   have z2 := MB.frozen 2
   have y3 := MB.cell 3
   have z3 := MB.frozen 3
   have rl := MB.lt
   have HMB := lh MB
   clear MB
   have HD5 := lh (hd.at_ 5 rfl)
   have HD9 := lh (hd.at_ 9 rfl)
   have HD13 := lh (hd.at_ 13 rfl)
   have HF := lh (ai g1 (ai m0 (ai gz0 (ai gz1 (ai q1 (ai q2 (ai q3 (ai o1 (ai o2 (ai o3 (ai f0 (ai f1 (ai f2 (ai f3 (ai f4 (ai f5 (ai f6 (ai f7 (ai f8 (ai f9 (ai f10 (ai f11 (ai f12 (ai f13 f14))))))))))))))))))))))))
   clear f14 f13 f12 f11 f10 f9 f8 f7 f6 f5 f4 f3 f2 f1 f0 o3 o2 o1 q3 q2 q1 gz1 gz0 m0 g1 hd
   try simp only at e14 ⊢
   gi_wp2
   obtain ⟨g1, m0, gz0, gz1, q1, q2, q3, o1, o2, o3, f0, f1, f2, f3, f4, f5, f6, f7, f8, f9, f10, f11, f12, f13, f14⟩ := HF.out
   have R4 := ret4' HMB.out (Below.refl (w.heap.size + 1) W) (Nat.le_refl _) (.int .i64 m.fountains) (.slice gh.A1 nv gh.c1) (.slice gh.A2 na gh.c2) (.slice gh.A3 nt gh.c3)
   have hne : ∀ {e : TypeId} {size n cap : Nat} {A : Option Addr} {xs : List Value}, Own W (w.heap.size + 2) e size A n cap xs → ∀ a, A = some a → some a.block ≠ some (w.heap.size + 1) := fun ho a ha e => by have := (ho.lt ha).1; have := Option.some.inj e; omega
   exact hK (gh, (upd s 17 (.agg #[.int .i64 m.fountains, .slice gh.A1 nv gh.c1, .slice gh.A2 na gh.c2, .slice gh.A3 nt gh.c3]))) _ ⟨(g1.trans (R4.2.1.mono (by omega))), (m0.grown R4.2.2 (by simp)), (fun h => by cases h), (fun _ => R4.1), (fun _ h => absurd (HD5.out.symm.trans h) (by decide)), (fun _ h => absurd (HD9.out.symm.trans h) (by decide)), (fun _ h => absurd (HD13.out.symm.trans h) (by decide)), (fun h => (o1 h).grown R4.2.2 (hne (o1 h))), (fun h => (o2 h).grown R4.2.2 (hne (o2 h))), (fun h => (o3 h).grown R4.2.2 (hne (o3 h))), f0, f1, f2, f3, f4, f5, f6, f7, f8, f9, f10, f11, f12, f13, (fun _ => rfl)⟩
 ·rintro L ⟨gh, s⟩ W hall ⟨g1, m0, gz0, gz1, q1, q2, q3, o1, o2, o3, f0, f1, f2, f3, f4, f5, f6, f7, f8, f9, f10, f11, f12, f13, f14⟩
  have GO1 := lh (o1 (hall 5 (by decide)))
  have GO2 := lh (o2 (hall 9 (by decide)))
  have GO3 := lh (o3 (hall 13 (by decide)))
  have GZ := lh (gz1 (hall 15 (by decide)))
  have G1 := lh g1
  clear f14 f13 f12 f11 f10 f9 f8 f7 f6 f5 f4 f3 f2 f1 f0 o3 o2 o1 q3 q2 q1 gz1 gz0 m0 g1 hall
  simp only
  gi_wp2
  have v0 := GZ.out.cell 0
  have v1 := GZ.out.cell 1
  have v2 := GZ.out.cell 2
  have v3 := GZ.out.cell 3
  refine bodyPost_ret (v := .agg #[.int .i64 m.fountains, .slice gh.A1 nv gh.c1, .slice gh.A2 na gh.c2, .slice gh.A3 nt gh.c3]) (by simp [results, Try.results8, go_sem, v0, v1, v2, v3]) rfl ?_
  exact ⟨gh.A1, gh.c1, gh.A2, gh.c2, gh.A3, gh.c3, rfl, ⟨GO1.out.mono (by omega), GO2.out.mono (by omega), GO3.out.mono (by omega)⟩, G1.out⟩
end
section
open Go.RowKit
def sameI (a b : List Int) : Bool := decide (a = b)
theorem sameI_len {a b : List Int} (h : a.length ≠ b.length) : sameI a b = false := by unfold sameI; simp; intro e; exact h (by rw [e])
theorem sameI_ne {a b : List Int} {k : Nat} {x y : Int} (hx : a[k]? = some x) (hy : b[k]? = some y) (h : x ≠ y) : sameI a b = false := by
 unfold sameI; simp; intro e; subst e; rw [hx] at hy; cases hy; exact h rfl
theorem sameI_eq {a b : List Int} (hl : a.length = b.length) (h : ∀ (k : Nat) x y, k < a.length → a[k]? = some x → b[k]? = some y → x = y) : sameI a b = true := by
 unfold sameI; simp
 apply List.ext_getElem?
 intro k
 by_cases hk : k < a.length
 ·have h1 : a[k]? = some a[k] := List.getElem?_eq_getElem hk
  have h2 : b[k]? = some (b[k]'(by omega)) := List.getElem?_eq_getElem _
  rw [h1, h2, h k _ _ hk h1 h2]
 ·rw [List.getElem?_eq_none (by omega), List.getElem?_eq_none (by omega)]
set_option maxRecDepth 100000 in
set_option maxHeartbeats 2000000 in
theorem sameInts_any (A : Option Addr) (n c : Nat) (a : List Int) (B : Option Addr) (m d : Nat) (b : List Int) (w : World) (hn : n ≤ maxLen) (hm : m ≤ maxLen) (ha : IntsAt w w.heap.size A n a) (hb : IntsAt w w.heap.size B m b) :
  Calls Try.prog 30 #[.slice A n c, .slice B m d] w fun e w' => e = .returned (.bool (sameI a b)) ∧ Below w.heap.size w w' := by
 unfold maxLen at hn hm
 have HA := lh ha.len
 have HB := lh hb.len
 by_cases hnm : n = m
 ·subst hnm
  have hnn : ((n : Int) == (n : Int)) = true := by simp
  go_enter Try.func30, Try.ntmps30
  go_wp2_with fail
  go_loopw [5] (fun i wr => ∃ k : Nat, k ≤ n ∧ i = .int .i64 k ∧ (∀ (j : Nat) x y, j < k → a[j]? = some x → b[j]? = some y → x = y) ∧ Below w.heap.size w wr)
   (fun i _ => n - (intOf i).toNat)
  case atStart => exact ⟨0, by omega, rfl, fun _ _ _ h => absurd h (by omega), Below.refl _ _⟩
  case round =>
   obtain ⟨k, hk, rfl, hall, hbel⟩ := hrel
   have HAll := lh hall
   clear hall
   by_cases hlt : k < n
   ·obtain ⟨b1, o1, x, rfl, hb1, hx, cx⟩ := (ha.below hbel).cell hlt
    obtain ⟨b2, o2, y, rfl, hb2, hy, cy⟩ := (hb.below hbel).cell hlt
    have HX := lh hx
    have HY := lh hy
    have kI : (k : Int) < (n : Int) := by omega
    have k0 : (0 : Int) ≤ (k : Int) := by omega
    clear hx hy
    by_cases hxy : x = y
    ·have hxy' : (x == y) = true := by simpa using hxy
     have HXY := lh hxy
     clear hxy
     go_wp2_with fail
     go_quiet (fail)
     go_wp2_with fail
     go_roundw
     case rel => exact ⟨k + 1, by omega, by go_num, fun j u v hj hu hv => by
      rcases Nat.lt_or_ge j k with h | h
      ·exact HAll.out j u v h hu hv
      ·obtain rfl : j = k := by omega
       rw [HX.out] at hu; rw [HY.out] at hv
       cases hu; cases hv; exact HXY.out, below_drewN hbel _⟩
     case measure => simp [intOf]; omega
    ·have hxy' : (x == y) = false := by simpa using hxy
     have HXY := lh hxy
     clear hxy
     go_wp2_with fail
     go_quiet (fail)
     go_wp2_with fail
     go_ret
     exact ⟨ret_bool (sameI_ne HX.out HY.out HXY.out).symm, below_drewN hbel _⟩
   ·go_wp2_with fail
    go_ret
    exact ⟨ret_bool (sameI_eq (by rw [HA.out, HB.out]) (fun j x y hj hx hy => HAll.out j x y (by have := HA.out; omega) hx hy)).symm, hbel⟩
 ·have hnn : ((n : Int) == (m : Int)) = false := by simp; omega
  have HF : Hid (sameI a b = false) := sameI_len (by rw [HA.out, HB.out]; exact hnm)
  go_enter Try.func30, Try.ntmps30
  go_wp2_with fail
  go_ret
  exact ⟨ret_bool HF.out.symm, Below.refl _ _⟩
def greatB (nv na nt : Nat) : Bool := decide (8 < nv) || decide (24 < na) || decide (16 < nt)
set_option maxHeartbeats 1000000 in
theorem great_any (f : Int) (Av : Option Addr) (nv cv : Nat) (Aa : Option Addr) (na ca : Nat) (At : Option Addr) (nt ct : Nat) (w : World) :
  Calls Try.prog 7 #[.agg #[.int .i64 f, .slice Av nv cv, .slice Aa na ca, .slice At nt ct]] w fun e w' => e = .returned (.bool (greatB nv na nt)) ∧ Below w.heap.size w w' := by
 by_cases h1 : 8 < nv
 ·have HG : Hid (greatB nv na nt = true) := by show _ = _; unfold greatB; simp [h1]
  have h1' : (8 : Int) < (nv : Int) := by omega
  clear h1
  go_enter Try.func7, Try.ntmps7
  go_wp2_with fail
  go_ret
  exact ⟨ret_bool HG.out.symm, (Below.refl _ _).alloc (Nat.le_refl _) _⟩
 ·have h1' : decide ((8 : Int) < (nv : Int)) = false := by simp; omega
  by_cases h2 : 24 < na
  ·have HG : Hid (greatB nv na nt = true) := by show _ = _; unfold greatB; simp [h2]
   have h2' : (24 : Int) < (na : Int) := by omega
   clear h1 h2
   go_enter Try.func7, Try.ntmps7
   go_wp2_with fail
   go_ret
   exact ⟨ret_bool HG.out.symm, (Below.refl _ _).alloc (Nat.le_refl _) _⟩
  ·have h2' : decide ((24 : Int) < (na : Int)) = false := by simp; omega
   by_cases h3 : 16 < nt
   ·have HG : Hid (greatB nv na nt = true) := by show _ = _; unfold greatB; simp [h3]
    have h3' : (16 : Int) < (nt : Int) := by omega
    clear h1 h2 h3
    go_enter Try.func7, Try.ntmps7
    go_wp2_with fail
    go_ret
    exact ⟨ret_bool HG.out.symm, (Below.refl _ _).alloc (Nat.le_refl _) _⟩
   ·have HG : Hid (greatB nv na nt = false) := by show _ = _; unfold greatB; simp [h1, h2, h3]
    have h3' : ¬ (16 : Int) < (nt : Int) := by omega
    clear h1 h2 h3
    go_enter Try.func7, Try.ntmps7
    go_wp2_with fail
    go_ret
    exact ⟨ret_bool HG.out.symm, (Below.refl _ _).alloc (Nat.le_refl _) _⟩
theorem eqi_run4 (d : Nat) (a b : Int) (w : World) : (Op.equalIn (d+1) 3 (.int .i64 a) (.int .i64 b)).run Try.prog w = .ok (a == b) w := by
 simp [Op.equalIn, run_underlying Try.underlying3]
theorem eq_vess_run (a0 a1 : Int) (w : World) : (Op.equalIn 10000 80 (.agg #[.int .i64 a0, .int .i64 a1]) (.agg #[.int .i64 a0, .int .i64 a1])).run Try.prog w = .ok true w := by
 rw [Op.equalIn]
 simp [go_sem, run_underlying Try.underlying80, eqi_run4, Std.Legacy.Range.forIn_eq_forIn_range', part]
theorem eq_act_run (a0 a1 a2 a3 : Int) (w : World) : (Op.equalIn 10000 67 (.agg #[.int .i64 a0, .int .i64 a1, .int .i64 a2, .int .i64 a3]) (.agg #[.int .i64 a0, .int .i64 a1, .int .i64 a2, .int .i64 a3])).run Try.prog w = .ok true w := by
 rw [Op.equalIn]
 simp [go_sem, run_underlying Try.underlying67, eqi_run4, Std.Legacy.Range.forIn_eq_forIn_range', part]
theorem eq_tast_run (a0 a1 a2 a3 a4 a5 : Int) (w : World) : (Op.equalIn 10000 65 (.agg #[.int .i64 a0, .int .i64 a1, .int .i64 a2, .int .i64 a3, .int .i64 a4, .int .i64 a5]) (.agg #[.int .i64 a0, .int .i64 a1, .int .i64 a2, .int .i64 a3, .int .i64 a4, .int .i64 a5])).run Try.prog w = .ok true w := by
 rw [Op.equalIn]
 simp [go_sem, run_underlying Try.underlying65, eqi_run4, Std.Legacy.Range.forIn_eq_forIn_range', part]
set_option maxRecDepth 100000 in
set_option maxHeartbeats 8000000 in
theorem same_true (Av : Option Addr) (nv cv : Nat) (Aa : Option Addr) (na ca : Nat) (At : Option Addr) (nt ct : Nat) (Bv : Option Addr) (dv : Nat) (Ba : Option Addr) (da : Nat) (Bt : Option Addr) (dt : Nat) (m : Mix) (w : World) (h1 : MixS w Av nv Aa na At nt m) (h2 : MixS w Bv nv Ba na Bt nt m) :
  Calls Try.prog 13 #[.agg #[.int .i64 m.fountains, .slice Av nv cv, .slice Aa na ca, .slice At nt ct], .agg #[.int .i64 m.fountains, .slice Bv nv dv, .slice Ba na da, .slice Bt nt dt]] w fun e w' => e = .returned (.bool true) ∧ Below w.heap.size w w' := by
 have HM := lh h1
 have HN := lh h2
 have hnv := h1.hv
 have hna := h1.ha
 have hnt := h1.ht
 clear h1 h2
 have e0 : ((nv : Int) == (nv : Int)) = true := by simp
 have e1 : ((na : Int) == (na : Int)) = true := by simp
 have e2 : ((nt : Int) == (nt : Int)) = true := by simp
 have hr0 := eq_vess_run
 have hr1 := eq_act_run
 have hr2 := eq_tast_run
 go_enter Try.func13, Try.ntmps13
 go_wp2_with fail
 have X0 := (Blk.new w 26 #[.int .i64 m.fountains, .slice Av nv cv, .slice Aa na ca, .slice At nt ct]).alloc (.cells #[.int .i64 m.fountains, .slice Bv nv dv, .slice Ba na da, .slice Bt nt dt] 26)
 have Y0 := Blk.new (w.alloc (.cells #[.int .i64 m.fountains, .slice Av nv cv, .slice Aa na ca, .slice At nt ct] 26)) 26 #[.int .i64 m.fountains, .slice Bv nv dv, .slice Ba na da, .slice Bt nt dt]
 have B0 : Below w.heap.size w ((w.alloc (.cells #[.int .i64 m.fountains, .slice Av nv cv, .slice Aa na ca, .slice At nt ct] 26)).alloc (.cells #[.int .i64 m.fountains, .slice Bv nv dv, .slice Ba na da, .slice Bt nt dt] 26)) := ((Below.refl _ _).alloc (Nat.le_refl _) _).alloc (by simp) _
 rw [World.size_alloc] at Y0
 generalize ((w.alloc (.cells #[.int .i64 m.fountains, .slice Av nv cv, .slice Aa na ca, .slice At nt ct] 26)).alloc (.cells #[.int .i64 m.fountains, .slice Bv nv dv, .slice Ba na da, .slice Bt nt dt] 26)) = w0 at *
 have HX0 := lh X0
 have HY0 := lh Y0
 have HB0 := lh B0
 clear X0 Y0 B0
 go_loopw [5] (fun i wr => ∃ k : Nat, k ≤ nv ∧ i = .int .i64 k ∧ Below w0.heap.size w0 wr)
  (fun i _ => nv - (intOf i).toNat)
 case atStart => exact ⟨0, by omega, rfl, Below.refl _ _⟩
 case round =>
  obtain ⟨k, hk, rfl, hbel⟩ := hrel
  have X0 := HX0.out.below hbel HX0.out.lt
  have Y0 := HY0.out.below hbel HY0.out.lt
  have B0 := HB0.out.trans (hbel.mono HB0.out.size)
  have x0 := X0.cell 1
  have y0 := Y0.cell 1
  have x1 := X0.cell 2
  have y1 := Y0.cell 2
  by_cases hlt : k < nv
  ·obtain ⟨b1, o1, x, rfl, hb1, hx, c0, c1⟩ := (HM.out.at_.below B0).vess hlt
   obtain ⟨b2, o2, y, rfl, hb2, hy, d0, d1⟩ := (HN.out.at_.below B0).vess hlt
   obtain rfl : x = y := by rw [hx] at hy; exact Option.some.inj hy
   have HX := lh hx
   clear hx hy
   have kI : (k : Int) < (nv : Int) := by omega
   have k0 : (0 : Int) ≤ (k : Int) := by omega
   go_wp2_with fail
   go_quiet (fail)
   go_wp2_with fail
   go_roundw
   case rel => exact ⟨k + 1, by omega, by go_num, below_drewN hbel _⟩
   case measure => simp [intOf]; omega
  ·
   have hke : k = nv := by omega
   clear hbel
   go_wp2_with fail
   clear x0 y0 x1 y1
   clear HX0 HY0 HB0
   generalize wr = wra at *
   have HX1 := lh X0
   have HY1 := lh Y0
   have HB1 := lh B0
   clear X0 Y0 B0
   go_loopw [6] (fun i wr => ∃ k : Nat, k ≤ na ∧ i = .int .i64 k ∧ Below wra.heap.size wra wr)
    (fun i _ => na - (intOf i).toNat)
   case atStart => exact ⟨0, by omega, rfl, Below.refl _ _⟩
   case round =>
    obtain ⟨k, hk, rfl, hbel⟩ := hrel
    have X0 := HX1.out.below hbel HX1.out.lt
    have Y0 := HY1.out.below hbel HY1.out.lt
    have B0 := HB1.out.trans (hbel.mono HB1.out.size)
    have x0 := X0.cell 2
    have y0 := Y0.cell 2
    have x1 := X0.cell 3
    have y1 := Y0.cell 3
    by_cases hlt : k < na
    ·obtain ⟨b1, o1, x, rfl, hb1, hx, c0, c1, c2, c3⟩ := (HM.out.at_.below B0).act hlt
     obtain ⟨b2, o2, y, rfl, hb2, hy, d0, d1, d2, d3⟩ := (HN.out.at_.below B0).act hlt
     obtain rfl : x = y := by rw [hx] at hy; exact Option.some.inj hy
     have HX := lh hx
     clear hx hy
     have kI : (k : Int) < (na : Int) := by omega
     have k0 : (0 : Int) ≤ (k : Int) := by omega
     go_wp2_with fail
     go_quiet (fail)
     go_wp2_with fail
     go_roundw
     case rel => exact ⟨k + 1, by omega, by go_num, below_drewN hbel _⟩
     case measure => simp [intOf]; omega
    ·
     have hke : k = na := by omega
     clear hbel
     go_wp2_with fail
     clear x0 y0 x1 y1
     clear HX1 HY1 HB1
     generalize wr = wrb at *
     have HX2 := lh X0
     have HY2 := lh Y0
     have HB2 := lh B0
     clear X0 Y0 B0
     go_loopw [7] (fun i wr => ∃ k : Nat, k ≤ nt ∧ i = .int .i64 k ∧ Below wrb.heap.size wrb wr)
      (fun i _ => nt - (intOf i).toNat)
     case atStart => exact ⟨0, by omega, rfl, Below.refl _ _⟩
     case round =>
      obtain ⟨k, hk, rfl, hbel⟩ := hrel
      have X0 := HX2.out.below hbel HX2.out.lt
      have Y0 := HY2.out.below hbel HY2.out.lt
      have B0 := HB2.out.trans (hbel.mono HB2.out.size)
      have x0 := X0.cell 3
      have y0 := Y0.cell 3
      by_cases hlt : k < nt
      ·obtain ⟨b1, o1, x, rfl, hb1, hx, c0, c1, c2, c3, c4, c5⟩ := (HM.out.at_.below B0).tast hlt
       obtain ⟨b2, o2, y, rfl, hb2, hy, d0, d1, d2, d3, d4, d5⟩ := (HN.out.at_.below B0).tast hlt
       obtain rfl : x = y := by rw [hx] at hy; exact Option.some.inj hy
       have HX := lh hx
       clear hx hy
       have kI : (k : Int) < (nt : Int) := by omega
       have k0 : (0 : Int) ≤ (k : Int) := by omega
       go_wp2_with fail
       go_quiet (fail)
       go_wp2_with fail
       go_roundw
       case rel => exact ⟨k + 1, by omega, by go_num, below_drewN hbel _⟩
       case measure => simp [intOf]; omega
      ·
       have hke : k = nt := by omega
       clear hbel
       go_wp2_with fail
       go_ret
       exact ⟨rfl, B0⟩
end
section
open Go.RowKit
def Apart (A B : Option Addr) : Prop := ∀ a b, A = some a → B = some b → a.block ≠ b.block
structure MixOwn (w : World) (base : Nat) (A1 : Option Addr) (nv c1 : Nat) (A2 : Option Addr) (na c2 : Nat) (A3 : Option Addr) (nt c3 : Nat) (m : Mix) : Prop where
 v : Own w base 80 2 A1 nv c1 (m.vessels.flatMap Vess.vals)
 a : Own w base 67 4 A2 na c2 (m.acts.flatMap MAct.vals)
 t : Own w base 65 6 A3 nt c3 (m.tastes.flatMap Tast.vals)
 va : Apart A1 A2
 vt : Apart A1 A3
 at_ : Apart A2 A3
end
section
open Go.RowKit
section
variable {w W W' : World} {base : Nat} {A1 A2 A3 : Option Addr} {nv c1 na c2 nt c3 : Nat} {m : Mix}
theorem MixOwn.s (h : MixOwn W base A1 nv c1 A2 na c2 A3 nt c3 m) (hv : nv ≤ 1000) (ha : na ≤ 1000) (ht : nt ≤ 1000) : MixS W A1 nv A2 na A3 nt m := ⟨⟨h.v.reads (Nat.le_refl _), h.a.reads (Nat.le_refl _), h.t.reads (Nat.le_refl _)⟩, hv, ha, ht⟩
theorem MixOwn.below (h : MixOwn W base A1 nv c1 A2 na c2 A3 nt c3 m) (hb : Below W.heap.size W W') : MixOwn W' base A1 nv c1 A2 na c2 A3 nt c3 m := ⟨h.v.below hb (Nat.le_refl _), h.a.below hb (Nat.le_refl _), h.t.below hb (Nat.le_refl _), h.va, h.vt, h.at_⟩
theorem MixOwn.mono (h : MixOwn W base A1 nv c1 A2 na c2 A3 nt c3 m) {b' : Nat} (hb : b' ≤ base) : MixOwn W b' A1 nv c1 A2 na c2 A3 nt c3 m := ⟨h.v.mono hb, h.a.mono hb, h.t.mono hb, h.va, h.vt, h.at_⟩
theorem own_off {e : TypeId} {size n cap g : Nat} {A : Option Addr} {xs : List Value} (h : Own W base e size A n cap xs) (hg : W.grownBy W' (some g)) (hlt : g < base) : Own W' base e size A n cap xs := h.grown hg (fun a ha e => by have := (h.lt ha).1; have := Option.some.inj e; omega)
theorem MixOwn.off {g : Nat} (h : MixOwn W base A1 nv c1 A2 na c2 A3 nt c3 m) (hg : W.grownBy W' (some g)) (hlt : g < base) : MixOwn W' base A1 nv c1 A2 na c2 A3 nt c3 m := ⟨own_off h.v hg hlt, own_off h.a hg hlt, own_off h.t hg hlt, h.va, h.vt, h.at_⟩
theorem MixOwn.nothing (W : World) (base : Nat) : MixOwn W base none 0 0 none 0 0 none 0 0 zeroMix := ⟨Own.none_ _ _ _ _, Own.none_ _ _ _ _, Own.none_ _ _ _ _, fun a b h => (by cases h), fun a b h => (by cases h), fun a b h => (by cases h)⟩
theorem apart_row {A B : Option Addr} (h : Apart A B) : ∀ a, A = some a → some a.block ≠ B.map (·.block) := by
 intro a ha e
 cases hB : B with
 | none => rw [hB] at e; cases e
 | some b => rw [hB] at e; exact h a b ha hB (Option.some.inj e)
theorem apart_grow {B A9 : Option Addr} {A : Option Addr} {e : TypeId} {size n cap : Nat} {xs : List Value} (h : Apart A B) (ho : Own W base e size A n cap xs) (hA : A9 = B ∨ A9 = some ⟨W.heap.size, 0, none⟩) : Apart A A9 := by
 intro a b ha hb
 rcases hA with e1 | e1
 ·exact h a b ha (e1 ▸ hb)
 ·rw [e1] at hb
  cases hb
  have := (ho.lt ha).2
  dsimp only
  omega
theorem Apart.symm {A B : Option Addr} (h : Apart A B) : Apart B A := fun a b ha hb e => h b a hb ha e.symm
theorem MixOwn.acts {A9 : Option Addr} {c9 : Nat} {x : MAct} (h : MixOwn W base A1 nv c1 A2 na c2 A3 nt c3 m) (hg : W.grownBy W' (A2.map (·.block))) (ho : Own W' base 67 4 A9 (na + 1) c9 (m.acts.flatMap MAct.vals ++ x.vals)) (hA : A9 = A2 ∨ A9 = some ⟨W.heap.size, 0, none⟩) :
  MixOwn W' base A1 nv c1 A9 (na + 1) c9 A3 nt c3 (withA m (m.acts ++ [x])) := by
 refine ⟨h.v.grown hg (apart_row h.va), ?_, h.t.grown hg (apart_row h.at_.symm), apart_grow h.va h.v hA, h.vt, (apart_grow h.at_.symm h.t hA).symm⟩
 show Own W' base _ 4 A9 (na + 1) c9 ((m.acts ++ [x]).flatMap MAct.vals)
 rw [List.flatMap_append]
 simpa using ho
end
end
section
open Go.RowKit
instance : Inhabited Tast := ⟨⟨0, 0, 0, 0, 0, 0⟩⟩
end
section
open Go.RowKit
section
variable {w W W' : World} {base : Nat} {A1 A2 A3 : Option Addr} {nv c1 na c2 nt c3 : Nat} {m : Mix}
theorem MixNew.below (h : MixNew W base A1 nv c1 A2 na c2 A3 nt c3 m) (hb : Below W.heap.size W W') : MixNew W' base A1 nv c1 A2 na c2 A3 nt c3 m := ⟨h.v.below hb (Nat.le_refl _), h.a.below hb (Nat.le_refl _), h.t.below hb (Nat.le_refl _)⟩
theorem MixNew.mono {b' : Nat} (h : MixNew W base A1 nv c1 A2 na c2 A3 nt c3 m) (hb : b' ≤ base) : MixNew W b' A1 nv c1 A2 na c2 A3 nt c3 m := ⟨h.v.mono hb, h.a.mono hb, h.t.mono hb⟩
theorem MixNew.off {g : Nat} (h : MixNew W base A1 nv c1 A2 na c2 A3 nt c3 m) (hg : W.grownBy W' (some g)) (hlt : g < base) : MixNew W' base A1 nv c1 A2 na c2 A3 nt c3 m := ⟨own_off h.v hg hlt, own_off h.a hg hlt, own_off h.t hg hlt⟩
theorem MixNew.s (h : MixNew W base A1 nv c1 A2 na c2 A3 nt c3 m) (hv : nv ≤ 1000) (ha : na ≤ 1000) (ht : nt ≤ 1000) : MixS W A1 nv A2 na A3 nt m := ⟨⟨h.v.reads (Nat.le_refl _), h.a.reads (Nat.le_refl _), h.t.reads (Nat.le_refl _)⟩, hv, ha, ht⟩
theorem MixNew.acts {A9 : Option Addr} {n9 c9 b9 : Nat} {l : List MAct} (h : MixNew W base A1 nv c1 A2 na c2 A3 nt c3 m) (hb : Below W.heap.size W W') (ho : Own W' b9 67 4 A9 n9 c9 (l.flatMap MAct.vals)) (h9 : base ≤ b9) : MixNew W' base A1 nv c1 A9 n9 c9 A3 nt c3 (withA m l) := ⟨(h.below hb).v, ho.mono h9, (h.below hb).t⟩
theorem MixS.nothing (W : World) : MixS W none 0 none 0 none 0 zeroMix := ⟨⟨Reads.none_, Reads.none_, Reads.none_⟩, by omega, by omega, by omega⟩
end
end
section
open Go.RowKit
theorem greatB_false {nv na nt : Nat} (h : greatB nv na nt = false) : nv ≤ 8 ∧ na ≤ 24 ∧ nt ≤ 16 := by
 unfold greatB at h
 simp at h
 omega
def LawOut (w : World) (e : Ending) (w' : World) : Prop := e = .returned (.bool true) ∧ Below w.heap.size w w'
end
section
open Go.RowKit
theorem sameI_refl (l : List Int) : sameI l l = true := by unfold sameI; simp
set_option maxRecDepth 100000 in
set_option maxHeartbeats 16000000 in
theorem mways_in (Av : Option Addr) (nv cv : Nat) (Aa : Option Addr) (na ca : Nat) (At : Option Addr) (nt ct : Nat) (m : Mix) (vessel after one other : Int) (w : World) (h : MixAt w w.heap.size Av nv Aa na At nt m) (hca : na ≤ ca ∧ ca ≤ maxLen) :
  CallsIn Fence.wide 9 Try.prog 5 #[.agg #[.int .i64 m.fountains, .slice Av nv cv, .slice Aa na ca, .slice At nt ct], .int .i64 vessel, .int .i64 after, .int .i64 one, .int .i64 other] w (LawOut w) := by
 have HCA := lh hca
 refine callsIn_of_wp Try.func5 rfl trivial ?_ rfl
 simp only [Try.ntmps5, List.size_toArray, List.length_cons, List.length_nil, Nat.reduceAdd, Nat.reduceSub, Array.replicate_succ, Array.replicate_zero, List.push_toArray, List.append_toArray, List.nil_append, List.cons_append]
 gi_upto_region 1 with fail
 have Ly := lh (Lay.one w 26 #[.int .i64 m.fountains, .slice Av nv cv, .slice Aa na ca, .slice At nt ct])
 generalize (w.alloc (.cells #[.int .i64 m.fountains, .slice Av nv cv, .slice Aa na ca, .slice At nt ct] 26)) = w0 at *
 obtain ⟨x0_0, x0_1, x0_2, x0_3⟩ := lyc4 Ly 0 rfl
 have l0_ := Ly.out.lt 0 rfl
 gi_wp2
 clear x0_0 x0_1 x0_2 x0_3 l0_
 refine ⟨trivial, (callsIn_wide.2 (great_any m.fountains Av nv cv Aa na ca At nt ct w0)).mono ?_⟩
 rintro e W1 ⟨rfl, hb⟩
 replace Ly := lyb Ly hb
 clear hb
 cases hg : greatB nv na nt with
 | true =>
  gi_wp2
  refine bodyPost_ret (v := .bool true) (by simp [results, Try.results5, go_sem]) rfl ?_
  exact ⟨rfl, Ly.out.1⟩
 | false =>
  have hsm := greatB_false hg
  have hsx : MixS w Av nv Aa na At nt m := ⟨h, by omega, by omega, by omega⟩
  have HM := lh hsx
  have HSM := lh hsm
  clear hg h hsx hsm
  obtain ⟨x0_0, x0_1, x0_2, x0_3⟩ := lyc4 Ly 0 rfl
  have l0_ := Ly.out.lt 0 rfl
  gi_wp2
  clear x0_0 x0_1 x0_2 x0_3 l0_
  refine ⟨trivial, (callsIn_wide.2 (callsIn_wide.1 (twin_in Av nv cv Aa na ca At nt ct m W1 (HM.out.up Ly.out.1)))).mono ?_⟩
  rintro e W2 ⟨A1, c1, A2, c2, A3, c3, rfl, hmo, hb⟩
  replace Ly := lyb Ly hb
  clear hb
  have HTW := lh hmo
  clear hmo
  gi_upto_region 4 with fail
  obtain ⟨V3, hV⟩ : ∃ V, (W2.alloc (.cells #[.int .i64 m.fountains, .slice A1 nv c1, .slice A2 na c2, .slice A3 nt c3] 26)) = V := ⟨_, rfl⟩
  rw [hV]
  have hb := fbox_bel hV
  have hnew := fbox_blk hV
  have hge := Ly.out.bel.size
  replace Ly := lyb Ly hb
  replace HTW := lh (HTW.out.below hb)
  replace Ly := lh (Ly.out.add hge hnew)
  clear hnew hge hb hV
  obtain ⟨G4, hG⟩ : ∃ g, W2.heap.size = g := ⟨_, rfl⟩
  rw [hG] at Ly ⊢
  clear hG
  have HCT := lh HTW.out.a.cap_le
  obtain ⟨x1_0, x1_1, x1_2, x1_3⟩ := lyc4 Ly 1 rfl
  have l1_ := Ly.out.lt 1 rfl
  gi_wp2
  clear x1_0 x1_1 x1_2 x1_3 l1_
  refine ⟨trivial, (callsIn_wide.2 (callsIn_wide.1 (met_in A1 nv c1 A2 na c2 A3 nt c3 m vessel after one other V3 (HTW.out.s (by have := HSM.out; omega) (by have := HSM.out; omega) (by have := HSM.out; omega)) HCT.out))).mono ?_⟩
  rintro e W5 ⟨mb, me, rfl, hma, hb⟩
  replace Ly := lyb Ly hb
  replace HTW := lh (HTW.out.below hb)
  clear hb
  have HMA := lh hma
  clear hma
  obtain ⟨x0_0, x0_1, x0_2, x0_3⟩ := lyc4 Ly 0 rfl
  have l0_ := Ly.out.lt 0 rfl
  gi_wp2
  clear x0_0 x0_1 x0_2 x0_3 l0_
  refine ⟨trivial, (callsIn_wide.2 (callsIn_wide.1 (rmet_in Av nv cv Aa na ca At nt ct m vessel after one other W5 (HM.out.up Ly.out.1) HCA.out))).mono ?_⟩
  rintro e W6 ⟨mb9, me9, rfl, hma9, hb⟩
  replace Ly := lyb Ly hb
  replace HTW := lh (HTW.out.below hb)
  clear hb
  obtain ⟨rfl, rfl⟩ := MetIs.same hma9 HMA.out
  clear hma9 HMA
  obtain ⟨x1_0, x1_1, x1_2, x1_3⟩ := lyc4 Ly 1 rfl
  have l1_ := Ly.out.lt 1 rfl
  gi_wp2
  clear x1_0 x1_1 x1_2 x1_3 l1_
  refine ⟨trivial, (callsIn_wide.2 (callsIn_wide.1 (path_in A1 nv c1 A2 na c2 A3 nt c3 m vessel after one W6 (HTW.out.s (by have := HSM.out; omega) (by have := HSM.out; omega) (by have := HSM.out; omega)) HCT.out))).mono ?_⟩
  rintro e W7 ⟨pl, pA, pn, pc, pe, rfl, hma, hpi, hp13, hb, hpx⟩
  replace Ly := lyb Ly hb
  replace HTW := lh (HTW.out.below hb)
  clear hb
  have HMA := lh hma
  have HIP := lh hpi
  have HIP9 := lh hp13
  clear hma hpi hp13 hpx
  obtain ⟨x0_0, x0_1, x0_2, x0_3⟩ := lyc4 Ly 0 rfl
  have l0_ := Ly.out.lt 0 rfl
  gi_wp2
  clear x0_0 x0_1 x0_2 x0_3 l0_
  refine ⟨trivial, (callsIn_wide.2 (callsIn_wide.1 (rpath_in Av nv cv Aa na ca At nt ct m vessel after one W7 (HM.out.up Ly.out.1)))).mono ?_⟩
  rintro e W8 ⟨rl, rA, rn, rc, re, rfl, hma9, hpi, hp13, hb, hpx⟩
  replace Ly := lyb Ly hb
  replace HTW := lh (HTW.out.below hb)
  replace HIP := lh ((HIP.out.below hb).more hb.size)
  clear hb
  obtain ⟨rfl, rfl⟩ := PathIs.same hma9 HMA.out
  have HIR := lh hpi
  have HIR9 := lh hp13
  clear hma9 HMA hpi hp13 hpx
  obtain ⟨x1_0, x1_1, x1_2, x1_3⟩ := lyc4 Ly 1 rfl
  have l1_ := Ly.out.lt 1 rfl
  gi_wp2
  clear x1_0 x1_1 x1_2 x1_3 l1_
  refine ⟨trivial, (callsIn_wide.2 (callsIn_wide.1 (watch_in A1 nv c1 A2 na c2 A3 nt c3 m vessel after one W8 (HTW.out.s (by have := HSM.out; omega) (by have := HSM.out; omega) (by have := HSM.out; omega)) HCT.out))).mono ?_⟩
  rintro e W9 ⟨ql, qA, qn, qc, qe, rfl, hma, hpi, hp13, hb, hpx⟩
  replace Ly := lyb Ly hb
  replace HTW := lh (HTW.out.below hb)
  replace HIP := lh ((HIP.out.below hb).more hb.size)
  replace HIR := lh ((HIR.out.below hb).more hb.size)
  clear hb
  have HMA := lh hma
  have HIQ := lh hpi
  have HIQ9 := lh hp13
  clear hma hpi hp13 hpx
  obtain ⟨x0_0, x0_1, x0_2, x0_3⟩ := lyc4 Ly 0 rfl
  have l0_ := Ly.out.lt 0 rfl
  gi_wp2
  clear x0_0 x0_1 x0_2 x0_3 l0_
  refine ⟨trivial, (callsIn_wide.2 (callsIn_wide.1 (rwatch_in Av nv cv Aa na ca At nt ct m vessel after one W9 (HM.out.up Ly.out.1)))).mono ?_⟩
  rintro e W10 ⟨sl, sA, sn, sc, se, rfl, hma9, hpi, hp13, hb, hpx⟩
  replace Ly := lyb Ly hb
  replace HTW := lh (HTW.out.below hb)
  replace HIP := lh ((HIP.out.below hb).more hb.size)
  replace HIR := lh ((HIR.out.below hb).more hb.size)
  replace HIQ := lh ((HIQ.out.below hb).more hb.size)
  clear hb
  obtain ⟨rfl, rfl⟩ := WatchIs.same hma9 HMA.out
  have HIS := lh hpi
  have HIS9 := lh hp13
  clear hma9 HMA hpi hp13 hpx
  gi_wp2
  refine ⟨trivial, (callsIn_wide.2 (sameInts_any pA pn pc rl rA rn rc rl W10 (by have := HIP9.out; unfold maxLen; omega) (by have := HIR9.out; unfold maxLen; omega) HIP.out HIR.out)).mono ?_⟩
  rintro e W11 ⟨rfl, hb⟩
  replace Ly := lyb Ly hb
  replace HTW := lh (HTW.out.below hb)
  replace HIP := lh ((HIP.out.below hb).more hb.size)
  replace HIR := lh ((HIR.out.below hb).more hb.size)
  replace HIQ := lh ((HIQ.out.below hb).more hb.size)
  replace HIS := lh ((HIS.out.below hb).more hb.size)
  clear hb
  rw [sameI_refl]
  gi_wp2
  refine ⟨trivial, (callsIn_wide.2 (sameInts_any qA qn qc sl sA sn sc sl W11 (by have := HIQ9.out; unfold maxLen; omega) (by have := HIS9.out; unfold maxLen; omega) HIQ.out HIS.out)).mono ?_⟩
  rintro e W12 ⟨rfl, hb⟩
  replace Ly := lyb Ly hb
  replace HTW := lh (HTW.out.below hb)
  replace HIP := lh ((HIP.out.below hb).more hb.size)
  replace HIR := lh ((HIR.out.below hb).more hb.size)
  replace HIQ := lh ((HIQ.out.below hb).more hb.size)
  replace HIS := lh ((HIS.out.below hb).more hb.size)
  clear hb
  rw [sameI_refl]
  obtain ⟨x0_0, x0_1, x0_2, x0_3⟩ := lyc4 Ly 0 rfl
  have l0_ := Ly.out.lt 0 rfl
  obtain ⟨x1_0, x1_1, x1_2, x1_3⟩ := lyc4 Ly 1 rfl
  have l1_ := Ly.out.lt 1 rfl
  gi_wp2
  clear x0_0 x0_1 x0_2 x0_3 l0_ x1_0 x1_1 x1_2 x1_3 l1_
  refine ⟨trivial, (callsIn_wide.2 (same_true A1 nv c1 A2 na c2 A3 nt c3 Av cv Aa ca At ct m W12 (HTW.out.s (by have := HSM.out; omega) (by have := HSM.out; omega) (by have := HSM.out; omega)) (HM.out.up Ly.out.1))).mono ?_⟩
  rintro e W13 ⟨rfl, hb⟩
  replace Ly := lyb Ly hb
  replace HTW := lh (HTW.out.below hb)
  replace HIP := lh ((HIP.out.below hb).more hb.size)
  replace HIR := lh ((HIR.out.below hb).more hb.size)
  replace HIQ := lh ((HIQ.out.below hb).more hb.size)
  replace HIS := lh ((HIS.out.below hb).more hb.size)
  clear hb
  gi_wp2
  refine bodyPost_ret (v := .bool true) (by simp [results, Try.results5, go_sem]) rfl ?_
  exact ⟨rfl, Ly.out.1⟩
end
section
open Go.ChangeShapes Go.WideShapes Go.RowKit Go.Deep Go.Joins
set_option maxRecDepth 100000
theorem flatg_len {α : Type} {vals : α → List Value} {sz : Nat} (hk : ∀ x, (vals x).length = sz) : ∀ l : List α, (l.flatMap vals).length = l.length * sz
 | [] => by simp
 | x :: l => by rw [List.flatMap_cons, List.length_append, hk, flatg_len hk l, List.length_cons, Nat.succ_mul]; omega
theorem flatg_at {α : Type} {vals : α → List Value} {sz : Nat} (hk : ∀ x, (vals x).length = sz) : ∀ {l : List α} {i j : Nat} {x : α}, l[i]? = some x → j < sz → (l.flatMap vals)[i * sz + j]? = (vals x)[j]?
 | [], i, j, x, h, _ => by simp at h
 | y :: l, 0, j, x, h, hj => by
  have : y = x := by simpa using h
  subst this
  rw [List.flatMap_cons, Nat.zero_mul, Nat.zero_add, List.getElem?_append_left (by rw [hk]; exact hj)]
 | y :: l, i + 1, j, x, h, hj => by
  rw [List.flatMap_cons, List.getElem?_append_right (by rw [hk, Nat.succ_mul]; omega), hk, show (i + 1) * sz + j - sz = i * sz + j by rw [Nat.succ_mul]; omega]
  exact flatg_at hk (by simpa using h) hj
section
variable {H : Type} {enc : TypeId × Value → H} {w : World}
theorem cellsInt1 : Try.prog.cellsOf 3 = 1 := by kernel_rfl
theorem cellsMix4 : Try.prog.cellsOf 26 = 4 := by kernel_rfl
theorem vessUnd : ∃ f0 f1, Try.prog.underlying 80 = some (.struct #[f0, f1]) ∧ f0.type = 3 ∧ f1.type = 3 ∧ f0.offset = 0 ∧ f1.offset = 1 :=
 ⟨_, _, Try.underlying80, rfl, rfl, rfl, rfl⟩
theorem cellsVess : Try.prog.cellsOf 80 = 2 := by kernel_rfl
theorem vess_cells {fuel : Nat} {cs : List Value} {x : DataW H × List MemPlace} (h : DataW.trod enc Try.prog w 0 (fun _ => true) true fuel 80 cs = some x) (hl : cs.length = 2) : ∃ l : Vess, cs = l.vals := by
 obtain ⟨f0, f1, hu, t0, t1, z0, z1⟩ := vessUnd
 obtain ⟨xs, n, _, _, _, hlen, hg⟩ := DataW.trod_struct hu h
 match cs, hl, xs, hlen with
 | [c0, c1], _, [y0, y1], _ =>
  have h0 : DataW.trod enc Try.prog w 0 (fun _ => true) true n 3 [c0] = some y0 := by simpa [t0, z0, cellsInt1] using hg 0 f0 rfl
  have h1 : DataW.trod enc Try.prog w 0 (fun _ => true) true n 3 [c1] = some y1 := by simpa [t1, z1, cellsInt1] using hg 1 f1 rfl
  obtain ⟨n0, e0, _, _⟩ := DataW.trod_int Try.underlying3 h0
  obtain ⟨n1, e1, _, _⟩ := DataW.trod_int Try.underlying3 h1
  simp only [List.cons.injEq, and_true] at e0 e1
  subst e0 e1
  exact ⟨⟨n0, n1⟩, rfl⟩
theorem vesss_open {v : Value} {fuel : Nat} {x : DataW H × List MemPlace} (h : DataW.trod enc Try.prog w 0 (fun _ => true) true fuel 22 [v] = some x) :
  ∃ A n c, ∃ l : List Vess, v = .slice A n c ∧ n ≤ c ∧ n ≤ maxLen ∧ c ≤ maxLen ∧ Reads w w.heap.size 2 A n (l.flatMap Vess.vals) := by
 rcases open_slice Try.underlying22 h with ⟨e, _⟩ | ⟨a, len, cap, m, k, D, Pl, e, _, hl, hm, hmm, _, hx⟩
 ·simp only [List.cons.injEq, and_true] at e
  exact ⟨none, 0, 0, [], e, Nat.le_refl _, Nat.zero_le _, Nat.zero_le _, Reads.none_⟩
 ·simp only [List.cons.injEq, and_true] at e
  have hmc : m = cap := by simpa using hmm
  subst hmc
  have hn : ∀ i, i < m → ∃ z : Vess, ∀ j, j < 2 → w.cell? (a.add (i * 2 + j)) = z.vals[j]? := fun i hi => by
   obtain ⟨cs', h1, h2⟩ := hx i hi
   rw [cellsVess] at h1
   obtain ⟨_, hcl, hat⟩ := World.cells?_some h1
   obtain ⟨z, rfl⟩ := vess_cells h2 hcl
   exact ⟨z, fun j hj => by rw [← Go.Deep.add_add, hat j hj]⟩
  letI : Inhabited Vess := ⟨⟨0, 0⟩⟩
  obtain ⟨Z, hZ⟩ := choose_lt hn
  refine ⟨some a, len, m, (List.range len).map Z, e, hl, by omega, hm, by rw [flatg_len vess_k]; simp, fun h0 => ⟨a, rfl, ?_, fun j u hu => ?_⟩⟩
  ·have := World.block_lt_of_cell? w _ (hZ 0 (by omega) 0 (by omega))
   rwa [block_of_add] at this
  ·have hj : j < len * 2 := by
    rcases Nat.lt_or_ge j (len * 2) with h' | h'
    ·exact h'
    ·rw [List.getElem?_eq_none (by rw [flatg_len vess_k]; simpa using h')] at hu; cases hu
   have hz := hZ (j / 2) (by omega) (j % 2) (by omega)
   have ha : ((List.range len).map Z)[j / 2]? = some (Z (j / 2)) := by rw [List.getElem?_map, List.getElem?_range (by omega)]; rfl
   have hf := flatg_at vess_k ha (show j % 2 < 2 by omega)
   rw [show j / 2 * 2 + j % 2 = j by omega] at hf hz
   rw [hz, ← hf, hu]
theorem mactUnd : ∃ f0 f1 f2 f3, Try.prog.underlying 67 = some (.struct #[f0, f1, f2, f3]) ∧ f0.type = 3 ∧ f1.type = 3 ∧ f2.type = 3 ∧ f3.type = 3 ∧ f0.offset = 0 ∧ f1.offset = 1 ∧ f2.offset = 2 ∧ f3.offset = 3 :=
 ⟨_, _, _, _, Try.underlying67, rfl, rfl, rfl, rfl, rfl, rfl, rfl, rfl⟩
theorem cellsMAct : Try.prog.cellsOf 67 = 4 := by kernel_rfl
theorem mact_cells {fuel : Nat} {cs : List Value} {x : DataW H × List MemPlace} (h : DataW.trod enc Try.prog w 0 (fun _ => true) true fuel 67 cs = some x) (hl : cs.length = 4) : ∃ l : MAct, cs = l.vals := by
 obtain ⟨f0, f1, f2, f3, hu, t0, t1, t2, t3, z0, z1, z2, z3⟩ := mactUnd
 obtain ⟨xs, n, _, _, _, hlen, hg⟩ := DataW.trod_struct hu h
 match cs, hl, xs, hlen with
 | [c0, c1, c2, c3], _, [y0, y1, y2, y3], _ =>
  have h0 : DataW.trod enc Try.prog w 0 (fun _ => true) true n 3 [c0] = some y0 := by simpa [t0, z0, cellsInt1] using hg 0 f0 rfl
  have h1 : DataW.trod enc Try.prog w 0 (fun _ => true) true n 3 [c1] = some y1 := by simpa [t1, z1, cellsInt1] using hg 1 f1 rfl
  have h2 : DataW.trod enc Try.prog w 0 (fun _ => true) true n 3 [c2] = some y2 := by simpa [t2, z2, cellsInt1] using hg 2 f2 rfl
  have h3 : DataW.trod enc Try.prog w 0 (fun _ => true) true n 3 [c3] = some y3 := by simpa [t3, z3, cellsInt1] using hg 3 f3 rfl
  obtain ⟨n0, e0, _, _⟩ := DataW.trod_int Try.underlying3 h0
  obtain ⟨n1, e1, _, _⟩ := DataW.trod_int Try.underlying3 h1
  obtain ⟨n2, e2, _, _⟩ := DataW.trod_int Try.underlying3 h2
  obtain ⟨n3, e3, _, _⟩ := DataW.trod_int Try.underlying3 h3
  simp only [List.cons.injEq, and_true] at e0 e1 e2 e3
  subst e0 e1 e2 e3
  exact ⟨⟨n0, n1, n2, n3⟩, rfl⟩
theorem macts_open {v : Value} {fuel : Nat} {x : DataW H × List MemPlace} (h : DataW.trod enc Try.prog w 0 (fun _ => true) true fuel 23 [v] = some x) :
  ∃ A n c, ∃ l : List MAct, v = .slice A n c ∧ n ≤ c ∧ n ≤ maxLen ∧ c ≤ maxLen ∧ Reads w w.heap.size 4 A n (l.flatMap MAct.vals) := by
 rcases open_slice Try.underlying23 h with ⟨e, _⟩ | ⟨a, len, cap, m, k, D, Pl, e, _, hl, hm, hmm, _, hx⟩
 ·simp only [List.cons.injEq, and_true] at e
  exact ⟨none, 0, 0, [], e, Nat.le_refl _, Nat.zero_le _, Nat.zero_le _, Reads.none_⟩
 ·simp only [List.cons.injEq, and_true] at e
  have hmc : m = cap := by simpa using hmm
  subst hmc
  have hn : ∀ i, i < m → ∃ z : MAct, ∀ j, j < 4 → w.cell? (a.add (i * 4 + j)) = z.vals[j]? := fun i hi => by
   obtain ⟨cs', h1, h2⟩ := hx i hi
   rw [cellsMAct] at h1
   obtain ⟨_, hcl, hat⟩ := World.cells?_some h1
   obtain ⟨z, rfl⟩ := mact_cells h2 hcl
   exact ⟨z, fun j hj => by rw [← Go.Deep.add_add, hat j hj]⟩
  letI : Inhabited MAct := ⟨⟨0, 0, 0, 0⟩⟩
  obtain ⟨Z, hZ⟩ := choose_lt hn
  refine ⟨some a, len, m, (List.range len).map Z, e, hl, by omega, hm, by rw [flatg_len act_k]; simp, fun h0 => ⟨a, rfl, ?_, fun j u hu => ?_⟩⟩
  ·have := World.block_lt_of_cell? w _ (hZ 0 (by omega) 0 (by omega))
   rwa [block_of_add] at this
  ·have hj : j < len * 4 := by
    rcases Nat.lt_or_ge j (len * 4) with h' | h'
    ·exact h'
    ·rw [List.getElem?_eq_none (by rw [flatg_len act_k]; simpa using h')] at hu; cases hu
   have hz := hZ (j / 4) (by omega) (j % 4) (by omega)
   have ha : ((List.range len).map Z)[j / 4]? = some (Z (j / 4)) := by rw [List.getElem?_map, List.getElem?_range (by omega)]; rfl
   have hf := flatg_at act_k ha (show j % 4 < 4 by omega)
   rw [show j / 4 * 4 + j % 4 = j by omega] at hf hz
   rw [hz, ← hf, hu]
theorem tastUnd : ∃ f0 f1 f2 f3 f4, Try.prog.underlying 65 = some (.struct #[f0, f1, f2, f3, f4]) ∧ f0.type = 3 ∧ f1.type = 3 ∧ f2.type = 3 ∧ f3.type = 3 ∧ f4.type = 30 ∧ f0.offset = 0 ∧ f1.offset = 1 ∧ f2.offset = 2 ∧ f3.offset = 3 ∧ f4.offset = 4 :=
 ⟨_, _, _, _, _, Try.underlying65, rfl, rfl, rfl, rfl, rfl, rfl, rfl, rfl, rfl, rfl⟩
theorem spanUnd : ∃ f0 f1, Try.prog.underlying 30 = some (.struct #[f0, f1]) ∧ f0.type = 3 ∧ f1.type = 3 ∧ f0.offset = 0 ∧ f1.offset = 1 :=
 ⟨_, _, Try.underlying30, rfl, rfl, rfl, rfl⟩
theorem cellsTast : Try.prog.cellsOf 65 = 6 := by kernel_rfl
theorem cellsSpan : Try.prog.cellsOf 30 = 2 := by kernel_rfl
theorem tast_cells {fuel : Nat} {cs : List Value} {x : DataW H × List MemPlace} (h : DataW.trod enc Try.prog w 0 (fun _ => true) true fuel 65 cs = some x) (hl : cs.length = 6) : ∃ l : Tast, cs = l.vals := by
 obtain ⟨f0, f1, f2, f3, f4, hu, t0, t1, t2, t3, t4, z0, z1, z2, z3, z4⟩ := tastUnd
 obtain ⟨g0, g1, hu2, s0, s1, o0, o1⟩ := spanUnd
 obtain ⟨xs, n, _, _, _, hlen, hg⟩ := DataW.trod_struct hu h
 match cs, hl, xs, hlen with
 | [c0, c1, c2, c3, c4, c5], _, [y0, y1, y2, y3, y4], _ =>
  have h0 : DataW.trod enc Try.prog w 0 (fun _ => true) true n 3 [c0] = some y0 := by simpa [t0, z0, cellsInt1] using hg 0 f0 rfl
  have h1 : DataW.trod enc Try.prog w 0 (fun _ => true) true n 3 [c1] = some y1 := by simpa [t1, z1, cellsInt1] using hg 1 f1 rfl
  have h2 : DataW.trod enc Try.prog w 0 (fun _ => true) true n 3 [c2] = some y2 := by simpa [t2, z2, cellsInt1] using hg 2 f2 rfl
  have h3 : DataW.trod enc Try.prog w 0 (fun _ => true) true n 3 [c3] = some y3 := by simpa [t3, z3, cellsInt1] using hg 3 f3 rfl
  have h4 : DataW.trod enc Try.prog w 0 (fun _ => true) true n 30 [c4, c5] = some y4 := by simpa [t4, z4, cellsSpan] using hg 4 f4 rfl
  obtain ⟨xs', n', _, _, _, hlen', hg'⟩ := DataW.trod_struct hu2 h4
  match xs', hlen' with
  | [u0, u1], _ =>
   have k0 : DataW.trod enc Try.prog w 0 (fun _ => true) true n' 3 [c4] = some u0 := by simpa [s0, o0, cellsInt1] using hg' 0 g0 rfl
   have k1 : DataW.trod enc Try.prog w 0 (fun _ => true) true n' 3 [c5] = some u1 := by simpa [s1, o1, cellsInt1] using hg' 1 g1 rfl
   obtain ⟨n0, e0, _, _⟩ := DataW.trod_int Try.underlying3 h0
   obtain ⟨n1, e1, _, _⟩ := DataW.trod_int Try.underlying3 h1
   obtain ⟨n2, e2, _, _⟩ := DataW.trod_int Try.underlying3 h2
   obtain ⟨n3, e3, _, _⟩ := DataW.trod_int Try.underlying3 h3
   obtain ⟨n4, e4, _, _⟩ := DataW.trod_int Try.underlying3 k0
   obtain ⟨n5, e5, _, _⟩ := DataW.trod_int Try.underlying3 k1
   simp only [List.cons.injEq, and_true] at e0 e1 e2 e3 e4 e5
   subst e0 e1 e2 e3 e4 e5
   exact ⟨⟨n0, n1, n2, n3, n4, n5⟩, rfl⟩
theorem tasts_open {v : Value} {fuel : Nat} {x : DataW H × List MemPlace} (h : DataW.trod enc Try.prog w 0 (fun _ => true) true fuel 24 [v] = some x) :
  ∃ A n c, ∃ l : List Tast, v = .slice A n c ∧ n ≤ c ∧ n ≤ maxLen ∧ c ≤ maxLen ∧ Reads w w.heap.size 6 A n (l.flatMap Tast.vals) := by
 rcases open_slice Try.underlying24 h with ⟨e, _⟩ | ⟨a, len, cap, m, k, D, Pl, e, _, hl, hm, hmm, _, hx⟩
 ·simp only [List.cons.injEq, and_true] at e
  exact ⟨none, 0, 0, [], e, Nat.le_refl _, Nat.zero_le _, Nat.zero_le _, Reads.none_⟩
 ·simp only [List.cons.injEq, and_true] at e
  have hmc : m = cap := by simpa using hmm
  subst hmc
  have hn : ∀ i, i < m → ∃ z : Tast, ∀ j, j < 6 → w.cell? (a.add (i * 6 + j)) = z.vals[j]? := fun i hi => by
   obtain ⟨cs', h1, h2⟩ := hx i hi
   rw [cellsTast] at h1
   obtain ⟨_, hcl, hat⟩ := World.cells?_some h1
   obtain ⟨z, rfl⟩ := tast_cells h2 hcl
   exact ⟨z, fun j hj => by rw [← Go.Deep.add_add, hat j hj]⟩
  letI : Inhabited Tast := ⟨⟨0, 0, 0, 0, 0, 0⟩⟩
  obtain ⟨Z, hZ⟩ := choose_lt hn
  refine ⟨some a, len, m, (List.range len).map Z, e, hl, by omega, hm, by rw [flatg_len tast_k]; simp, fun h0 => ⟨a, rfl, ?_, fun j u hu => ?_⟩⟩
  ·have := World.block_lt_of_cell? w _ (hZ 0 (by omega) 0 (by omega))
   rwa [block_of_add] at this
  ·have hj : j < len * 6 := by
    rcases Nat.lt_or_ge j (len * 6) with h' | h'
    ·exact h'
    ·rw [List.getElem?_eq_none (by rw [flatg_len tast_k]; simpa using h')] at hu; cases hu
   have hz := hZ (j / 6) (by omega) (j % 6) (by omega)
   have ha : ((List.range len).map Z)[j / 6]? = some (Z (j / 6)) := by rw [List.getElem?_map, List.getElem?_range (by omega)]; rfl
   have hf := flatg_at tast_k ha (show j % 6 < 6 by omega)
   rw [show j / 6 * 6 + j % 6 = j by omega] at hf hz
   rw [hz, ← hf, hu]
theorem mixUnd : ∃ f0 f1 f2 f3, Try.prog.underlying 26 = some (.struct #[f0, f1, f2, f3]) ∧ (f0.type = 3 ∧ f1.type = 22 ∧ f2.type = 23 ∧ f3.type = 24) ∧ (f0.offset = 0 ∧ f1.offset = 1 ∧ f2.offset = 2 ∧ f3.offset = 3) :=
 ⟨_, _, _, _, Try.underlying26, ⟨rfl, rfl, rfl, rfl⟩, rfl, rfl, rfl, rfl⟩
theorem cellsSlV : Try.prog.cellsOf 22 = 1 := by kernel_rfl
theorem cellsSlA : Try.prog.cellsOf 23 = 1 := by kernel_rfl
theorem cellsSlT : Try.prog.cellsOf 24 = 1 := by kernel_rfl
theorem mix_open {r : Reach} {b0 : Nat} {v : Value} {d : DataW H} {p : List MemPlace} (hv : Value.okWide Try.prog w r b0 26 v) (h : DataW.Trod enc Try.prog w 0 (fun _ => true) true 26 v d p) :
  ∃ Av nv cv Aa na ca At nt ct m, v = .agg #[.int .i64 m.fountains, .slice Av nv cv, .slice Aa na ca, .slice At nt ct] ∧ (na ≤ ca ∧ ca ≤ maxLen) ∧ (nt ≤ ct ∧ ct ≤ maxLen) ∧ MixAt w w.heap.size Av nv Aa na At nt m := by
 obtain ⟨f0, f1, f2, f3, hu, ⟨t0, t1, t2, t3⟩, z0, z1, z2, z3⟩ := mixUnd
 obtain ⟨cs, rfl, hsz⟩ := okWide_struct hu hv
 obtain ⟨fuel, hf⟩ := h
 obtain ⟨xs, n, _, _, _, hlen, hg⟩ := DataW.trod_struct hu hf
 obtain ⟨l⟩ := cs
 match l, hsz.trans cellsMix4, xs, hlen with
 | [c0, c1, c2, c3], _, [y0, y1, y2, y3], _ =>
  have h0 : DataW.trod enc Try.prog w 0 (fun _ => true) true n 3 [c0] = some y0 := by simpa [t0, z0, cellsInt1, Value.cells] using hg 0 f0 rfl
  have h1 : DataW.trod enc Try.prog w 0 (fun _ => true) true n 22 [c1] = some y1 := by simpa [t1, z1, cellsSlV, Value.cells] using hg 1 f1 rfl
  have h2 : DataW.trod enc Try.prog w 0 (fun _ => true) true n 23 [c2] = some y2 := by simpa [t2, z2, cellsSlA, Value.cells] using hg 2 f2 rfl
  have h3 : DataW.trod enc Try.prog w 0 (fun _ => true) true n 24 [c3] = some y3 := by simpa [t3, z3, cellsSlT, Value.cells] using hg 3 f3 rfl
  obtain ⟨f, e0, _, _⟩ := DataW.trod_int Try.underlying3 h0
  simp only [List.cons.injEq, and_true] at e0
  obtain ⟨Av, nv, cv, lv, rfl, _, _, _, hv1⟩ := vesss_open h1
  obtain ⟨Aa, na, ca, la, rfl, ha1, _, ha2, hv2⟩ := macts_open h2
  obtain ⟨At, nt, ct, lt, rfl, ht1, _, ht2, hv3⟩ := tasts_open h3
  subst e0
  exact ⟨Av, nv, cv, Aa, na, ca, At, nt, ct, ⟨f, lv, la, lt⟩, rfl, ⟨ha1, ha2⟩, ⟨ht1, ht2⟩, ⟨hv1, hv2, hv3⟩⟩
end
end
section
open Go.ChangeShapes Go.WideShapes Go.ChangeAt Go.RowKit Go.Joins
theorem ownT : ownKnob Try.prog.godebug = none := by kernel_rfl
theorem laidOutT : laidOutB Try.prog = true := by kernel_rfl
set_option maxRecDepth 100000 in
theorem mixWays_lifted (os : Os) (started : os.Started) (H : Type) (enc : TypeId × Value → H) :
  ReturnsInHanded {} Try.checked os 5 .any (Rows.mixWaysSpec.pre6 enc Try.prog Try.f5 Rows.mixWaysRow.domain false) (Rows.mixWaysSpec.post enc Try.prog Try.f5 false true false false) := by
 refine returnsInHanded_of_change (C := Try.checked) ownT started (by kernel_rfl) Try.func5
  (ChangeSpec.witness6 (enc := enc) (C := Try.checked) false ⟨#[], #[.agg #[.int .i64 0, .slice none 0 0, .slice none 0 0, .slice none 0 0], .int .i64 0, .int .i64 0, .int .i64 0, .int .i64 0], []⟩ 8 (by kernel_rfl) (by kernel_rfl) (by kernel_rfl) (by kernel_rfl)) ?_
 intro W base args ds gs before hval0 hW hcnd _
 have hval : ∀ (j : Nat) t v, Try.f5.params[j]? = some t → args[j]? = some v → Value.okWide Try.prog W .any base t v := hval0
 have hW' := hW
 obtain ⟨p, q, hA0, hV, rfl, hfz, hnd⟩ := hW
 have hA : DataW.TrodAll enc Try.prog W 0 (fun _ => true) true Try.f5.params.toList args.toList ds p := hA0
 rw [Try.params5] at hA hval
 obtain ⟨v0, vs0, d0, ds0, p0, q0, hargs, rfl, rfl, h0, r0⟩ := trodAll_cons hA
 obtain ⟨v1, vs1, d1, ds1, p1, q1, rfl, rfl, rfl, h1, r1⟩ := trodAll_cons r0
 obtain ⟨v2, vs2, d2, ds2, p2, q2, rfl, rfl, rfl, h2, r2⟩ := trodAll_cons r1
 obtain ⟨v3, vs3, d3, ds3, p3, q3, rfl, rfl, rfl, h3, r3⟩ := trodAll_cons r2
 obtain ⟨v4, vs4, d4, ds4, p4, q4, rfl, rfl, rfl, h4, r4⟩ := trodAll_cons r3
 obtain ⟨rfl, rfl, rfl⟩ := trodAll_nil r4
 obtain rfl : args = #[v0, v1, v2, v3, v4] := by cases args; simp_all
 obtain ⟨rfl, rfl⟩ := trodVars_none hV
 have k0 := h0
 have lt0 : ∀ x ∈ p0, x.block < W.heap.size := by obtain ⟨m, hm⟩ := k0; exact DataW.trod_lt m _ _ _ hm
 have k1 := h1
 have lt1 : ∀ x ∈ p1, x.block < W.heap.size := by obtain ⟨m, hm⟩ := k1; exact DataW.trod_lt m _ _ _ hm
 have k2 := h2
 have lt2 : ∀ x ∈ p2, x.block < W.heap.size := by obtain ⟨m, hm⟩ := k2; exact DataW.trod_lt m _ _ _ hm
 have k3 := h3
 have lt3 : ∀ x ∈ p3, x.block < W.heap.size := by obtain ⟨m, hm⟩ := k3; exact DataW.trod_lt m _ _ _ hm
 have k4 := h4
 have lt4 : ∀ x ∈ p4, x.block < W.heap.size := by obtain ⟨m, hm⟩ := k4; exact DataW.trod_lt m _ _ _ hm
 obtain ⟨Av, nv, cv, Aa, na, ca, At, nt, ct, m, rfl, hca, hct, hm⟩ := mix_open (hval 0 26 v0 rfl rfl) h0
 obtain ⟨s1, e1⟩ := okWide_int Try.underlying3 (hval 1 3 v1 rfl rfl)
 subst e1
 obtain ⟨s2, e2⟩ := okWide_int Try.underlying3 (hval 2 3 v2 rfl rfl)
 subst e2
 obtain ⟨s3, e3⟩ := okWide_int Try.underlying3 (hval 3 3 v3 rfl rfl)
 subst e3
 obtain ⟨s4, e4⟩ := okWide_int Try.underlying3 (hval 4 3 v4 rfl rfl)
 subst e4
 clear hA0 hval0
 refine (callsIn_wide.1 (mways_in Av nv cv Aa na ca At nt ct m s1 s2 s3 s4 W hm hca)).mono fun e W' ⟨he, bel⟩ => ?_
 subst he
 exact ⟨_, rfl, _, _, _, [], _, [], hW', trodAll_mk1 (shut_bool Try.underlying4 _), (trodAll_cons_mk (Below.trod laidOutT (by kernel_rfl) (of_decide_eq_true (by kernel_rfl)) k0 bel lt0) (trodAll_cons_mk (Below.trod laidOutT (by kernel_rfl) (of_decide_eq_true (by kernel_rfl)) k1 bel lt1) (trodAll_cons_mk (Below.trod laidOutT (by kernel_rfl) (of_decide_eq_true (by kernel_rfl)) k2 bel lt2) (trodAll_cons_mk (Below.trod laidOutT (by kernel_rfl) (of_decide_eq_true (by kernel_rfl)) k3 bel lt3) (trodAll_cons_mk (Below.trod laidOutT (by kernel_rfl) (of_decide_eq_true (by kernel_rfl)) k4 bel lt4) (trodAll_mk0)))))), rfl, bel.frame _, fun h => by cases h⟩
theorem mixWays_holds : Rows.MixWaysSaid :=
 OpenClaim.holds_of_wide 5 Try.f5 rfl rfl rfl rfl rfl rfl rfl ⟨rfl, rfl, rfl, rfl, rfl⟩ rfl rfl rfl rfl rfl (by kernel_rfl) Try.func5 (by kernel_rfl)
  (of_decide_eq_true (by kernel_rfl)) (by unfold Func.isWrapper; rw [if_neg (of_decide_eq_false (by kernel_rfl))]; exact ⟨rfl, rfl⟩)
  (fun os started H enc _ => mixWays_lifted os started H enc)
#print axioms mixWays_holds
end
end Go.Proofs.Ythofngceiecniaa
