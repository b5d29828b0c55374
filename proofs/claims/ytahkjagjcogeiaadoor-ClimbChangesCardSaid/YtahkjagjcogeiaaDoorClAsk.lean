/- Check and asked. -/
import Derived.Test.YtahkjagjcogeiaaDoorClCheck
import Derived.Laws.EntriesVeiled
namespace Go.Proofs.YtahkjagjcogeiaaDoor
open Go.RowKit
set_option linter.unusedVariables false

/-- The variable climb.checks holds its three functions. -/
def Laid (w : World) : Prop := w.cell? ⟨0, 0, none⟩ = some (.func (.func 182) #[] #[]) ∧ w.cell? ⟨0, 1, none⟩ = some (.func (.func 183) #[] #[]) ∧ w.cell? ⟨0, 2, none⟩ = some (.func (.func 184) #[] #[]) ∧ 0 < w.heap.size
theorem Laid.below {w w' : World} (h : Laid w) {B : Nat} (hb : Below B w w') (hB : 0 < B) : Laid w' := by
  obtain ⟨h0, h1, h2, h3⟩ := h
  exact ⟨(hb.cell (p := ⟨0, 0, none⟩) hB).trans h0, (hb.cell (p := ⟨0, 1, none⟩) hB).trans h1, (hb.cell (p := ⟨0, 2, none⟩) hB).trans h2, Nat.lt_of_lt_of_le h3 hb.size⟩

theorem TownAt.up {w wr : World} {A A' : Option Addr} {n m : Nat} {t : Town} (ht : TownAt w w.heap.size A n A' m t) (hb : Below w.heap.size w wr) (o : Obj) : TownAt (wr.alloc o) (wr.alloc o).heap.size A n A' m t :=
  (((ht.below hb).more hb.size).below ((Below.refl _ _).alloc (Nat.le_refl _) _)).more (by rw [World.size_alloc]; omega)

theorem arr0_run (w : World) : (Instr.index 149 (.agg #[.func (.func 182) #[] #[], .func (.func 183) #[] #[], .func (.func 184) #[] #[]]) (.int .i64 0)).run Tryd.prog w = .ok (.agg #[.func (.func 182) #[] #[]]) w := by
  kernel_rfl
theorem arr1_run (w : World) : (Instr.index 149 (.agg #[.func (.func 182) #[] #[], .func (.func 183) #[] #[], .func (.func 184) #[] #[]]) (.int .i64 1)).run Tryd.prog w = .ok (.agg #[.func (.func 183) #[] #[]]) w := by
  kernel_rfl
theorem arr2_run (w : World) : (Instr.index 149 (.agg #[.func (.func 182) #[] #[], .func (.func 183) #[] #[], .func (.func 184) #[] #[]]) (.int .i64 2)).run Tryd.prog w = .ok (.agg #[.func (.func 184) #[] #[]]) w := by
  kernel_rfl

/-- Check's answer. -/
def chk (t : Town) : Int := if townB t then 0 else 30

set_option maxRecDepth 100000 in
set_option maxHeartbeats 1000000 in
theorem check_any (A : Option Addr) (n c : Nat) (A' : Option Addr) (m d : Nat) (t : Town) (w : World) (hn : n ≤ maxLen) (hm : m ≤ maxLen) (ht : TownAt w w.heap.size A n A' m t) (hL : Laid w) :
    Calls Tryd.prog 41 #[.agg #[.slice A n c, .slice A' m d]] w fun e w' => e = .returned (.int .i64 (chk t)) ∧ Below w.heap.size w w' := by
  obtain ⟨g0, g1, g2, hsz⟩ := hL
  have a0 := arr0_run
  have a1 := arr1_run
  have a2 := arr2_run
  go_enter Tryd.func41, Tryd.ntmps41
  go_wp2_with fail
  go_loopw [6] (fun i wr => ∃ k : Nat, k ≤ 3 ∧ i = .int .i64 k ∧ ((0 < k → sizeB t = true) ∧ (1 < k → upB 0 t.places = true) ∧ (2 < k → linksB t 0 t.links = true)) ∧ Blk wr w.heap.size 25 #[.slice A n c, .slice A' m d] ∧ Below w.heap.size w wr)
    (fun i _ => 3 - (intOf i).toNat)
  case atStart => exact ⟨0, by omega, rfl, ⟨fun h => absurd h (by omega), fun h => absurd h (by omega), fun h => absurd h (by omega)⟩, Blk.new _ _ _, (Below.refl _ _).alloc (Nat.le_refl _) _⟩
  case round =>
    obtain ⟨k, hk, rfl, hp, hT, hb⟩ := hrel
    have t0 : wr.cell? ⟨w.heap.size, 0, none⟩ = some (.slice A n c) := hT.cell 0
    have t1 : wr.cell? ⟨w.heap.size, 1, none⟩ = some (.slice A' m d) := hT.cell 1
    have hlr := hT.lt
    have HP := Lib.hid hp
    clear hp
    have hk' : k = 0 ∨ k = 1 ∨ k = 2 ∨ k = 3 := by omega
    rcases hk' with rfl | rfl | rfl | rfl
    · go_wp2_with fail
      refine (check1_any A n c A' m d t _ hn hm (ht.up hb _)).mono ?_
      rintro e w1 ⟨rfl, hb1⟩
      have B1 := below_one _ _ _ _ hb hb1
      have T1 := (hT.alloc (.cells #[.func (.func 182) #[] #[]] 148)).below hb1 (by rw [World.size_alloc]; omega)
      cases hi : sizeB t with
      | true =>
        have HI := Lib.hid hi
        clear hi
        go_wp2_with fail
        go_roundw
        case rel => exact ⟨1, by omega, by go_num, ⟨fun _ => HI.out, fun h => absurd h (by omega), fun h => absurd h (by omega)⟩, T1, B1⟩
        case measure => simp [intOf]
      | false =>
        have HI := Lib.hid hi
        clear hi
        go_wp2_with fail
        go_ret
        exact ⟨ret_int (by unfold chk townB; rw [HI.out]; simp), B1⟩
    · go_wp2_with fail
      refine (check2_any A n c A' m d t _ hn (ht.up hb _)).mono ?_
      rintro e w1 ⟨rfl, hb1⟩
      have B1 := below_one _ _ _ _ hb hb1
      have T1 := (hT.alloc (.cells #[.func (.func 183) #[] #[]] 148)).below hb1 (by rw [World.size_alloc]; omega)
      cases hi : upB 0 t.places with
      | true =>
        have HI := Lib.hid hi
        clear hi
        go_wp2_with fail
        go_roundw
        case rel => exact ⟨2, by omega, by go_num, ⟨fun _ => HP.out.1 (by omega), fun _ => HI.out, fun h => absurd h (by omega)⟩, T1, B1⟩
        case measure => simp [intOf]
      | false =>
        have HI := Lib.hid hi
        clear hi
        go_wp2_with fail
        go_ret
        exact ⟨ret_int (by unfold chk townB; rw [HI.out]; simp), B1⟩
    · go_wp2_with fail
      refine (check3_any A n c A' m d t _ hn hm (ht.up hb _)).mono ?_
      rintro e w1 ⟨rfl, hb1⟩
      have B1 := below_one _ _ _ _ hb hb1
      have T1 := (hT.alloc (.cells #[.func (.func 184) #[] #[]] 148)).below hb1 (by rw [World.size_alloc]; omega)
      cases hi : linksB t 0 t.links with
      | true =>
        have HI := Lib.hid hi
        clear hi
        go_wp2_with fail
        go_roundw
        case rel => exact ⟨3, by omega, by go_num, ⟨fun _ => HP.out.1 (by omega), fun _ => HP.out.2.1 (by omega), fun _ => HI.out⟩, T1, B1⟩
        case measure => simp [intOf]
      | false =>
        have HI := Lib.hid hi
        clear hi
        go_wp2_with fail
        go_ret
        exact ⟨ret_int (by unfold chk townB; rw [HI.out]; simp), B1⟩
    · go_wp2_with fail
      go_ret
      exact ⟨ret_int (by unfold chk townB; rw [HP.out.1 (by omega), HP.out.2.1 (by omega), HP.out.2.2 (by omega)]; simp), hb⟩
end Go.Proofs.YtahkjagjcogeiaaDoor
