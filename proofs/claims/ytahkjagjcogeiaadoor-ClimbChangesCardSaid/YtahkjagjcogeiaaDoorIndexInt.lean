/- slices.Index and slices.Contains at ints. -/
import Derived.Test.YtahkjagjcogeiaaDoorMem
namespace Go.Proofs.YtahkjagjcogeiaaDoor
open Go.RowKit
set_option linter.unusedVariables false

theorem any_contains (l : List Int) (x : Int) : (l.any fun y => y == x) = l.contains x := by
  rw [Bool.eq_iff_iff]; simp [List.any_eq_true]

set_option maxHeartbeats 1000000 in
theorem index_int (A : Option Addr) (n c : Nat) (l : List Int) (x : Int) (w : World) (hr : IntsAt w w.heap.size A n l) (hn : n ≤ maxLen) :
    Calls Tryd.prog 120 #[.slice A n c, .int .i64 x] w fun e w' => e = .returned (.int .i64 (idx (fun y => x == y) l)) ∧ Below w.heap.size w w' := by
  unfold maxLen at hn
  go_enter Tryd.func120, Tryd.ntmps120
  go_wp2_with fail
  go_loopw [8, 5] (fun i j wr => ∃ k : Nat, k ≤ n ∧ i = .int .i64 k ∧ (∀ y ∈ l.take k, (x == y) = false) ∧ Below w.heap.size w wr)
    (fun i _ _ => n - (intOf i).toNat)
  case atStart => exact ⟨0, by omega, rfl, by simp, Below.refl _ _⟩
  case round =>
    obtain ⟨k, hk, rfl, hno, hb⟩ := hrel
    have HN := Lib.hid hno
    clear hno
    by_cases hlt : k < n
    · obtain ⟨b, off, y, rfl, hbB, hx, hc⟩ := (hr.below hb).cell hlt
      have HX := Lib.hid hx
      clear hx
      by_cases he : x = y
      · subst he
        go_wp2_with fail
        go_ret
        exact ⟨ret_int (idx_some HX.out (by simp) HN.out).symm, hb⟩
      · have he' : (x == y) = false := by simpa using he
        go_wp2_with fail
        go_roundw
        case rel => exact ⟨k + 1, by omega, by go_num, take_snoc_all HX.out (by simpa using he) HN.out, hb⟩
        case measure => simp [intOf]; omega
    · go_wp2_with fail
      go_ret
      exact ⟨ret_int (idx_none (by
        have := HN.out
        rwa [List.take_of_length_le (by have := hr.len; omega)] at this)).symm, hb⟩
end Go.Proofs.YtahkjagjcogeiaaDoor
