/- slices.Contains at ints. -/
import Derived.Test.YtahkjagjcogeiaaDoorIndexInt
namespace Go.Proofs.YtahkjagjcogeiaaDoor
open Go.RowKit
set_option linter.unusedVariables false

theorem idx_contains (x : Int) (l : List Int) : decide (0 ≤ idx (fun y => x == y) l) = l.contains x := by
  rw [idx_ge, Bool.eq_iff_iff]
  simp [List.any_eq_true]

/-- A word that simp does not open. -/
def memI (l : List Int) (x : Int) : Bool := l.contains x
theorem memI_iff {l : List Int} {x : Int} : memI l x = true ↔ x ∈ l := by simp [memI]

theorem contains_int (A : Option Addr) (n c : Nat) (l : List Int) (x : Int) (w : World) (hr : IntsAt w w.heap.size A n l) (hn : n ≤ maxLen) :
    Calls Tryd.prog 58 #[.slice A n c, .int .i64 x] w fun e w' => e = .returned (.bool (memI l x)) ∧ Below w.heap.size w w' := by
  have H := Lib.hid (index_int A n c l x w hr hn)
  have HD := idx_bd (fun y => x == y) l
  go_enter Tryd.func58, Tryd.ntmps58
  go_wp2_with fail
  refine H.out.mono ?_
  rintro e w' ⟨rfl, hb⟩
  go_wp2_with fail
  go_ret
  exact ⟨ret_bool (idx_contains x l), hb⟩
end Go.Proofs.YtahkjagjcogeiaaDoor
