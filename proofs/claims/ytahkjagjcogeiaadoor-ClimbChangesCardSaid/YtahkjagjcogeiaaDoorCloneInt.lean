/- slices.Clone at ints. -/
import Derived.Test.YtahkjagjcogeiaaDoorOwn
namespace Go.Proofs.YtahkjagjcogeiaaDoor
open Go.RowKit
set_option linter.unusedVariables false

set_option maxRecDepth 100000 in
set_option maxHeartbeats 2000000 in
theorem clone_int (A : Option Addr) (n c : Nat) (l : List Int) (w : World) (hr : IntsAt w w.heap.size A n l) (hn : n ≤ maxLen) (hby : n * 8 ≤ 140737488355328) :
    Calls Tryd.prog 68 #[.slice A n c] w fun e w' => ∃ A' c', e = .returned (.slice A' n c') ∧ Own w' w.heap.size 3 1 A' n c' (l.map (Value.int .i64)) ∧ (A = none ↔ A' = none) ∧ Below w.heap.size w w' := by
  have HR := Lib.hid hr
  have hq := eql_nil_int
  cases A with
  | none =>
    have h0 : n = 0 := by
      rcases Nat.eq_zero_or_pos n with h | h
      · exact h
      · obtain ⟨_, h', _⟩ := hr.2 h; cases h'
    have hl : l = [] := List.eq_nil_of_length_eq_zero (by rw [hr.len]; exact h0)
    subst h0 hl
    go_enter Tryd.func68, Tryd.ntmps68
    go_wp2_with fail
    go_ret
    exact ⟨none, 0, rfl, Own.none_ _ _ _ _, by simp, Below.refl _ _⟩
  | some ad =>
    clear hr
    go_enter Tryd.func68, Tryd.ntmps68
    go_wp2_with (at_builtin; refine wpList_append_any _ rfl _ _ rfl elem_int rfl (World.ownsRow_made w #[] 0 (Nat.le_refl _) (Nat.zero_le _) (by simp)) rfl (Reads.alloc HR.out (Nat.le_refl _) _) (ints_one l) (by simpa using hn) (by simpa using hby) (by simp) ?_)
    rintro A' cap' w' hown hg hA
    go_wp2
    go_ret
    have hB : Below w.heap.size w w' := ((Below.refl _ _).alloc (Nat.le_refl _) _).grown hg (by simp) (by intro k hk; simp at hk; omega)
    refine ⟨A', cap', by simp, by simpa using hown, ?_, hB⟩
    constructor
    · intro h; cases h
    · intro h
      rcases hA with hA | hA <;> rw [hA] at h <;> cases h
end Go.Proofs.YtahkjagjcogeiaaDoor
