/- slices.Clone at links. -/
import Derived.Test.YtahkjagjcogeiaaDoorClTown
import Derived.Test.YtahkjagjcogeiaaDoorOwn
namespace Go.Proofs.YtahkjagjcogeiaaDoor
open Go.RowKit
set_option linter.unusedVariables false

theorem info_link : (Tryd.prog.info? 45).map (fun i => (i.zero, i.size, i.bytes)) = some (some (.agg #[.int .i64 0, .int .i64 0, .int .i64 0, .int .i64 0, .int .i64 0]), 5, 40) := by kernel_rfl
theorem elem_link : ElemAt Tryd.prog 23 45 (.agg #[.int .i64 0, .int .i64 0, .int .i64 0, .int .i64 0, .int .i64 0]) 5 40 := by
  obtain ⟨i0, hi, hz0, hz1, hz2⟩ := info_parts info_link
  exact ⟨i0, Tryd.underlying23, hi, hz0, hz1, hz2, rfl, by decide⟩
theorem eql_nil_link (w : World) (a : Option Addr) (n c n' c' : Nat) : (binOp .eql 23 (.slice a n c) (.slice none n' c')).run Tryd.prog w = .ok (.bool a.isNone) w := Lib.run_eql_slice_nil w _ _ a n c n' c' Tryd.underlying23
theorem links_one (l : List Link) : ∀ u ∈ l.flatMap Link.vals, u.oneCell' = true := by
  intro u hu
  simp only [List.mem_flatMap, Link.vals, List.mem_cons, List.not_mem_nil, or_false] at hu
  obtain ⟨x, _, rfl | rfl | rfl | rfl | rfl⟩ := hu <;> rfl

set_option maxRecDepth 100000 in
set_option maxHeartbeats 2000000 in
theorem clone_link (A : Option Addr) (n c : Nat) (l : List Link) (w : World) (hr : LinksAt w w.heap.size A n l) (hn : n ≤ maxLen) (hby : n * 40 ≤ 140737488355328) :
    Calls Tryd.prog 70 #[.slice A n c] w fun e w' => ∃ A' c', e = .returned (.slice A' n c') ∧ Own w' w.heap.size 45 5 A' n c' (l.flatMap Link.vals) ∧ (A = none ↔ A' = none) ∧ Below w.heap.size w w' := by
  have HR := Lib.hid hr
  have hq := eql_nil_link
  cases A with
  | none =>
    have h0 : n = 0 := by
      rcases Nat.eq_zero_or_pos n with h | h
      · exact h
      · obtain ⟨_, h', _⟩ := hr.2 h; cases h'
    have hl : l = [] := List.eq_nil_of_length_eq_zero (by rw [hr.len]; exact h0)
    subst h0 hl
    go_enter Tryd.func70, Tryd.ntmps70
    go_wp2_with fail
    go_ret
    exact ⟨none, 0, rfl, Own.none_ _ _ _ _, by simp, Below.refl _ _⟩
  | some ad =>
    clear hr
    go_enter Tryd.func70, Tryd.ntmps70
    go_wp2_with (at_builtin; refine wpList_append_any _ rfl _ _ rfl elem_link rfl (World.ownsRow_made w #[] 0 (Nat.le_refl _) (Nat.zero_le _) (by simp)) rfl (Reads.alloc HR.out (Nat.le_refl _) _) (links_one l) (by simpa using hn) (by simpa using hby) (by simp) ?_)
    rintro A' cap' w' hown hg hA
    go_wp2
    go_ret
    have hB : Below w.heap.size w w' := ((Below.refl _ _).alloc (Nat.le_refl _) _).grown hg (by simp) (by intro k hk; simp at hk; omega)
    refine ⟨A', cap', by simp, by simpa using hown, ?_, hB⟩
    constructor
    · intro h; cases h
    · intro h
      rcases hA with hA | hA <;> rw [hA] at h <;> cases h
end Go.Proofs.YtahkjagjcogeiaaDoor
