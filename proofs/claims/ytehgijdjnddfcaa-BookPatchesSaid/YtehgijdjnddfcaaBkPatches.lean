/- BookPatches: patches are the specification's: for every two files and every patch the law returns true. No conditions. -/
import Derived.Test.YtehgijdjnddfcaaBkApply
import Derived.Test.YtehgijdjnddfcaaBkDiffRef
import Derived.OpenShut
import Derived.ShutString
import Derived.ChangeOld
import Derived.Lib.SmallJoins
namespace Go.Proofs.Ytehgijdjnddfcaa
open Go.RowKit

theorem diffV_form (a b : ByteArray) : ∃ (x y : Int) (z : ByteArray) (e : Int), diffV a b = .tuple #[.agg #[.int .i64 x, .int .i64 y, .string z], .int .i64 e] := by
  unfold diffV
  split
  · exact ⟨_, _, _, _, rfl⟩
  · exact ⟨_, _, _, _, rfl⟩
theorem applyV_form (a s : ByteArray) (p c : Int) : ∃ (z : ByteArray) (e : Int), applyV a p c s = .tuple #[.string z, .int .i64 e] := by
  unfold applyV
  split
  · exact ⟨_, _, rfl⟩
  · split
    · exact ⟨_, _, rfl⟩
    · split
      · exact ⟨_, _, rfl⟩
      · exact ⟨_, _, rfl⟩

set_option maxHeartbeats 4000000 in
theorem patches_walk (a b s : ByteArray) (p c : Int) (w : World) (ha : a.size ≤ maxLen) (hb : b.size ≤ maxLen) (hs : s.size ≤ maxLen) :
    Calls Try.prog 3 #[.string a, .string b, .agg #[.int .i64 p, .int .i64 c, .string s]] w fun e w' => e = .returned (.bool true) ∧ Below w.heap.size w w' := by
  by_cases hg : a.size ≤ 2000 ∧ b.size ≤ 2000 ∧ s.size ≤ 2000
  · obtain ⟨ga, gb, gs⟩ := hg
    obtain ⟨x, y, z, e, hd⟩ := diffV_form a b
    obtain ⟨z', e', hap⟩ := applyV_form a s p c
    have D1 := Lib.hid (fun W => hd ▸ diff_any a b W ha hb)
    have D2 := Lib.hid (fun W => hd ▸ rdiff_any a b W ha hb)
    have A1' : ∀ W, Calls Try.prog 8 #[.string a, .agg #[.int .i64 p, .int .i64 c, .string s]] W fun e w' => e = .returned (.tuple #[.string z', .int .i64 e']) ∧ Below W.heap.size W w' :=
      fun W => by have := apply_any a s p c W ga gs; unfold Quick at this; rwa [hap] at this
    have A2' : ∀ W, Calls Try.prog 9 #[.string a, .agg #[.int .i64 p, .int .i64 c, .string s]] W fun e w' => e = .returned (.tuple #[.string z', .int .i64 e']) ∧ Below W.heap.size W w' :=
      fun W => by have := rapply_any a s p c W ga gs; unfold RQuick at this; rwa [hap] at this
    have A1 := Lib.hid A1'
    have A2 := Lib.hid A2'
    clear A1' A2'
    clear hd hap
    unfold maxLen at ha hb hs
    go_enter Try.func3, Try.ntmps3
    go_wp2_with fail
    refine (D1.out _).mono ?_
    rintro r w1 ⟨rfl, hb1⟩
    have P1 : Blk w1 w.heap.size 23 #[.int .i64 p, .int .i64 c, .string s] := (Blk.new w _ _).below hb1 (by simp)
    have B1 : Below w.heap.size w w1 := ((Below.refl _ _).alloc (Nat.le_refl _) _).trans (hb1.mono (by simp))
    clear hb1
    go_wp2_with fail
    refine (D2.out _).mono ?_
    rintro r w2 ⟨rfl, hb2⟩
    have X2 : Blk w2 w1.heap.size 23 #[.int .i64 x, .int .i64 y, .string z] := (Blk.new w1 _ _).below hb2 (by simp)
    have P2 : Blk w2 w.heap.size 23 #[.int .i64 p, .int .i64 c, .string s] := (P1.alloc _).below hb2 (by have := P1.lt; simp; omega)
    have B2 := below_one _ _ _ _ B1 hb2
    clear hb2 P1 B1
    have q0 : w2.cell? ⟨w.heap.size, 0, none⟩ = some (.int .i64 p) := P2.cell 0
    have q1 : w2.cell? ⟨w.heap.size, 1, none⟩ = some (.int .i64 c) := P2.cell 1
    have q2 : w2.cell? ⟨w.heap.size, 2, none⟩ = some (.string s) := P2.cell 2
    have l2 := P2.lt
    go_wp2_with fail
    refine (A1.out _).mono ?_
    rintro r w3 ⟨rfl, hb3⟩
    have X3 : Blk w3 w1.heap.size 23 #[.int .i64 x, .int .i64 y, .string z] := (X2.alloc _).below hb3 (by have := X2.lt; simp; omega)
    have Y3 : Blk w3 w2.heap.size 23 #[.int .i64 x, .int .i64 y, .string z] := (Blk.new w2 _ _).below hb3 (by simp)
    have P3 : Blk w3 w.heap.size 23 #[.int .i64 p, .int .i64 c, .string s] := (P2.alloc _).below hb3 (by have := P2.lt; simp; omega)
    have B3 := below_one _ _ _ _ B2 hb3
    clear hb3 q0 q1 q2 l2
    have q0 : w3.cell? ⟨w.heap.size, 0, none⟩ = some (.int .i64 p) := P3.cell 0
    have q1 : w3.cell? ⟨w.heap.size, 1, none⟩ = some (.int .i64 c) := P3.cell 1
    have q2 : w3.cell? ⟨w.heap.size, 2, none⟩ = some (.string s) := P3.cell 2
    go_wp2_with fail
    refine (A2.out _).mono ?_
    rintro r w4 ⟨rfl, hb4⟩
    have X4 := X3.below hb4 X3.lt
    have Y4 := Y3.below hb4 Y3.lt
    have B4 := B3.trans (hb4.mono B3.size)
    clear hb4 q0 q1 q2
    have x0 : w4.cell? ⟨w1.heap.size, 0, none⟩ = some (.int .i64 x) := X4.cell 0
    have x1 : w4.cell? ⟨w1.heap.size, 1, none⟩ = some (.int .i64 y) := X4.cell 1
    have x2 : w4.cell? ⟨w1.heap.size, 2, none⟩ = some (.string z) := X4.cell 2
    have y0 : w4.cell? ⟨w2.heap.size, 0, none⟩ = some (.int .i64 x) := Y4.cell 0
    have y1 : w4.cell? ⟨w2.heap.size, 1, none⟩ = some (.int .i64 y) := Y4.cell 1
    have y2 : w4.cell? ⟨w2.heap.size, 2, none⟩ = some (.string z) := Y4.cell 2
    go_wp2_with fail
    go_ret
    exact ⟨rfl, B4⟩
  · have hg' : ¬ a.size ≤ 2000 ∨ (a.size ≤ 2000 ∧ ¬ b.size ≤ 2000) ∨ (a.size ≤ 2000 ∧ b.size ≤ 2000 ∧ ¬ s.size ≤ 2000) := by omega
    clear hg
    rcases hg' with h1 | ⟨h1, h2⟩ | ⟨h1, h2, h3⟩
    all_goals
      unfold maxLen at ha hb hs
      go_enter Try.func3, Try.ntmps3
      go_wp2_with fail
      go_ret
      exact ⟨rfl, (Below.refl _ _).alloc (Nat.le_refl _) _⟩
end Go.Proofs.Ytehgijdjnddfcaa
