/- The walks of climb.in. -/
import Derived.Test.YtahkjagjcogeiaaDoorIndexFunc
namespace Go.Proofs.YtahkjagjcogeiaaDoor
open Go.RowKit
set_option linter.unusedVariables false

theorem out1_any (x lo hi : Int) (b1 b2 : Nat) (w : World) (h1 : w.cell? ⟨b1, 0, none⟩ = some (.int .i64 lo)) (h2 : w.cell? ⟨b2, 0, none⟩ = some (.int .i64 hi)) :
    Calls Tryd.prog 137 (#[.int .i64 x] ++ #[.pointer (some ⟨b1, 0, none⟩), .pointer (some ⟨b2, 0, none⟩)]) w fun e w' => e = .returned (.bool (decide (x < lo) || decide (hi < x))) ∧ Below w.heap.size w w' := by
  by_cases h : x < lo
  all_goals
    go_enter Tryd.func137, Tryd.ntmps137
    go_wp2
    go_ret
    refine ⟨ret_bool ?_, Below.refl _ _⟩
    by_cases q : x < lo <;> simp [q] <;> omega

theorem enters_in1 (args : Array Value) (W : World) : (callFunc 137 args).run Tryd.prog W = .ok (.enter 137 args) W := by
  simp [go_sem]

/-- Whether all numbers are from lo to hi. -/
def inB (lo hi : Int) (l : List Int) : Bool := !l.any fun n => decide (n < lo) || decide (hi < n)

theorem in_any (lo hi : Int) (A : Option Addr) (n c : Nat) (l : List Int) (w : World) (hr : IntsAt w w.heap.size A n l) (hn : n ≤ maxLen) :
    Calls Tryd.prog 106 #[.int .i64 lo, .int .i64 hi, .slice A n c] w fun e w' => e = .returned (.bool (inB lo hi l)) ∧ Below w.heap.size w w' := by
  have hmf : ∀ (fn : Fn) (first cap : Array Value) (w : World), (Instr.makeFunc fn first cap).run Tryd.prog w = .ok (.func fn first cap) w := fun _ _ _ _ => rfl
  go_enter Tryd.func106, Tryd.ntmps106
  go_wp2_with fail
  have hb : Below w.heap.size w ((w.alloc (.cells #[.int .i64 lo] 3)).alloc (.cells #[.int .i64 hi] 3)) := ((Below.refl _ _).alloc (Nat.le_refl _) _).alloc (by simp) _
  refine (containsFunc_int 137 _ (fun n => decide (n < lo) || decide (hi < n)) A n c l _ ((hr.below hb).more (by simp; omega)) hn enters_in1 ?_).mono ?_
  · intro x _ W hW
    exact out1_any x lo hi _ _ W ((hW.cell (p := ⟨w.heap.size, 0, none⟩) (by simp; omega)).trans (by simp [go_sem])) ((hW.cell (p := ⟨w.heap.size + 1, 0, none⟩) (by simp)).trans (by simp [go_sem]))
  · rintro e w' ⟨rfl, hb'⟩
    go_wp2_with fail
    go_ret
    exact ⟨rfl, hb.trans (hb'.mono (by simp; omega))⟩
theorem in1_any (lo hi x : Int) (g : Nat) (w : World) (hg : g < w.heap.size) (hc : w.cell? ⟨g, 0, none⟩ = some (.int .i64 x)) :
    Calls Tryd.prog 106 #[.int .i64 lo, .int .i64 hi, .slice (some ⟨g, 0, none⟩) 1 1] w fun e w' => e = .returned (.bool (inB lo hi [x])) ∧ Below w.heap.size w w' :=
  in_any lo hi _ 1 1 [x] w ⟨rfl, fun _ => ⟨_, rfl, hg, fun j u hu => by
    cases j with
    | zero => simp at hu; rw [← hu]; simpa [Addr.add] using hc
    | succ j => simp at hu⟩⟩ (by decide)
end Go.Proofs.YtahkjagjcogeiaaDoor
