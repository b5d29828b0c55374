/- cmp.Compare and slices.Compare at ints. -/
import Derived.Test.YtahkjagjcogeiaaDoorMem
import Derived.Test.YtahkjagjcogeiaaDoorOrd
namespace Go.Proofs.YtahkjagjcogeiaaDoor
open Go.RowKit
set_option linter.unusedVariables false

theorem isNaN_int (x : Int) (w : World) : Calls Tryd.prog 122 #[.int .i64 x] w fun e w' => e = .returned (.bool false) ∧ w' = w := by
  go_enter Tryd.func122, Tryd.ntmps122
  go_wp2_with fail
  go_ret
  exact ⟨rfl, rfl⟩

def cmpI (x y : Int) : Int := if x < y then -1 else if y < x then 1 else 0

theorem cmp_int (x y : Int) (w : World) : Calls Tryd.prog 67 #[.int .i64 x, .int .i64 y] w fun e w' => e = .returned (.int .i64 (cmpI x y)) ∧ w' = w := by
  have h3 : x < y ∨ (¬ x < y ∧ y < x) ∨ (¬ x < y ∧ ¬ y < x) := by omega
  rcases h3 with h1 | ⟨h1, h2⟩ | ⟨h1, h2⟩
  all_goals
    go_enter Tryd.func67, Tryd.ntmps67
    go_wp2_with fail
    refine (isNaN_int x w).mono ?_
    rintro e w1 ⟨rfl, rfl⟩
    go_wp2_with fail
    refine (isNaN_int y w1).mono ?_
    rintro e w2 ⟨rfl, rfl⟩
    go_wp2_with fail
    go_ret
    exact ⟨ret_int (by unfold cmpI; split <;> first | rfl | omega | (split <;> first | rfl | omega)), rfl⟩

set_option maxHeartbeats 2000000 in
theorem compare_int (A : Option Addr) (n c : Nat) (a : List Int) (B : Option Addr) (m d : Nat) (b : List Int) (w : World) (ha : IntsAt w w.heap.size A n a) (hb : IntsAt w w.heap.size B m b) (hn : n ≤ maxLen) (hm : m ≤ maxLen) :
    Calls Tryd.prog 99 #[.slice A n c, .slice B m d] w fun e w' => e = .returned (.int .i64 (cmpL a b)) ∧ w' = w := by
  unfold maxLen at hn hm
  go_enter Tryd.func99, Tryd.ntmps99
  go_wp2_with fail
  go_loopw [11] (fun i wr => ∃ k : Nat, k ≤ n ∧ k ≤ m ∧ i = .int .i64 k ∧ cmpL a b = cmpL (a.drop k) (b.drop k) ∧ wr = w)
    (fun i _ => n - (intOf i).toNat)
  case atStart => exact ⟨0, by omega, by omega, rfl, by simp, rfl⟩
  case round =>
    obtain ⟨k, hk, hk', rfl, hc, rfl⟩ := hrel
    have HC := Lib.hid hc
    clear hc
    have la := ha.len
    have lb := hb.len
    by_cases h1 : k < n
    · by_cases h2 : k < m
      · obtain ⟨b1, o1, x, rfl, hb1, hx, cx⟩ := ha.cell h1
        obtain ⟨b2, o2, y, rfl, hb2, hy, cy⟩ := hb.cell h2
        have HX := Lib.hid hx
        have HY := Lib.hid hy
        clear hx hy
        have h2' : ¬ m ≤ k := by omega
        go_wp2_with fail
        refine (cmp_int x y wr).mono ?_
        rintro e w1 ⟨rfl, rfl⟩
        by_cases hxy : x < y
        · have he : cmpI x y = -1 := by unfold cmpI; rw [if_pos hxy]
          go_wp2_with fail
          go_ret
          exact ⟨ret_int (by rw [HC.out, cmpL_drop HX.out HY.out, if_pos hxy]), rfl⟩
        · by_cases hyx : y < x
          · have he : cmpI x y = 1 := by unfold cmpI; rw [if_neg (by omega), if_pos hyx]
            go_wp2_with fail
            go_ret
            exact ⟨ret_int (by rw [HC.out, cmpL_drop HX.out HY.out, if_neg (by omega), if_pos hyx]), rfl⟩
          · have he : cmpI x y = 0 := by unfold cmpI; rw [if_neg (by omega), if_neg (by omega)]
            go_wp2_with fail
            go_roundw
            case rel => exact ⟨k + 1, by omega, by omega, by go_num, by rw [HC.out, cmpL_drop HX.out HY.out, if_neg (by omega), if_neg (by omega)], trivial⟩
            case measure => simp [intOf]; omega
      · obtain ⟨b1, o1, x, rfl, hb1, hx, cx⟩ := ha.cell h1
        have HX := Lib.hid hx
        clear hx
        have h2' : m ≤ k := by omega
        go_wp2_with fail
        go_ret
        refine ⟨ret_int ?_, rfl⟩
        obtain ⟨hk1, _⟩ := List.getElem?_eq_some_iff.1 HX.out
        rw [HC.out, List.drop_eq_getElem_cons hk1, show b.drop k = [] from List.drop_eq_nil_of_le (by omega)]; rfl
    · by_cases h2 : n < m
      · go_wp2_with fail
        go_ret
        refine ⟨ret_int ?_, rfl⟩
        rw [HC.out, show a.drop k = [] from List.drop_eq_nil_of_le (by omega), List.drop_eq_getElem_cons (show k < b.length by omega)]; rfl
      · go_wp2_with fail
        go_ret
        refine ⟨ret_int ?_, rfl⟩
        rw [HC.out, show a.drop k = [] from List.drop_eq_nil_of_le (by omega), show b.drop k = [] from List.drop_eq_nil_of_le (by omega)]; rfl
end Go.Proofs.YtahkjagjcogeiaaDoor
