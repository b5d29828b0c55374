/- slices.IndexFunc and slices.ContainsFunc at ints. -/
import Derived.Test.YtahkjagjcogeiaaDoorMem
namespace Go.Proofs.YtahkjagjcogeiaaDoor
open Go.RowKit

set_option maxHeartbeats 1000000 in
theorem indexFunc_int (F : FuncId) (C : Array Value) (p : Int → Bool) (A : Option Addr) (n c : Nat) (l : List Int) (w : World) (hr : IntsAt w w.heap.size A n l) (hn : n ≤ maxLen)
    (hE : ∀ args W, (callFunc F args).run Tryd.prog W = .ok (.enter F args) W)
    (hF : ∀ x ∈ l, ∀ W, Below w.heap.size w W → Calls Tryd.prog F (#[.int .i64 x] ++ C) W fun e w' => e = .returned (.bool (p x)) ∧ Below W.heap.size W w') :
    Calls Tryd.prog 126 #[.slice A n c, .func (.func F) #[] C] w fun e w' => e = .returned (.int .i64 (idx p l)) ∧ Below w.heap.size w w' := by
  unfold maxLen at hn
  have HF := Lib.hid hF
  clear hF
  go_enter Tryd.func126, Tryd.ntmps126
  go_wp2_with fail
  go_loopw [8, 5] (fun i j wr => ∃ k : Nat, k ≤ n ∧ i = .int .i64 k ∧ (∀ y ∈ l.take k, p y = false) ∧ Below w.heap.size w wr)
    (fun i _ _ => n - (intOf i).toNat)
  case atStart => exact ⟨0, by omega, rfl, by simp, Below.refl _ _⟩
  case round =>
    obtain ⟨k, hk, rfl, hno, hb⟩ := hrel
    have HN := Lib.hid hno
    clear hno
    by_cases hlt : k < n
    · obtain ⟨b, off, x, rfl, hbB, hx, hc⟩ := (hr.below hb).cell hlt
      have HX := Lib.hid hx
      clear hx
      go_wp2_with fail
      refine (HF.out x (mem_of_at HX.out) _ hb).mono ?_
      rintro e w' ⟨rfl, hb'⟩
      cases hp : p x with
      | true =>
        have HP := Lib.hid hp
        clear hp
        go_wp2_with fail
        go_ret
        exact ⟨ret_int (idx_some HX.out HP.out HN.out).symm, hb.trans (hb'.mono hb.size)⟩
      | false =>
        have HP := Lib.hid hp
        clear hp
        go_wp2_with fail
        go_roundw
        case rel => exact ⟨k + 1, by omega, by go_num, take_snoc_all HX.out HP.out HN.out, hb.trans (hb'.mono hb.size)⟩
        case measure => simp [intOf]; omega
    · go_wp2_with fail
      go_ret
      exact ⟨ret_int (idx_none (by
        have := HN.out
        rwa [List.take_of_length_le (by have := hr.len; omega)] at this)).symm, hb⟩

set_option maxHeartbeats 1000000 in
theorem containsFunc_int (F : FuncId) (C : Array Value) (p : Int → Bool) (A : Option Addr) (n c : Nat) (l : List Int) (w : World) (hr : IntsAt w w.heap.size A n l) (hn : n ≤ maxLen)
    (hE : ∀ args W, (callFunc F args).run Tryd.prog W = .ok (.enter F args) W)
    (hF : ∀ x ∈ l, ∀ W, Below w.heap.size w W → Calls Tryd.prog F (#[.int .i64 x] ++ C) W fun e w' => e = .returned (.bool (p x)) ∧ Below W.heap.size W w') :
    Calls Tryd.prog 135 #[.slice A n c, .func (.func F) #[] C] w fun e w' => e = .returned (.bool (l.any p)) ∧ Below w.heap.size w w' := by
  have H := Lib.hid (indexFunc_int F C p A n c l w hr hn hE hF)
  clear hE hF
  go_enter Tryd.func135, Tryd.ntmps135
  go_wp2_with fail
  refine H.out.mono ?_
  rintro e w' ⟨rfl, hb⟩
  go_wp2_with fail
  go_ret
  exact ⟨ret_bool idx_ge, hb⟩
end Go.Proofs.YtahkjagjcogeiaaDoor
