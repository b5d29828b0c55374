/- The walk of book.common. -/
import Derived.Test.YtehgijdjnddfcaaRows
import Derived.Test.YtehgijdjnddfcaaBkPlain
import Derived.WalkKit
import Derived.ProofKit
import Derived.Deep.QuietTactic
import Derived.BigQuiet
import Derived.Lib.Hide
import Derived.Outline
namespace Go.Proofs.Ytehgijdjnddfcaa
open Go.RowKit

theorem byte_at (a : ByteArray) (k : Nat) (h : k < a.size) : a.data.toList[k]? = some a[k] := by
  rw [List.getElem?_eq_getElem (by simpa using h)]; rfl

/-- Two bytes, as the walk compares them. -/
theorem byte_beq (x y : UInt8) : ((x.toNat : Int) == (y.toNat : Int)) = (x == y) := by
  rw [Bool.eq_iff_iff]; simp only [beq_iff_eq, ← UInt8.toNat_inj]; omega

theorem cmn_stop (a b : ByteArray) (k : Nat) (ha : k ≤ a.size) (hb : k ≤ b.size) (h : ∀ j, j < k → a.data.toList[j]? = b.data.toList[j]?)
    (hs : (a.size ≤ k ∨ b.size ≤ k) ∨ ∃ (h1 : k < a.size) (h2 : k < b.size), ((a[k].toNat : Int) == (b[k].toNat : Int)) = false) : (k : Int) = cmn a.data.toList b.data.toList := by
  have := cmn_eq a.data.toList b.data.toList k (fun i hi => ⟨by simp; omega, by simp; omega, h i hi⟩) (by
    rcases hs with (hs | hs) | ⟨h1, h2, hs⟩
    · left; simpa using hs
    · right; left; simpa using hs
    · right; right
      rw [byte_at a k h1, byte_at b k h2]
      rw [byte_beq] at hs
      simpa using hs)
  rw [this]

set_option maxHeartbeats 400000 in
theorem common_any (a b : ByteArray) (w : World) (ha : a.size ≤ maxLen) (hb : b.size ≤ maxLen) :
    Calls Try.prog 21 #[.string a, .string b] w fun e w' => e = .returned (.int .i64 (cmn a.data.toList b.data.toList)) ∧ ∃ n, w' = w.drewN n := by
  unfold maxLen at ha hb
  go_enter Try.func21, Try.ntmps21
  go_wp2
  go_loopw [5] (fun i wr => ∃ k : Nat, k ≤ a.size ∧ k ≤ b.size ∧ i = .int .i64 k ∧ (∀ j, j < k → a.data.toList[j]? = b.data.toList[j]?) ∧ ∃ n, wr = w.drewN n)
    (fun i _ => a.size - (intOf i).toNat)
  case atStart => exact ⟨0, by omega, by omega, rfl, fun j hj => by omega, 0, rfl⟩
  case round =>
    obtain ⟨k, hka, hkb, rfl, hsame, n, rfl⟩ := hrel
    have HS : Hid (∀ j, j < k → a.data.toList[j]? = b.data.toList[j]?) := hsame
    clear hsame
    by_cases hm : b.size < a.size
    all_goals
      by_cases hlt : k < a.size ∧ k < b.size
      · obtain ⟨h1, h2⟩ := hlt
        go_wp2_with fail
        go_quiet (fail)
        go_wp2_with fail
        · go_roundw
          case rel =>
            have he : ((a[k].toNat : Int) == (b[k].toNat : Int)) = true := by assumption
            exact ⟨k + 1, by omega, by omega, by go_num, fun j hj => by
              by_cases hjk : j < k
              · exact HS.out j hjk
              · obtain rfl : j = k := by omega
                rw [byte_at a j h1, byte_at b j h2]
                rw [byte_beq] at he
                simpa using he, _, rfl⟩
          case measure => simp [intOf]; omega
        · go_ret
          have he : ((a[k].toNat : Int) == (b[k].toNat : Int)) = false := by assumption
          exact ⟨ret_int (cmn_stop a b k hka hkb HS.out (.inr ⟨h1, h2, he⟩)), _, World.drewN_drewN _ _ _⟩
      · have hd : decide (k < b.size) = false ∨ decide (k < a.size) = false := by simp; omega
        rcases hd with hd | hd
        all_goals
          try (have hd' : decide (k < a.size) = false := by simp at hd ⊢; omega)
          try (have hd' : decide (k < b.size) = false := by simp at hd ⊢; omega)
          go_wp2_with fail
          go_quiet (fail)
          go_wp2_with fail
          go_ret
          exact ⟨ret_int (cmn_stop a b k hka hkb HS.out (.inl (by simp at hd; omega))), _, World.drewN_drewN _ _ _⟩
end Go.Proofs.Ytehgijdjnddfcaa
