/- Plain facts on lists of bytes: how much two lists have in common at the beginning. -/
import Derived.Test.YtehgijdjnddfcaaMem
namespace Go.Proofs.Ytehgijdjnddfcaa
open Go.RowKit

/-- How many bytes two lists have in common at the beginning. -/
def cmn : List UInt8 → List UInt8 → Nat
  | x :: a, y :: b => if x = y then cmn a b + 1 else 0
  | _, _ => 0

theorem cmn_le : ∀ a b : List UInt8, cmn a b ≤ a.length ∧ cmn a b ≤ b.length
  | [], b => by simp [cmn]
  | x :: a, [] => by simp [cmn]
  | x :: a, y :: b => by
    have := cmn_le a b
    unfold cmn
    split <;> simp <;> omega

/-- n bytes alike, and then the end, or a byte that differs. -/
theorem cmn_eq : ∀ (a b : List UInt8) (n : Nat), (∀ i, i < n → i < a.length ∧ i < b.length ∧ a[i]? = b[i]?) →
    (a.length ≤ n ∨ b.length ≤ n ∨ a[n]? ≠ b[n]?) → cmn a b = n
  | [], b, n, h, _ => by
    cases n with
    | zero => simp [cmn]
    | succ n => have := (h 0 (by omega)).1; simp at this
  | x :: a, [], n, h, _ => by
    cases n with
    | zero => simp [cmn]
    | succ n => have := (h 0 (by omega)).2.1; simp at this
  | x :: a, y :: b, n, h, hs => by
    cases n with
    | zero =>
      have : x ≠ y := by
        rcases hs with hs | hs | hs
        · simp at hs
        · simp at hs
        · simpa using hs
      simp [cmn, this]
    | succ n =>
      have h0 := (h 0 (by omega)).2.2
      simp at h0
      have ih := cmn_eq a b n (fun i hi => by
        have := h (i + 1) (by omega)
        simpa using this) (by
        rcases hs with hs | hs | hs
        · left; simpa using hs
        · right; left; simpa using hs
        · right; right; simpa using hs)
      simp [cmn, h0, ih]

theorem cmn_same (a b : List UInt8) (i : Nat) (h : i < cmn a b) : a[i]? = b[i]? := by
  induction a generalizing b i with
  | nil => simp [cmn] at h
  | cons x a ih =>
    cases b with
    | nil => simp [cmn] at h
    | cons y b =>
      unfold cmn at h
      split at h
      · rename_i e
        cases i with
        | zero => simp [e]
        | succ i => simpa using ih b i (by omega)
      · omega

/-- How many bytes two lists have in common at the end, behind their first n bytes. -/
def tl (a b : List UInt8) (n : Nat) : Nat := cmn (a.drop n).reverse (b.drop n).reverse

theorem rev_at (a : List UInt8) (n j : Nat) (h : n + j < a.length) : (a.drop n).reverse[j]? = a[a.length - 1 - j]? := by
  rw [List.getElem?_reverse (by simp; omega), List.getElem?_drop]
  simp only [List.length_drop]
  congr 1
  omega

theorem tl_eq (a b : List UInt8) (n k : Nat) (hk : n + k ≤ a.length) (hb : n + k ≤ b.length)
    (h : ∀ j, j < k → a[a.length - 1 - j]? = b[b.length - 1 - j]?)
    (hs : a.length ≤ n + k ∨ b.length ≤ n + k ∨ a[a.length - 1 - k]? ≠ b[b.length - 1 - k]?) : tl a b n = k := by
  refine cmn_eq _ _ k (fun i hi => ⟨by simp; omega, by simp; omega, ?_⟩) ?_
  · rw [rev_at a n i (by omega), rev_at b n i (by omega)]
    exact h i hi
  · rcases hs with hs | hs | hs
    · left; simp; omega
    · right; left; simp; omega
    · by_cases h1 : a.length ≤ n + k
      · left; simp; omega
      · by_cases h2 : b.length ≤ n + k
        · right; left; simp; omega
        · right; right
          rw [rev_at a n k (by omega), rev_at b n k (by omega)]
          exact hs

theorem tl_le (a b : List UInt8) (n : Nat) : tl a b n ≤ a.length - n ∧ tl a b n ≤ b.length - n := by
  have := cmn_le (a.drop n).reverse (b.drop n).reverse
  unfold tl
  simpa using this

end Go.Proofs.Ytehgijdjnddfcaa
