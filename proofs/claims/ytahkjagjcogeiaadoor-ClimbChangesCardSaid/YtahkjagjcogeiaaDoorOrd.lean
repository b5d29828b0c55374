/- How two lists of numbers stand: plain Lean. -/
namespace Go.Proofs.YtahkjagjcogeiaaDoor
set_option linter.unusedVariables false

/-- How two lists stand. -/
def cmpL : List Int → List Int → Int
  | [], [] => 0
  | [], _ :: _ => -1
  | _ :: _, [] => 1
  | x :: a, y :: b => if x < y then -1 else if y < x then 1 else cmpL a b

theorem cmpL_drop {a b : List Int} {k : Nat} {x y : Int} (hx : a[k]? = some x) (hy : b[k]? = some y) : cmpL (a.drop k) (b.drop k) = if x < y then -1 else if y < x then 1 else cmpL (a.drop (k + 1)) (b.drop (k + 1)) := by
  obtain ⟨hk, rfl⟩ := List.getElem?_eq_some_iff.1 hx
  obtain ⟨hk', rfl⟩ := List.getElem?_eq_some_iff.1 hy
  rw [List.drop_eq_getElem_cons hk, List.drop_eq_getElem_cons hk']; rfl
theorem cmpL_cons (x y : Int) (a b : List Int) : cmpL (x :: a) (y :: b) = if x < y then -1 else if y < x then 1 else cmpL a b := rfl
theorem cmpL_same (x : Int) (a b : List Int) : cmpL (x :: a) (x :: b) = cmpL a b := by rw [cmpL_cons, if_neg (by omega), if_neg (by omega)]
theorem cmpL_refl : ∀ a : List Int, cmpL a a = 0
  | [] => rfl
  | x :: a => by rw [cmpL_same]; exact cmpL_refl a
theorem cmpL_three : ∀ a b : List Int, cmpL a b = -1 ∨ cmpL a b = 0 ∨ cmpL a b = 1
  | [], [] => by simp [cmpL]
  | [], _ :: _ => by simp [cmpL]
  | _ :: _, [] => by simp [cmpL]
  | x :: a, y :: b => by
    rw [cmpL_cons]
    have := cmpL_three a b
    split
    · simp
    · split
      · simp
      · exact this
theorem cmpL_eq : ∀ {a b : List Int}, cmpL a b = 0 → a = b
  | [], [], _ => rfl
  | [], _ :: _, h => by simp [cmpL] at h
  | _ :: _, [], h => by simp [cmpL] at h
  | x :: a, y :: b, h => by
    rw [cmpL_cons] at h
    split at h
    · omega
    · split at h
      · omega
      · rw [cmpL_eq h, show x = y by omega]
theorem cmpL_swap : ∀ a b : List Int, cmpL b a = - cmpL a b
  | [], [] => rfl
  | [], _ :: _ => rfl
  | _ :: _, [] => rfl
  | x :: a, y :: b => by
    rw [cmpL_cons, cmpL_cons]
    have := cmpL_swap a b
    by_cases h1 : x < y
    · rw [if_neg (by omega), if_pos h1, if_pos h1]; rfl
    · by_cases h2 : y < x
      · rw [if_pos h2, if_neg h1, if_pos h2]
      · rw [if_neg h2, if_neg h1, if_neg h1, if_neg h2]; exact this
theorem cmpL_trans : ∀ {a b c : List Int}, cmpL a b ≤ 0 → cmpL b c ≤ 0 → cmpL a c ≤ 0
  | [], _, [], _, _ => by simp [cmpL]
  | [], _, _ :: _, _, _ => by simp [cmpL]
  | _ :: _, [], _, h, _ => by simp [cmpL] at h
  | _ :: _, _ :: _, [], _, h => by simp [cmpL] at h
  | x :: a, y :: b, z :: c, h1, h2 => by
    rw [cmpL_cons] at h1 h2 ⊢
    have ih := @cmpL_trans a b c
    by_cases p1 : x < y
    · by_cases q1 : y < z
      · rw [if_pos (by omega)]; omega
      · rw [if_neg q1] at h2
        by_cases q2 : z < y
        · rw [if_pos q2] at h2; omega
        · rw [if_pos (by omega)]; omega
    · rw [if_neg p1] at h1
      by_cases p2 : y < x
      · rw [if_pos p2] at h1; omega
      · rw [if_neg p2] at h1
        by_cases q1 : y < z
        · rw [if_pos (by omega)]; omega
        · rw [if_neg q1] at h2
          by_cases q2 : z < y
          · rw [if_pos q2] at h2; omega
          · rw [if_neg q2] at h2
            rw [if_neg (by omega), if_neg (by omega)]; exact ih h1 h2
theorem cmpL_total (a b : List Int) : cmpL a b ≤ 0 ∨ cmpL b a ≤ 0 := by
  have := cmpL_three a b
  have := cmpL_swap a b
  omega
theorem cmpL_antisymm {a b : List Int} (h1 : cmpL a b ≤ 0) (h2 : cmpL b a ≤ 0) : a = b := by
  have := cmpL_swap a b
  exact cmpL_eq (by omega)
theorem cmpL_lt_le {a b c : List Int} (h1 : cmpL a b < 0) (h2 : cmpL b c ≤ 0) : cmpL a c < 0 := by
  have h3 := cmpL_trans (show cmpL a b ≤ 0 by omega) h2
  rcases cmpL_three a c with h | h | h
  · omega
  · have := cmpL_eq h
    subst this
    have := cmpL_swap a b
    omega
  · omega
theorem cmpL_le_lt {a b c : List Int} (h1 : cmpL a b ≤ 0) (h2 : cmpL b c < 0) : cmpL a c < 0 := by
  have h3 := cmpL_trans h1 (show cmpL b c ≤ 0 by omega)
  rcases cmpL_three a c with h | h | h
  · omega
  · have := cmpL_eq h
    subst this
    have := cmpL_swap a b
    omega
  · omega
theorem cmpL_append : ∀ {a b : List Int} (x y : List Int), a.length = b.length → cmpL (a ++ x) (b ++ y) = if cmpL a b = 0 then cmpL x y else cmpL a b
  | [], [], x, y, _ => by simp [cmpL]
  | [], _ :: _, x, y, h => by simp at h
  | _ :: _, [], x, y, h => by simp at h
  | p :: a, q :: b, x, y, h => by
    rw [List.cons_append, List.cons_append, cmpL_cons, cmpL_cons, cmpL_append x y (by simpa using h)]
    by_cases h1 : p < q
    · simp [h1]
    · by_cases h2 : q < p
      · simp [h1, h2]
      · simp [h1, h2]
theorem cmpL_pre (a x y : List Int) : cmpL (a ++ x) (a ++ y) = cmpL x y := by rw [cmpL_append x y rfl, cmpL_refl, if_pos rfl]

end Go.Proofs.YtahkjagjcogeiaaDoor
