/- The walk of the reference's Diff. -/
import Derived.Test.YtehgijdjnddfcaaBkDiff
namespace Go.Proofs.Ytehgijdjnddfcaa
open Go.RowKit

set_option maxHeartbeats 1000000 in
theorem rdiff_long (a b : ByteArray) (w : World) (hl : 960 < a.size ∨ 960 < b.size) (ha : a.size ≤ maxLen) (hb : b.size ≤ maxLen) :
    Calls Try.prog 7 #[.string a, .string b] w fun e w' => e = .returned (diffV a b) ∧ Below w.heap.size w w' := by
  unfold maxLen at ha hb
  have hv : diffV a b = .tuple #[.agg #[.int .i64 0, .int .i64 0, .string ⟨#[]⟩], .int .i64 113] := by unfold diffV; rw [if_pos hl]; rfl
  have HV := Lib.hid hv
  clear hv
  by_cases hm : 960 < a.size
  all_goals
    go_enter Try.func7, Try.ntmps7
    go_wp2_with fail
    refine bodyPost_ret (v := .tuple #[.agg #[.int .i64 0, .int .i64 0, .string ⟨#[]⟩], .int .i64 113]) (by simp [results, Try.results7, go_sem]) rfl ⟨?_, ?_⟩
    · rw [HV.out]
    · exact (Below.refl _ _).alloc (Nat.le_refl _) _

/-- The first loop's end is where the bytes part. -/
theorem dAt_eq (a b : ByteArray) (k : Nat) (ha : k ≤ a.size) (hb : k ≤ b.size) (h : ∀ j, j < k → a.data.toList[j]? = b.data.toList[j]?)
    (hs : (a.size ≤ k ∨ b.size ≤ k) ∨ ∃ (h1 : k < a.size) (h2 : k < b.size), ((a[k].toNat : Int) == (b[k].toNat : Int)) = false) : k = dAt a b := by
  have := cmn_stop a b k ha hb h hs
  unfold dAt
  omega

/-- What the second loop keeps, and what it ends with. -/
def RefI (a b : ByteArray) (p k : Nat) : Prop := p + k ≤ a.size ∧ p + k ≤ b.size ∧
  ∀ j, j < k → a.data.toList[a.data.toList.length - 1 - j]? = b.data.toList[b.data.toList.length - 1 - j]?

theorem RefI.done {a b : ByteArray} {p k : Nat} (h : RefI a b p k) (hp : p = dAt a b)
    (hs : (a.size ≤ p + k ∨ b.size ≤ p + k) ∨ ∃ (h1 : a.size - k - 1 < a.size) (h2 : b.size - k - 1 < b.size), ((a[a.size - k - 1].toNat : Int) == (b[b.size - k - 1].toNat : Int)) = false) : k = dTl a b := by
  obtain ⟨ha, hb, hsame⟩ := h
  subst hp
  refine (tl_eq _ _ _ k (by rw [len_data]; omega) (by rw [len_data]; omega) hsame ?_).symm
  rw [len_data, len_data]
  rcases hs with (hs | hs) | ⟨h1, h2, hs⟩
  · left; omega
  · right; left; omega
  · right; right
    rw [show a.size - 1 - k = a.size - k - 1 from by omega, show b.size - 1 - k = b.size - k - 1 from by omega]
    rw [byte_at a _ h1, byte_at b _ h2]
    rw [byte_beq] at hs
    simpa using hs

theorem RefI.step {a b : ByteArray} {p k : Nat} (h : RefI a b p k) (ha : p + k < a.size) (hb : p + k < b.size) (h1 : a.size - k - 1 < a.size) (h2 : b.size - k - 1 < b.size)
    (hs : ((a[a.size - k - 1].toNat : Int) == (b[b.size - k - 1].toNat : Int)) = true) : RefI a b p (k + 1) := by
  refine ⟨by omega, by omega, fun j hj => ?_⟩
  by_cases hjk : j < k
  · exact h.2.2 j hjk
  · obtain rfl : j = k := by omega
    rw [len_data, len_data, show a.size - 1 - j = a.size - j - 1 from by omega, show b.size - 1 - j = b.size - j - 1 from by omega, byte_at a _ h1, byte_at b _ h2]
    rw [byte_beq] at hs
    simpa using hs

/-- The same, of the two ends. -/
def RefJ (a b : ByteArray) (p x y : Nat) : Prop := ∃ k, x + k = a.size ∧ y + k = b.size ∧ RefI a b p k

theorem RefJ.start {a b : ByteArray} {p : Nat} (h1 : p ≤ a.size) (h2 : p ≤ b.size) : RefJ a b p a.size b.size :=
  ⟨0, rfl, rfl, by omega, by omega, fun j hj => by omega⟩
theorem RefJ.le {a b : ByteArray} {p x y : Nat} (h : RefJ a b p x y) : x ≤ a.size ∧ y ≤ b.size ∧ p ≤ x ∧ p ≤ y := by
  obtain ⟨k, h1, h2, h3, h4, _⟩ := h
  omega
theorem RefJ.step {a b : ByteArray} {p x y : Nat} (h : RefJ a b p x y) (hx : p < x) (hy : p < y) (h1 : x - 1 < a.size) (h2 : y - 1 < b.size)
    (hs : ((a[x - 1].toNat : Int) == (b[y - 1].toNat : Int)) = true) : RefJ a b p (x - 1) (y - 1) := by
  obtain ⟨k, e1, e2, h3⟩ := h
  obtain rfl : x = a.size - k := by omega
  obtain rfl : y = b.size - k := by omega
  exact ⟨k + 1, by omega, by omega, h3.step (by omega) (by omega) h1 h2 hs⟩
theorem RefJ.done {a b : ByteArray} {p x y : Nat} (h : RefJ a b p x y) (hp : p = dAt a b)
    (hs : (x ≤ p ∨ y ≤ p) ∨ ∃ (h1 : x - 1 < a.size) (h2 : y - 1 < b.size), ((a[x - 1].toNat : Int) == (b[y - 1].toNat : Int)) = false) :
    ((x : Int) - p = dCut a b) ∧ b.extract p y = dAdd a b := by
  have hle := h.le
  obtain ⟨k, e1, e2, h3⟩ := h
  obtain rfl : x = a.size - k := by omega
  obtain rfl : y = b.size - k := by omega
  have := h3.done hp (by
    rcases hs with (hs | hs) | hs
    · left; left; omega
    · left; right; omega
    · exact .inr hs)
  unfold dCut dAdd
  rw [← this, ← hp]
  exact ⟨by omega, rfl⟩

theorem below_rdiff (w : World) (A : Obj) (n : Nat) (x y z : Value) :
    Below w.heap.size w (((((w.alloc A).drewN n).setCell ⟨w.heap.size, 0, none⟩ x).setCell ⟨w.heap.size, 1, none⟩ y).setCell ⟨w.heap.size, 2, none⟩ z) :=
  (((below_drewN ((Below.refl _ _).alloc (Nat.le_refl _) A) n).setCell (by simp) _).setCell (by simp) _).setCell (by simp) _

set_option maxHeartbeats 2000000 in
theorem rdiff_short (a b : ByteArray) (w : World) (ha : a.size ≤ 960) (hb : b.size ≤ 960) :
    Calls Try.prog 7 #[.string a, .string b] w fun e w' => e = .returned (diffV a b) ∧ Below w.heap.size w w' := by
  go_enter Try.func7, Try.ntmps7
  go_wp2_with fail
  go_loopw [6] (fun i wr => ∃ k m : Nat, k ≤ a.size ∧ k ≤ b.size ∧ i = .int .i64 k ∧ (∀ j, j < k → a.data.toList[j]? = b.data.toList[j]?) ∧
      wr = (w.alloc (.cells #[.int .i64 0, .int .i64 0, .string ⟨#[]⟩] 23)).drewN m)
    (fun i _ => a.size - (intOf i).toNat)
  case atStart => exact ⟨0, 0, by omega, by omega, rfl, fun j hj => by omega, rfl⟩
  case round =>
    obtain ⟨p, m, hka, hkb, rfl, hsame, rfl⟩ := hrel
    have HS : Hid (∀ j, j < p → a.data.toList[j]? = b.data.toList[j]?) := hsame
    clear hsame
    by_cases h12 : p < a.size ∧ p < b.size ∧ ∃ (h1 : p < a.size) (h2 : p < b.size), ((a[p].toNat : Int) == (b[p].toNat : Int)) = true
    · obtain ⟨h1, h2, _, _, he⟩ := h12
      go_wp2_with fail
      go_quiet (fail)
      go_wp2_with fail
      go_roundw
      case rel =>
        exact ⟨p + 1, _, by omega, by omega, by go_num, fun j hj => by
          by_cases hjk : j < p
          · exact HS.out j hjk
          · obtain rfl : j = p := by omega
            rw [byte_at a j h1, byte_at b j h2]
            rw [byte_beq] at he
            simpa using he, rfl⟩
      case measure => simp [intOf]; omega
    · have HP := Lib.hid (dAt_eq a b p hka hkb HS.out (by
        by_cases h1 : p < a.size
        · by_cases h2 : p < b.size
          · right
            refine ⟨h1, h2, ?_⟩
            rw [Bool.eq_false_iff]
            exact fun he => h12 ⟨h1, h2, h1, h2, he⟩
          · left; right; omega
        · left; left; omega))
      have hcase : (decide (p < a.size) = false) ∨ (p < a.size ∧ decide (p < b.size) = false) ∨ ∃ (h1 : p < a.size) (h2 : p < b.size), ((a[p].toNat : Int) == (b[p].toNat : Int)) = false := by
        by_cases h1 : p < a.size
        · by_cases h2 : p < b.size
          · right; right
            refine ⟨h1, h2, ?_⟩
            rw [Bool.eq_false_iff]
            exact fun he => h12 ⟨h1, h2, h1, h2, he⟩
          · right; left; exact ⟨h1, by simp; omega⟩
        · left; simp; omega
      clear h12 HS
      rcases hcase with hd | ⟨h1, hd⟩ | ⟨h1, h2, hd⟩
      all_goals
        go_wp2_with fail
        go_quiet (fail)
        go_wp2_with fail
        try clear h1
        try clear h2
        clear hd
        go_loopw [7, 8] (fun u v wr => ∃ x y m : Nat, u = .int .i64 x ∧ v = .int .i64 y ∧ RefJ a b p x y ∧
            wr = (w.alloc (.cells #[.int .i64 0, .int .i64 0, .string ⟨#[]⟩] 23)).drewN m)
          (fun u _ _ => (intOf u).toNat)
        case atStart => exact ⟨a.size, b.size, _, rfl, rfl, RefJ.start hka hkb, by first | rfl | exact World.drewN_drewN _ _ _⟩
        case round =>
          obtain ⟨x, y, m', rfl, rfl, hJ, rfl⟩ := hrel
          obtain ⟨hxa, hyb, hpx, hpy⟩ := hJ.le
          have fin : (x ≤ p ∨ y ≤ p) ∨ (∃ (h1 : x - 1 < a.size) (h2 : y - 1 < b.size), ((a[x - 1].toNat : Int) == (b[y - 1].toNat : Int)) = false) →
              Ending.returned (.tuple #[.agg #[.int .i64 p, .int .i64 ((x : Int) - p), .string (b.extract p y)], .int .i64 0]) = .returned (diffV a b) :=
            fun hs => diffV_short ha hb (by rw [← HP.out]) (hJ.done HP.out hs).1 (hJ.done HP.out hs).2
          have FIN := Lib.hid fin
          clear fin
          by_cases h1 : p < x
          · by_cases h2 : p < y
            · have hx1 : x - 1 < a.size := by omega
              have hy1 : y - 1 < b.size := by omega
              have w1 : IntKind.i64.wrap ((x : Int) - 1) = (x : Int) - 1 := IntWalk.i64_in _ (by omega)
              have w2 : IntKind.i64.wrap ((y : Int) - 1) = (y : Int) - 1 := IntWalk.i64_in _ (by omega)
              have n1 : ((x : Int) - 1).toNat = x - 1 := by omega
              have n2 : ((y : Int) - 1).toNat = y - 1 := by omega
              have b1 : (1 : Int) ≤ x := by omega
              have b2 : (1 : Int) ≤ y := by omega
              have c1 : (x : Int) - 1 < a.size := by omega
              have c2 : (y : Int) - 1 < b.size := by omega
              go_wp2_with fail
              go_quiet (fail)
              go_wp2_with fail
              · go_roundw
                case rel => exact ⟨x - 1, y - 1, _, by go_num, by go_num, hJ.step h1 h2 hx1 hy1 (by assumption), rfl⟩
                case measure => simp [intOf]; omega
              · refine bodyPost_ret (v := .tuple #[.agg #[.int .i64 p, .int .i64 ((x : Int) - p), .string (b.extract p y)], .int .i64 0]) (by simp [results, Try.results7, go_sem]) rfl ⟨FIN.out (.inr ⟨hx1, hy1, by assumption⟩), below_rdiff w _ _ _ _ _⟩
            · have hd : decide (p < y) = false := by simp; omega
              go_wp2_with fail
              go_quiet (fail)
              go_wp2_with fail
              refine bodyPost_ret (v := .tuple #[.agg #[.int .i64 p, .int .i64 ((x : Int) - p), .string (b.extract p y)], .int .i64 0]) (by simp [results, Try.results7, go_sem]) rfl ⟨FIN.out (.inl (.inr (by omega))), below_rdiff w _ _ _ _ _⟩
          · have hd : decide (p < x) = false := by simp; omega
            go_wp2_with fail
            go_quiet (fail)
            go_wp2_with fail
            refine bodyPost_ret (v := .tuple #[.agg #[.int .i64 p, .int .i64 ((x : Int) - p), .string (b.extract p y)], .int .i64 0]) (by simp [results, Try.results7, go_sem]) rfl ⟨FIN.out (.inl (.inl (by omega))), below_rdiff w _ _ _ _ _⟩

theorem rdiff_any (a b : ByteArray) (w : World) (ha : a.size ≤ maxLen) (hb : b.size ≤ maxLen) :
    Calls Try.prog 7 #[.string a, .string b] w fun e w' => e = .returned (diffV a b) ∧ Below w.heap.size w w' := by
  by_cases h : 960 < a.size ∨ 960 < b.size
  · exact rdiff_long a b w h ha hb
  · exact rdiff_short a b w (by omega) (by omega)

theorem diff_any (a b : ByteArray) (w : World) (ha : a.size ≤ maxLen) (hb : b.size ≤ maxLen) :
    Calls Try.prog 6 #[.string a, .string b] w fun e w' => e = .returned (diffV a b) ∧ Below w.heap.size w w' := by
  by_cases h : 960 < a.size ∨ 960 < b.size
  · exact diff_long a b w h ha hb
  · exact diff_short a b w (by omega) (by omega)

end Go.Proofs.Ytehgijdjnddfcaa
