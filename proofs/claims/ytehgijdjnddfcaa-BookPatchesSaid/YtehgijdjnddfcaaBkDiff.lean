/- The walks of strings.HasSuffix, book.Diff and the reference's Diff. -/
import Derived.Test.YtehgijdjnddfcaaBkCommon
import Derived.WalkLawsBesides
import Derived.WalkSpells
namespace Go.Proofs.Ytehgijdjnddfcaa
open Go.RowKit

/-- Whether bytes end in others. -/
def sfx (a s : ByteArray) : Bool := decide (s.size ≤ a.size) && (a.extract (a.size - s.size) a.size).toList == s.toList

set_option maxHeartbeats 400000 in
theorem liteSuffix_any (a s : ByteArray) (w : World) (ha : a.size ≤ maxLen) (hs : s.size ≤ maxLen) :
    Calls Try.prog 33 #[.string a, .string s] w fun e w' => e = .returned (.bool (sfx a s)) ∧ w = w' := by
  unfold maxLen at ha hs
  by_cases h : s.size ≤ a.size
  all_goals
    go_enter Try.func33, Try.ntmps33
    go_wp2
    go_ret
    exact ⟨ret_bool (by simp [sfx, h]), rfl⟩

theorem suffix_any (a s : ByteArray) (w : World) (ha : a.size ≤ maxLen) (hs : s.size ≤ maxLen) :
    Calls Try.prog 22 #[.string a, .string s] w fun e w' => e = .returned (.bool (sfx a s)) ∧ w = w' := by
  go_enter Try.func22, Try.ntmps22
  go_wp2_with (go_at_call 33; refine (liteSuffix_any _ _ _ ha hs).mono ?_; rintro e w' ⟨rfl, rfl⟩)
  go_ret
  exact ⟨rfl, rfl⟩

/-- What Diff tells: where, how many bytes are cut, and what is put there. -/
def dAt (a b : ByteArray) : Nat := cmn a.data.toList b.data.toList
def dTl (a b : ByteArray) : Nat := tl a.data.toList b.data.toList (dAt a b)
def dCut (a b : ByteArray) : Nat := a.size - dTl a b - dAt a b
def dAdd (a b : ByteArray) : ByteArray := b.extract (dAt a b) (b.size - dTl a b)
def diffV (a b : ByteArray) : Value :=
  if 960 < a.size ∨ 960 < b.size then .tuple #[.agg #[.int .i64 0, .int .i64 0, .string ByteArray.empty], .int .i64 113]
  else .tuple #[.agg #[.int .i64 (dAt a b), .int .i64 (dCut a b), .string (dAdd a b)], .int .i64 0]

set_option maxHeartbeats 1000000 in
theorem diff_long (a b : ByteArray) (w : World) (hl : 960 < a.size ∨ 960 < b.size) (ha : a.size ≤ maxLen) (hb : b.size ≤ maxLen) :
    Calls Try.prog 6 #[.string a, .string b] w fun e w' => e = .returned (diffV a b) ∧ Below w.heap.size w w' := by
  unfold maxLen at ha hb
  have hv : diffV a b = .tuple #[.agg #[.int .i64 0, .int .i64 0, .string ⟨#[]⟩], .int .i64 113] := by unfold diffV; rw [if_pos hl]; rfl
  have HV := Lib.hid hv
  clear hv
  by_cases hm : a.size < b.size
  all_goals
    have h1 : (960 : Int) < if a.size < b.size then (b.size : Int) else a.size := by split <;> omega
    go_enter Try.func6, Try.ntmps6
    go_wp2_with fail
    refine bodyPost_ret (v := .tuple #[.agg #[.int .i64 0, .int .i64 0, .string ⟨#[]⟩], .int .i64 113]) (by simp [results, Try.results6, go_sem]) rfl ⟨?_, ?_⟩
    · rw [HV.out]
    · exact (Below.refl _ _).alloc (Nat.le_refl _) _

/-- What Diff's loop keeps: k bytes are taken off the ends. -/
structure DiffI (a b : ByteArray) (p k : Nat) (x y : ByteArray) : Prop where
  ka : p + k ≤ a.size
  kb : p + k ≤ b.size
  x : x = a.extract p (a.size - k)
  y : y = b.extract p (b.size - k)
  same : ∀ j, j < k → a.data.toList[a.data.toList.length - 1 - j]? = b.data.toList[b.data.toList.length - 1 - j]?

theorem DiffI.start (a b : ByteArray) (p : Nat) (h1 : p ≤ a.size) (h2 : p ≤ b.size) : DiffI a b p 0 (a.extract p a.size) (b.extract p b.size) :=
  ⟨by omega, by omega, by simp, by simp, fun j hj => by omega⟩
theorem DiffI.xsize {a b : ByteArray} {p k : Nat} {x y : ByteArray} (h : DiffI a b p k x y) : x.size ≤ a.size := by
  rw [h.x]; simp; omega
theorem DiffI.ysize {a b : ByteArray} {p k : Nat} {x y : ByteArray} (h : DiffI a b p k x y) : y.size ≤ b.size := by
  rw [h.y]; simp; omega

theorem empty_of (x : ByteArray) (h : x.size = 0) : x.toList.isEmpty = true := by
  rw [ByteArray.toList_eq]
  have : x.data = #[] := Array.eq_empty_of_size_eq_zero h
  simp [this]
theorem nonempty_of (x : ByteArray) (h : x.size ≠ 0) : x.toList.isEmpty = false := by
  rw [ByteArray.toList_eq]
  have : x.data ≠ #[] := fun e => h (by show x.data.size = 0; rw [e]; rfl)
  simpa using this
theorem one_byte (c : ByteArray) (i j : Nat) (h : i < c.size) (hj : j = i + 1) : (c.extract i j).toList = [c[i]] := by
  subst hj
  rw [ByteArray.toList_eq, ByteArray.data_extract, Array.toList_extract]
  have h' : i < c.data.toList.length := by simpa using h
  have : c.data.toList.extract i (i + 1) = [c.data.toList[i]] := by
    rw [List.extract_eq_take_drop, List.drop_eq_getElem_cons h']
    simp
  rw [this]; rfl

theorem DiffI.xlen {a b : ByteArray} {p k : Nat} {x y : ByteArray} (h : DiffI a b p k x y) : x.size = a.size - k - p := by
  rw [h.x]; have := h.ka; simp
theorem DiffI.ylen {a b : ByteArray} {p k : Nat} {x y : ByteArray} (h : DiffI a b p k x y) : y.size = b.size - k - p := by
  rw [h.y]; have := h.kb; simp

theorem len_data (a : ByteArray) : a.data.toList.length = a.size := by simp

/-- What the loop's second test says. -/
theorem DiffI.sfx_iff {a b : ByteArray} {p k : Nat} {x y : ByteArray} (h : DiffI a b p k x y) (hx : x.size ≠ 0) :
    sfx y (x.extract (x.size - 1) x.size) = true ↔ 1 ≤ y.size ∧ a.data.toList[a.data.toList.length - 1 - k]? = b.data.toList[b.data.toList.length - 1 - k]? := by
  have hxl := h.xlen
  have hyl := h.ylen
  have hka := h.ka
  have hkb := h.kb
  unfold sfx
  have hs1 : (x.extract (x.size - 1) x.size).size = 1 := by simp; omega
  rw [hs1]
  by_cases hy : 1 ≤ y.size
  · have e1 : (x.extract (x.size - 1) x.size) = a.extract (a.size - k - 1) (a.size - k) := by
      rw [h.x, ByteArray.extract_extract]
      congr 1 <;> simp <;> omega
    have e2 : (y.extract (y.size - 1) y.size) = b.extract (b.size - k - 1) (b.size - k) := by
      rw [h.y, ByteArray.extract_extract]
      congr 1 <;> simp <;> omega
    rw [e1, e2, one_byte a _ _ (by omega) (by omega), one_byte b _ _ (by omega) (by omega), len_data, len_data]
    rw [show a.size - 1 - k = a.size - k - 1 from by omega, show b.size - 1 - k = b.size - k - 1 from by omega]
    rw [byte_at a _ (by omega), byte_at b _ (by omega)]
    simp only [hy, decide_true, Bool.true_and, beq_iff_eq, List.cons.injEq, and_true, true_and, Option.some.injEq]
    exact ⟨fun h => h.symm, fun h => h.symm⟩
  · simp [hy]

theorem DiffI.step {a b : ByteArray} {p k : Nat} {x y : ByteArray} (h : DiffI a b p k x y) (hx : x.size ≠ 0) (hs : sfx y (x.extract (x.size - 1) x.size) = true) :
    DiffI a b p (k + 1) (x.extract 0 (x.size - 1)) (y.extract 0 (y.size - 1)) := by
  have hxl := h.xlen
  have hyl := h.ylen
  have hka := h.ka
  have hkb := h.kb
  obtain ⟨hy, he⟩ := (h.sfx_iff hx).1 hs
  refine ⟨by omega, by omega, ?_, ?_, fun j hj => ?_⟩
  · rw [hxl, h.x, ByteArray.extract_extract]
    congr 1; omega
  · rw [hyl, h.y, ByteArray.extract_extract]
    congr 1; omega
  · by_cases hjk : j < k
    · exact h.same j hjk
    · obtain rfl : j = k := by omega
      exact he

/-- Where the loop ends, all bytes that are alike at the ends are taken off. -/
theorem DiffI.done {a b : ByteArray} {x y : ByteArray} {k : Nat} (h : DiffI a b (dAt a b) k x y) (hs : x.size = 0 ∨ x.size ≠ 0 ∧ sfx y (x.extract (x.size - 1) x.size) = false) :
    (x.size : Int) = dCut a b ∧ y = dAdd a b := by
  have hxl := h.xlen
  have hyl := h.ylen
  have hka := h.ka
  have hkb := h.kb
  have ht : dTl a b = k := by
    unfold dTl
    refine tl_eq _ _ _ k (by rw [len_data]; omega) (by rw [len_data]; omega) h.same ?_
    rcases hs with hs | ⟨hx, hs⟩
    · left; rw [len_data]; omega
    · by_cases hy : 1 ≤ y.size
      · right; right
        intro he
        rw [(h.sfx_iff hx).2 ⟨hy, he⟩] at hs
        cases hs
      · right; left; rw [len_data]; omega
  refine ⟨?_, ?_⟩
  · unfold dCut; rw [ht, hxl]
  · unfold dAdd; rw [ht]; exact h.y

theorem diffV_short {a b : ByteArray} (ha : a.size ≤ 960) (hb : b.size ≤ 960) {p q : Int} {y : ByteArray} (hp : p = dAt a b) (hq : q = dCut a b) (hy : y = dAdd a b) :
    Ending.returned (.tuple #[.agg #[.int .i64 p, .int .i64 q, .string y], .int .i64 0]) = .returned (diffV a b) := by
  unfold diffV
  rw [if_neg (by omega), hp, hq, hy]

theorem below_diff (w : World) (A B : Obj) (n m : Nat) (u v x y z : Value) (k : Nat) :
    Below w.heap.size w (((((((((w.alloc A).drewN n).alloc B).drewN m).setCell ⟨w.heap.size + 1, 1, none⟩ u).setCell ⟨w.heap.size + 1, 2, none⟩ v).setCell ⟨w.heap.size, 0, none⟩ x).setCell ⟨w.heap.size, 1, none⟩ y).setCell ⟨w.heap.size, k, none⟩ z) :=
  (((((below_drewN ((below_drewN ((Below.refl _ _).alloc (Nat.le_refl _) A) n).alloc (by simp) B) m).setCell (by simp) _).setCell (by simp) _).setCell (by simp) _).setCell (by simp) _).setCell (by simp) _

def strSize : Value → Nat | .string s => s.size | _ => 0

set_option maxHeartbeats 1000000 in
theorem diff_short (a b : ByteArray) (w : World) (ha : a.size ≤ 960) (hb : b.size ≤ 960) :
    Calls Try.prog 6 #[.string a, .string b] w fun e w' => e = .returned (diffV a b) ∧ Below w.heap.size w w' := by
  have hm : ¬ (960 : Int) < if a.size < b.size then (b.size : Int) else a.size := by split <;> omega
  obtain ⟨p, hp⟩ : ∃ p, p = dAt a b := ⟨_, rfl⟩
  have hpl : p ≤ a.size ∧ p ≤ b.size := by have := cmn_le a.data.toList b.data.toList; rw [hp]; unfold dAt; simpa using this
  obtain ⟨hpa, hpb⟩ := hpl
  have hc : ∀ W, Calls Try.prog 21 #[.string a, .string b] W fun e w' => e = .returned (.int .i64 p) ∧ ∃ n, w' = W.drewN n := by
    intro W; rw [hp]; exact common_any a b W (by unfold maxLen; omega) (by unfold maxLen; omega)
  have HP := Lib.hid hp
  have HC := Lib.hid hc
  clear hp hc
  go_enter Try.func6, Try.ntmps6
  go_wp2_with fail
  all_goals
    try simp only [Int.not_lt] at hm
    refine (HC.out _).mono ?_
    rintro e w' ⟨rfl, n, rfl⟩
    go_wp2_with fail
    go_quiet (fail)
    go_wp2_with fail
    go_loopw [0, 1] (fun u v wr => ∃ (k : Nat) (x y : ByteArray) (m : Nat), u = .string x ∧ v = .string y ∧ DiffI a b p k x y ∧
        wr = (((w.alloc (.cells #[.int .i64 0, .int .i64 0, .string ⟨#[]⟩] 23)).drewN n).alloc (.cells #[.int .i64 p, .int .i64 0, .string ⟨#[]⟩] 23)).drewN m)
      (fun u _ _ => strSize u)
    case atStart => exact ⟨0, _, _, _, rfl, rfl, DiffI.start a b p hpa hpb, rfl⟩
    case round =>
      obtain ⟨k, x, y, m, rfl, rfl, hI, rfl⟩ := hrel
      have hxs := hI.xsize
      have hys := hI.ysize
      by_cases hx : x.size = 0
      · have hx' := empty_of x hx
        have HX := Lib.hid hx
        clear hx
        go_wp2_with fail
        refine bodyPost_ret (v := .tuple #[.agg #[.int .i64 p, .int .i64 x.size, .string y], .int .i64 0]) (by simp [results, Try.results6, go_sem]) rfl ?_
        exact ⟨diffV_short ha hb (by rw [HP.out]) (by have := DiffI.done (HP.out ▸ hI) (.inl HX.out); exact this.1) (by have := DiffI.done (HP.out ▸ hI) (.inl HX.out); exact this.2), below_diff w _ _ _ _ _ _ _ _ _ _⟩
      · have hx' := nonempty_of x hx
        have hsl : (x.extract (x.size - 1) x.size).size ≤ maxLen := by simp [maxLen]; omega
        have hyl : y.size ≤ maxLen := by simp [maxLen]; omega
        by_cases hs : sfx y (x.extract (x.size - 1) x.size) = true
        · have hst := Lib.hid (hI.step hx hs)
          have hy1 := ((hI.sfx_iff hx).1 hs).1
          go_wp2_with fail
          refine (suffix_any y _ _ hyl hsl).mono ?_
          rw [hs]
          rintro e w' ⟨rfl, rfl⟩
          go_wp2_with fail
          go_quiet (fail)
          go_wp2_with fail
          go_roundw
          case rel => exact ⟨k + 1, _, _, _, rfl, rfl, hst.out, World.drewN_drewN _ _ _⟩
          case measure => simp [strSize]; omega
        · simp only [Bool.not_eq_true] at hs
          go_wp2_with fail
          refine (suffix_any y _ _ hyl hsl).mono ?_
          rw [hs]
          rintro e w' ⟨rfl, rfl⟩
          go_wp2_with fail
          refine bodyPost_ret (v := .tuple #[.agg #[.int .i64 p, .int .i64 x.size, .string y], .int .i64 0]) (by simp [results, Try.results6, go_sem]) rfl ?_
          exact ⟨diffV_short ha hb (by rw [HP.out]) (by have := DiffI.done (HP.out ▸ hI) (.inr ⟨hx, hs⟩); exact this.1) (by have := DiffI.done (HP.out ▸ hI) (.inr ⟨hx, hs⟩); exact this.2), below_diff w _ _ _ _ _ _ _ _ _ _⟩

end Go.Proofs.Ytehgijdjnddfcaa
