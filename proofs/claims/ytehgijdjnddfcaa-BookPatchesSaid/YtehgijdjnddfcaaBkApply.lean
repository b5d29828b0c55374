/- The walks of book.Apply and of the reference's. -/
import Derived.Test.YtehgijdjnddfcaaBkIn
namespace Go.Proofs.Ytehgijdjnddfcaa
open Go.RowKit

/-- What Apply tells. -/
def applyV (a : ByteArray) (p c : Int) (s : ByteArray) : Value :=
  if 960 < a.size then .tuple #[.string ⟨#[]⟩, .int .i64 113]
  else if p < 0 ∨ a.size < p ∨ c < 0 ∨ a.size - p < c then .tuple #[.string ⟨#[]⟩, .int .i64 116]
  else if 960 < a.size - c + s.size then .tuple #[.string ⟨#[]⟩, .int .i64 113]
  else .tuple #[.string (a.extract 0 p.toNat ++ s ++ a.extract (p + c).toNat a.size), .int .i64 0]

theorem inB_one (lo hi x : Int) : inB lo hi [x] = (decide (lo ≤ x) && decide (x ≤ hi)) := by
  unfold inB
  by_cases h1 : x < lo <;> by_cases h2 : hi < x <;> simp [h1, h2] <;> omega

theorem ext_zero (a s : ByteArray) (c : Int) : a.extract 0 (Int.toNat 0) ++ s ++ a.extract (0 + c).toNat a.size = s ++ a.extract c.toNat a.size := by simp
theorem ext_zero2 (a s : ByteArray) : a.extract 0 (Int.toNat 0) ++ s ++ a.extract ((0 : Int) + 0).toNat a.size = s ++ a := by simp

theorem applyV_long {a s : ByteArray} {p c : Int} (h : 960 < a.size) : applyV a p c s = .tuple #[.string ⟨#[]⟩, .int .i64 113] := by unfold applyV; rw [if_pos h]

theorem applyV_zero {a s : ByteArray} (h : ¬ 960 < a.size) (hs : s.size = 0) : applyV a 0 0 s = .tuple #[.string a, .int .i64 0] := by
  have e : s = ByteArray.empty := ByteArray.size_eq_zero_iff.1 hs
  subst e
  unfold applyV
  rw [if_neg h, if_neg (by omega), if_neg (by simp; omega)]
  simp

theorem applyV_bad {a s : ByteArray} {p c : Int} (h : ¬ 960 < a.size) (hb : p < 0 ∨ a.size < p ∨ c < 0 ∨ a.size - p < c) : applyV a p c s = .tuple #[.string ⟨#[]⟩, .int .i64 116] := by
  unfold applyV; rw [if_neg h, if_pos hb]
theorem applyV_over {a s : ByteArray} {p c : Int} (h : ¬ 960 < a.size) (hb : ¬ (p < 0 ∨ a.size < p ∨ c < 0 ∨ a.size - p < c)) (ho : (960 : Int) < a.size - c + s.size) : applyV a p c s = .tuple #[.string ⟨#[]⟩, .int .i64 113] := by
  unfold applyV; rw [if_neg h, if_neg hb, if_pos ho]
theorem applyV_good {a s : ByteArray} {p c : Int} (h : ¬ 960 < a.size) (hb : ¬ (p < 0 ∨ a.size < p ∨ c < 0 ∨ a.size - p < c)) (ho : ¬ (960 : Int) < a.size - c + s.size) :
    applyV a p c s = .tuple #[.string (a.extract 0 p.toNat ++ s ++ a.extract (p + c).toNat a.size), .int .i64 0] := by
  unfold applyV; rw [if_neg h, if_neg hb, if_neg ho]

/-- The part behind the first two tests. -/
def Quick (a s : ByteArray) (p c : Int) (w : World) : Prop :=
  Calls Try.prog 8 #[.string a, .agg #[.int .i64 p, .int .i64 c, .string s]] w fun e w' => e = .returned (applyV a p c s) ∧ Below w.heap.size w w'

theorem apply_long (a s : ByteArray) (p c : Int) (w : World) (hl : 960 < a.size) (ha : a.size ≤ 2000) : Quick a s p c w := by
  have HV := Lib.hid (applyV_long (s := s) (p := p) (c := c) hl)
  unfold Quick
  go_enter Try.func8, Try.ntmps8
  go_wp2_with fail
  go_ret2
  exact ⟨by rw [HV.out]; rfl, (Below.refl _ _).alloc (Nat.le_refl _) _⟩

set_option maxHeartbeats 1000000 in
theorem apply_zero (a s : ByteArray) (w : World) (hl : ¬ 960 < a.size) (hs : s.toList = []) : Quick a s 0 0 w := by
  have HV := Lib.hid (applyV_zero hl (by rw [ByteArray.toList_eq] at hs; show s.data.size = 0; simpa using congrArg List.length hs))
  unfold Quick
  go_enter Try.func8, Try.ntmps8
  go_wp2_with fail
  go_ret2
  exact ⟨by rw [HV.out]; rfl, (Below.refl _ _).alloc (Nat.le_refl _) _⟩

theorem below_two (w w1 : World) (A B : Obj) (hb : Below ((w.alloc A).alloc B).heap.size ((w.alloc A).alloc B) w1) : Below w.heap.size w w1 :=
  (((Below.refl _ _).alloc (Nat.le_refl _) _).alloc (by simp) _).trans (hb.mono (by simp; omega))
theorem below_one (w w1 w2 : World) (A : Obj) (h : Below w.heap.size w w1) (hb : Below (w1.alloc A).heap.size (w1.alloc A) w2) : Below w.heap.size w w2 :=
  (h.alloc h.size _).trans (hb.mono (by have := h.size; simp; omega))

theorem zero_cases (p c : Int) (s : ByteArray) (hz : ¬ (p = 0 ∧ c = 0 ∧ s.toList = [])) : (¬ p = 0) ∨ (p = 0 ∧ ¬ c = 0) ∨ (p = 0 ∧ c = 0 ∧ ¬ s.toList = []) := by
  by_cases h : p = 0
  · by_cases h' : c = 0
    · exact .inr (.inr ⟨h, h', fun e => hz ⟨h, h', e⟩⟩)
    · exact .inr (.inl ⟨h, h'⟩)
  · exact .inl h

set_option maxHeartbeats 2000000 in
theorem apply_badp (a s : ByteArray) (p c : Int) (w : World) (hl : ¬ 960 < a.size) (hp : ¬ (0 ≤ p ∧ p ≤ a.size)) : Quick a s p c w := by
  have hp0 : ¬ p = 0 := by omega
  have HV := Lib.hid (applyV_bad (s := s) (p := p) (c := c) hl (by omega))
  have hin : inB 0 a.size [p] = false := by rw [inB_one]; simp; omega
  have HI := Lib.hid hin
  clear hin hp
  unfold Quick
  go_enter Try.func8, Try.ntmps8
  go_wp2_with fail
  refine (in1_any _ _ p _ _ ?_ ?_).mono ?_
  · simp
  · simp [go_sem]
  rw [HI.out]
  rintro e w1 ⟨rfl, hb⟩
  obtain ⟨hcl, hfr⟩ := bcell hb
  go_wp2_with fail
  go_ret2
  exact ⟨by rw [HV.out]; rfl, below_two _ _ _ _ hb⟩

set_option maxHeartbeats 2000000 in
theorem apply_badc (a s : ByteArray) (p c : Int) (w : World) (hl : ¬ 960 < a.size) (hp : 0 ≤ p) (hp' : p ≤ a.size) (hc : ¬ (0 ≤ c ∧ c ≤ a.size - p)) : Quick a s p c w := by
  have hc0 : ¬ c = 0 := by omega
  have HV := Lib.hid (applyV_bad (s := s) (p := p) (c := c) hl (by omega))
  have hin : inB 0 a.size [p] = true := by rw [inB_one]; simp; omega
  have HI := Lib.hid hin
  have hin2 : inB 0 (a.size - p) [c] = false := by rw [inB_one]; simp; omega
  have HI2 := Lib.hid hin2
  clear hin hin2 hc
  unfold Quick
  by_cases hp0 : p = 0
  · subst hp0
    simp only [Int.sub_zero] at HI2
    go_enter Try.func8, Try.ntmps8
    go_wp2_with fail
    refine (in1_any _ _ 0 _ _ ?_ ?_).mono ?_
    · simp
    · simp [go_sem]
    rw [HI.out]
    rintro e w1 ⟨rfl, hb⟩
    obtain ⟨hcl, hfr⟩ := bcell hb
    go_wp2_with fail
    refine (in1_any _ _ c _ _ ?_ ?_).mono ?_
    · simp
    · simp [go_sem]
    rw [HI2.out]
    rintro e w2 ⟨rfl, hb2⟩
    obtain ⟨hcl2, hfr2⟩ := bcell hb2
    go_wp2_with fail
    go_ret2
    exact ⟨by rw [HV.out]; rfl, below_one _ _ _ _ (below_two _ _ _ _ hb) hb2⟩
  · go_enter Try.func8, Try.ntmps8
    go_wp2_with fail
    refine (in1_any _ _ p _ _ ?_ ?_).mono ?_
    · simp
    · simp [go_sem]
    rw [HI.out]
    rintro e w1 ⟨rfl, hb⟩
    obtain ⟨hcl, hfr⟩ := bcell hb
    go_wp2_with fail
    refine (in1_any _ _ c _ _ ?_ ?_).mono ?_
    · simp
    · simp [go_sem]
    rw [HI2.out]
    rintro e w2 ⟨rfl, hb2⟩
    obtain ⟨hcl2, hfr2⟩ := bcell hb2
    go_wp2_with fail
    go_ret2
    exact ⟨by rw [HV.out]; rfl, below_one _ _ _ _ (below_two _ _ _ _ hb) hb2⟩

set_option maxHeartbeats 4000000 in
theorem apply_ok (a s : ByteArray) (p c : Int) (w : World) (hl : ¬ 960 < a.size) (hp : 0 ≤ p) (hp' : p ≤ a.size) (hc : 0 ≤ c) (hc' : c ≤ a.size - p) (hs : s.size ≤ 2000) (hz : ¬ (p = 0 ∧ c = 0 ∧ s.toList = [])) : Quick a s p c w := by
  have hin : inB 0 a.size [p] = true := by rw [inB_one]; simp; omega
  have HI := Lib.hid hin
  have hin2 : inB 0 ((a.size : Int) - p) [c] = true := by rw [inB_one]; simp; omega
  have HI2 := Lib.hid hin2
  have hcp : c ≤ a.size := by omega
  have hpc : p + c ≤ a.size := by omega
  have hpc0 : 0 ≤ p + c := by omega
  have hnb : ¬ (p < 0 ∨ (a.size : Int) < p ∨ c < 0 ∨ (a.size : Int) - p < c) := by omega
  have HN := Lib.hid hnb
  clear hin hin2 hnb
  have hcase := zero_cases p c s hz
  clear hz
  unfold Quick
  by_cases ho : (960 : Int) < a.size - c + s.size
  · have HV := Lib.hid (applyV_over hl HN.out ho)
    rcases hcase with hp0 | ⟨hp0, hc0⟩ | ⟨hp0, hc0, hs0⟩
    · go_enter Try.func8, Try.ntmps8
      go_wp2_with fail
      refine (in1_any _ _ p _ _ ?_ ?_).mono ?_
      · simp
      · simp [go_sem]
      rw [HI.out]
      rintro e w1 ⟨rfl, hb⟩
      obtain ⟨hcl, hfr⟩ := bcell hb
      have hz : w.heap.size + 1 < w1.heap.size := by have := hb.size; simp at this; omega
      go_wp2_with fail
      refine (in1_any _ _ c _ _ ?_ ?_).mono ?_
      · simp
      · simp [go_sem]
      rw [HI2.out]
      rintro e w2 ⟨rfl, hb2⟩
      have K1 : Blk w1 w.heap.size 23 #[.int .i64 p, .int .i64 c, .string s] := ((Blk.new w _ _).alloc _).below hb (by simp; omega)
      have K2 := (K1.alloc (.cells #[.int .i64 c] 3)).below hb2 (by simp; omega)
      have c0 : w2.cell? ⟨w.heap.size, 0, none⟩ = some (.int .i64 p) := K2.cell 0
      have c1 : w2.cell? ⟨w.heap.size, 1, none⟩ = some (.int .i64 c) := K2.cell 1
      have c2 : w2.cell? ⟨w.heap.size, 2, none⟩ = some (.string s) := K2.cell 2
      go_wp2_with fail
      go_ret2
      exact ⟨by rw [HV.out]; rfl, below_one _ _ _ _ (below_two _ _ _ _ hb) hb2⟩
    · subst hp0
      simp only [Int.sub_zero] at HI2
      go_enter Try.func8, Try.ntmps8
      go_wp2_with fail
      refine (in1_any _ _ 0 _ _ ?_ ?_).mono ?_
      · simp
      · simp [go_sem]
      rw [HI.out]
      rintro e w1 ⟨rfl, hb⟩
      obtain ⟨hcl, hfr⟩ := bcell hb
      have hz : w.heap.size + 1 < w1.heap.size := by have := hb.size; simp at this; omega
      go_wp2_with fail
      refine (in1_any _ _ c _ _ ?_ ?_).mono ?_
      · simp
      · simp [go_sem]
      rw [HI2.out]
      rintro e w2 ⟨rfl, hb2⟩
      have K1 : Blk w1 w.heap.size 23 #[.int .i64 0, .int .i64 c, .string s] := ((Blk.new w _ _).alloc _).below hb (by simp; omega)
      have K2 := (K1.alloc (.cells #[.int .i64 c] 3)).below hb2 (by simp; omega)
      have c0 : w2.cell? ⟨w.heap.size, 0, none⟩ = some (.int .i64 0) := K2.cell 0
      have c1 : w2.cell? ⟨w.heap.size, 1, none⟩ = some (.int .i64 c) := K2.cell 1
      have c2 : w2.cell? ⟨w.heap.size, 2, none⟩ = some (.string s) := K2.cell 2
      go_wp2_with fail
      go_ret2
      exact ⟨by rw [HV.out]; rfl, below_one _ _ _ _ (below_two _ _ _ _ hb) hb2⟩
    · subst hp0
      subst hc0
      simp only [Int.sub_zero] at HI2
      simp only [Int.sub_zero] at ho
      go_enter Try.func8, Try.ntmps8
      go_wp2_with fail
      refine (in1_any _ _ 0 _ _ ?_ ?_).mono ?_
      · simp
      · simp [go_sem]
      rw [HI.out]
      rintro e w1 ⟨rfl, hb⟩
      obtain ⟨hcl, hfr⟩ := bcell hb
      have hz : w.heap.size + 1 < w1.heap.size := by have := hb.size; simp at this; omega
      go_wp2_with fail
      refine (in1_any _ _ 0 _ _ ?_ ?_).mono ?_
      · simp
      · simp [go_sem]
      rw [HI2.out]
      rintro e w2 ⟨rfl, hb2⟩
      have K1 : Blk w1 w.heap.size 23 #[.int .i64 0, .int .i64 0, .string s] := ((Blk.new w _ _).alloc _).below hb (by simp; omega)
      have K2 := (K1.alloc (.cells #[.int .i64 0] 3)).below hb2 (by simp; omega)
      have c0 : w2.cell? ⟨w.heap.size, 0, none⟩ = some (.int .i64 0) := K2.cell 0
      have c1 : w2.cell? ⟨w.heap.size, 1, none⟩ = some (.int .i64 0) := K2.cell 1
      have c2 : w2.cell? ⟨w.heap.size, 2, none⟩ = some (.string s) := K2.cell 2
      go_wp2_with fail
      go_ret2
      exact ⟨by rw [HV.out]; rfl, below_one _ _ _ _ (below_two _ _ _ _ hb) hb2⟩
  · have HV := Lib.hid (applyV_good hl HN.out ho)
    have w1' : IntKind.i64.wrap (p + c) = p + c := IntWalk.i64_in _ (by omega)
    rcases hcase with hp0 | ⟨hp0, hc0⟩ | ⟨hp0, hc0, hs0⟩
    · go_enter Try.func8, Try.ntmps8
      go_wp2_with fail
      refine (in1_any _ _ p _ _ ?_ ?_).mono ?_
      · simp
      · simp [go_sem]
      rw [HI.out]
      rintro e w1 ⟨rfl, hb⟩
      obtain ⟨hcl, hfr⟩ := bcell hb
      have hz : w.heap.size + 1 < w1.heap.size := by have := hb.size; simp at this; omega
      go_wp2_with fail
      refine (in1_any _ _ c _ _ ?_ ?_).mono ?_
      · simp
      · simp [go_sem]
      rw [HI2.out]
      rintro e w2 ⟨rfl, hb2⟩
      have K1 : Blk w1 w.heap.size 23 #[.int .i64 p, .int .i64 c, .string s] := ((Blk.new w _ _).alloc _).below hb (by simp; omega)
      have K2 := (K1.alloc (.cells #[.int .i64 c] 3)).below hb2 (by simp; omega)
      have c0 : w2.cell? ⟨w.heap.size, 0, none⟩ = some (.int .i64 p) := K2.cell 0
      have c1 : w2.cell? ⟨w.heap.size, 1, none⟩ = some (.int .i64 c) := K2.cell 1
      have c2 : w2.cell? ⟨w.heap.size, 2, none⟩ = some (.string s) := K2.cell 2
      go_wp2_with fail
      go_quiet (fail)
      go_wp2_with fail
      go_ret2
      exact ⟨by rw [HV.out]; first | rfl | (rw [ext_zero]; rfl) | (rw [ext_zero2]; rfl), below_drewN (below_one _ _ _ _ (below_two _ _ _ _ hb) hb2) _⟩
    · subst hp0
      simp only [Int.sub_zero] at HI2
      simp only [Int.zero_add] at hpc hpc0 w1'
      go_enter Try.func8, Try.ntmps8
      go_wp2_with fail
      refine (in1_any _ _ 0 _ _ ?_ ?_).mono ?_
      · simp
      · simp [go_sem]
      rw [HI.out]
      rintro e w1 ⟨rfl, hb⟩
      obtain ⟨hcl, hfr⟩ := bcell hb
      have hz : w.heap.size + 1 < w1.heap.size := by have := hb.size; simp at this; omega
      go_wp2_with fail
      refine (in1_any _ _ c _ _ ?_ ?_).mono ?_
      · simp
      · simp [go_sem]
      rw [HI2.out]
      rintro e w2 ⟨rfl, hb2⟩
      have K1 : Blk w1 w.heap.size 23 #[.int .i64 0, .int .i64 c, .string s] := ((Blk.new w _ _).alloc _).below hb (by simp; omega)
      have K2 := (K1.alloc (.cells #[.int .i64 c] 3)).below hb2 (by simp; omega)
      have c0 : w2.cell? ⟨w.heap.size, 0, none⟩ = some (.int .i64 0) := K2.cell 0
      have c1 : w2.cell? ⟨w.heap.size, 1, none⟩ = some (.int .i64 c) := K2.cell 1
      have c2 : w2.cell? ⟨w.heap.size, 2, none⟩ = some (.string s) := K2.cell 2
      go_wp2_with fail
      go_quiet (fail)
      go_wp2_with fail
      go_ret2
      exact ⟨by rw [HV.out]; first | rfl | (rw [ext_zero]; rfl) | (rw [ext_zero2]; rfl), below_drewN (below_one _ _ _ _ (below_two _ _ _ _ hb) hb2) _⟩
    · subst hp0
      subst hc0
      simp only [Int.sub_zero] at HI2
      simp only [Int.sub_zero] at ho
      simp only [Int.zero_add] at hpc hpc0 w1'
      go_enter Try.func8, Try.ntmps8
      go_wp2_with fail
      refine (in1_any _ _ 0 _ _ ?_ ?_).mono ?_
      · simp
      · simp [go_sem]
      rw [HI.out]
      rintro e w1 ⟨rfl, hb⟩
      obtain ⟨hcl, hfr⟩ := bcell hb
      have hz : w.heap.size + 1 < w1.heap.size := by have := hb.size; simp at this; omega
      go_wp2_with fail
      refine (in1_any _ _ 0 _ _ ?_ ?_).mono ?_
      · simp
      · simp [go_sem]
      rw [HI2.out]
      rintro e w2 ⟨rfl, hb2⟩
      have K1 : Blk w1 w.heap.size 23 #[.int .i64 0, .int .i64 0, .string s] := ((Blk.new w _ _).alloc _).below hb (by simp; omega)
      have K2 := (K1.alloc (.cells #[.int .i64 0] 3)).below hb2 (by simp; omega)
      have c0 : w2.cell? ⟨w.heap.size, 0, none⟩ = some (.int .i64 0) := K2.cell 0
      have c1 : w2.cell? ⟨w.heap.size, 1, none⟩ = some (.int .i64 0) := K2.cell 1
      have c2 : w2.cell? ⟨w.heap.size, 2, none⟩ = some (.string s) := K2.cell 2
      go_wp2_with fail
      go_quiet (fail)
      go_wp2_with fail
      go_ret2
      exact ⟨by rw [HV.out]; first | rfl | (rw [ext_zero]; rfl) | (rw [ext_zero2]; rfl), below_drewN (below_one _ _ _ _ (below_two _ _ _ _ hb) hb2) _⟩

theorem apply_any (a s : ByteArray) (p c : Int) (w : World) (ha : a.size ≤ 2000) (hs : s.size ≤ 2000) : Quick a s p c w := by
  by_cases hl : 960 < a.size
  · exact apply_long a s p c w hl ha
  · by_cases hz : p = 0 ∧ c = 0 ∧ s.toList = []
    · obtain ⟨rfl, rfl, hs0⟩ := hz
      exact apply_zero a s w hl hs0
    · by_cases hp : 0 ≤ p ∧ p ≤ a.size
      · by_cases hc : 0 ≤ c ∧ c ≤ a.size - p
        · exact apply_ok a s p c w hl hp.1 hp.2 hc.1 hc.2 hs hz
        · exact apply_badc a s p c w hl hp.1 hp.2 hc
      · exact apply_badp a s p c w hl hp

/-! The reference's. -/
def RQuick (a s : ByteArray) (p c : Int) (w : World) : Prop :=
  Calls Try.prog 9 #[.string a, .agg #[.int .i64 p, .int .i64 c, .string s]] w fun e w' => e = .returned (applyV a p c s) ∧ Below w.heap.size w w'

set_option maxHeartbeats 4000000 in
theorem rapply_any (a s : ByteArray) (p c : Int) (w : World) (ha : a.size ≤ 2000) (hs : s.size ≤ 2000) : RQuick a s p c w := by
  unfold RQuick
  by_cases hl : 960 < a.size
  · have HV := Lib.hid (applyV_long (s := s) (p := p) (c := c) hl)
    go_enter Try.func9, Try.ntmps9
    go_wp2_with fail
    go_ret2
    exact ⟨by rw [HV.out]; rfl, (Below.refl _ _).alloc (Nat.le_refl _) _⟩
  · by_cases hb : p < 0 ∨ a.size < p ∨ c < 0 ∨ a.size - p < c
    · have HV := Lib.hid (applyV_bad (s := s) (p := p) (c := c) hl hb)
      have hb' : p < 0 ∨ (¬ p < 0 ∧ a.size < p) ∨ (¬ p < 0 ∧ ¬ a.size < p ∧ c < 0) ∨ (¬ p < 0 ∧ ¬ a.size < p ∧ ¬ c < 0 ∧ a.size - p < c) := by omega
      clear hb
      rcases hb' with h1 | ⟨h1, h2⟩ | ⟨h1, h2, h3⟩ | ⟨h1, h2, h3, h4⟩
      all_goals
        go_enter Try.func9, Try.ntmps9
        go_wp2_with fail
        go_ret2
        exact ⟨by rw [HV.out]; rfl, (Below.refl _ _).alloc (Nat.le_refl _) _⟩
    · have HN := Lib.hid hb
      have h1 : 0 ≤ p := by omega
      have h2 : p ≤ a.size := by omega
      have h3 : 0 ≤ c := by omega
      have h4 : c ≤ a.size - p := by omega
      have h5 : c ≤ a.size := by omega
      have h6 : p + c ≤ a.size := by omega
      have h7 : 0 ≤ p + c := by omega
      have w1' : IntKind.i64.wrap (p + c) = p + c := IntWalk.i64_in _ (by omega)
      clear hb
      by_cases ho : (960 : Int) < a.size - c + s.size
      · have HV := Lib.hid (applyV_over hl HN.out ho)
        clear w1'
        go_enter Try.func9, Try.ntmps9
        go_wp2_with fail
        go_ret2
        exact ⟨by rw [HV.out]; rfl, (Below.refl _ _).alloc (Nat.le_refl _) _⟩
      · have HV := Lib.hid (applyV_good hl HN.out ho)
        go_enter Try.func9, Try.ntmps9
        go_wp2_with fail
        go_quiet (fail)
        go_wp2_with fail
        go_ret2
        exact ⟨by rw [HV.out]; rfl, below_drewN ((Below.refl _ _).alloc (Nat.le_refl _) _) _⟩
end Go.Proofs.Ytehgijdjnddfcaa
