/- The three checks of a town, and Check. -/
import Derived.Test.YtahkjagjcogeiaaDoorClTown
namespace Go.Proofs.YtahkjagjcogeiaaDoor
open Go.RowKit
set_option linter.unusedVariables false

/-- Ids go up. -/
def upB : Int → List Int → Bool
  | _, [] => true
  | last, x :: l => inB (last + 1) 9999 [x] && upB x l
def linkB (t : Town) (last : Int) (x : Link) : Bool := inB (last + 1) 9999 [x.id] && inB 0 500 [x.steps] && inB 1 2000 [x.paces] && !(x.fr == x.to) && hasB t [x.fr, x.to]
def linksB (t : Town) : Int → List Link → Bool
  | _, [] => true
  | last, x :: l => linkB t last x && linksB t x.id l
def sizeB (t : Town) : Bool := inB 1 9 [(t.places.length : Int)] && decide (t.links.length ≤ 20)
/-- Whether a town is valid. -/
def townB (t : Town) : Bool := sizeB t && upB 0 t.places && linksB t 0 t.links

theorem upB_drop {l : List Int} {k : Nat} {x last : Int} (hx : l[k]? = some x) : upB last (l.drop k) = (inB (last + 1) 9999 [x] && upB x (l.drop (k + 1))) := by
  obtain ⟨hk, rfl⟩ := List.getElem?_eq_some_iff.1 hx
  rw [List.drop_eq_getElem_cons hk]; rfl
theorem linksB_drop {t : Town} {l : List Link} {k : Nat} {x : Link} {last : Int} (hx : l[k]? = some x) : linksB t last (l.drop k) = (linkB t last x && linksB t x.id (l.drop (k + 1))) := by
  obtain ⟨hk, rfl⟩ := List.getElem?_eq_some_iff.1 hx
  rw [List.drop_eq_getElem_cons hk]; rfl

theorem hasI2 (g : Nat) (x y : Int) (w : World) (hg : g < w.heap.size) (h0 : w.cell? ⟨g, 0, none⟩ = some (.int .i64 x)) (h1 : w.cell? ⟨g, 1, none⟩ = some (.int .i64 y)) : IntsAt w w.heap.size (some ⟨g, 0, none⟩) 2 [x, y] :=
  ⟨rfl, fun _ => ⟨_, rfl, hg, fun j u hu => by
    match j, hu with
    | 0, hu => simp at hu; rw [← hu]; simpa [Addr.add] using h0
    | 1, hu => simp at hu; rw [← hu]; simpa [Addr.add] using h1⟩⟩

theorem check1_any (A : Option Addr) (n c : Nat) (A' : Option Addr) (m d : Nat) (t : Town) (w : World) (hn : n ≤ maxLen) (hm : m ≤ maxLen) (ht : TownAt w w.heap.size A n A' m t) :
    Calls Tryd.prog 182 #[.agg #[.slice A n c, .slice A' m d]] w fun e w' => e = .returned (.bool (sizeB t)) ∧ Below w.heap.size w w' := by
  have hl := ht.places.len
  have hl' := ht.links.len
  have H : sizeB t = (inB 1 9 [(n : Int)] && decide ((m : Int) ≤ 20)) := by
    unfold sizeB; rw [hl, hl']; congr 1; simp; omega
  have HS := Lib.hid H
  clear H hl hl'
  unfold maxLen at hn hm
  go_enter Tryd.func182, Tryd.ntmps182
  go_wp2_with fail
  refine (in1_any _ _ (n : Int) _ _ ?_ ?_).mono ?_
  · simp
  · simp [go_sem]
  rintro e w1 ⟨rfl, hb⟩
  have hb' : Below w.heap.size w w1 := (((Below.refl _ _).alloc (Nat.le_refl _) _).alloc (by simp) _).trans (hb.mono (by simp; omega))
  have T1 : Blk w1 w.heap.size 25 #[.slice A n c, .slice A' m d] := ((Blk.new w _ _).alloc _).below hb (by simp; omega)
  have t1 : w1.cell? ⟨w.heap.size, 1, none⟩ = some (.slice A' m d) := T1.cell 1
  have hl : w.heap.size < w1.heap.size := T1.lt
  cases hi : inB 1 9 [(n : Int)] with
  | true =>
    have HI := Lib.hid hi
    clear hi
    go_wp2_with fail
    go_ret
    exact ⟨ret_bool (by rw [HS.out, HI.out]; simp), hb'⟩
  | false =>
    have HI := Lib.hid hi
    clear hi
    go_wp2_with fail
    go_ret
    exact ⟨ret_bool (by rw [HS.out, HI.out]; simp), hb'⟩

theorem inB_one (lo hi x : Int) : inB lo hi [x] = (decide (lo ≤ x) && decide (x ≤ hi)) := by
  unfold inB
  by_cases h1 : x < lo <;> by_cases h2 : hi < x <;> simp [h1, h2] <;> omega
theorem inB_iff {lo hi x : Int} : inB lo hi [x] = true ↔ lo ≤ x ∧ x ≤ hi := by rw [inB_one]; simp

theorem below_one (w w1 w2 : World) (A : Obj) (h : Below w.heap.size w w1) (hb : Below (w1.alloc A).heap.size (w1.alloc A) w2) : Below w.heap.size w w2 :=
  (h.alloc h.size _).trans (hb.mono (by have := h.size; simp; omega))

set_option maxHeartbeats 1000000 in
theorem check2_any (A : Option Addr) (n c : Nat) (A' : Option Addr) (m d : Nat) (t : Town) (w : World) (hn : n ≤ maxLen) (ht : TownAt w w.heap.size A n A' m t) :
    Calls Tryd.prog 183 #[.agg #[.slice A n c, .slice A' m d]] w fun e w' => e = .returned (.bool (upB 0 t.places)) ∧ Below w.heap.size w w' := by
  unfold maxLen at hn
  go_enter Tryd.func183, Tryd.ntmps183
  go_wp2_with fail
  go_loopw [9, 3] (fun i last wr => ∃ (k : Nat) (x : Int), k ≤ n ∧ i = .int .i64 k ∧ last = .int .i64 x ∧ 0 ≤ x ∧ x ≤ 9999 ∧ upB 0 t.places = upB x (t.places.drop k) ∧ Below w.heap.size w wr)
    (fun i _ _ => n - (intOf i).toNat)
  case atStart => exact ⟨0, 0, by omega, rfl, rfl, by omega, by omega, by simp, (Below.refl _ _).alloc (Nat.le_refl _) _⟩
  case round =>
    obtain ⟨k, z, hk, rfl, rfl, hz0, hz1, hu, hb⟩ := hrel
    have HU := Lib.hid hu
    clear hu
    by_cases hlt : k < n
    · obtain ⟨b, off, x, rfl, hbB, hx, hc⟩ := (ht.places.below hb).cell hlt
      have HX := Lib.hid hx
      clear hx
      go_wp2_with fail
      refine (in1_any _ _ x _ _ ?_ ?_).mono ?_
      · simp
      · simp [go_sem]
      rintro e w' ⟨rfl, hb'⟩
      have hb2 := below_one _ _ _ _ hb hb'
      cases hi : inB (z + 1) 9999 [x] with
      | true =>
        have HI := Lib.hid hi
        have hxz := inB_iff.1 hi
        clear hi
        go_wp2_with fail
        go_roundw
        case rel => exact ⟨k + 1, x, by omega, by go_num, rfl, by omega, by omega, by rw [HU.out, upB_drop HX.out, HI.out]; rfl, hb2⟩
        case measure => simp [intOf]; omega
      | false =>
        have HI := Lib.hid hi
        clear hi
        go_wp2_with fail
        go_ret
        exact ⟨ret_bool (by rw [HU.out, upB_drop HX.out, HI.out]; rfl), hb2⟩
    · go_wp2_with fail
      go_ret
      exact ⟨ret_bool (by rw [HU.out, List.drop_eq_nil_of_le (by have := ht.places.len; omega)]; rfl), hb⟩

theorem linkB_false {t : Town} {last : Int} {x : Link} (h : inB (last + 1) 9999 [x.id] = false ∨ inB 0 500 [x.steps] = false ∨ inB 1 2000 [x.paces] = false ∨ x.fr = x.to ∨ hasB t [x.fr, x.to] = false) : linkB t last x = false := by
  unfold linkB
  rcases h with h | h | h | h | h <;> simp [h]
theorem linkB_true {t : Town} {last : Int} {x : Link} (h1 : inB (last + 1) 9999 [x.id] = true) (h2 : inB 0 500 [x.steps] = true) (h3 : inB 1 2000 [x.paces] = true) (h4 : ¬ x.fr = x.to) (h5 : hasB t [x.fr, x.to] = true) : linkB t last x = true := by
  unfold linkB
  simp [h1, h2, h3, h4, h5]

set_option maxHeartbeats 2000000 in
theorem check3_any (A : Option Addr) (n c : Nat) (A' : Option Addr) (m d : Nat) (t : Town) (w : World) (hn : n ≤ maxLen) (hm : m ≤ maxLen) (ht : TownAt w w.heap.size A n A' m t) :
    Calls Tryd.prog 184 #[.agg #[.slice A n c, .slice A' m d]] w fun e w' => e = .returned (.bool (linksB t 0 t.links)) ∧ Below w.heap.size w w' := by
  unfold maxLen at hn hm
  go_enter Tryd.func184, Tryd.ntmps184
  go_wp2_with fail
  go_loopw [9, 3] (fun i last wr => ∃ (k : Nat) (x : Int), k ≤ m ∧ i = .int .i64 k ∧ last = .int .i64 x ∧ 0 ≤ x ∧ x ≤ 9999 ∧ linksB t 0 t.links = linksB t x (t.links.drop k) ∧ Blk wr w.heap.size 25 #[.slice A n c, .slice A' m d] ∧ Below w.heap.size w wr)
    (fun i _ _ => m - (intOf i).toNat)
  case atStart => exact ⟨0, 0, by omega, rfl, rfl, by omega, by omega, by simp, Blk.new _ _ _, (Below.refl _ _).alloc (Nat.le_refl _) _⟩
  case round =>
    obtain ⟨k, z, hk, rfl, rfl, hz0, hz1, hu, hT, hb⟩ := hrel
    have HU := Lib.hid hu
    clear hu
    have t0 : wr.cell? ⟨w.heap.size, 0, none⟩ = some (.slice A n c) := hT.cell 0
    have t1 : wr.cell? ⟨w.heap.size, 1, none⟩ = some (.slice A' m d) := hT.cell 1
    have hlr := hT.lt
    by_cases hlt : k < m
    · obtain ⟨b, off, x, rfl, hbB, hx, hc0, hc1, hc2, hc3, hc4⟩ := (ht.links.below hb).cell hlt
      have HX := Lib.hid hx
      clear hx
      go_wp2_with fail
      refine (in1_any _ _ x.id _ _ ?_ ?_).mono ?_
      · simp
      · simp [go_sem]
      rintro e w1 ⟨rfl, hb1⟩
      have X1 : Blk w1 wr.heap.size 45 #[.int .i64 x.id, .int .i64 x.fr, .int .i64 x.to, .int .i64 x.steps, .int .i64 x.paces] := ((Blk.new wr _ _).alloc _).below hb1 (by simp; omega)
      have T1 : Blk w1 w.heap.size 25 #[.slice A n c, .slice (some ⟨b, off, none⟩) m d] := ((hT.alloc _).alloc _).below hb1 (by simp; omega)
      have B1 : Below w.heap.size w w1 := below_one _ _ _ _ (hb.alloc hb.size _) hb1
      clear hb1 t0 t1 hlr
      have x0 : w1.cell? ⟨wr.heap.size, 0, none⟩ = some (.int .i64 x.id) := X1.cell 0
      have x1 : w1.cell? ⟨wr.heap.size, 1, none⟩ = some (.int .i64 x.fr) := X1.cell 1
      have x2 : w1.cell? ⟨wr.heap.size, 2, none⟩ = some (.int .i64 x.to) := X1.cell 2
      have x3 : w1.cell? ⟨wr.heap.size, 3, none⟩ = some (.int .i64 x.steps) := X1.cell 3
      have x4 : w1.cell? ⟨wr.heap.size, 4, none⟩ = some (.int .i64 x.paces) := X1.cell 4
      have t0 : w1.cell? ⟨w.heap.size, 0, none⟩ = some (.slice A n c) := T1.cell 0
      have t1 : w1.cell? ⟨w.heap.size, 1, none⟩ = some (.slice (some ⟨b, off, none⟩) m d) := T1.cell 1
      have hlr := T1.lt
      have hlx := X1.lt
      cases hi1 : inB (z + 1) 9999 [x.id] with
      | false =>
        have HI1 := Lib.hid hi1
        clear hi1
        go_wp2_with fail
        go_ret
        exact ⟨ret_bool (by rw [HU.out, linksB_drop HX.out, linkB_false (.inl HI1.out)]; rfl), B1⟩
      | true =>
        have HI1 := Lib.hid hi1
        have hxz := inB_iff.1 hi1
        clear hi1
        go_wp2_with fail
        refine (in1_any _ _ x.steps _ _ ?_ ?_).mono ?_
        · simp
        · simp [go_sem]
        rintro e w2 ⟨rfl, hb2⟩
        have X2 := (X1.alloc (.cells #[.int .i64 x.steps] 3)).below hb2 (by have := X1.lt; simp; omega)
        have T2 := (T1.alloc (.cells #[.int .i64 x.steps] 3)).below hb2 (by have := T1.lt; simp; omega)
        have B2 := below_one _ _ _ _ B1 hb2
        clear hb2
        clear x0 x1 x2 x3 x4 t0 t1 hlr hlx
        have x0 : w2.cell? ⟨wr.heap.size, 0, none⟩ = some (.int .i64 x.id) := X2.cell 0
        have x1 : w2.cell? ⟨wr.heap.size, 1, none⟩ = some (.int .i64 x.fr) := X2.cell 1
        have x2 : w2.cell? ⟨wr.heap.size, 2, none⟩ = some (.int .i64 x.to) := X2.cell 2
        have x3 : w2.cell? ⟨wr.heap.size, 3, none⟩ = some (.int .i64 x.steps) := X2.cell 3
        have x4 : w2.cell? ⟨wr.heap.size, 4, none⟩ = some (.int .i64 x.paces) := X2.cell 4
        have t0 : w2.cell? ⟨w.heap.size, 0, none⟩ = some (.slice A n c) := T2.cell 0
        have t1 : w2.cell? ⟨w.heap.size, 1, none⟩ = some (.slice (some ⟨b, off, none⟩) m d) := T2.cell 1
        have hlr := T2.lt
        have hlx := X2.lt
        cases hi2 : inB 0 500 [x.steps] with
        | false =>
          have HI2 := Lib.hid hi2
          clear hi2
          go_wp2_with fail
          go_ret
          exact ⟨ret_bool (by rw [HU.out, linksB_drop HX.out, linkB_false (.inr (.inl HI2.out))]; rfl), B2⟩
        | true =>
          have HI2 := Lib.hid hi2
          clear hi2
          go_wp2_with fail
          refine (in1_any _ _ x.paces _ _ ?_ ?_).mono ?_
          · simp
          · simp [go_sem]
          rintro e w3 ⟨rfl, hb3⟩
          have X3 := (X2.alloc (.cells #[.int .i64 x.paces] 3)).below hb3 (by have := X2.lt; simp; omega)
          have T3 := (T2.alloc (.cells #[.int .i64 x.paces] 3)).below hb3 (by have := T2.lt; simp; omega)
          have B3 := below_one _ _ _ _ B2 hb3
          clear hb3
          clear x0 x1 x2 x3 x4 t0 t1 hlr hlx
          have x0 : w3.cell? ⟨wr.heap.size, 0, none⟩ = some (.int .i64 x.id) := X3.cell 0
          have x1 : w3.cell? ⟨wr.heap.size, 1, none⟩ = some (.int .i64 x.fr) := X3.cell 1
          have x2 : w3.cell? ⟨wr.heap.size, 2, none⟩ = some (.int .i64 x.to) := X3.cell 2
          have x3 : w3.cell? ⟨wr.heap.size, 3, none⟩ = some (.int .i64 x.steps) := X3.cell 3
          have x4 : w3.cell? ⟨wr.heap.size, 4, none⟩ = some (.int .i64 x.paces) := X3.cell 4
          have t0 : w3.cell? ⟨w.heap.size, 0, none⟩ = some (.slice A n c) := T3.cell 0
          have t1 : w3.cell? ⟨w.heap.size, 1, none⟩ = some (.slice (some ⟨b, off, none⟩) m d) := T3.cell 1
          have hlr := T3.lt
          have hlx := X3.lt
          cases hi3 : inB 1 2000 [x.paces] with
          | false =>
            have HI3 := Lib.hid hi3
            clear hi3
            go_wp2_with fail
            go_ret
            exact ⟨ret_bool (by rw [HU.out, linksB_drop HX.out, linkB_false (.inr (.inr (.inl HI3.out)))]; rfl), B3⟩
          | true =>
            have HI3 := Lib.hid hi3
            clear hi3
            by_cases he : x.fr = x.to
            · have HE := Lib.hid he
              have he' : (x.fr == x.to) = true := by simpa using he
              clear he
              go_wp2_with fail
              go_ret
              exact ⟨ret_bool (by rw [HU.out, linksB_drop HX.out, linkB_false (.inr (.inr (.inr (.inl HE.out))))]; rfl), B3⟩
            · have HE := Lib.hid he
              go_wp2_with fail
              refine (has_any A n c _ m d t _ 2 2 [x.fr, x.to] _ (by unfold maxLen; omega) (by decide) ?_ ?_).mono ?_
              · have b3 := ht.below B3
                exact ((b3.more B3.size).below ((Below.refl _ _).alloc (Nat.le_refl _) _)).more (by rw [World.size_alloc]; omega)
              · exact hasI2 _ _ _ _ (by simp) (by simp [go_sem]) (by simp [go_sem])
              rintro e w4 ⟨rfl, hb4⟩
              have X4 := (X3.alloc (.cells #[.int .i64 x.fr, .int .i64 x.to] 3)).below hb4 (by have := X3.lt; simp; omega)
              have T4 := (T3.alloc (.cells #[.int .i64 x.fr, .int .i64 x.to] 3)).below hb4 (by have := T3.lt; simp; omega)
              have B4 := below_one _ _ _ _ B3 hb4
              clear hb4
              clear x0 x1 x2 x3 x4 t0 t1 hlr hlx
              have x0 : w4.cell? ⟨wr.heap.size, 0, none⟩ = some (.int .i64 x.id) := X4.cell 0
              have x1 : w4.cell? ⟨wr.heap.size, 1, none⟩ = some (.int .i64 x.fr) := X4.cell 1
              have x2 : w4.cell? ⟨wr.heap.size, 2, none⟩ = some (.int .i64 x.to) := X4.cell 2
              have x3 : w4.cell? ⟨wr.heap.size, 3, none⟩ = some (.int .i64 x.steps) := X4.cell 3
              have x4 : w4.cell? ⟨wr.heap.size, 4, none⟩ = some (.int .i64 x.paces) := X4.cell 4
              have t0 : w4.cell? ⟨w.heap.size, 0, none⟩ = some (.slice A n c) := T4.cell 0
              have t1 : w4.cell? ⟨w.heap.size, 1, none⟩ = some (.slice (some ⟨b, off, none⟩) m d) := T4.cell 1
              have hlr := T4.lt
              have hlx := X4.lt
              cases hi4 : hasB t [x.fr, x.to] with
              | false =>
                have HI4 := Lib.hid hi4
                clear hi4
                go_wp2_with fail
                go_ret
                exact ⟨ret_bool (by rw [HU.out, linksB_drop HX.out, linkB_false (.inr (.inr (.inr (.inr HI4.out))))]; rfl), B4⟩
              | true =>
                have HI4 := Lib.hid hi4
                clear hi4
                go_wp2_with fail
                go_roundw
                case rel => exact ⟨k + 1, x.id, by omega, by go_num, rfl, by omega, by omega, by rw [HU.out, linksB_drop HX.out, linkB_true HI1.out HI2.out HI3.out HE.out HI4.out]; rfl, T4, B4⟩
                case measure => simp [intOf]; omega
    · go_wp2_with fail
      go_ret
      exact ⟨ret_bool (by rw [HU.out, List.drop_eq_nil_of_le (by have := ht.links.len; omega)]; rfl), hb⟩
end Go.Proofs.YtahkjagjcogeiaaDoor
