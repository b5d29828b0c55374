/- Part 8 of the texts of this claim, joined. -/
import Derived.Laws.EntriesVeiled
import Derived.Laws.StructEq
import Derived.Deep.RegionHeld3
import Derived.OwnWalk
import Derived.Shelf.Abstract
import Derived.Scope
import Derived.Test.YtjdgdeiedkickaaDoorTwT7
set_option linter.unusedVariables false
/- The three checks of a town, and Check. -/
namespace Go.Proofs.YtjdgdeiedkickaaDoor
open Go.RowKit

/-- Ids go up. -/
def upB : Int → List Int → Bool
 | _, [] => true
 | last, x :: l => inB (last + 1) 9999 [x] && upB x l
def linkB (t : Town) (last : Int) (x : Link) : Bool := inB (last + 1) 9999 [x.id] && inB 0 500 [x.steps] && inB 1 2000 [x.paces] && !(x.fr == x.to) && hasB t [x.fr, x.to]
def linksB (t : Town) : Int → List Link → Bool
 | _, [] => true
 | last, x :: l => linkB t last x && linksB t x.id l
def sizeB (t : Town) : Bool := inB 1 9 [(t.places.length : Int)] && decide (t.links.length ≤ 20)
/-- Whether a town is valid. -/
def townB (t : Town) : Bool := sizeB t && upB 0 t.places && linksB t 0 t.links

theorem upB_drop {l : List Int} {k : Nat} {x last : Int} (hx : l[k]? = some x) : upB last (l.drop k) = (inB (last + 1) 9999 [x] && upB x (l.drop (k + 1))) := by
 obtain ⟨hk, rfl⟩ := List.getElem?_eq_some_iff.1 hx
 rw [List.drop_eq_getElem_cons hk]; rfl
theorem linksB_drop {t : Town} {l : List Link} {k : Nat} {x : Link} {last : Int} (hx : l[k]? = some x) : linksB t last (l.drop k) = (linkB t last x && linksB t x.id (l.drop (k + 1))) := by
 obtain ⟨hk, rfl⟩ := List.getElem?_eq_some_iff.1 hx
 rw [List.drop_eq_getElem_cons hk]; rfl

theorem hasI2 (g : Nat) (x y : Int) (w : World) (hg : g < w.heap.size) (h0 : w.cell? ⟨g, 0, none⟩ = some (.int .i64 x)) (h1 : w.cell? ⟨g, 1, none⟩ = some (.int .i64 y)) : IntsAt w w.heap.size (some ⟨g, 0, none⟩) 2 [x, y] :=
 ⟨rfl, fun _ => ⟨_, rfl, hg, fun j u hu => by
  match j, hu with
  | 0, hu => simp at hu; rw [← hu]; simpa [Addr.add] using h0
  | 1, hu => simp at hu; rw [← hu]; simpa [Addr.add] using h1⟩⟩

theorem check1_any (A : Option Addr) (n c : Nat) (A' : Option Addr) (m d : Nat) (t : Town) (w : World) (hn : n ≤ maxLen) (hm : m ≤ maxLen) (ht : TownAt w w.heap.size A n A' m t) :
  Calls Tryd.prog 100 #[.agg #[.slice A n c, .slice A' m d]] w fun e w' => e = .returned (.bool (sizeB t)) ∧ Below w.heap.size w w' := by
 have hl := ht.places.len
 have hl' := ht.links.len
 have H : sizeB t = (inB 1 9 [(n : Int)] && decide ((m : Int) ≤ 20)) := by
  unfold sizeB; rw [hl, hl']; congr 1; simp; omega
 have HS := Lib.hid H
 clear H hl hl'
 unfold maxLen at hn hm
 go_enter Tryd.func100, Tryd.ntmps100
 go_wp2_with fail
 refine (in1_any _ _ (n : Int) _ _ ?_ ?_).mono ?_
 ·simp
 ·simp [go_sem]
 rintro e w1 ⟨rfl, hb⟩
 have hb' : Below w.heap.size w w1 := (((Below.refl _ _).alloc (Nat.le_refl _) _).alloc (by simp) _).trans (hb.mono (by simp; omega))
 have T1 : Blk w1 w.heap.size 25 #[.slice A n c, .slice A' m d] := ((Blk.new w _ _).alloc _).below hb (by simp; omega)
 have t1 : w1.cell? ⟨w.heap.size, 1, none⟩ = some (.slice A' m d) := T1.cell 1
 have hl : w.heap.size < w1.heap.size := T1.lt
 cases hi : inB 1 9 [(n : Int)] with
 | true =>
  have HI := Lib.hid hi
  clear hi
  go_wp2_with fail
  go_ret
  exact ⟨ret_bool (by rw [HS.out, HI.out]; simp), hb'⟩
 | false =>
  have HI := Lib.hid hi
  clear hi
  go_wp2_with fail
  go_ret
  exact ⟨ret_bool (by rw [HS.out, HI.out]; simp), hb'⟩

theorem inB_one (lo hi x : Int) : inB lo hi [x] = (decide (lo ≤ x) && decide (x ≤ hi)) := by
 unfold inB
 by_cases h1 : x < lo <;> by_cases h2 : hi < x <;> simp [h1, h2] <;> omega
theorem inB_iff {lo hi x : Int} : inB lo hi [x] = true ↔ lo ≤ x ∧ x ≤ hi := by rw [inB_one]; simp

theorem below_one (w w1 w2 : World) (A : Obj) (h : Below w.heap.size w w1) (hb : Below (w1.alloc A).heap.size (w1.alloc A) w2) : Below w.heap.size w w2 :=
 (h.alloc h.size _).trans (hb.mono (by have := h.size; simp; omega))

set_option maxHeartbeats 1000000 in
theorem check2_any (A : Option Addr) (n c : Nat) (A' : Option Addr) (m d : Nat) (t : Town) (w : World) (hn : n ≤ maxLen) (ht : TownAt w w.heap.size A n A' m t) :
  Calls Tryd.prog 101 #[.agg #[.slice A n c, .slice A' m d]] w fun e w' => e = .returned (.bool (upB 0 t.places)) ∧ Below w.heap.size w w' := by
 unfold maxLen at hn
 go_enter Tryd.func101, Tryd.ntmps101
 go_wp2_with fail
 go_loopw [9, 3] (fun i last wr => ∃ (k : Nat) (x : Int), k ≤ n ∧ i = .int .i64 k ∧ last = .int .i64 x ∧ 0 ≤ x ∧ x ≤ 9999 ∧ upB 0 t.places = upB x (t.places.drop k) ∧ Below w.heap.size w wr)
  (fun i _ _ => n - (intOf i).toNat)
 case atStart => exact ⟨0, 0, by omega, rfl, rfl, by omega, by omega, by simp, (Below.refl _ _).alloc (Nat.le_refl _) _⟩
 case round =>
  obtain ⟨k, z, hk, rfl, rfl, hz0, hz1, hu, hb⟩ := hrel
  have HU := Lib.hid hu
  clear hu
  by_cases hlt : k < n
  ·obtain ⟨b, off, x, rfl, hbB, hx, hc⟩ := (ht.places.below hb).cell hlt
   have HX := Lib.hid hx
   clear hx
   go_wp2_with fail
   refine (in1_any _ _ x _ _ ?_ ?_).mono ?_
   ·simp
   ·simp [go_sem]
   rintro e w' ⟨rfl, hb'⟩
   have hb2 := below_one _ _ _ _ hb hb'
   cases hi : inB (z + 1) 9999 [x] with
   | true =>
    have HI := Lib.hid hi
    have hxz := inB_iff.1 hi
    clear hi
    go_wp2_with fail
    go_roundw
    case rel => exact ⟨k + 1, x, by omega, by go_num, rfl, by omega, by omega, by rw [HU.out, upB_drop HX.out, HI.out]; rfl, hb2⟩
    case measure => simp [intOf]; omega
   | false =>
    have HI := Lib.hid hi
    clear hi
    go_wp2_with fail
    go_ret
    exact ⟨ret_bool (by rw [HU.out, upB_drop HX.out, HI.out]; rfl), hb2⟩
  ·go_wp2_with fail
   go_ret
   exact ⟨ret_bool (by rw [HU.out, List.drop_eq_nil_of_le (by have := ht.places.len; omega)]; rfl), hb⟩

theorem linkB_false {t : Town} {last : Int} {x : Link} (h : inB (last + 1) 9999 [x.id] = false ∨ inB 0 500 [x.steps] = false ∨ inB 1 2000 [x.paces] = false ∨ x.fr = x.to ∨ hasB t [x.fr, x.to] = false) : linkB t last x = false := by
 unfold linkB
 rcases h with h | h | h | h | h <;> simp [h]
theorem linkB_true {t : Town} {last : Int} {x : Link} (h1 : inB (last + 1) 9999 [x.id] = true) (h2 : inB 0 500 [x.steps] = true) (h3 : inB 1 2000 [x.paces] = true) (h4 : ¬ x.fr = x.to) (h5 : hasB t [x.fr, x.to] = true) : linkB t last x = true := by
 unfold linkB
 simp [h1, h2, h3, h4, h5]

set_option maxHeartbeats 2000000 in
theorem check3_any (A : Option Addr) (n c : Nat) (A' : Option Addr) (m d : Nat) (t : Town) (w : World) (hn : n ≤ maxLen) (hm : m ≤ maxLen) (ht : TownAt w w.heap.size A n A' m t) :
  Calls Tryd.prog 102 #[.agg #[.slice A n c, .slice A' m d]] w fun e w' => e = .returned (.bool (linksB t 0 t.links)) ∧ Below w.heap.size w w' := by
 unfold maxLen at hn hm
 go_enter Tryd.func102, Tryd.ntmps102
 go_wp2_with fail
 go_loopw [9, 3] (fun i last wr => ∃ (k : Nat) (x : Int), k ≤ m ∧ i = .int .i64 k ∧ last = .int .i64 x ∧ 0 ≤ x ∧ x ≤ 9999 ∧ linksB t 0 t.links = linksB t x (t.links.drop k) ∧ Blk wr w.heap.size 25 #[.slice A n c, .slice A' m d] ∧ Below w.heap.size w wr)
  (fun i _ _ => m - (intOf i).toNat)
 case atStart => exact ⟨0, 0, by omega, rfl, rfl, by omega, by omega, by simp, Blk.new _ _ _, (Below.refl _ _).alloc (Nat.le_refl _) _⟩
 case round =>
  obtain ⟨k, z, hk, rfl, rfl, hz0, hz1, hu, hT, hb⟩ := hrel
  have HU := Lib.hid hu
  clear hu
  have t0 : wr.cell? ⟨w.heap.size, 0, none⟩ = some (.slice A n c) := hT.cell 0
  have t1 : wr.cell? ⟨w.heap.size, 1, none⟩ = some (.slice A' m d) := hT.cell 1
  have hlr := hT.lt
  by_cases hlt : k < m
  ·obtain ⟨b, off, x, rfl, hbB, hx, hc0, hc1, hc2, hc3, hc4⟩ := (ht.links.below hb).cell hlt
   have HX := Lib.hid hx
   clear hx
   go_wp2_with fail
   refine (in1_any _ _ x.id _ _ ?_ ?_).mono ?_
   ·simp
   ·simp [go_sem]
   rintro e w1 ⟨rfl, hb1⟩
   have X1 : Blk w1 wr.heap.size 58 #[.int .i64 x.id, .int .i64 x.fr, .int .i64 x.to, .int .i64 x.steps, .int .i64 x.paces] := ((Blk.new wr _ _).alloc _).below hb1 (by simp; omega)
   have T1 : Blk w1 w.heap.size 25 #[.slice A n c, .slice (some ⟨b, off, none⟩) m d] := ((hT.alloc _).alloc _).below hb1 (by simp; omega)
   have B1 : Below w.heap.size w w1 := below_one _ _ _ _ (hb.alloc hb.size _) hb1
   clear hb1 t0 t1 hlr
   have x0 : w1.cell? ⟨wr.heap.size, 0, none⟩ = some (.int .i64 x.id) := X1.cell 0
   have x1 : w1.cell? ⟨wr.heap.size, 1, none⟩ = some (.int .i64 x.fr) := X1.cell 1
   have x2 : w1.cell? ⟨wr.heap.size, 2, none⟩ = some (.int .i64 x.to) := X1.cell 2
   have x3 : w1.cell? ⟨wr.heap.size, 3, none⟩ = some (.int .i64 x.steps) := X1.cell 3
   have x4 : w1.cell? ⟨wr.heap.size, 4, none⟩ = some (.int .i64 x.paces) := X1.cell 4
   have t0 : w1.cell? ⟨w.heap.size, 0, none⟩ = some (.slice A n c) := T1.cell 0
   have t1 : w1.cell? ⟨w.heap.size, 1, none⟩ = some (.slice (some ⟨b, off, none⟩) m d) := T1.cell 1
   have hlr := T1.lt
   have hlx := X1.lt
   cases hi1 : inB (z + 1) 9999 [x.id] with
   | false =>
    have HI1 := Lib.hid hi1
    clear hi1
    go_wp2_with fail
    go_ret
    exact ⟨ret_bool (by rw [HU.out, linksB_drop HX.out, linkB_false (.inl HI1.out)]; rfl), B1⟩
   | true =>
    have HI1 := Lib.hid hi1
    have hxz := inB_iff.1 hi1
    clear hi1
    go_wp2_with fail
    refine (in1_any _ _ x.steps _ _ ?_ ?_).mono ?_
    ·simp
    ·simp [go_sem]
    rintro e w2 ⟨rfl, hb2⟩
    have X2 := (X1.alloc (.cells #[.int .i64 x.steps] 3)).below hb2 (by have := X1.lt; simp; omega)
    have T2 := (T1.alloc (.cells #[.int .i64 x.steps] 3)).below hb2 (by have := T1.lt; simp; omega)
    have B2 := below_one _ _ _ _ B1 hb2
    clear hb2
    clear x0 x1 x2 x3 x4 t0 t1 hlr hlx
    have x0 : w2.cell? ⟨wr.heap.size, 0, none⟩ = some (.int .i64 x.id) := X2.cell 0
    have x1 : w2.cell? ⟨wr.heap.size, 1, none⟩ = some (.int .i64 x.fr) := X2.cell 1
    have x2 : w2.cell? ⟨wr.heap.size, 2, none⟩ = some (.int .i64 x.to) := X2.cell 2
    have x3 : w2.cell? ⟨wr.heap.size, 3, none⟩ = some (.int .i64 x.steps) := X2.cell 3
    have x4 : w2.cell? ⟨wr.heap.size, 4, none⟩ = some (.int .i64 x.paces) := X2.cell 4
    have t0 : w2.cell? ⟨w.heap.size, 0, none⟩ = some (.slice A n c) := T2.cell 0
    have t1 : w2.cell? ⟨w.heap.size, 1, none⟩ = some (.slice (some ⟨b, off, none⟩) m d) := T2.cell 1
    have hlr := T2.lt
    have hlx := X2.lt
    cases hi2 : inB 0 500 [x.steps] with
    | false =>
     have HI2 := Lib.hid hi2
     clear hi2
     go_wp2_with fail
     go_ret
     exact ⟨ret_bool (by rw [HU.out, linksB_drop HX.out, linkB_false (.inr (.inl HI2.out))]; rfl), B2⟩
    | true =>
     have HI2 := Lib.hid hi2
     clear hi2
     go_wp2_with fail
     refine (in1_any _ _ x.paces _ _ ?_ ?_).mono ?_
     ·simp
     ·simp [go_sem]
     rintro e w3 ⟨rfl, hb3⟩
     have X3 := (X2.alloc (.cells #[.int .i64 x.paces] 3)).below hb3 (by have := X2.lt; simp; omega)
     have T3 := (T2.alloc (.cells #[.int .i64 x.paces] 3)).below hb3 (by have := T2.lt; simp; omega)
     have B3 := below_one _ _ _ _ B2 hb3
     clear hb3
     clear x0 x1 x2 x3 x4 t0 t1 hlr hlx
     have x0 : w3.cell? ⟨wr.heap.size, 0, none⟩ = some (.int .i64 x.id) := X3.cell 0
     have x1 : w3.cell? ⟨wr.heap.size, 1, none⟩ = some (.int .i64 x.fr) := X3.cell 1
     have x2 : w3.cell? ⟨wr.heap.size, 2, none⟩ = some (.int .i64 x.to) := X3.cell 2
     have x3 : w3.cell? ⟨wr.heap.size, 3, none⟩ = some (.int .i64 x.steps) := X3.cell 3
     have x4 : w3.cell? ⟨wr.heap.size, 4, none⟩ = some (.int .i64 x.paces) := X3.cell 4
     have t0 : w3.cell? ⟨w.heap.size, 0, none⟩ = some (.slice A n c) := T3.cell 0
     have t1 : w3.cell? ⟨w.heap.size, 1, none⟩ = some (.slice (some ⟨b, off, none⟩) m d) := T3.cell 1
     have hlr := T3.lt
     have hlx := X3.lt
     cases hi3 : inB 1 2000 [x.paces] with
     | false =>
      have HI3 := Lib.hid hi3
      clear hi3
      go_wp2_with fail
      go_ret
      exact ⟨ret_bool (by rw [HU.out, linksB_drop HX.out, linkB_false (.inr (.inr (.inl HI3.out)))]; rfl), B3⟩
     | true =>
      have HI3 := Lib.hid hi3
      clear hi3
      by_cases he : x.fr = x.to
      ·have HE := Lib.hid he
       have he' : (x.fr == x.to) = true := by simpa using he
       clear he
       go_wp2_with fail
       go_ret
       exact ⟨ret_bool (by rw [HU.out, linksB_drop HX.out, linkB_false (.inr (.inr (.inr (.inl HE.out))))]; rfl), B3⟩
      ·have HE := Lib.hid he
       go_wp2_with fail
       refine (has_any A n c _ m d t _ 2 2 [x.fr, x.to] _ (by unfold maxLen; omega) (by decide) ?_ ?_).mono ?_
       ·have b3 := ht.below B3
        exact ((b3.more B3.size).below ((Below.refl _ _).alloc (Nat.le_refl _) _)).more (by rw [World.size_alloc]; omega)
       ·exact hasI2 _ _ _ _ (by simp) (by simp [go_sem]) (by simp [go_sem])
       rintro e w4 ⟨rfl, hb4⟩
       have X4 := (X3.alloc (.cells #[.int .i64 x.fr, .int .i64 x.to] 3)).below hb4 (by have := X3.lt; simp; omega)
       have T4 := (T3.alloc (.cells #[.int .i64 x.fr, .int .i64 x.to] 3)).below hb4 (by have := T3.lt; simp; omega)
       have B4 := below_one _ _ _ _ B3 hb4
       clear hb4
       clear x0 x1 x2 x3 x4 t0 t1 hlr hlx
       have x0 : w4.cell? ⟨wr.heap.size, 0, none⟩ = some (.int .i64 x.id) := X4.cell 0
       have x1 : w4.cell? ⟨wr.heap.size, 1, none⟩ = some (.int .i64 x.fr) := X4.cell 1
       have x2 : w4.cell? ⟨wr.heap.size, 2, none⟩ = some (.int .i64 x.to) := X4.cell 2
       have x3 : w4.cell? ⟨wr.heap.size, 3, none⟩ = some (.int .i64 x.steps) := X4.cell 3
       have x4 : w4.cell? ⟨wr.heap.size, 4, none⟩ = some (.int .i64 x.paces) := X4.cell 4
       have t0 : w4.cell? ⟨w.heap.size, 0, none⟩ = some (.slice A n c) := T4.cell 0
       have t1 : w4.cell? ⟨w.heap.size, 1, none⟩ = some (.slice (some ⟨b, off, none⟩) m d) := T4.cell 1
       have hlr := T4.lt
       have hlx := X4.lt
       cases hi4 : hasB t [x.fr, x.to] with
       | false =>
        have HI4 := Lib.hid hi4
        clear hi4
        go_wp2_with fail
        go_ret
        exact ⟨ret_bool (by rw [HU.out, linksB_drop HX.out, linkB_false (.inr (.inr (.inr (.inr HI4.out))))]; rfl), B4⟩
       | true =>
        have HI4 := Lib.hid hi4
        clear hi4
        go_wp2_with fail
        go_roundw
        case rel => exact ⟨k + 1, x.id, by omega, by go_num, rfl, by omega, by omega, by rw [HU.out, linksB_drop HX.out, linkB_true HI1.out HI2.out HI3.out HE.out HI4.out]; rfl, T4, B4⟩
        case measure => simp [intOf]; omega
  ·go_wp2_with fail
   go_ret
   exact ⟨ret_bool (by rw [HU.out, List.drop_eq_nil_of_le (by have := ht.links.len; omega)]; rfl), hb⟩
end Go.Proofs.YtjdgdeiedkickaaDoor
/- slices.IndexFunc at links. -/
namespace Go.Proofs.YtjdgdeiedkickaaDoor
open Go.RowKit

@[reducible] def linkW (x : Link) : Value := .agg #[.int .i64 x.id, .int .i64 x.fr, .int .i64 x.to, .int .i64 x.steps, .int .i64 x.paces]

/-- The first place at which something is so; -1 if there is none. -/
def idxL {α : Type} (p : α → Bool) (l : List α) : Int := if l.any p then (l.findIdx p : Int) else -1
theorem idxL_none {α : Type} {p : α → Bool} {l : List α} (h : ∀ y ∈ l, p y = false) : idxL p l = -1 := by
 unfold idxL
 rw [if_neg]
 simp only [List.any_eq_true, not_exists, not_and, Bool.not_eq_true]
 exact h
theorem idxL_some {α : Type} {p : α → Bool} {l : List α} {k : Nat} {x : α} (hx : l[k]? = some x) (hp : p x = true) (h : ∀ y ∈ l.take k, p y = false) : idxL p l = k := by
 obtain ⟨hk, rfl⟩ := List.getElem?_eq_some_iff.1 hx
 have hf : l.findIdx p = k := by
  rw [List.findIdx_eq hk]
  refine ⟨hp, fun j hj => ?_⟩
  have := h (l[j]'(by omega)) (by
   rw [List.mem_take_iff_getElem]
   exact ⟨j, by omega, rfl⟩)
  simp [this]
 unfold idxL
 rw [if_pos (List.any_eq_true.2 ⟨_, List.getElem_mem hk, hp⟩), hf]

/-- A predicate on links, as a function value: in all worlds in which the blocks below K lie as in w. -/
structure PredL (w : World) (K : Nat) (F : FuncId) (C : Array Value) (p : Link → Bool) : Prop where
 enters : ∀ args W, (callFunc F args).run Tryd.prog W = .ok (.enter F args) W
 calls : ∀ x W, Below K w W → Calls Tryd.prog F (#[.agg #[.int .i64 x.id, .int .i64 x.fr, .int .i64 x.to, .int .i64 x.steps, .int .i64 x.paces]] ++ C) W fun e w' => e = .returned (.bool (p x)) ∧ Below W.heap.size W w'
theorem PredL.below {w w' : World} {K : Nat} {F : FuncId} {C : Array Value} {p : Link → Bool} (h : PredL w K F C p) (hb : Below K w w') : PredL w' K F C p :=
 ⟨h.enters, fun x W hW => h.calls x W (hb.trans hW)⟩

end Go.Proofs.YtjdgdeiedkickaaDoor
/- Spans: climb.spanned, dry, slow. -/
namespace Go.Proofs.YtjdgdeiedkickaaDoor
open Go.RowKit

structure Span where
 lo : Int
 hi : Int
 deriving DecidableEq
def Span.vals (x : Span) : List Value := [.int .i64 x.lo, .int .i64 x.hi]
def SpansAt (w : World) (B : Nat) (A : Option Addr) (n : Nat) (l : List Span) : Prop := Reads w B 2 A n (l.flatMap Span.vals)
section
variable {w w' : World} {B B' n : Nat} {A : Option Addr} {l : List Span}
theorem SpansAt.len (h : SpansAt w B A n l) : l.length = n := by have := h.1; rw [flat_len' (size := 2) (fun _ => rfl)] at this; omega
theorem SpansAt.below (h : SpansAt w B A n l) (hb : Below B w w') : SpansAt w' B A n l := Reads.below h hb
theorem SpansAt.more (h : SpansAt w B A n l) (hB : B ≤ B') : SpansAt w B' A n l := Reads.more h hB
theorem SpansAt.cell (h : SpansAt w B A n l) {k : Nat} (hk : k < n) : ∃ b off x, A = some ⟨b, off, none⟩ ∧ b < B ∧ l[k]? = some x ∧
  w.cell? ⟨b, off + k * 2, none⟩ = some (.int .i64 x.lo) ∧ w.cell? ⟨b, off + k * 2 + 1, none⟩ = some (.int .i64 x.hi) := by
 have hl := h.len
 obtain ⟨b, off, e, hb, hc⟩ := Reads.plain h (by rw [flat_len' (size := 2) (fun _ => rfl)]; omega)
 have hx : l[k]? = some l[k] := List.getElem?_eq_getElem (by omega)
 refine ⟨b, off, _, e, hb, hx, ?_, ?_⟩
 ·have := hc (k * 2 + 0) (.int .i64 l[k].lo) (by rw [flat_at' (size := 2) (fun _ => rfl) hx (by omega)]; rfl); exact this
 ·have := hc (k * 2 + 1) (.int .i64 l[k].hi) (by rw [flat_at' (size := 2) (fun _ => rfl) hx (by omega)]; rfl); exact this
end

set_option maxRecDepth 100000 in
set_option maxHeartbeats 2000000 in
theorem indexFunc_span (F : FuncId) (C : Array Value) (p : Span → Bool) (A : Option Addr) (n c : Nat) (l : List Span) (w : World) (hr : SpansAt w w.heap.size A n l) (hn : n ≤ maxLen)
  (hE : ∀ args W, (callFunc F args).run Tryd.prog W = .ok (.enter F args) W)
  (hF : ∀ x, ∀ W, Below w.heap.size w W → Calls Tryd.prog F (#[.agg #[.int .i64 x.lo, .int .i64 x.hi]] ++ C) W fun e w' => e = .returned (.bool (p x)) ∧ Below W.heap.size W w') :
  Calls Tryd.prog 77 #[.slice A n c, .func (.func F) #[] C] w fun e w' => e = .returned (.int .i64 (idxL p l)) ∧ Below w.heap.size w w' := by
 unfold maxLen at hn
 have HF := Lib.hid hF
 clear hF
 go_enter Tryd.func77, Tryd.ntmps77
 go_wp2_with fail
 go_loopw [8, 5] (fun i j wr => ∃ k : Nat, k ≤ n ∧ i = .int .i64 k ∧ (∀ y ∈ l.take k, p y = false) ∧ Below w.heap.size w wr)
  (fun i _ _ => n - (intOf i).toNat)
 case atStart => exact ⟨0, by omega, rfl, by simp, Below.refl _ _⟩
 case round =>
  obtain ⟨k, hk, rfl, hno, hb⟩ := hrel
  have HN := Lib.hid hno
  clear hno
  by_cases hlt : k < n
  ·obtain ⟨b, off, x, rfl, hbB, hx, hc0, hc1⟩ := (hr.below hb).cell hlt
   have HX := Lib.hid hx
   clear hx
   go_wp2_with fail
   refine (HF.out x _ hb).mono ?_
   rintro e w' ⟨rfl, hb'⟩
   cases hp : p x with
   | true =>
    have HP := Lib.hid hp
    clear hp
    go_wp2_with fail
    go_ret
    exact ⟨ret_int (idxL_some HX.out HP.out HN.out).symm, hb.trans (hb'.mono hb.size)⟩
   | false =>
    have HP := Lib.hid hp
    clear hp
    go_wp2_with fail
    go_roundw
    case rel => exact ⟨k + 1, by omega, by go_num, take_snoc_all HX.out HP.out HN.out, hb.trans (hb'.mono hb.size)⟩
    case measure => simp [intOf]; omega
  ·go_wp2_with fail
   go_ret
   exact ⟨ret_int (idxL_none (by
    have := HN.out
    rwa [List.take_of_length_le (by have := hr.len; omega)] at this)).symm, hb⟩

theorem idxL_ge {α : Type} {p : α → Bool} {l : List α} : decide (0 ≤ idxL p l) = l.any p := by
 unfold idxL
 cases h : l.any p <;> simp

set_option maxHeartbeats 1000000 in
theorem containsFunc_span (F : FuncId) (C : Array Value) (p : Span → Bool) (A : Option Addr) (n c : Nat) (l : List Span) (w : World) (hr : SpansAt w w.heap.size A n l) (hn : n ≤ maxLen)
  (hE : ∀ args W, (callFunc F args).run Tryd.prog W = .ok (.enter F args) W)
  (hF : ∀ x, ∀ W, Below w.heap.size w W → Calls Tryd.prog F (#[.agg #[.int .i64 x.lo, .int .i64 x.hi]] ++ C) W fun e w' => e = .returned (.bool (p x)) ∧ Below W.heap.size W w') :
  Calls Tryd.prog 55 #[.slice A n c, .func (.func F) #[] C] w fun e w' => e = .returned (.bool (l.any p)) ∧ Below w.heap.size w w' := by
 have H := Lib.hid (indexFunc_span F C p A n c l w hr hn hE hF)
 clear hE hF
 go_enter Tryd.func55, Tryd.ntmps55
 go_wp2_with fail
 refine H.out.mono ?_
 rintro e w' ⟨rfl, hb⟩
 go_wp2_with fail
 go_ret
 exact ⟨ret_bool idxL_ge, hb⟩

/-- A span within a limit. -/
def spanB (most : Int) (x : Span) : Bool := inB 0 most [x.lo, x.hi] && decide (x.lo ≤ x.hi)

theorem two_ints {W : World} {g : Nat} {t : TypeId} {x y : Int} (h : Blk W g t #[.int .i64 x, .int .i64 y]) : IntsAt W W.heap.size (some ⟨g, 0, none⟩) 2 [x, y] :=
 ⟨rfl, fun _ => ⟨_, rfl, h.lt, fun j u hu => by
  match j, hu with
  | 0, hu => simp at hu; rw [← hu]; simpa [Addr.add] using h.cell 0
  | 1, hu => simp at hu; rw [← hu]; simpa [Addr.add] using h.cell 1⟩⟩

set_option maxRecDepth 100000 in
set_option maxHeartbeats 2000000 in
theorem spanned1_any (x : Span) (most : Int) (g : Nat) (w : World) (hg : g < w.heap.size) (hc : w.cell? ⟨g, 0, none⟩ = some (.int .i64 most)) :
  Calls Tryd.prog 56 (#[.agg #[.int .i64 x.lo, .int .i64 x.hi]] ++ #[.pointer (some ⟨g, 0, none⟩)]) w fun e w' => e = .returned (.bool (!spanB most x)) ∧ Below w.heap.size w w' := by
 go_enter Tryd.func56, Tryd.ntmps56
 go_wp2_with fail
 have X0 := (Blk.new w 27 #[.int .i64 x.lo, .int .i64 x.hi]).alloc (.cells #[.int .i64 x.lo, .int .i64 x.hi] 3)
 have Y0 := Blk.new (w.alloc (.cells #[.int .i64 x.lo, .int .i64 x.hi] 27)) 3 #[.int .i64 x.lo, .int .i64 x.hi]
 have B0 : Below w.heap.size w ((w.alloc (.cells #[.int .i64 x.lo, .int .i64 x.hi] 27)).alloc (.cells #[.int .i64 x.lo, .int .i64 x.hi] 3)) := ((Below.refl _ _).alloc (Nat.le_refl _) _).alloc (by simp) _
 rw [World.size_alloc] at Y0
 generalize ((w.alloc (.cells #[.int .i64 x.lo, .int .i64 x.hi] 27)).alloc (.cells #[.int .i64 x.lo, .int .i64 x.hi] 3)) = w0 at *
 refine (in_any 0 most _ 2 2 [x.lo, x.hi] w0 (two_ints Y0) (by decide)).mono ?_
 rintro e w1 ⟨rfl, hb1⟩
 have X1 := X0.below hb1 X0.lt
 have B1 := B0.trans (hb1.mono B0.size)
 have x0 := X1.cell 0
 have x1 := X1.cell 1
 clear X0 Y0 hb1 X1
 cases hi : inB 0 most [x.lo, x.hi] with
 | false =>
  have HI := Lib.hid hi
  clear hi
  go_wp2_with fail
  go_ret
  exact ⟨ret_bool (by unfold spanB; rw [HI.out]; rfl), B1⟩
 | true =>
  have HI := Lib.hid hi
  clear hi
  go_wp2_with fail
  go_ret
  refine ⟨ret_bool ?_, B1⟩
  unfold spanB
  rw [HI.out]
  by_cases h : x.lo ≤ x.hi
  ·simp [h]
  ·simp [h]; omega

def spansB (most : Int) (l : List Span) : Bool := !l.any fun x => !spanB most x
theorem enters_sp1 (args : Array Value) (W : World) : (callFunc 56 args).run Tryd.prog W = .ok (.enter 56 args) W := by
 simp [go_sem]

set_option maxRecDepth 100000 in
set_option maxHeartbeats 2000000 in
theorem spanned_any (most : Int) (A : Option Addr) (n c : Nat) (l : List Span) (w : World) (hr : SpansAt w w.heap.size A n l) (hn : n ≤ maxLen) :
  Calls Tryd.prog 37 #[.int .i64 most, .slice A n c] w fun e w' => e = .returned (.bool (spansB most l)) ∧ Below w.heap.size w w' := by
 have hmf : ∀ (fn : Fn) (first cap : Array Value) (w : World), (Instr.makeFunc fn first cap).run Tryd.prog w = .ok (.func fn first cap) w := fun _ _ _ _ => rfl
 go_enter Tryd.func37, Tryd.ntmps37
 go_wp2_with fail
 have hb : Below w.heap.size w (w.alloc (.cells #[.int .i64 most] 3)) := (Below.refl _ _).alloc (Nat.le_refl _) _
 refine (containsFunc_span 56 _ (fun x => !spanB most x) A n c l _ ((hr.below hb).more (by simp)) hn enters_sp1 ?_).mono ?_
 ·intro x W hW
  exact spanned1_any x most _ W (Nat.lt_of_lt_of_le (by simp) hW.size) ((hW.cell (p := ⟨w.heap.size, 0, none⟩) (by simp)).trans (by simp [go_sem]))
 ·rintro e w' ⟨rfl, hb'⟩
  go_wp2_with fail
  go_ret
  exact ⟨rfl, hb.trans (hb'.mono (by simp))⟩

structure Skin where
 drops : Int
 pace : Span
 step : Span
def skinB (s : Skin) : Bool := inB 0 100000 [s.drops] && spansB 50 [s.pace, s.step]
def dryE (s : Skin) : Int := if skinB s then 0 else 36
theorem two_spans {W : World} {g : Nat} {t : TypeId} {x y : Span} (h : Blk W g t #[.int .i64 x.lo, .int .i64 x.hi, .int .i64 y.lo, .int .i64 y.hi]) : SpansAt W W.heap.size (some ⟨g, 0, none⟩) 2 [x, y] :=
 ⟨rfl, fun _ => ⟨_, rfl, h.lt, fun j u hu => by
  match j, hu with
  | 0, hu => simp [Span.vals] at hu; rw [← hu]; simpa [Addr.add] using h.cell 0
  | 1, hu => simp [Span.vals] at hu; rw [← hu]; simpa [Addr.add] using h.cell 1
  | 2, hu => simp [Span.vals] at hu; rw [← hu]; simpa [Addr.add] using h.cell 2
  | 3, hu => simp [Span.vals] at hu; rw [← hu]; simpa [Addr.add] using h.cell 3⟩⟩

set_option maxRecDepth 100000 in
set_option maxHeartbeats 2000000 in
theorem dry_any (s : Skin) (w : World) :
  Calls Tryd.prog 20 #[.agg #[.int .i64 s.drops, .int .i64 s.pace.lo, .int .i64 s.pace.hi, .int .i64 s.step.lo, .int .i64 s.step.hi]] w fun e w' => e = .returned (.int .i64 (dryE s)) ∧ Below w.heap.size w w' := by
 go_enter Tryd.func20, Tryd.ntmps20
 go_wp2_with fail
 have X0 := (Blk.new w 29 #[.int .i64 s.drops, .int .i64 s.pace.lo, .int .i64 s.pace.hi, .int .i64 s.step.lo, .int .i64 s.step.hi]).alloc (.cells #[.int .i64 s.drops] 3)
 have B0 : Below w.heap.size w ((w.alloc (.cells #[.int .i64 s.drops, .int .i64 s.pace.lo, .int .i64 s.pace.hi, .int .i64 s.step.lo, .int .i64 s.step.hi] 29)).alloc (.cells #[.int .i64 s.drops] 3)) := ((Below.refl _ _).alloc (Nat.le_refl _) _).alloc (by simp) _
 refine (in1_any 0 100000 s.drops _ _ (by simp) (by simp [go_sem])).mono ?_
 rintro e w1 ⟨rfl, hb1⟩
 have X1 := X0.below hb1 X0.lt
 have B1 := B0.trans (hb1.mono B0.size)
 have x1 := X1.cell 1
 have x2 := X1.cell 2
 have x3 := X1.cell 3
 have x4 := X1.cell 4
 clear X0 hb1 B0 X1
 cases hi : inB 0 100000 [s.drops] with
 | false =>
  have HI := Lib.hid hi
  clear hi
  go_wp2_with fail
  go_ret
  exact ⟨ret_int (by unfold dryE skinB; rw [HI.out]; rfl), B1⟩
 | true =>
  have HI := Lib.hid hi
  clear hi
  go_wp2_with fail
  have Y1 := Blk.new w1 27 #[.int .i64 s.pace.lo, .int .i64 s.pace.hi, .int .i64 s.step.lo, .int .i64 s.step.hi]
  refine (spanned_any 50 _ 2 2 [s.pace, s.step] _ (two_spans Y1) (by decide)).mono ?_
  rintro e w2 ⟨rfl, hb2⟩
  have B2 := (B1.alloc B1.size (.cells #[.int .i64 s.pace.lo, .int .i64 s.pace.hi, .int .i64 s.step.lo, .int .i64 s.step.hi] 27)).trans (hb2.mono (by simp; have := B1.size; omega))
  clear Y1 hb2 x1 x2 x3 x4
  cases hj : spansB 50 [s.pace, s.step] with
  | false =>
   have HJ := Lib.hid hj
   clear hj
   go_wp2_with fail
   go_ret
   exact ⟨ret_int (by unfold dryE skinB; rw [HI.out, HJ.out]; rfl), B2⟩
  | true =>
   have HJ := Lib.hid hj
   clear hj
   go_wp2_with fail
   go_ret
   exact ⟨ret_int (by unfold dryE skinB; rw [HI.out, HJ.out]; rfl), B2⟩
end Go.Proofs.YtjdgdeiedkickaaDoor
/- Check and asked. -/
namespace Go.Proofs.YtjdgdeiedkickaaDoor
open Go.RowKit

/-- The variable climb.checks holds its three functions. -/
def Laid (w : World) : Prop := w.cell? ⟨0, 0, none⟩ = some (.func (.func 100) #[] #[]) ∧ w.cell? ⟨0, 1, none⟩ = some (.func (.func 101) #[] #[]) ∧ w.cell? ⟨0, 2, none⟩ = some (.func (.func 102) #[] #[]) ∧ 0 < w.heap.size
theorem Laid.below {w w' : World} (h : Laid w) {B : Nat} (hb : Below B w w') (hB : 0 < B) : Laid w' := by
 obtain ⟨h0, h1, h2, h3⟩ := h
 exact ⟨(hb.cell (p := ⟨0, 0, none⟩) hB).trans h0, (hb.cell (p := ⟨0, 1, none⟩) hB).trans h1, (hb.cell (p := ⟨0, 2, none⟩) hB).trans h2, Nat.lt_of_lt_of_le h3 hb.size⟩

theorem TownAt.up {w wr : World} {A A' : Option Addr} {n m : Nat} {t : Town} (ht : TownAt w w.heap.size A n A' m t) (hb : Below w.heap.size w wr) (o : Obj) : TownAt (wr.alloc o) (wr.alloc o).heap.size A n A' m t :=
 (((ht.below hb).more hb.size).below ((Below.refl _ _).alloc (Nat.le_refl _) _)).more (by rw [World.size_alloc]; omega)

theorem arr0_run (w : World) : (Instr.index 131 (.agg #[.func (.func 100) #[] #[], .func (.func 101) #[] #[], .func (.func 102) #[] #[]]) (.int .i64 0)).run Tryd.prog w = .ok (.agg #[.func (.func 100) #[] #[]]) w := by
 kernel_rfl
theorem arr1_run (w : World) : (Instr.index 131 (.agg #[.func (.func 100) #[] #[], .func (.func 101) #[] #[], .func (.func 102) #[] #[]]) (.int .i64 1)).run Tryd.prog w = .ok (.agg #[.func (.func 101) #[] #[]]) w := by
 kernel_rfl
theorem arr2_run (w : World) : (Instr.index 131 (.agg #[.func (.func 100) #[] #[], .func (.func 101) #[] #[], .func (.func 102) #[] #[]]) (.int .i64 2)).run Tryd.prog w = .ok (.agg #[.func (.func 102) #[] #[]]) w := by
 kernel_rfl

/-- Check's answer. -/
def chk (t : Town) : Int := if townB t then 0 else 30

set_option maxRecDepth 100000 in
set_option maxHeartbeats 1000000 in
theorem check_any (A : Option Addr) (n c : Nat) (A' : Option Addr) (m d : Nat) (t : Town) (w : World) (hn : n ≤ maxLen) (hm : m ≤ maxLen) (ht : TownAt w w.heap.size A n A' m t) (hL : Laid w) :
  Calls Tryd.prog 34 #[.agg #[.slice A n c, .slice A' m d]] w fun e w' => e = .returned (.int .i64 (chk t)) ∧ Below w.heap.size w w' := by
 obtain ⟨g0, g1, g2, hsz⟩ := hL
 have a0 := arr0_run
 have a1 := arr1_run
 have a2 := arr2_run
 go_enter Tryd.func34, Tryd.ntmps34
 go_wp2_with fail
 go_loopw [6] (fun i wr => ∃ k : Nat, k ≤ 3 ∧ i = .int .i64 k ∧ ((0 < k → sizeB t = true) ∧ (1 < k → upB 0 t.places = true) ∧ (2 < k → linksB t 0 t.links = true)) ∧ Blk wr w.heap.size 25 #[.slice A n c, .slice A' m d] ∧ Below w.heap.size w wr)
  (fun i _ => 3 - (intOf i).toNat)
 case atStart => exact ⟨0, by omega, rfl, ⟨fun h => absurd h (by omega), fun h => absurd h (by omega), fun h => absurd h (by omega)⟩, Blk.new _ _ _, (Below.refl _ _).alloc (Nat.le_refl _) _⟩
 case round =>
  obtain ⟨k, hk, rfl, hp, hT, hb⟩ := hrel
  have t0 : wr.cell? ⟨w.heap.size, 0, none⟩ = some (.slice A n c) := hT.cell 0
  have t1 : wr.cell? ⟨w.heap.size, 1, none⟩ = some (.slice A' m d) := hT.cell 1
  have hlr := hT.lt
  have HP := Lib.hid hp
  clear hp
  have hk' : k = 0 ∨ k = 1 ∨ k = 2 ∨ k = 3 := by omega
  rcases hk' with rfl | rfl | rfl | rfl
  ·go_wp2_with fail
   refine (check1_any A n c A' m d t _ hn hm (ht.up hb _)).mono ?_
   rintro e w1 ⟨rfl, hb1⟩
   have B1 := below_one _ _ _ _ hb hb1
   have T1 := (hT.alloc (.cells #[.func (.func 100) #[] #[]] 130)).below hb1 (by rw [World.size_alloc]; omega)
   cases hi : sizeB t with
   | true =>
    have HI := Lib.hid hi
    clear hi
    go_wp2_with fail
    go_roundw
    case rel => exact ⟨1, by omega, by go_num, ⟨fun _ => HI.out, fun h => absurd h (by omega), fun h => absurd h (by omega)⟩, T1, B1⟩
    case measure => simp [intOf]
   | false =>
    have HI := Lib.hid hi
    clear hi
    go_wp2_with fail
    go_ret
    exact ⟨ret_int (by unfold chk townB; rw [HI.out]; simp), B1⟩
  ·go_wp2_with fail
   refine (check2_any A n c A' m d t _ hn (ht.up hb _)).mono ?_
   rintro e w1 ⟨rfl, hb1⟩
   have B1 := below_one _ _ _ _ hb hb1
   have T1 := (hT.alloc (.cells #[.func (.func 101) #[] #[]] 130)).below hb1 (by rw [World.size_alloc]; omega)
   cases hi : upB 0 t.places with
   | true =>
    have HI := Lib.hid hi
    clear hi
    go_wp2_with fail
    go_roundw
    case rel => exact ⟨2, by omega, by go_num, ⟨fun _ => HP.out.1 (by omega), fun _ => HI.out, fun h => absurd h (by omega)⟩, T1, B1⟩
    case measure => simp [intOf]
   | false =>
    have HI := Lib.hid hi
    clear hi
    go_wp2_with fail
    go_ret
    exact ⟨ret_int (by unfold chk townB; rw [HI.out]; simp), B1⟩
  ·go_wp2_with fail
   refine (check3_any A n c A' m d t _ hn hm (ht.up hb _)).mono ?_
   rintro e w1 ⟨rfl, hb1⟩
   have B1 := below_one _ _ _ _ hb hb1
   have T1 := (hT.alloc (.cells #[.func (.func 102) #[] #[]] 130)).below hb1 (by rw [World.size_alloc]; omega)
   cases hi : linksB t 0 t.links with
   | true =>
    have HI := Lib.hid hi
    clear hi
    go_wp2_with fail
    go_roundw
    case rel => exact ⟨3, by omega, by go_num, ⟨fun _ => HP.out.1 (by omega), fun _ => HP.out.2.1 (by omega), fun _ => HI.out⟩, T1, B1⟩
    case measure => simp [intOf]
   | false =>
    have HI := Lib.hid hi
    clear hi
    go_wp2_with fail
    go_ret
    exact ⟨ret_int (by unfold chk townB; rw [HI.out]; simp), B1⟩
  ·go_wp2_with fail
   go_ret
   exact ⟨ret_int (by unfold chk townB; rw [HP.out.1 (by omega), HP.out.2.1 (by omega), HP.out.2.2 (by omega)]; simp), hb⟩
end Go.Proofs.YtjdgdeiedkickaaDoor
/- climb.asked; cmp.Or at errors. -/
namespace Go.Proofs.YtjdgdeiedkickaaDoor
open Go.RowKit

/-- The error of a town, and of places. -/
def askE (t : Town) (l : List Int) : Int := if townB t then (if hasB t l then 0 else 31) else 30

set_option maxRecDepth 100000 in
set_option maxHeartbeats 2000000 in
theorem asked_any (A : Option Addr) (n c : Nat) (A' : Option Addr) (m d : Nat) (t : Town) (A2 : Option Addr) (k e : Nat) (l : List Int) (w : World) (hn : n ≤ maxLen) (hm : m ≤ maxLen) (hk : k ≤ maxLen) (ht : TownAt w w.heap.size A n A' m t) (hr : IntsAt w w.heap.size A2 k l) (hL : Laid w) :
  Calls Tryd.prog 19 #[.agg #[.slice A n c, .slice A' m d], .slice A2 k e] w fun e w' => e = .returned (.int .i64 (askE t l)) ∧ Below w.heap.size w w' := by
 have HT := Lib.hid ht
 have HR := Lib.hid hr
 have HL := Lib.hid hL
 clear ht hr hL
 go_enter Tryd.func19, Tryd.ntmps19
 go_wp2_with fail
 have X0 := Blk.new w 25 #[.slice A n c, .slice A' m d]
 have B0 : Below w.heap.size w (w.alloc (.cells #[.slice A n c, .slice A' m d] 25)) := (Below.refl _ _).alloc (Nat.le_refl _) _
 generalize (w.alloc (.cells #[.slice A n c, .slice A' m d] 25)) = w0 at *
 have hl0 := HL.out.2.2.2
 refine (check_any A n c A' m d t w0 hn hm ((HT.out.below B0).more B0.size) (HL.out.below B0 hl0)).mono ?_
 rintro e w1 ⟨rfl, hb1⟩
 have X1 := X0.below hb1 X0.lt
 have B1 := B0.trans (hb1.mono B0.size)
 have x0 := X1.cell 0
 have x1 := X1.cell 1
 clear X0 B0 hb1 X1
 unfold chk
 cases ht : townB t with
 | false =>
  have HTB := Lib.hid ht
  clear ht
  go_wp2_with fail
  go_ret
  exact ⟨ret_int (by unfold askE; rw [HTB.out]; rfl), B1⟩
 | true =>
  have HTB := Lib.hid ht
  clear ht
  go_wp2_with fail
  refine (has_any A n c A' m d t A2 k e l w1 hn hk ((HT.out.below B1).more B1.size) ((HR.out.below B1).more B1.size)).mono ?_
  rintro e w2 ⟨rfl, hb2⟩
  have B2 := B1.trans (hb2.mono B1.size)
  cases hh : hasB t l with
  | false =>
   have HH := Lib.hid hh
   clear hh
   go_wp2_with fail
   go_ret
   exact ⟨ret_int (by unfold askE; rw [HTB.out, HH.out]; rfl), B2⟩
  | true =>
   have HH := Lib.hid hh
   clear hh
   go_wp2_with fail
   go_ret
   exact ⟨ret_int (by unfold askE; rw [HTB.out, HH.out]; rfl), B2⟩

/-- The first that is no zero. -/
def or2 (a b : Int) : Int := if a = 0 then b else a
set_option maxRecDepth 100000 in
set_option maxHeartbeats 2000000 in
theorem or_any (a b : Int) (g : Nat) (w : World) (hg : Blk w g 36 #[.int .i64 a, .int .i64 b]) :
  Calls Tryd.prog 18 #[.slice (some ⟨g, 0, none⟩) 2 2] w fun e w' => e = .returned (.int .i64 (or2 a b)) ∧ w' = w := by
 have c0 := hg.cell 0
 have c1 := hg.cell 1
 have hlt := hg.lt
 clear hg
 go_enter Tryd.func18, Tryd.ntmps18
 go_wp2_with fail
 go_loop [8, 5] (fun i x => ∃ k : Nat, k ≤ 2 ∧ i = .int .i64 k ∧ Hid ((0 < k → a = 0) ∧ (1 < k → b = 0))) (fun i _ => 2 - (intOf i).toNat)
 case atStart => exact ⟨0, by omega, rfl, Lib.hid ⟨fun h => absurd h (by omega), fun h => absurd h (by omega)⟩⟩
 case round =>
  obtain ⟨k, hk, rfl, HP⟩ := hrel
  have hk' : k = 0 ∨ k = 1 ∨ k = 2 := by omega
  rcases hk' with rfl | rfl | rfl
  ·by_cases ha : a = 0
   ·have ha' : (a == 0) = true := by simpa using ha
    have ha2 : (a != 0) = false := by simpa using ha
    have HA := Lib.hid ha
    clear ha
    go_wp2_with fail
    go_round
    case rel => exact ⟨1, by omega, by go_num, Lib.hid ⟨fun _ => HA.out, fun h => absurd h (by omega)⟩⟩
    case measure => simp [intOf]
   ·have ha' : (a == 0) = false := by simpa using ha
    have ha2 : (a != 0) = true := by simpa using ha
    have HA := Lib.hid ha
    clear ha
    go_wp2_with fail
    go_ret
    exact ⟨ret_int (by unfold or2; rw [if_neg HA.out]), rfl⟩
  ·by_cases hb : b = 0
   ·have hb' : (b == 0) = true := by simpa using hb
    have hb2 : (b != 0) = false := by simpa using hb
    have HB := Lib.hid hb
    clear hb
    go_wp2_with fail
    go_round
    case rel => exact ⟨2, by omega, by go_num, Lib.hid ⟨fun _ => HP.out.1 (by omega), fun _ => HB.out⟩⟩
    case measure => simp [intOf]
   ·have hb' : (b == 0) = false := by simpa using hb
    have hb2 : (b != 0) = true := by simpa using hb
    have HB := Lib.hid hb
    clear hb
    go_wp2_with fail
    go_ret
    exact ⟨ret_int (by unfold or2; rw [if_pos (HP.out.1 (by omega))]), rfl⟩
  ·go_wp2_with fail
   go_ret
   exact ⟨ret_int (by unfold or2; rw [if_pos (HP.out.1 (by omega)), HP.out.2 (by omega)]), rfl⟩
end Go.Proofs.YtjdgdeiedkickaaDoor
/- Walks: how they lie; climb.before. -/
namespace Go.Proofs.YtjdgdeiedkickaaDoor
open Go.RowKit

/-- A walk, and where its links lie. -/
structure Wk where
 to : Int
 cost : Cost
 links : List Int
 A : Option Addr
 n : Nat
 cap : Nat

def Cost.vals (c : Cost) : List Value := [.int .i64 c.a, .int .i64 c.b, .int .i64 c.c, .int .i64 c.d]
@[reducible] def Wk.val (x : Wk) : Value := .agg #[.int .i64 x.to, .int .i64 x.cost.a, .int .i64 x.cost.b, .int .i64 x.cost.c, .int .i64 x.cost.d, .slice x.A x.n x.cap]
def Wk.at_ (w : World) (B : Nat) (x : Wk) : Prop := IntsAt w B x.A x.n x.links

def eqC (x y : Cost) : Bool := x.a == y.a && x.b == y.b && x.c == y.c && x.d == y.d
def cmpC (x y : Cost) : Int := cmpL x.list y.list
def cmpW (x : Cost) (l : List Int) (y : Cost) (m : List Int) : Int := if eqC x y then cmpL l m else cmpC x y

end Go.Proofs.YtjdgdeiedkickaaDoor
/- Short walks, the first walk by trial of all, costs by repetition: plain Lean. -/
namespace Go.Proofs.YtjdgdeiedkickaaDoor

/-- A walk that comes to no place twice. -/
inductive SW (t : Town) (dk : Bool) (p : Price) : Int → Int → Cost → List Int → List Int → Prop
 | nil (v : Int) : SW t dk p v v zeroC [] [v]
 | cons {u m v : Int} {x : Link} {c d : Cost} {l vs : List Int} (hx : x ∈ t.links) (hl : leads dk p x u = some (m, c)) (h : SW t dk p m v d l vs) (hu : u ∉ vs) : SW t dk p u v (addC c d) (x.id :: l) (u :: vs)

theorem nodup_le : ∀ {a b : List Int}, a.Nodup → (∀ x ∈ a, x ∈ b) → a.length ≤ b.length
 | [], _, _, _ => by simp
 | x :: a, b, h, hs => by
  rw [List.nodup_cons] at h
  have hb : x ∈ b := hs x (by simp)
  have := nodup_le (a := a) (b := b.erase x) h.2 (fun y hy => (List.mem_erase_of_ne (fun e => h.1 (by rw [← e]; exact hy))).2 (hs y (by simp [hy])))
  rw [List.length_erase_of_mem hb] at this
  have hp : 0 < b.length := List.length_pos_of_mem hb
  simp; omega

section
variable {t : Town} {dk : Bool} {p : Price} {u v m : Int} {c d : Cost} {l k vs : List Int} {x : Link}
theorem SW.walk (h : SW t dk p u v c l vs) : Walk t dk p u v c l := by
 induction h with
 | nil v => exact .nil v
 | cons hx hl _ _ ih => exact .cons hx hl ih
theorem SW.facts (h : SW t dk p u v c l vs) (ht : Fine t) : vs.Nodup ∧ vs.length = l.length + 1 ∧ (l = [] ∨ ∀ w ∈ vs, w ∈ t.places) ∧ (l = [] → vs = [v] ∧ u = v) := by
 induction h with
 | nil v => simp
 | @cons u m v x c d l vs hx hl h hu ih =>
  obtain ⟨i1, i2, i3, i4⟩ := ih
  have he := leads_ends hx ht hl
  refine ⟨List.nodup_cons.2 ⟨hu, i1⟩, by simp [i2], .inr fun w hw => ?_, by simp⟩
  rcases List.mem_cons.1 hw with rfl | hw
  ·exact he.1
  ·rcases i3 with rfl | i3
   ·obtain ⟨rfl, rfl⟩ := i4 rfl
    simp at hw; subst hw; exact he.2
   ·exact i3 w hw
theorem SW.short (h : SW t dk p u v c l vs) (ht : Fine t) : l = [] ∨ l.length < t.places.length := by
 obtain ⟨i1, i2, i3, _⟩ := h.facts ht
 rcases i3 with h3 | h3
 ·exact .inl h3
 ·have := nodup_le i1 h3
  exact .inr (by omega)
theorem grow_cons (ht : Fine t) (hp : Fair p) (hx : x ∈ t.links) (hl : leads dk p x u = some (m, c)) (d : Cost) (l : List Int) : cmpL (key d l) (key (addC c d) (x.id :: l)) < 0 := by
 have := leads_cost hx ht hp hl
 rw [addC_comm]
 exact key_grow _ _ _ _ (by omega) (by omega) (by omega)
theorem SW.suffix (h : SW t dk p u v c l vs) (ht : Fine t) (hp : Fair p) {w : Int} (hw : w ∈ vs) : ∃ c' l' vs', SW t dk p w v c' l' vs' ∧ cmpL (key c' l') (key c l) ≤ 0 := by
 induction h with
 | nil v => simp at hw; subst hw; exact ⟨_, _, _, .nil w, by rw [cmpL_refl]; omega⟩
 | @cons u m v x c d l vs hx hl h hu ih =>
  rcases List.mem_cons.1 hw with rfl | hw
  ·exact ⟨_, _, _, .cons hx hl h hu, by rw [cmpL_refl]; omega⟩
  ·obtain ⟨c', l', vs', h1, h2⟩ := ih hw
   have := cmpL_le_lt h2 (grow_cons ht hp hx hl d l)
   exact ⟨c', l', vs', h1, by omega⟩
theorem Walk.simple (h : Walk t dk p u v c l) (ht : Fine t) (hp : Fair p) : ∃ c' l' vs', SW t dk p u v c' l' vs' ∧ cmpL (key c' l') (key c l) ≤ 0 := by
 induction h with
 | nil v => exact ⟨_, _, _, .nil v, by rw [cmpL_refl]; omega⟩
 | @cons u m v x c d l hx hl h ih =>
  obtain ⟨c', l', vs', h1, h2⟩ := ih
  by_cases hu : u ∈ vs'
  ·obtain ⟨c2, l2, vs2, h3, h4⟩ := h1.suffix ht hp hu
   have := cmpL_le_lt (cmpL_trans h4 h2) (grow_cons ht hp hx hl d l)
   exact ⟨c2, l2, vs2, h3, by omega⟩
  ·exact ⟨_, _, _, .cons hx hl h1 hu, by rw [key_cons]; exact h2⟩
theorem Walk.short (h : Walk t dk p u v c l) (ht : Fine t) (hp : Fair p) : ∃ c' l', Walk t dk p u v c' l' ∧ cmpL (key c' l') (key c l) ≤ 0 ∧ (l' = [] ∨ l'.length < t.places.length) := by
 obtain ⟨c', l', vs', h1, h2⟩ := h.simple ht hp
 exact ⟨c', l', h1.walk, h2, h1.short ht⟩
theorem First.short (h : First t dk p u v (some (c, l))) (ht : Fine t) (hp : Fair p) : l.length ≤ 8 := by
 obtain ⟨c', l', h1, h2, h3⟩ := h.1.short ht hp
 have := cmpL_antisymm (h.2 _ _ h1) h2
 obtain ⟨rfl, rfl⟩ := key_inj this
 have := ht.size
 rcases h3 with rfl | h3
 ·simp
 ·omega
end

section
variable {t : Town} {dk : Bool} {p : Price} {u v m : Int} {c d : Cost} {l k vs : List Int} {x : Link}
end

/-- An entry is no more than a cost. -/
def leE (E : List (Option Cost)) (i : Nat) (c : Cost) : Prop := ∃ e, E[i]? = some (some e) ∧ cmpL e.list c.list ≤ 0
/-- Costs at work: k rounds are done, of this one the places up to i, and of i's the links up to j. -/
structure BSt (t : Town) (dk : Bool) (p : Price) (to : Int) (k i j M : Nat) (E : List (Option Cost)) : Prop where
 len : E.length = t.places.length
 sound : ∀ (i : Nat) v c, t.places[i]? = some v → E[i]? = some (some c) → ∃ l, Walk t dk p v to c l ∧ l.length ≤ M
 home : ∀ i : Nat, t.places[i]? = some to → leE E i zeroC
 opt : ∀ (i : Nat) v c l, t.places[i]? = some v → Walk t dk p v to c l → l.length ≤ k → leE E i c
 done : ∀ i' : Nat, i' < i → ∀ v c l, t.places[i']? = some v → Walk t dk p v to c l → l.length ≤ k + 1 → leE E i' c
 now : ∀ v, t.places[i]? = some v → ∀ x ∈ t.links.take j, ∀ n cx, leads dk p x v = some (n, cx) → ∀ c l, Walk t dk p n to c l → l.length ≤ k → leE E i (addC cx c)
/-- Nothing can be bettered, up to i and j. -/
def Stable (t : Town) (dk : Bool) (p : Price) (E : List (Option Cost)) (i j : Nat) : Prop :=
 ∀ (i' : Nat) v, t.places[i']? = some v → ∀ (j' : Nat) x, t.links[j']? = some x → (i' < i ∨ (i' = i ∧ j' < j)) → ∀ n cx, leads dk p x v = some (n, cx) → ∀ (i2 : Nat) d, t.places[i2]? = some n → E[i2]? = some (some d) → leE E i' (addC cx d)
/-- The least costs. -/
def Costs (t : Town) (dk : Bool) (p : Price) (to : Int) (E : List (Option Cost)) : Prop :=
 E.length = t.places.length ∧ ∀ (i : Nat) v, t.places[i]? = some v → ∀ r, E[i]? = some r → match r with
  | none => ∀ c l, ¬ Walk t dk p v to c l
  | some c => (∃ l, Walk t dk p v to c l) ∧ ∀ c' l', Walk t dk p v to c' l' → cmpL c.list c'.list ≤ 0

theorem leE_set {E : List (Option Cost)} {i i' : Nat} {c d : Cost} (h : leE E i' c) (hd : ∀ e, E[i]? = some (some e) → cmpL d.list e.list ≤ 0) (hi : i < E.length) : leE (E.set i (some d)) i' c := by
 obtain ⟨e, h1, h2⟩ := h
 by_cases hii : i = i'
 ·subst hii
  exact ⟨d, by rw [List.getElem?_set_self hi], cmpL_trans (hd e h1) h2⟩
 ·exact ⟨e, by rw [List.getElem?_set_ne hii]; exact h1, h2⟩
theorem leE_of_same {E : List (Option Cost)} {i : Nat} {c d : Cost} (h : leE E i c) (hd : cmpL c.list d.list ≤ 0) : leE E i d := by
 obtain ⟨e, h1, h2⟩ := h
 exact ⟨e, h1, cmpL_trans h2 hd⟩
section
variable {t : Town} {dk : Bool} {p : Price} {to v n : Int} {k i j M : Nat} {E : List (Option Cost)} {x : Link} {cx : Cost}
theorem BSt.more (h : BSt t dk p to k i j M E) (hM : M ≤ M + 1) : BSt t dk p to k i j (M + 1) E :=
 ⟨h.len, fun i v c h1 h2 => by obtain ⟨l, h3, h4⟩ := h.sound i v c h1 h2; exact ⟨l, h3, by omega⟩, h.home, h.opt, h.done, h.now⟩
/-- This link betters nothing. -/
theorem BSt.skip (h : BSt t dk p to k i j M E) (hx : t.links[j]? = some x) (hv : t.places[i]? = some v)
  (hno : ∀ n cx, leads dk p x v = some (n, cx) → ∀ (i2 : Nat) d, t.places[i2]? = some n → E[i2]? = some (some d) → leE E i (addC cx d)) (ht : Fine t) : BSt t dk p to k i (j + 1) M E := by
 refine ⟨h.len, h.sound, h.home, h.opt, h.done, ?_⟩
 intro v' hv' y hy n cx hl c l hw hlen
 rw [hv] at hv'
 cases hv'
 obtain ⟨hj, rfl⟩ := List.getElem?_eq_some_iff.1 hx
 rw [List.take_succ_eq_append_getElem hj, List.mem_append] at hy
 rcases hy with hy | hy
 ·exact h.now v hv y hy n cx hl c l hw hlen
 ·simp at hy
  subst hy
  have hn := (leads_ends (List.getElem_mem hj) ht hl).2
  obtain ⟨i2, h2⟩ := List.getElem?_of_mem hn
  obtain ⟨d, h3, h4⟩ := h.opt i2 n c l h2 hw hlen
  exact leE_of_same (hno n cx hl i2 d h2 h3) (by rw [cmpC_add']; exact h4)
/-- This link betters i's entry. -/
theorem BSt.take (h : BSt t dk p to k i j M E) (hx : t.links[j]? = some x) (hv : t.places[i]? = some v) (hl : leads dk p x v = some (n, cx)) {i2 : Nat} {d : Cost} (h2 : t.places[i2]? = some n) (h3 : E[i2]? = some (some d))
  (hbe : ∀ e, E[i]? = some (some e) → cmpL (addC cx d).list e.list ≤ 0) (hnd : t.places.Nodup) : BSt t dk p to k i (j + 1) (M + 1) (E.set i (some (addC cx d))) := by
 have hi : i < E.length := by
  rw [h.len]
  exact (List.getElem?_eq_some_iff.1 hv).1
 have up : ∀ {i' c}, leE E i' c → leE (E.set i (some (addC cx d))) i' c := fun h1 => leE_set h1 hbe hi
 refine ⟨by simpa using h.len, ?_, fun i' h1 => up (h.home i' h1), fun i' v c l h1 h4 h5 => up (h.opt i' v c l h1 h4 h5), fun i' hi' v c l h1 h4 h5 => up (h.done i' hi' v c l h1 h4 h5), ?_⟩
 ·intro i' v' c h1 h4
  by_cases hii : i = i'
  ·subst hii
   rw [List.getElem?_set_self hi] at h4
   cases h4
   rw [hv] at h1
   cases h1
   obtain ⟨l, h5, h6⟩ := h.sound i2 n d h2 h3
   exact ⟨x.id :: l, .cons (List.mem_of_getElem? hx) hl h5, by simp; exact h6⟩
  ·rw [List.getElem?_set_ne hii] at h4
   obtain ⟨l, h5, h6⟩ := h.sound i' v' c h1 h4
   exact ⟨l, h5, by omega⟩
 ·intro v' hv' y hy n' cx' hl' c l hw hlen
  rw [hv] at hv'
  cases hv'
  obtain ⟨hj, rfl⟩ := List.getElem?_eq_some_iff.1 hx
  rw [List.take_succ_eq_append_getElem hj, List.mem_append] at hy
  rcases hy with hy | hy
  ·exact up (h.now v hv y hy n' cx' hl' c l hw hlen)
  ·simp at hy
   subst hy
   rw [hl] at hl'
   cases hl'
   refine ⟨addC cx d, by rw [List.getElem?_set_self hi], ?_⟩
   rw [cmpC_add']
   obtain ⟨e, h5, h6⟩ := h.opt i2 n c l h2 hw hlen
   rw [h3] at h5
   cases h5
   exact h6
/-- The next place. -/
theorem BSt.next (h : BSt t dk p to k i j M E) (hj : t.links.length ≤ j) : BSt t dk p to k (i + 1) 0 M E := by
 refine ⟨h.len, h.sound, h.home, h.opt, ?_, fun _ _ x hx => by simp at hx⟩
 intro i' hi' v c l h1 hw hlen
 by_cases e : i' = i
 ·subst e
  cases hw with
  | nil v => exact h.home i' h1
  | @cons _ m _ x cx d l hx hl hw' =>
   exact h.now v h1 x (by rw [List.take_of_length_le hj]; exact hx) m cx hl d l hw' (by simpa using hlen)
 ·exact h.done i' (by omega) v c l h1 hw hlen
/-- The next round. -/
theorem BSt.round (h : BSt t dk p to k i j M E) (hi : t.places.length ≤ i) : BSt t dk p to (k + 1) 0 0 M E := by
 refine ⟨h.len, h.sound, h.home, ?_, fun _ h1 => absurd h1 (by omega), fun _ _ x hx => by simp at hx⟩
 intro i' v c l h1 hw hlen
 exact h.done i' (by have := (List.getElem?_eq_some_iff.1 h1).1; omega) v c l h1 hw hlen
theorem Stable.keep (h : Stable t dk p E i j) (hj : t.links.length ≤ j) : Stable t dk p E (i + 1) 0 := by
 intro i' v hv j' x hx hor
 exact h i' v hv j' x hx (by
  have := (List.getElem?_eq_some_iff.1 hx).1
  omega)
theorem Stable.step (h : Stable t dk p E i j) (hx : t.links[j]? = some x) (hv : t.places[i]? = some v)
  (hno : ∀ n cx, leads dk p x v = some (n, cx) → ∀ (i2 : Nat) d, t.places[i2]? = some n → E[i2]? = some (some d) → leE E i (addC cx d)) : Stable t dk p E i (j + 1) := by
 intro i' v' hv' j' y hy hor n cx hl
 by_cases e : i' = i ∧ j' = j
 ·obtain ⟨rfl, rfl⟩ := e
  rw [hv] at hv'
  cases hv'
  rw [hx] at hy
  cases hy
  exact hno n cx hl
 ·exact h i' v' hv' j' y hy (by omega) n cx hl
theorem BSt.costs (h : BSt t dk p to k i j M E) (hs : Stable t dk p E t.places.length 0) (ht : Fine t) : Costs t dk p to E := by
 have main : ∀ {v c l}, Walk t dk p v to c l → ∀ i' : Nat, t.places[i']? = some v → leE E i' c := by
  intro v c l hw
  have gen : ∀ {v w c l}, Walk t dk p v w c l → w = to → ∀ i' : Nat, t.places[i']? = some v → leE E i' c := by
   intro v w c l hw
   induction hw with
   | nil v => intro e i' h1; subst e; exact h.home i' h1
   | @cons u m v x cx d l hx hl _ ih =>
    intro e i' h1
    obtain ⟨i2, h2⟩ := List.getElem?_of_mem (leads_ends hx ht hl).2
    obtain ⟨e', h3, h4⟩ := ih e i2 h2
    obtain ⟨j', hj'⟩ := List.getElem?_of_mem hx
    exact leE_of_same (hs i' u h1 j' x hj' (.inl (List.getElem?_eq_some_iff.1 h1).1) m cx hl i2 e' h2 h3) (by rw [cmpC_add']; exact h4)
  exact gen hw rfl
 refine ⟨h.len, fun i' v hv r hr => ?_⟩
 cases r with
 | none =>
  intro c l hw
  obtain ⟨e, h1, _⟩ := main hw i' hv
  rw [hr] at h1
  cases h1
 | some c =>
  obtain ⟨l, hl, _⟩ := h.sound i' v c hv hr
  refine ⟨⟨l, hl⟩, fun c' l' hw => ?_⟩
  obtain ⟨e, h1, h2⟩ := main hw i' hv
  rw [hr] at h1
  cases h1
  exact h2

end
end Go.Proofs.YtjdgdeiedkickaaDoor
/- Prices, and what a link costs: climb.chart.cost, cost.plus, cost.toil. -/
namespace Go.Proofs.YtjdgdeiedkickaaDoor
open Go.RowKit

/-- What a link costs first. -/
def priceOf (p : Price) (x : Link) (climbed : Bool) : Int := if climbed then x.paces * p.pace + x.steps * (p.up + p.step) else x.paces * p.pace + x.steps * p.step
/-- A link within its limits. -/
structure Fit (x : Link) : Prop where
 steps : 0 ≤ x.steps ∧ x.steps ≤ 500
 paces : 1 ≤ x.paces ∧ x.paces ≤ 2000

/-- A function value that tells prices. -/
structure PriceAt (w : World) (p : Price) (F : FuncId) (C : Array Value) : Prop where
 enters : ∀ args W, (callFunc F args).run Tryd.prog W = .ok (.enter F args) W
 calls : ∀ x cl W, Below w.heap.size w W → Fit x → Calls Tryd.prog F (#[.agg #[.int .i64 x.id, .int .i64 x.fr, .int .i64 x.to, .int .i64 x.steps, .int .i64 x.paces], .bool cl] ++ C) W fun e w' => e = .returned (.int .i64 (priceOf p x cl)) ∧ Below W.heap.size W w'
theorem PriceAt.below {w w' : World} {p : Price} {F : FuncId} {C : Array Value} (h : PriceAt w p F C) (hb : Below w.heap.size w w') : PriceAt w' p F C :=
 ⟨h.enters, fun x cl W hW hx => h.calls x cl W (hb.trans (hW.mono hb.size)) hx⟩

@[reducible] def linkV (x : Link) : Value := .agg #[.int .i64 x.id, .int .i64 x.fr, .int .i64 x.to, .int .i64 x.steps, .int .i64 x.paces]
@[reducible] def chartV (A : Option Addr) (n c : Nat) (A' : Option Addr) (m d : Nat) (dk : Bool) (F : FuncId) (C : Array Value) : Value := .agg #[.slice A n c, .slice A' m d, .bool dk, .func (.func F) #[] C]
@[reducible] def costV (c : Cost) : Value := .agg #[.int .i64 c.a, .int .i64 c.b, .int .i64 c.c, .int .i64 c.d]

theorem far4 {w : World} {g h : Nat} {t : TypeId} {cs : Array Value} (b : Blk w g t cs) (hp : g ≠ h) (u0 u1 u2 u3 : Value) : Blk ((((w.setCell ⟨h, 0, none⟩ u0).setCell ⟨h, 1, none⟩ u1).setCell ⟨h, 2, none⟩ u2).setCell ⟨h, 3, none⟩ u3) g t cs :=
 (((b.far (p := ⟨h, 0, none⟩) hp u0).far (p := ⟨h, 1, none⟩) hp u1).far (p := ⟨h, 2, none⟩) hp u2).far (p := ⟨h, 3, none⟩) hp u3
def costOf (p : Price) (x : Link) (cl : Bool) : Cost := ⟨priceOf p x cl, if cl then x.steps else 0, x.paces, 1⟩

set_option maxRecDepth 100000 in
set_option maxHeartbeats 4000000 in
theorem cost_any (A : Option Addr) (n c : Nat) (A' : Option Addr) (m d : Nat) (dk : Bool) (F : FuncId) (C : Array Value) (p : Price) (x : Link) (cl : Bool) (w : World) (hp : PriceAt w p F C) (hx : Fit x) :
  Calls Tryd.prog 79 #[.agg #[.slice A n c, .slice A' m d, .bool dk, .func (.func F) #[] C], .agg #[.int .i64 x.id, .int .i64 x.fr, .int .i64 x.to, .int .i64 x.steps, .int .i64 x.paces], .bool cl] w fun e w' => e = .returned (costV (costOf p x cl)) ∧ Below w.heap.size w w' := by
 have hen := hp.enters
 have HP := Lib.hid hp
 have HX := Lib.hid hx
 clear hp hx
 cases cl
 all_goals
  go_enter Tryd.func79, Tryd.ntmps79
  go_wp2_with fail
  have X1 := (Blk.new w 111 #[.slice A n c, .slice A' m d, .bool dk, .func (.func F) #[] C])
  have X2 := (X1.alloc (.cells #[.int .i64 x.id, .int .i64 x.fr, .int .i64 x.to, .int .i64 x.steps, .int .i64 x.paces] 58)).alloc (.cells #[.int .i64 0, .int .i64 0, .int .i64 0, .int .i64 0] 106)
  have Y2 := (Blk.new (w.alloc (.cells #[.slice A n c, .slice A' m d, .bool dk, .func (.func F) #[] C] 111)) 58 #[.int .i64 x.id, .int .i64 x.fr, .int .i64 x.to, .int .i64 x.steps, .int .i64 x.paces]).alloc (.cells #[.int .i64 0, .int .i64 0, .int .i64 0, .int .i64 0] 106)
  have Z2 := Blk.new ((w.alloc (.cells #[.slice A n c, .slice A' m d, .bool dk, .func (.func F) #[] C] 111)).alloc (.cells #[.int .i64 x.id, .int .i64 x.fr, .int .i64 x.to, .int .i64 x.steps, .int .i64 x.paces] 58)) 106 #[.int .i64 0, .int .i64 0, .int .i64 0, .int .i64 0]
  have B2 : Below w.heap.size w (((w.alloc (.cells #[.slice A n c, .slice A' m d, .bool dk, .func (.func F) #[] C] 111)).alloc (.cells #[.int .i64 x.id, .int .i64 x.fr, .int .i64 x.to, .int .i64 x.steps, .int .i64 x.paces] 58)).alloc (.cells #[.int .i64 0, .int .i64 0, .int .i64 0, .int .i64 0] 106)) := (((Below.refl _ _).alloc (Nat.le_refl _) _).alloc (by simp) _).alloc (by simp; omega) _
  rw [World.size_alloc] at Y2
  rw [World.size_alloc, World.size_alloc] at Z2
  clear X1
  generalize (((w.alloc (.cells #[.slice A n c, .slice A' m d, .bool dk, .func (.func F) #[] C] 111)).alloc (.cells #[.int .i64 x.id, .int .i64 x.fr, .int .i64 x.to, .int .i64 x.steps, .int .i64 x.paces] 58)).alloc (.cells #[.int .i64 0, .int .i64 0, .int .i64 0, .int .i64 0] 106)) = w0 at *
  have hz := Z2.lt
  have K0 : w0.drew.cell? ⟨w.heap.size, 3, none⟩ = some (.func (.func F) #[] C) ∧ w0.drew.cell? ⟨w.heap.size + 1, 0, none⟩ = some (.int .i64 x.id) ∧ w0.drew.cell? ⟨w.heap.size + 1, 1, none⟩ = some (.int .i64 x.fr) ∧ w0.drew.cell? ⟨w.heap.size + 1, 2, none⟩ = some (.int .i64 x.to) ∧ w0.drew.cell? ⟨w.heap.size + 1, 3, none⟩ = some (.int .i64 x.steps) ∧ w0.drew.cell? ⟨w.heap.size + 1, 4, none⟩ = some (.int .i64 x.paces) := ⟨X2.cell 3, Y2.cell 0, Y2.cell 1, Y2.cell 2, Y2.cell 3, Y2.cell 4⟩
  go_region_held3 (fun w' => w'.cell? ⟨w.heap.size, 3, none⟩ = some (.func (.func F) #[] C) ∧ w'.cell? ⟨w.heap.size + 1, 0, none⟩ = some (.int .i64 x.id) ∧ w'.cell? ⟨w.heap.size + 1, 1, none⟩ = some (.int .i64 x.fr) ∧ w'.cell? ⟨w.heap.size + 1, 2, none⟩ = some (.int .i64 x.to) ∧ w'.cell? ⟨w.heap.size + 1, 3, none⟩ = some (.int .i64 x.steps) ∧ w'.cell? ⟨w.heap.size + 1, 4, none⟩ = some (.int .i64 x.paces))
   (first | with_reducible assumption | exact ⟨(far4 X3 (by omega) _ _ _ _).cell 3, (far4 Y3 (by omega) _ _ _ _).cell 0, (far4 Y3 (by omega) _ _ _ _).cell 1, (far4 Y3 (by omega) _ _ _ _).cell 2, (far4 Y3 (by omega) _ _ _ _).cell 3, (far4 Y3 (by omega) _ _ _ _).cell 4⟩)
   (first | (refine (HP.out.calls x _ _ (below_drewN B2 1) HX.out).mono ?_; rintro e w1 ⟨rfl, hb⟩; have X3 := (Blk.drewN X2 1).below hb (by show w.heap.size < w0.heap.size; omega); have Y3 := (Blk.drewN Y2 1).below hb (by show w.heap.size + 1 < w0.heap.size; omega); have Z3 := (Blk.drewN Z2 1).below hb hz; have z0 := Z3.cell 0; have z1 := Z3.cell 1; have z2 := Z3.cell 2; have z3 := Z3.cell 3; have y0 := Z3.frozen 0; have y1 := Z3.frozen 1; have y2 := Z3.frozen 2; have y3 := Z3.frozen 3; have K1 : w1.cell? ⟨w.heap.size, 3, none⟩ = some (.func (.func F) #[] C) ∧ w1.cell? ⟨w.heap.size + 1, 0, none⟩ = some (.int .i64 x.id) ∧ w1.cell? ⟨w.heap.size + 1, 1, none⟩ = some (.int .i64 x.fr) ∧ w1.cell? ⟨w.heap.size + 1, 2, none⟩ = some (.int .i64 x.to) ∧ w1.cell? ⟨w.heap.size + 1, 3, none⟩ = some (.int .i64 x.steps) ∧ w1.cell? ⟨w.heap.size + 1, 4, none⟩ = some (.int .i64 x.paces) := ⟨X3.cell 3, Y3.cell 0, Y3.cell 1, Y3.cell 2, Y3.cell 3, Y3.cell 4⟩))
  go_wp2_with fail
  exact bodyPost_ret (v := costV (costOf p x _)) (by simp [results, Tryd.results79, go_sem, costOf, z0, z1, z2, z3]) rfl ⟨rfl, ((((((below_drewN B2 1).trans (hb.mono (by show w.heap.size ≤ w0.heap.size; omega))).setCell (by simp; omega) _).setCell (by simp; omega) _).setCell (by simp; omega) _).setCell (by simp; omega) _)⟩
end Go.Proofs.YtjdgdeiedkickaaDoor
/- Costs added up, and the toil of one: climb.cost.plus, cost.toil. The prices: climb.free, drips, takes. -/
namespace Go.Proofs.YtjdgdeiedkickaaDoor
open Go.RowKit

def mixC (k : Nat) (x y : Cost) : Cost := ⟨if 0 < k then x.a + y.a else x.a, if 1 < k then x.b + y.b else x.b, if 2 < k then x.c + y.c else x.c, if 3 < k then x.d + y.d else x.d⟩
/-- A cost far within an int's reach. -/
structure Small (x : Cost) : Prop where
 a : 0 ≤ x.a ∧ x.a ≤ 1000000000000
 b : 0 ≤ x.b ∧ x.b ≤ 1000000000000
 c : 0 ≤ x.c ∧ x.c ≤ 1000000000000
 d : 0 ≤ x.d ∧ x.d ≤ 1000000000000

set_option maxRecDepth 100000 in
set_option maxHeartbeats 4000000 in
theorem plus_any (x y : Cost) (w : World) (hx : Small x) (hy : Small y) :
  Calls Tryd.prog 58 #[costV x, costV y] w fun e w' => e = .returned (costV (addC x y)) ∧ Below w.heap.size w w' := by
 have HX := Lib.hid hx
 have HY := Lib.hid hy
 clear hx hy
 go_enter Tryd.func58, Tryd.ntmps58
 go_wp2_with fail
 have X1 := ((Blk.new w 106 #[.int .i64 x.a, .int .i64 x.b, .int .i64 x.c, .int .i64 x.d]).alloc (.cells #[.int .i64 y.a, .int .i64 y.b, .int .i64 y.c, .int .i64 y.d] 106)).alloc (.cells #[.int .i64 0, .int .i64 0, .int .i64 0, .int .i64 0] 106)
 have Y1 := (Blk.new (w.alloc (.cells #[.int .i64 x.a, .int .i64 x.b, .int .i64 x.c, .int .i64 x.d] 106)) 106 #[.int .i64 y.a, .int .i64 y.b, .int .i64 y.c, .int .i64 y.d]).alloc (.cells #[.int .i64 0, .int .i64 0, .int .i64 0, .int .i64 0] 106)
 have Z1 := Blk.new ((w.alloc (.cells #[.int .i64 x.a, .int .i64 x.b, .int .i64 x.c, .int .i64 x.d] 106)).alloc (.cells #[.int .i64 y.a, .int .i64 y.b, .int .i64 y.c, .int .i64 y.d] 106)) 106 #[.int .i64 0, .int .i64 0, .int .i64 0, .int .i64 0]
 have B1 : Below w.heap.size w (((w.alloc (.cells #[.int .i64 x.a, .int .i64 x.b, .int .i64 x.c, .int .i64 x.d] 106)).alloc (.cells #[.int .i64 y.a, .int .i64 y.b, .int .i64 y.c, .int .i64 y.d] 106)).alloc (.cells #[.int .i64 0, .int .i64 0, .int .i64 0, .int .i64 0] 106)) := (((Below.refl _ _).alloc (Nat.le_refl _) _).alloc (by simp) _).alloc (by simp; omega) _
 rw [World.size_alloc] at Y1
 rw [World.size_alloc, World.size_alloc] at Z1
 generalize ((w.alloc (.cells #[.int .i64 x.a, .int .i64 x.b, .int .i64 x.c, .int .i64 x.d] 106)).alloc (.cells #[.int .i64 y.a, .int .i64 y.b, .int .i64 y.c, .int .i64 y.d] 106)).alloc (.cells #[.int .i64 0, .int .i64 0, .int .i64 0, .int .i64 0] 106) = w0 at *
 go_loopw [6] (fun i wr => ∃ k : Nat, k ≤ 4 ∧ i = .int .i64 k ∧ Blk wr w.heap.size 106 #[.int .i64 (mixC k x y).a, .int .i64 (mixC k x y).b, .int .i64 (mixC k x y).c, .int .i64 (mixC k x y).d] ∧ Blk wr (w.heap.size + 1) 106 #[.int .i64 y.a, .int .i64 y.b, .int .i64 y.c, .int .i64 y.d] ∧ Blk wr (w.heap.size + 1 + 1) 106 #[.int .i64 0, .int .i64 0, .int .i64 0, .int .i64 0] ∧ Below w.heap.size w wr)
  (fun i _ => 4 - (intOf i).toNat)
 case atStart => exact ⟨0, by omega, rfl, X1, Y1, Z1, B1⟩
 case round =>
  obtain ⟨k, hk, rfl, hX, hY, hZ, hbel⟩ := hrel
  have x0 := hX.cell 0
  have x1 := hX.cell 1
  have x2 := hX.cell 2
  have x3 := hX.cell 3
  have q0 := hX.frozen 0
  have q1 := hX.frozen 1
  have q2 := hX.frozen 2
  have q3 := hX.frozen 3
  have y0 := hY.cell 0
  have y1 := hY.cell 1
  have y2 := hY.cell 2
  have y3 := hY.cell 3
  have c0 := hZ.cell 0
  have c1 := hZ.cell 1
  have c2 := hZ.cell 2
  have c3 := hZ.cell 3
  have z0 := hZ.frozen 0
  have z1 := hZ.frozen 1
  have z2 := hZ.frozen 2
  have z3 := hZ.frozen 3
  have hlX := hX.lt
  have hlZ := hZ.lt
  have HX' := Lib.hid hX
  have HY' := Lib.hid hY
  have HZ' := Lib.hid hZ
  clear hX hY hZ
  simp only [List.getElem?_toArray, List.getElem?_cons_zero, List.getElem?_cons_succ] at x0 x1 x2 x3 y0 y1 y2 y3 c0 c1 c2 c3
  clear X1 Y1 Z1 B1
  rcases (show k = 0 ∨ k = 1 ∨ k = 2 ∨ k = 3 ∨ k = 4 by omega) with rfl | rfl | rfl | rfl | rfl
  ·obtain ⟨hx1, hx2⟩ := HX.out.a
   obtain ⟨hy1, hy2⟩ := HY.out.a
   replace x0 : wr.cell? ⟨w.heap.size, 0, none⟩ = some (.int .i64 x.a) := x0
   go_wp2_with fail
   go_region
   go_wp2_with fail
   go_roundw
   case rel => exact ⟨1, by omega, by go_num, (HX'.out.set_ 0 (.int .i64 (x.a + y.a))).drewN 1, (HY'.out.far (p := ⟨w.heap.size, 0, none⟩) (by simp) _).drewN 1, (HZ'.out.far (p := ⟨w.heap.size, 0, none⟩) (by simp; omega) _).drewN 1, below_drewN (hbel.setCell (p := ⟨w.heap.size, 0, none⟩) (Nat.le_refl _) _) 1⟩
   case measure => simp [intOf]
  ·obtain ⟨hx1, hx2⟩ := HX.out.b
   obtain ⟨hy1, hy2⟩ := HY.out.b
   replace x1 : wr.cell? ⟨w.heap.size, 1, none⟩ = some (.int .i64 x.b) := x1
   go_wp2_with fail
   go_region
   go_wp2_with fail
   go_roundw
   case rel => exact ⟨2, by omega, by go_num, (HX'.out.set_ 1 (.int .i64 (x.b + y.b))).drewN 1, (HY'.out.far (p := ⟨w.heap.size, 1, none⟩) (by simp) _).drewN 1, (HZ'.out.far (p := ⟨w.heap.size, 1, none⟩) (by simp; omega) _).drewN 1, below_drewN (hbel.setCell (p := ⟨w.heap.size, 1, none⟩) (Nat.le_refl _) _) 1⟩
   case measure => simp [intOf]
  ·obtain ⟨hx1, hx2⟩ := HX.out.c
   obtain ⟨hy1, hy2⟩ := HY.out.c
   replace x2 : wr.cell? ⟨w.heap.size, 2, none⟩ = some (.int .i64 x.c) := x2
   go_wp2_with fail
   go_region
   go_wp2_with fail
   go_roundw
   case rel => exact ⟨3, by omega, by go_num, (HX'.out.set_ 2 (.int .i64 (x.c + y.c))).drewN 1, (HY'.out.far (p := ⟨w.heap.size, 2, none⟩) (by simp) _).drewN 1, (HZ'.out.far (p := ⟨w.heap.size, 2, none⟩) (by simp; omega) _).drewN 1, below_drewN (hbel.setCell (p := ⟨w.heap.size, 2, none⟩) (Nat.le_refl _) _) 1⟩
   case measure => simp [intOf]
  ·obtain ⟨hx1, hx2⟩ := HX.out.d
   obtain ⟨hy1, hy2⟩ := HY.out.d
   replace x3 : wr.cell? ⟨w.heap.size, 3, none⟩ = some (.int .i64 x.d) := x3
   go_wp2_with fail
   go_region
   go_wp2_with fail
   go_roundw
   case rel => exact ⟨4, by omega, by go_num, (HX'.out.set_ 3 (.int .i64 (x.d + y.d))).drewN 1, (HY'.out.far (p := ⟨w.heap.size, 3, none⟩) (by simp) _).drewN 1, (HZ'.out.far (p := ⟨w.heap.size, 3, none⟩) (by simp; omega) _).drewN 1, below_drewN (hbel.setCell (p := ⟨w.heap.size, 3, none⟩) (Nat.le_refl _) _) 1⟩
   case measure => simp [intOf]
  ·replace x0 : wr.cell? ⟨w.heap.size, 0, none⟩ = some (.int .i64 (x.a + y.a)) := x0
   replace x1 : wr.cell? ⟨w.heap.size, 1, none⟩ = some (.int .i64 (x.b + y.b)) := x1
   replace x2 : wr.cell? ⟨w.heap.size, 2, none⟩ = some (.int .i64 (x.c + y.c)) := x2
   replace x3 : wr.cell? ⟨w.heap.size, 3, none⟩ = some (.int .i64 (x.d + y.d)) := x3
   go_wp2_with fail
   exact bodyPost_ret (v := costV (addC x y)) (by simp [results, Tryd.results58, go_sem, c0, c1, c2, c3, addC]) rfl ⟨rfl, (((hbel.setCell (by simp; omega) _).setCell (by simp; omega) _).setCell (by simp; omega) _).setCell (by simp; omega) _⟩
end Go.Proofs.YtjdgdeiedkickaaDoor
/- The three prices: climb.free, drips, takes. -/
namespace Go.Proofs.YtjdgdeiedkickaaDoor
open Go.RowKit

theorem mul_fits {a b m n : Int} (ha : 0 ≤ a ∧ a ≤ m) (hb : 0 ≤ b ∧ b ≤ n) : 0 ≤ a * b ∧ a * b ≤ m * n :=
 ⟨Int.mul_nonneg ha.1 hb.1, Int.mul_le_mul ha.2 hb.2 hb.1 (by omega)⟩

theorem boxed_keep {w W : World} {g : Nat} {t : TypeId} {v : Value} (h : Blk w g t #[v]) (hb : Below w.heap.size w W) : W.cell? ⟨g, 0, none⟩ = some v := (h.below hb h.lt).cell 0

set_option maxRecDepth 100000 in
set_option maxHeartbeats 2000000 in
theorem drips1_price (w : World) (b1 b2 : Nat) (pace step : Int) (h1 : Blk w b1 3 #[.int .i64 pace]) (h2 : Blk w b2 3 #[.int .i64 step]) (hp : 0 ≤ pace ∧ pace ≤ 100) (hs : 0 ≤ step ∧ step ≤ 100) :
  PriceAt w ⟨pace, 0, step⟩ 39 #[.pointer (some ⟨b1, 0, none⟩), .pointer (some ⟨b2, 0, none⟩)] := by
 refine ⟨enters_of Tryd.func39 (by kernel_rfl) rfl, fun x cl W hW hx => ?_⟩
 have c1 := boxed_keep h1 hW
 have c2 := boxed_keep h2 hW
 have l1 : b1 < W.heap.size := Nat.lt_of_lt_of_le h1.lt hW.size
 have l2 : b2 < W.heap.size := Nat.lt_of_lt_of_le h2.lt hW.size
 obtain ⟨m1, m2⟩ := mul_fits (m := 2000) (n := 100) (show 0 ≤ x.paces ∧ x.paces ≤ 2000 from ⟨by have := hx.paces; omega, hx.paces.2⟩) hp
 obtain ⟨m3, m4⟩ := mul_fits (m := 500) (n := 100) hx.steps hs
 clear h1 h2 hW hx hp hs
 go_enter Tryd.func39, Tryd.ntmps39
 go_wp2_with fail
 go_ret
 exact ⟨by cases cl <;> simp [priceOf], (Below.refl _ _).alloc (Nat.le_refl _) _⟩

set_option maxRecDepth 100000 in
set_option maxHeartbeats 2000000 in
theorem drips_any (pace step : Int) (w : World) (hp : 0 ≤ pace ∧ pace ≤ 100) (hs : 0 ≤ step ∧ step ≤ 100) :
  Calls Tryd.prog 22 #[.int .i64 pace, .int .i64 step] w fun e w' => (∃ b1 b2, e = .returned (.func (.func 39) #[] #[.pointer (some ⟨b1, 0, none⟩), .pointer (some ⟨b2, 0, none⟩)]) ∧ PriceAt w' ⟨pace, 0, step⟩ 39 #[.pointer (some ⟨b1, 0, none⟩), .pointer (some ⟨b2, 0, none⟩)]) ∧ Below w.heap.size w w' := by
 have HP := Lib.hid hp
 have HS := Lib.hid hs
 clear hp hs
 go_enter Tryd.func22, Tryd.ntmps22
 go_wp2_with fail
 go_ret
 have Y := Blk.new (w.alloc (.cells #[.int .i64 pace] 3)) 3 #[.int .i64 step]
 rw [World.size_alloc] at Y
 exact ⟨⟨_, _, rfl, drips1_price _ _ _ pace step ((Blk.new w _ _).alloc _) Y HP.out HS.out⟩, ((Below.refl _ _).alloc (Nat.le_refl _) _).alloc (by simp) _⟩

end Go.Proofs.YtjdgdeiedkickaaDoor
/- What a valid town, skin or gait is good for. -/
namespace Go.Proofs.YtjdgdeiedkickaaDoor

theorem inB1_spec {lo hi x : Int} (h : inB lo hi [x] = true) : lo ≤ x ∧ x ≤ hi := by
 unfold inB at h
 simp at h
 omega
theorem inB2_spec {lo hi x y : Int} (h : inB lo hi [x, y] = true) : (lo ≤ x ∧ x ≤ hi) ∧ lo ≤ y ∧ y ≤ hi := by
 unfold inB at h
 simp at h
 omega
theorem upB_spec : ∀ {l : List Int} {last : Int}, upB last l = true → (∀ x ∈ l, last < x ∧ x ≤ 9999) ∧ l.Pairwise (· < ·)
 | [], _, _ => ⟨by simp, .nil⟩
 | x :: l, last, h => by
  simp only [upB, Bool.and_eq_true] at h
  have h1 := inB1_spec h.1
  obtain ⟨h2, h3⟩ := upB_spec h.2
  refine ⟨fun y hy => ?_, .cons (fun y hy => (h2 y hy).1) h3⟩
  rcases List.mem_cons.1 hy with rfl | hy
  ·omega
  ·have := h2 y hy; omega
theorem linksB_spec {t : Town} : ∀ {l : List Link} {last : Int}, linksB t last l = true → (∀ x ∈ l, last < x.id ∧ x.id ≤ 9999 ∧ (0 ≤ x.steps ∧ x.steps ≤ 500) ∧ (1 ≤ x.paces ∧ x.paces ≤ 2000) ∧ x.fr ≠ x.to ∧ x.fr ∈ t.places ∧ x.to ∈ t.places) ∧ l.Pairwise fun x y => x.id < y.id
 | [], _, _ => ⟨by simp, .nil⟩
 | x :: l, last, h => by
  simp only [linksB, linkB, Bool.and_eq_true] at h
  obtain ⟨⟨⟨⟨⟨h1, h2⟩, h3⟩, h4⟩, h5⟩, h6⟩ := h
  have a1 := inB1_spec h1
  have a2 := inB1_spec h2
  have a3 := inB1_spec h3
  have a4 : x.fr ≠ x.to := by simpa using h4
  have a5 : x.fr ∈ t.places ∧ x.to ∈ t.places := by
   unfold hasB at h5
   simp [memI] at h5
   exact h5
  obtain ⟨h7, h8⟩ := linksB_spec h6
  refine ⟨fun y hy => ?_, .cons (fun y hy => (h7 y hy).1) h8⟩
  rcases List.mem_cons.1 hy with rfl | hy
  ·exact ⟨by omega, by omega, a2, a3, a4, a5.1, a5.2⟩
  ·obtain ⟨b1, b2⟩ := h7 y hy
   exact ⟨by omega, b2⟩

/-- A valid town. -/
structure GoodT (t : Town) : Prop where
 fine : Fine t
 nodup : t.places.Nodup
 up : t.places.Pairwise (· < ·)
 ids : ∀ v ∈ t.places, 1 ≤ v ∧ v ≤ 9999
 some_ : 1 ≤ t.places.length
 links : t.links.length ≤ 20
 lids : ∀ x ∈ t.links, 1 ≤ x.id ∧ x.id ≤ 9999
 ends : ∀ x ∈ t.links, x.fr ≠ x.to
theorem goodT {t : Town} (h : townB t = true) : GoodT t := by
 unfold townB sizeB at h
 simp only [Bool.and_eq_true, decide_eq_true_eq] at h
 obtain ⟨⟨⟨h1, h2⟩, h3⟩, h4⟩ := h
 have a1 := inB1_spec h1
 obtain ⟨b1, b2⟩ := upB_spec h3
 obtain ⟨c1, c2⟩ := linksB_spec h4
 refine ⟨⟨fun x hx => (c1 x hx).2.2.1, fun x hx => (c1 x hx).2.2.2.1, fun x hx => (c1 x hx).2.2.2.2.2, c2, by omega⟩, b2.imp fun h => by omega, b2, fun v hv => by have := b1 v hv; omega, by omega, h2, fun x hx => by have := c1 x hx; omega, fun x hx => (c1 x hx).2.2.2.2.1⟩

theorem spanB_spec {most : Int} {x : Span} (h : spanB most x = true) : (0 ≤ x.lo ∧ x.lo ≤ most) ∧ (0 ≤ x.hi ∧ x.hi ≤ most) ∧ x.lo ≤ x.hi := by
 unfold spanB at h
 simp only [Bool.and_eq_true, decide_eq_true_eq] at h
 have := inB2_spec h.1
 exact ⟨this.1, this.2, h.2⟩
theorem spansB_two {most : Int} {x y : Span} (h : spansB most [x, y] = true) : spanB most x = true ∧ spanB most y = true := by
 unfold spansB at h
 simpa [Bool.not_or] using h
structure GoodS (s : Skin) : Prop where
 drops : 0 ≤ s.drops ∧ s.drops ≤ 100000
 pace : (0 ≤ s.pace.lo ∧ s.pace.lo ≤ 50) ∧ (0 ≤ s.pace.hi ∧ s.pace.hi ≤ 50) ∧ s.pace.lo ≤ s.pace.hi
 step : (0 ≤ s.step.lo ∧ s.step.lo ≤ 50) ∧ (0 ≤ s.step.hi ∧ s.step.hi ≤ 50) ∧ s.step.lo ≤ s.step.hi
theorem goodS {s : Skin} (h : skinB s = true) : GoodS s := by
 unfold skinB at h
 simp only [Bool.and_eq_true] at h
 obtain ⟨h1, h2⟩ := spansB_two h.2
 exact ⟨inB1_spec h.1, spanB_spec h1, spanB_spec h2⟩
/-- The prices. -/
def lossP (pace step : Int) : Price := ⟨pace, 0, step⟩
def freeP : Price := ⟨0, 0, 0⟩
theorem lossP_fair {a b : Int} (h1 : 0 ≤ a ∧ a ≤ 50) (h2 : 0 ≤ b ∧ b ≤ 50) : Fair (lossP a b) := ⟨h1, by simp [lossP], h2.1, by simp [lossP]; omega⟩
theorem askE_zero {t : Town} {l : List Int} (h : askE t l = 0) : townB t = true ∧ hasB t l = true := by
 unfold askE at h
 cases h1 : townB t <;> cases h2 : hasB t l <;> rw [h1, h2] at h <;> simp at h
 exact ⟨rfl, rfl⟩
theorem or2_zero {a b : Int} (h : or2 a b = 0) : a = 0 ∧ b = 0 := by
 unfold or2 at h
 split at h
 ·exact ⟨by assumption, h⟩
 ·exact absurd h (by assumption)
theorem dryE_zero {s : Skin} (h : dryE s = 0) : skinB s = true := by
 unfold dryE at h
 cases h1 : skinB s <;> rw [h1] at h <;> simp at h ⊢
end Go.Proofs.YtjdgdeiedkickaaDoor
/- What links come to, one behind the other; lists followed; which list is ahead: plain Lean. -/
namespace Go.Proofs.YtjdgdeiedkickaaDoor

structure Gone where
 at_ : Int
 paces : Int
 up : Int
 steps : Int
 longer : Int

def Gone.cost (g : Gone) (p : Price) : Cost := ⟨g.paces * p.pace + g.up * p.up + g.steps * p.step, g.up, g.paces, g.longer⟩
def startG (u : Int) : Gone := ⟨u, 0, 0, 0, 0⟩
theorem startG_cost (u : Int) (p : Price) : (startG u).cost p = zeroC := by simp [startG, Gone.cost, zeroC]
/-- A link gone. -/
def goesF (dk : Bool) (x : Link) (g : Gone) : Option Gone :=
 if dk = true ∧ 0 < x.steps then none
 else if x.fr = g.at_ then some ⟨x.to, g.paces + x.paces, g.up + x.steps, g.steps + x.steps, g.longer + 1⟩
 else if x.to = g.at_ then some ⟨x.fr, g.paces + x.paces, g.up, g.steps + x.steps, g.longer + 1⟩
 else none
theorem cost_eq {a b c d a' b' c' d' : Int} (h1 : a = a') (h2 : b = b') (h3 : c = c') (h4 : d = d') : (⟨a, b, c, d⟩ : Cost) = ⟨a', b', c', d'⟩ := by rw [h1, h2, h3, h4]
theorem goes_some {dk : Bool} {x : Link} {g g' : Gone} (p : Price) (h : goesF dk x g = some g') : ∃ c, leads dk p x g.at_ = some (g'.at_, c) ∧ g'.cost p = addC (g.cost p) c := by
 unfold goesF at h
 unfold leads
 split at h
 ·cases h
 ·rename_i h1
  rw [if_neg h1]
  split at h
  ·rename_i h2
   rw [if_pos h2]
   cases h
   refine ⟨_, rfl, ?_⟩
   refine cost_eq ?_ rfl rfl rfl
   simp only [Gone.cost, Int.add_mul, Int.mul_add]
   omega
  ·rename_i h2
   rw [if_neg h2]
   split at h
   ·rename_i h3
    rw [if_pos h3]
    cases h
    refine ⟨_, rfl, ?_⟩
    refine cost_eq ?_ (Int.add_zero _).symm rfl rfl
    simp only [Gone.cost, Int.add_mul]
    omega
   ·cases h
/-- Links gone, one behind the other. -/
inductive GW (t : Town) (dk : Bool) : Gone → List Int → Gone → Prop
 | nil (g : Gone) : GW t dk g [] g
 | cons {g m g' : Gone} {x : Link} {l : List Int} (hx : x ∈ t.links) (hg : goesF dk x g = some m) (h : GW t dk m l g') : GW t dk g (x.id :: l) g'

section
variable {t : Town} {dk : Bool} {p : Price} {g m g' : Gone} {l k : List Int} {u v : Int} {c d : Cost} {x : Link}
theorem GW.walk (h : GW t dk g l g') (p : Price) : ∃ c, Walk t dk p g.at_ g'.at_ c l ∧ g'.cost p = addC (g.cost p) c := by
 induction h with
 | nil g => exact ⟨zeroC, .nil _, (addC_zero _).symm⟩
 | cons hx hg _ ih =>
  obtain ⟨c, h1, h2⟩ := goes_some p hg
  obtain ⟨d, h3, h4⟩ := ih
  exact ⟨addC c d, .cons hx h1 h3, by rw [h4, h2, addC_assoc]⟩
theorem GW.walk0 (h : GW t dk (startG u) l g') (p : Price) : Walk t dk p u g'.at_ (g'.cost p) l := by
 obtain ⟨c, h1, h2⟩ := h.walk p
 rw [startG_cost, zero_addC] at h2
 rw [h2]
 exact h1
theorem GW.append (h : GW t dk g l m) (h' : GW t dk m k g') : GW t dk g (l ++ k) g' := by
 induction h with
 | nil g => exact h'
 | cons hx hg _ ih => exact .cons hx hg (ih h')
theorem GW.snoc (h : GW t dk g l m) (hx : x ∈ t.links) (hg : goesF dk x m = some g') : GW t dk g (l ++ [x.id]) g' := h.append (.cons hx hg (.nil _))
theorem GW.split : ∀ (l : List Int) {g g' : Gone}, GW t dk g (l ++ k) g' → ∃ m, GW t dk g l m ∧ GW t dk m k g'
 | [], g, g', h => ⟨g, .nil g, h⟩
 | i :: l, g, g', h => by
  cases h with
  | @cons _ m _ x _ hx hg h =>
   obtain ⟨m', h1, h2⟩ := GW.split l h
   exact ⟨m', .cons hx hg h1, h2⟩
theorem GW.longer (h : GW t dk g l g') : g'.longer = g.longer + l.length := by
 induction h with
 | nil g => simp
 | @cons g m g' x l hx hg _ ih =>
  obtain ⟨c, h1, h2⟩ := goes_some freeP hg
  have h3 : m.longer = g.longer + 1 := by
   unfold goesF at hg
   split at hg
   ·cases hg
   ·split at hg
    ·cases hg; rfl
    ·split at hg
     ·cases hg; rfl
     ·cases hg
  rw [ih, h3]
  simp; omega
/-- The numbers stay small. -/
structure Gone.In (g : Gone) (k : Nat) : Prop where
 paces : 0 ≤ g.paces ∧ g.paces ≤ 2000 * k
 up : 0 ≤ g.up ∧ g.up ≤ g.steps
 steps : 0 ≤ g.steps ∧ g.steps ≤ 500 * k
 longer : g.longer = k
theorem startG_in (u : Int) : (startG u).In 0 := ⟨by simp [startG], by simp [startG], by simp [startG], rfl⟩
theorem goes_in {k : Nat} (h : g.In k) (ht : Fine t) (hx : x ∈ t.links) (hg : goesF dk x g = some g') : g'.In (k + 1) := by
 have h1 := ht.steps x hx
 have h2 := ht.paces x hx
 obtain ⟨a1, a2, a3, a4⟩ := h
 unfold goesF at hg
 split at hg
 ·cases hg
 ·split at hg
  ·cases hg; exact ⟨by simp; omega, by simp; omega, by simp; omega, by simp; omega⟩
  ·split at hg
   ·cases hg; exact ⟨by simp; omega, by simp; omega, by simp; omega, by simp; omega⟩
   ·cases hg
theorem GW.in_ (h : GW t dk g l g') (ht : Fine t) : ∀ {k : Nat}, g.In k → g'.In (k + l.length) := by
 induction h with
 | nil g => intro k h; exact h
 | cons hx hg _ ih =>
  intro k h
  have := ih (goes_in h ht hx hg)
  rw [List.length_cons]
  rwa [Nat.add_assoc, Nat.add_comm 1] at this
theorem GW.same {g1 g2 : Gone} (hi : t.links.Pairwise fun x y => x.id < y.id) (h : GW t dk g l g1) : GW t dk g l g2 → g1 = g2 := by
 induction h with
 | nil g => intro h; cases h; rfl
 | @cons g m g1 x l hx hg _ ih =>
  intro h
  generalize hk : x.id :: l = k at h
  cases h with
  | nil => cases hk
  | @cons _ m2 _ y l2 hy hg2 h2 =>
   injection hk with h3 h4
   subst h4
   have : x = y := by
    obtain ⟨i, hi1⟩ := List.getElem?_of_mem hx
    obtain ⟨j, hj1⟩ := List.getElem?_of_mem hy
    obtain ⟨hi2, hi3⟩ := List.getElem?_eq_some_iff.1 hi1
    obtain ⟨hj2, hj3⟩ := List.getElem?_eq_some_iff.1 hj1
    rcases Nat.lt_trichotomy i j with h4 | h4 | h4
    ·have := List.pairwise_iff_getElem.1 hi i j hi2 hj2 h4
     rw [hi3, hj3] at this
     omega
    ·subst h4
     rw [← hi3, ← hj3]
    ·have := List.pairwise_iff_getElem.1 hi j i hj2 hi2 h4
     rw [hi3, hj3] at this
     omega
   subst this
   rw [hg] at hg2
   cases hg2
   exact ih h2
end

section
variable {t : Town} {dk : Bool} {g g' : Gone} {l : List Int} {id : Int}
end

/-- What came out of a stroll. -/
def Strolled (t : Town) (dk : Bool) (u : Int) (n : Nat) (g : Gone) (l : List Int) : Prop := GW t dk (startG u) l g ∧ l.length ≤ 40 ∧ l.length ≤ n
end Go.Proofs.YtjdgdeiedkickaaDoor
/- A scope within a fence: where no jump to a label is made. -/
namespace Go.Proofs.YtjdgdeiedkickaaDoor
open Go.RowKit

section
variable {F : Fence} {n : Nat} {P : Program} {b : Frame} {a : Act} {k : List Item} {cs : List Frame} {w : World} {Q : Exit → Act → World → Prop}
theorem stepR_scope {c : Code} : step P (lone (b.atR a (.code (.scope c) :: k)) cs w) = .next (lone (b.atR a (.code c :: .inScope c :: k)) cs w) :=
 step_lone_go (by simp [stepG, stepG.exec, Frame.atR])
theorem stepR_inScope {c : Code} : step P (lone (b.atR a (.inScope c :: k)) cs w) = .next (lone (b.atR a k) cs w) :=
 step_lone_go (by simp [stepG, stepG.exec, Frame.atR])
theorem wpIn_scope_straight {c : Code} (h : c.wpIn F n P (Exit.noGoto Q) a w) : (Code.scope c).wpIn F n P Q a w := by
 intro b k cs hro hb hr
 have h0 : (lone (b.atR a (.code (.scope c) :: k)) cs w).fenced P F := fenced_calm hb hr rfl
 obtain ⟨e, a₁, w₁, hq, harr⟩ := h b (.inScope c :: k) cs hro hb hr
 cases e with
 | normal => exact ⟨.normal, a₁, w₁, hq, .head h0 stepR_scope (StepsIn.trans harr (.one (fenced_calm hb hr rfl) stepR_inScope))⟩
 | exit id =>
  have hx : exitTo id (.inScope c :: k) = exitTo id k := by simp [exitTo]
  exact ⟨.exit id, a₁, w₁, hq, fun k' hk => .head h0 stepR_scope (harr.1 k' (by rw [hx]; exact hk)),
   fun hr' hk => let ⟨k₁, h1, h2⟩ := harr.2 hr' (by rw [hx]; exact hk); ⟨k₁, h1, .head h0 stepR_scope h2⟩⟩
 | goto l => exact hq.elim
 | ret => exact ⟨_, a₁, w₁, hq, .of_steps (.one h0 stepR_scope) harr⟩
 | panic ch => exact ⟨_, a₁, w₁, hq, .of_steps (.one h0 stepR_scope) harr⟩
 | outgrown => exact ⟨_, a₁, w₁, hq, .of_steps (.one h0 stepR_scope) harr⟩
end
end Go.Proofs.YtjdgdeiedkickaaDoor
