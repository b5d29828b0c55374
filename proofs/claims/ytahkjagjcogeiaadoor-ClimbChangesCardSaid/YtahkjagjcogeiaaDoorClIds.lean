/- climb.ids, climb.less. -/
import Derived.Test.YtahkjagjcogeiaaDoorSearchLink
import Derived.Test.YtahkjagjcogeiaaDoorInsertLink
import Derived.Test.YtahkjagjcogeiaaDoorCloneInt
namespace Go.Proofs.YtahkjagjcogeiaaDoor
open Go.RowKit
set_option linter.unusedVariables false

def idsOf (l : List Link) : List Int := l.map (·.id)

theorem own_below {w w' : World} {base n cap size B : Nat} {e : TypeId} {A : Option Addr} {xs : List Value} (h : Own w base e size A n cap xs) (hb : Below B w w') (hB : w.heap.size ≤ B) : Own w' base e size A n cap xs := h.below hb hB
theorem ints_of_own {w : World} {base n cap B : Nat} {e : TypeId} {A : Option Addr} {l : List Int} (h : Own w base e 1 A n cap (l.map (Value.int .i64))) (hB : w.heap.size ≤ B) : IntsAt w B A n l := h.reads hB
theorem links_of_own {w : World} {base n cap B : Nat} {e : TypeId} {A : Option Addr} {l : List Link} (h : Own w base e 5 A n cap (l.flatMap Link.vals)) (hB : w.heap.size ≤ B) : LinksAt w B A n l := h.reads hB

/-- One int in a new block. -/
theorem one_int {W : World} {g : Nat} {x : Int} {B : Nat} (hB : g < B) (h : W.cell? ⟨g, 0, none⟩ = some (.int .i64 x)) : Reads W B 1 (some ⟨g, 0, none⟩) 1 ([x].map (Value.int .i64)) :=
  ⟨rfl, fun _ => ⟨_, rfl, hB, fun j u hu => by
    match j, hu with
    | 0, hu => simp at hu; rw [← hu]; simpa [Addr.add] using h⟩⟩

def IntsOut (w : World) (e : Ending) (w' : World) (l : List Int) : Prop := ∃ A' c', e = .returned (.slice A' l.length c') ∧ Own w' w.heap.size 3 1 A' l.length c' (l.map (Value.int .i64)) ∧ Below w.heap.size w w'

set_option maxRecDepth 100000 in
set_option maxHeartbeats 2000000 in
theorem ids_any (A : Option Addr) (n c : Nat) (A' : Option Addr) (m d : Nat) (t : Town) (w : World) (hm : m ≤ 1000) (ht : LinksAt w w.heap.size A' m t.links) :
    Calls Tryd.prog 59 #[.agg #[.slice A n c, .slice A' m d]] w fun e w' => IntsOut w e w' (idsOf t.links) := by
  have hl : t.links.length = m := ht.len
  have HL := Lib.hid hl
  clear hl
  go_enter Tryd.func59, Tryd.ntmps59
  go_wp2_with fail
  go_loopw [3, 9] (fun vs vi wr => ∃ (k : Nat) (B : Option Addr) (q : Nat), k ≤ m ∧ vi = .int .i64 k ∧ vs = .slice B k q ∧ Own wr w.heap.size 3 1 B k q ((idsOf (t.links.take k)).map (Value.int .i64)) ∧ Below w.heap.size w wr)
    (fun _ vi _ => m - (intOf vi).toNat)
  case atStart => exact ⟨0, none, 0, by omega, rfl, rfl, Own.none_ _ _ _ _, (Below.refl _ _).alloc (Nat.le_refl _) _⟩
  case round =>
    obtain ⟨k, B, q, hk, rfl, rfl, hO, hb⟩ := hrel
    have HO := Lib.hid hO
    clear hO
    by_cases hlt : k < m
    · obtain ⟨b, off, x, rfl, hbB, hx, hc0, hc1, hc2, hc3, hc4⟩ := (ht.below hb).cell hlt
      have HX := Lib.hid hx
      clear hx
      go_wp2_with (at_builtin; refine wpList_append_any _ rfl _ _ rfl elem_int rfl ((HO.out.alloc _).alloc _) rfl (one_int (x := x.id) (Nat.lt_succ_self _) (by simp [go_sem])) (ints_one _) (by unfold maxLen; omega) (by omega) (by simp; have := hb.size; omega) ?_)
      rintro A2 cap2 w2 hown hg hA
      have hb2 : Below w.heap.size w w2 := ((hb.alloc hb.size _).alloc (by simp; have := hb.size; omega) _).grown hg (by simp; have := hb.size; omega) (by
        intro j hj
        cases B with
        | none => cases hj
        | some a => cases hj; exact (HO.out.lt rfl).1)
      go_wp2_with fail
      go_roundw
      case rel => exact ⟨k + 1, A2, cap2, by omega, by go_num, rfl, by
        obtain ⟨h1, h2⟩ := List.getElem?_eq_some_iff.1 HX.out
        rw [List.take_succ_eq_append_getElem h1, h2]
        simpa [idsOf] using hown, hb2⟩
      case measure => simp [intOf]; omega
    · obtain rfl : k = m := by omega
      go_wp2_with fail
      go_ret
      refine ⟨B, q, ?_, ?_, hb⟩
      · simp [idsOf, HL.out]
      · have := HO.out
        rw [List.take_of_length_le (by have := HL.out; omega)] at this
        simpa [idsOf, HL.out] using this
end Go.Proofs.YtahkjagjcogeiaaDoor
