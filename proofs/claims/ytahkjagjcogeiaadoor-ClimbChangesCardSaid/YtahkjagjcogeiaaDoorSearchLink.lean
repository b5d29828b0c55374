/- slices.BinarySearchFunc at links by Ids. -/
import Derived.Test.YtahkjagjcogeiaaDoorIndexFuncLink
import Derived.Test.YtahkjagjcogeiaaDoorCmpInt
namespace Go.Proofs.YtahkjagjcogeiaaDoor
open Go.RowKit
set_option linter.unusedVariables false

theorem open1_any (x : Link) (id : Int) (w : World) :
    Calls Tryd.prog 66 #[.agg #[.int .i64 x.id, .int .i64 x.fr, .int .i64 x.to, .int .i64 x.steps, .int .i64 x.paces], .int .i64 id] w fun e w' => e = .returned (.int .i64 (cmpI x.id id)) ∧ Below w.heap.size w w' := by
  go_enter Tryd.func66, Tryd.ntmps66
  go_wp2_with fail
  refine (cmp_int x.id id _).mono ?_
  rintro e w' ⟨rfl, rfl⟩
  go_wp2_with fail
  go_ret
  exact ⟨rfl, (Below.refl _ _).alloc (Nat.le_refl _) _⟩

/-- How many links have less Ids. -/
def lowB (l : List Link) (id : Int) : Nat := (l.takeWhile fun x => decide (x.id < id)).length
theorem lowB_of {l : List Link} {id : Int} {k : Nat} (hk : k ≤ l.length) (h1 : ∀ x ∈ l.take k, x.id < id) (h2 : ∀ x, l[k]? = some x → ¬ x.id < id) : lowB l id = k := by
  unfold lowB
  induction l generalizing k with
  | nil => simp at hk ⊢; omega
  | cons y l ih =>
    cases k with
    | zero =>
      have := h2 y (by simp)
      rw [List.takeWhile_cons_of_neg (by simpa using this)]; rfl
    | succ k =>
      have := h1 y (by simp)
      rw [List.takeWhile_cons_of_pos (by simpa using this), List.length_cons, ih (by simpa using hk) (fun x hx => h1 x (by simp [hx])) (fun x hx => h2 x (by simpa using hx))]
theorem lowB_le (l : List Link) (id : Int) : lowB l id ≤ l.length := by
  unfold lowB
  exact (List.takeWhile_sublist _).length_le

def SearchAt (k : Nat) (e : Ending) : Prop := ∃ b : Bool, e = .returned (.tuple #[.int .i64 k, .bool b])

set_option maxRecDepth 100000 in
set_option maxHeartbeats 2000000 in
theorem search_link (A : Option Addr) (n c : Nat) (l : List Link) (id : Int) (w : World) (hr : LinksAt w w.heap.size A n l) (hn : n ≤ 1000) (hs : l.Pairwise fun x y => x.id < y.id) :
    Calls Tryd.prog 65 #[.slice A n c, .int .i64 id, .func (.func 66) #[] #[]] w fun e w' => SearchAt (lowB l id) e ∧ Below w.heap.size w w' := by
  have hl := hr.len
  have HS : Hid (∀ (i j : Nat) (x y : Link), l[i]? = some x → l[j]? = some y → i < j → x.id < y.id) := by
    intro i j x y hx hy hij
    obtain ⟨h1, rfl⟩ := List.getElem?_eq_some_iff.1 hx
    obtain ⟨h2, rfl⟩ := List.getElem?_eq_some_iff.1 hy
    exact List.pairwise_iff_getElem.1 hs i j h1 h2 hij
  have HL := Lib.hid hl
  clear hs hl
  go_enter Tryd.func65, Tryd.ntmps65
  go_wp2_with fail
  go_loopw [9, 10] (fun vi vj wr => ∃ i j : Nat, vi = .int .i64 i ∧ vj = .int .i64 j ∧ i ≤ j ∧ j ≤ n ∧ (∀ (k : Nat) x, l[k]? = some x → k < i → x.id < id) ∧ (∀ (k : Nat) x, l[k]? = some x → j ≤ k → id ≤ x.id) ∧ Below w.heap.size w wr)
    (fun vi vj _ => (intOf vj).toNat - (intOf vi).toNat)
  case atStart => exact ⟨0, n, rfl, rfl, by omega, by omega, fun _ _ _ h => absurd h (by omega), fun k x hx h => absurd (List.getElem?_eq_some_iff.1 hx).1 (by have := HL.out; omega), Below.refl _ _⟩
  case round =>
    obtain ⟨i, j, rfl, rfl, hij, hjn, h1, h2, hb⟩ := hrel
    have H1 := Lib.hid h1
    have H2 := Lib.hid h2
    clear h1 h2
    by_cases hlt : i < j
    · obtain ⟨h, hh, hh1, hh2⟩ : ∃ h : Nat, (i + j) / 2 = h ∧ i ≤ h ∧ h < j := ⟨_, rfl, by omega, by omega⟩
      obtain ⟨b, off, x, rfl, hbB, hx, hc0, hc1, hc2, hc3, hc4⟩ := (hr.below hb).cell (show h < n by omega)
      have HX := Lib.hid hx
      clear hx
      go_wp2_with fail
      refine (open1_any x id _).mono ?_
      rintro e w' ⟨rfl, hb'⟩
      have hb2 := hb.trans (hb'.mono hb.size)
      by_cases hxi : x.id < id
      · have hc : cmpI x.id id = -1 := by unfold cmpI; rw [if_pos hxi]
        go_wp2_with fail
        go_roundw
        case rel => exact ⟨h + 1, j, by go_num, rfl, by omega, by omega, fun k y hy hk => by
          rcases Nat.lt_or_ge k h with h3 | h3
          · have := HS.out k h y x hy HX.out h3; omega
          · obtain rfl : k = h := by omega
            have := HX.out
            rw [hy] at this
            cases this
            exact hxi, H2.out, hb2⟩
        case measure => simp [intOf]; omega
      · have hc : ¬ cmpI x.id id < 0 := by unfold cmpI; rw [if_neg hxi]; split <;> omega
        go_wp2_with fail
        go_roundw
        case rel => exact ⟨i, h, rfl, by rw [← hh]; go_num, by omega, by omega, H1.out, fun k y hy hk => by
          rcases Nat.lt_or_ge h k with h3 | h3
          · have := HS.out h k x y HX.out hy h3; omega
          · obtain rfl : k = h := by omega
            have := HX.out
            rw [hy] at this
            cases this
            omega, hb2⟩
        case measure => simp [intOf]; omega
    · obtain rfl : i = j := by omega
      have HB : Hid (lowB l id = i) := lowB_of (by have := HL.out; omega) (fun x hx => by
        rw [List.mem_take_iff_getElem] at hx
        obtain ⟨k, hk, rfl⟩ := hx
        exact H1.out k _ (List.getElem?_eq_getElem _) (by omega)) (fun x hx => by have := H2.out i x hx (Nat.le_refl _); omega)
      by_cases hin : i < n
      · obtain ⟨b, off, x, rfl, hbB, hx, hc0, hc1, hc2, hc3, hc4⟩ := (hr.below hb).cell hin
        clear hx
        go_wp2_with fail
        refine (open1_any x id _).mono ?_
        rintro e w' ⟨rfl, hb'⟩
        have hb2 := hb.trans (hb'.mono hb.size)
        go_wp2_with fail
        go_ret2
        rw [HB.out]
        exact ⟨⟨_, rfl⟩, hb2⟩
      · have hin' : decide ((i : Int) < (n : Int)) = false := by simp; omega
        go_wp2_with fail
        go_ret2
        rw [HB.out]
        exact ⟨⟨_, rfl⟩, hb⟩
end Go.Proofs.YtahkjagjcogeiaaDoor
