/- The answer's SameInts, Same, Great. -/
import Derived.Test.YtahkjagjcogeiaaDoorRfTown
import Derived.Laws.StructEq
namespace Go.Proofs.YtahkjagjcogeiaaDoor
open Go.RowKit
set_option linter.unusedVariables false

def sameI (a b : List Int) : Bool := decide (a = b)
theorem sameI_len {a b : List Int} (h : a.length ≠ b.length) : sameI a b = false := by unfold sameI; simp; intro e; exact h (by rw [e])
theorem sameI_ne {a b : List Int} {k : Nat} {x y : Int} (hx : a[k]? = some x) (hy : b[k]? = some y) (h : x ≠ y) : sameI a b = false := by
  unfold sameI; simp; intro e; subst e; rw [hx] at hy; cases hy; exact h rfl
theorem sameI_eq {a b : List Int} (hl : a.length = b.length) (h : ∀ (k : Nat) x y, k < a.length → a[k]? = some x → b[k]? = some y → x = y) : sameI a b = true := by
  unfold sameI; simp
  apply List.ext_getElem?
  intro k
  by_cases hk : k < a.length
  · have h1 : a[k]? = some a[k] := List.getElem?_eq_getElem hk
    have h2 : b[k]? = some (b[k]'(by omega)) := List.getElem?_eq_getElem _
    rw [h1, h2, h k _ _ hk h1 h2]
  · rw [List.getElem?_eq_none (by omega), List.getElem?_eq_none (by omega)]

set_option maxRecDepth 100000 in
set_option maxHeartbeats 2000000 in
theorem sameInts_any (A : Option Addr) (n c : Nat) (a : List Int) (B : Option Addr) (m d : Nat) (b : List Int) (w : World) (hn : n ≤ maxLen) (hm : m ≤ maxLen) (ha : IntsAt w w.heap.size A n a) (hb : IntsAt w w.heap.size B m b) :
    Calls Tryd.prog 15 #[.slice A n c, .slice B m d] w fun e w' => e = .returned (.bool (sameI a b)) ∧ Below w.heap.size w w' := by
  unfold maxLen at hn hm
  have HA := Lib.hid ha.len
  have HB := Lib.hid hb.len
  by_cases hnm : n = m
  · subst hnm
    have hnn : ((n : Int) == (n : Int)) = true := by simp
    go_enter Tryd.func15, Tryd.ntmps15
    go_wp2_with fail
    go_loopw [5] (fun i wr => ∃ k : Nat, k ≤ n ∧ i = .int .i64 k ∧ (∀ (j : Nat) x y, j < k → a[j]? = some x → b[j]? = some y → x = y) ∧ Below w.heap.size w wr)
      (fun i _ => n - (intOf i).toNat)
    case atStart => exact ⟨0, by omega, rfl, fun _ _ _ h => absurd h (by omega), Below.refl _ _⟩
    case round =>
      obtain ⟨k, hk, rfl, hall, hbel⟩ := hrel
      have HAll := Lib.hid hall
      clear hall
      by_cases hlt : k < n
      · obtain ⟨b1, o1, x, rfl, hb1, hx, cx⟩ := (ha.below hbel).cell hlt
        obtain ⟨b2, o2, y, rfl, hb2, hy, cy⟩ := (hb.below hbel).cell hlt
        have HX := Lib.hid hx
        have HY := Lib.hid hy
        have kI : (k : Int) < (n : Int) := by omega
        have k0 : (0 : Int) ≤ (k : Int) := by omega
        clear hx hy
        by_cases hxy : x = y
        · have hxy' : (x == y) = true := by simpa using hxy
          have HXY := Lib.hid hxy
          clear hxy
          go_wp2_with fail
          go_quiet (fail)
          go_wp2_with fail
          go_roundw
          case rel => exact ⟨k + 1, by omega, by go_num, fun j u v hj hu hv => by
            rcases Nat.lt_or_ge j k with h | h
            · exact HAll.out j u v h hu hv
            · obtain rfl : j = k := by omega
              rw [HX.out] at hu; rw [HY.out] at hv
              cases hu; cases hv; exact HXY.out, below_drewN hbel _⟩
          case measure => simp [intOf]; omega
        · have hxy' : (x == y) = false := by simpa using hxy
          have HXY := Lib.hid hxy
          clear hxy
          go_wp2_with fail
          go_quiet (fail)
          go_wp2_with fail
          go_ret
          exact ⟨ret_bool (sameI_ne HX.out HY.out HXY.out).symm, below_drewN hbel _⟩
      · go_wp2_with fail
        go_ret
        exact ⟨ret_bool (sameI_eq (by rw [HA.out, HB.out]) (fun j x y hj hx hy => HAll.out j x y (by have := HA.out; omega) hx hy)).symm, hbel⟩
  · have hnn : ((n : Int) == (m : Int)) = false := by simp; omega
    have HF : Hid (sameI a b = false) := sameI_len (by rw [HA.out, HB.out]; exact hnm)
    go_enter Tryd.func15, Tryd.ntmps15
    go_wp2_with fail
    go_ret
    exact ⟨ret_bool HF.out.symm, Below.refl _ _⟩

def eqK (x y : Link) : Bool := x.id == y.id && x.fr == y.fr && x.to == y.to && x.steps == y.steps && x.paces == y.paces
theorem eqK_iff {x y : Link} : eqK x y = true ↔ x = y := by
  obtain ⟨a1, a2, a3, a4, a5⟩ := x
  obtain ⟨b1, b2, b3, b4, b5⟩ := y
  unfold eqK
  simp
  constructor
  · rintro ⟨⟨⟨⟨h1, h2⟩, h3⟩, h4⟩, h5⟩; exact ⟨h1, h2, h3, h4, h5⟩
  · rintro ⟨h1, h2, h3, h4, h5⟩; exact ⟨⟨⟨⟨h1, h2⟩, h3⟩, h4⟩, h5⟩
theorem eqi_run' (d : Nat) (a b : Int) (w : World) : (Op.equalIn (d+1) 3 (.int .i64 a) (.int .i64 b)).run Tryd.prog w = .ok (a == b) w := by
  simp [Op.equalIn, run_underlying Tryd.underlying3]
theorem eqK_run (a1 a2 a3 a4 a5 b1 b2 b3 b4 b5 : Int) (w : World) : (Op.equalIn 10000 45 (.agg #[.int .i64 a1, .int .i64 a2, .int .i64 a3, .int .i64 a4, .int .i64 a5]) (.agg #[.int .i64 b1, .int .i64 b2, .int .i64 b3, .int .i64 b4, .int .i64 b5])).run Tryd.prog w = .ok (eqK ⟨a1, a2, a3, a4, a5⟩ ⟨b1, b2, b3, b4, b5⟩) w := by
  rw [Op.equalIn]
  simp [go_sem, run_underlying Tryd.underlying45, eqi_run', Std.Legacy.Range.forIn_eq_forIn_range', part, eqK]
  by_cases h1 : a1 = b1 <;> by_cases h2 : a2 = b2 <;> by_cases h3 : a3 = b3 <;> by_cases h4 : a4 = b4 <;> by_cases h5 : a5 = b5 <;> simp [h1, h2, h3, h4, h5]

def sameT (t u : Town) : Bool := decide (t = u)
theorem sameT_places {t u : Town} (h : sameI t.places u.places = false) : sameT t u = false := by
  unfold sameT; unfold sameI at h; simp at h ⊢; intro e; subst e; exact h rfl
theorem sameT_len {t u : Town} (h : t.links.length ≠ u.links.length) : sameT t u = false := by
  unfold sameT; simp; intro e; subst e; exact h rfl
theorem sameT_ne {t u : Town} {k : Nat} {x y : Link} (hx : t.links[k]? = some x) (hy : u.links[k]? = some y) (h : x ≠ y) : sameT t u = false := by
  unfold sameT; simp; intro e; subst e; rw [hx] at hy; cases hy; exact h rfl
theorem sameT_eq {t u : Town} (hp : sameI t.places u.places = true) (hl : t.links.length = u.links.length) (h : ∀ (k : Nat) x y, k < t.links.length → t.links[k]? = some x → u.links[k]? = some y → x = y) : sameT t u = true := by
  obtain ⟨tp, tl⟩ := t
  obtain ⟨up, ul⟩ := u
  unfold sameI at hp
  simp only [decide_eq_true_eq] at hp hl h
  unfold sameT; simp
  refine ⟨hp, List.ext_getElem? fun k => ?_⟩
  by_cases hk : k < tl.length
  · have h1 : tl[k]? = some tl[k] := List.getElem?_eq_getElem hk
    have h2 : ul[k]? = some (ul[k]'(by omega)) := List.getElem?_eq_getElem _
    rw [h1, h2, h k _ _ hk h1 h2]
  · rw [List.getElem?_eq_none (by omega), List.getElem?_eq_none (by omega)]

set_option maxRecDepth 100000 in
set_option maxHeartbeats 4000000 in
theorem same_any (A : Option Addr) (n c : Nat) (A' : Option Addr) (m d : Nat) (t : Town) (C : Option Addr) (p q : Nat) (C' : Option Addr) (r s : Nat) (u : Town) (w : World) (hn : n ≤ maxLen) (hm : m ≤ maxLen) (hp : p ≤ maxLen) (hr : r ≤ maxLen) (ht : TownAt w w.heap.size A n A' m t) (hu : TownAt w w.heap.size C p C' r u) :
    Calls Tryd.prog 16 #[.agg #[.slice A n c, .slice A' m d], .agg #[.slice C p q, .slice C' r s]] w fun e w' => e = .returned (.bool (sameT t u)) ∧ Below w.heap.size w w' := by
  have HT := Lib.hid ht
  have HU := Lib.hid hu
  have HA := Lib.hid ht.links.len
  have HB := Lib.hid hu.links.len
  have HM := Lib.hid hm
  have HR := Lib.hid hr
  clear ht hu
  go_enter Tryd.func16, Tryd.ntmps16
  go_wp2_with fail
  have X0 := (Blk.new w 25 #[.slice A n c, .slice A' m d]).alloc (.cells #[.slice C p q, .slice C' r s] 25)
  have Y0 := Blk.new (w.alloc (.cells #[.slice A n c, .slice A' m d] 25)) 25 #[.slice C p q, .slice C' r s]
  have B0 : Below w.heap.size w ((w.alloc (.cells #[.slice A n c, .slice A' m d] 25)).alloc (.cells #[.slice C p q, .slice C' r s] 25)) := ((Below.refl _ _).alloc (Nat.le_refl _) _).alloc (by simp) _
  rw [World.size_alloc] at Y0
  generalize ((w.alloc (.cells #[.slice A n c, .slice A' m d] 25)).alloc (.cells #[.slice C p q, .slice C' r s] 25)) = w0 at *
  with_reducible refine (sameInts_any A n c t.places C p q u.places w0 hn hp ((HT.out.places.below B0).more B0.size) ((HU.out.places.below B0).more B0.size)).mono ?_
  rintro e w1 ⟨rfl, hb1⟩
  replace X0 := X0.below hb1 X0.lt
  replace Y0 := Y0.below hb1 Y0.lt
  replace B0 := B0.trans (hb1.mono B0.size)
  have x0 := X0.cell 0
  have x1 := X0.cell 1
  have y0 := Y0.cell 0
  have y1 := Y0.cell 1
  clear hb1
  cases hs : sameI t.places u.places with
  | false =>
    have HF := Lib.hid (sameT_places hs)
    clear hs
    go_wp2_with fail
    go_ret
    exact ⟨ret_bool HF.out.symm, B0⟩
  | true =>
  have HS := Lib.hid hs
  clear hs
  by_cases hmr : m = r
  · subst hmr
    have hnn : ((m : Int) == (m : Int)) = true := by simp
    have hrun := eqK_run
    unfold maxLen at hm
    clear x0 x1 y0 y1
    have x1 := X0.cell 1
    have y1 := Y0.cell 1
    go_wp2_with fail
    go_loopw [5] (fun i wr => ∃ k : Nat, k ≤ m ∧ i = .int .i64 k ∧ (∀ (j : Nat) x y, j < k → t.links[j]? = some x → u.links[j]? = some y → x = y) ∧ Below w1.heap.size w1 wr)
      (fun i _ => m - (intOf i).toNat)
    case atStart => exact ⟨0, by omega, rfl, fun _ _ _ h => absurd h (by omega), Below.refl _ _⟩
    case round =>
      obtain ⟨k, hk, rfl, hall, hbel⟩ := hrel
      have HAll := Lib.hid hall
      clear hall x1 y1
      have x1 := (X0.below hbel X0.lt).cell 1
      have y1 := (Y0.below hbel Y0.lt).cell 1
      have BR := B0.trans (hbel.mono B0.size)
      by_cases hlt : k < m
      · obtain ⟨b1, o1, x, rfl, hb1, hx, cx0, cx1, cx2, cx3, cx4⟩ := (HT.out.links.below BR).cell hlt
        obtain ⟨b2, o2, y, rfl, hb2, hy, cy0, cy1, cy2, cy3, cy4⟩ := (HU.out.links.below BR).cell hlt
        have HX := Lib.hid hx
        have HY := Lib.hid hy
        have kI : (k : Int) < (m : Int) := by omega
        have k0 : (0 : Int) ≤ (k : Int) := by omega
        clear hx hy
        cases hxy : eqK ⟨x.id, x.fr, x.to, x.steps, x.paces⟩ ⟨y.id, y.fr, y.to, y.steps, y.paces⟩ with
        | true =>
          have HXY : Hid (x = y) := eqK_iff.1 hxy
          go_wp2_with fail
          go_quiet (fail)
          go_wp2_with fail
          go_roundw
          case rel => exact ⟨k + 1, by omega, by go_num, fun j u' v hj hu hv => by
            rcases Nat.lt_or_ge j k with h | h
            · exact HAll.out j u' v h hu hv
            · obtain rfl : j = k := by omega
              rw [HX.out] at hu; rw [HY.out] at hv
              cases hu; cases hv; exact HXY.out, below_drewN hbel _⟩
          case measure => simp [intOf]; omega
        | false =>
          have HXY : Hid (x ≠ y) := fun e => by
            have h1 : eqK x y = false := hxy
            rw [eqK_iff.2 e] at h1; cases h1
          go_wp2_with fail
          go_quiet (fail)
          go_wp2_with fail
          go_ret
          exact ⟨ret_bool (sameT_ne HX.out HY.out HXY.out).symm, below_drewN BR _⟩
      · go_wp2_with fail
        go_ret
        exact ⟨ret_bool (sameT_eq HS.out (by rw [HA.out, HB.out]) (fun j x y hj hx hy => HAll.out j x y (by have := HA.out; omega) hx hy)).symm, BR⟩
  · have hnn : ((m : Int) == (r : Int)) = false := by simp; omega
    have HF : Hid (sameT t u = false) := sameT_len (by rw [HA.out, HB.out]; exact hmr)
    go_wp2_with fail
    go_ret
    exact ⟨ret_bool HF.out.symm, B0⟩

def greatB (n m : Nat) : Bool := decide (20 < n) || decide (40 < m)
set_option maxHeartbeats 1000000 in
theorem great_any (A : Option Addr) (n c : Nat) (A' : Option Addr) (m d : Nat) (w : World) :
    Calls Tryd.prog 9 #[.agg #[.slice A n c, .slice A' m d]] w fun e w' => e = .returned (.bool (greatB n m)) ∧ Below w.heap.size w w' := by
  by_cases h1 : 20 < n
  · have HG : Hid (greatB n m = true) := by show _ = _; unfold greatB; simp [h1]
    have h1' : (20 : Int) < (n : Int) := by omega
    clear h1
    go_enter Tryd.func9, Tryd.ntmps9
    go_wp2_with fail
    go_ret
    exact ⟨ret_bool HG.out.symm, (Below.refl _ _).alloc (Nat.le_refl _) _⟩
  · have h1' : decide ((20 : Int) < (n : Int)) = false := by simp; omega
    by_cases h2 : 40 < m
    · have HG : Hid (greatB n m = true) := by show _ = _; unfold greatB; simp [h2]
      have h2' : (40 : Int) < (m : Int) := by omega
      clear h1 h2
      go_enter Tryd.func9, Tryd.ntmps9
      go_wp2_with fail
      go_ret
      exact ⟨ret_bool HG.out.symm, (Below.refl _ _).alloc (Nat.le_refl _) _⟩
    · have HG : Hid (greatB n m = false) := by show _ = _; unfold greatB; simp [h1, h2]
      have h2' : ¬ (40 : Int) < (m : Int) := by omega
      clear h1 h2
      go_enter Tryd.func9, Tryd.ntmps9
      go_wp2_with fail
      go_ret
      exact ⟨ret_bool HG.out.symm, (Below.refl _ _).alloc (Nat.le_refl _) _⟩
end Go.Proofs.YtahkjagjcogeiaaDoor
