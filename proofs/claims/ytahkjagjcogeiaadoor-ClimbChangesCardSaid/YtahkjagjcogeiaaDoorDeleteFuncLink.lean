/- slices.DeleteFunc at links. -/
import Derived.Test.YtahkjagjcogeiaaDoorIndexFuncLink
import Derived.Test.YtahkjagjcogeiaaDoorCloneLink
import Derived.Test.YtahkjagjcogeiaaDoorRow
namespace Go.Proofs.YtahkjagjcogeiaaDoor
open Go.RowKit
set_option linter.unusedVariables false

theorem vals5 (x : Link) : x.vals.length = 5 := rfl
theorem zero_link (w : World) : (zeroValue 45).run Tryd.prog w = .ok (.agg #[.int .i64 0, .int .i64 0, .int .i64 0, .int .i64 0, .int .i64 0]) w := by kernel_rfl

/-- Between two rounds: i kept, j looked at. -/
structure DelAt (g : Nat) (e : TypeId) (sz : Nat) (l : List Link) (p : Link → Bool) (i j : Nat) (wr : World) (cur : Array Value) : Prop where
  blk : Blk wr g e cur
  size : cur.size = sz
  num : ((l.take j).filter fun x => !p x).length = i
  kept : ∀ (k : Nat) x, ((l.take j).filter fun x => !p x)[k]? = some x → ElAt cur 5 k x.vals
  left : ∀ (k : Nat) x, j ≤ k → l[k]? = some x → ElAt cur 5 k x.vals
theorem DelAt.later {g : Nat} {e : TypeId} {sz : Nat} {l : List Link} {p : Link → Bool} {i j : Nat} {wr w' : World} {cur : Array Value} (h : DelAt g e sz l p i j wr cur) (hb : Blk w' g e cur) : DelAt g e sz l p i j w' cur := ⟨hb, h.size, h.num, h.kept, h.left⟩
theorem DelAt.skip {g : Nat} {e : TypeId} {sz : Nat} {l : List Link} {p : Link → Bool} {i j : Nat} {wr : World} {cur : Array Value} {x : Link} (h : DelAt g e sz l p i j wr cur) (hx : l[j]? = some x) (hp : p x = true) : DelAt g e sz l p i (j + 1) wr cur := by
  obtain ⟨hj, rfl⟩ := List.getElem?_eq_some_iff.1 hx
  have e1 : ((l.take (j + 1)).filter fun x => !p x) = (l.take j).filter fun x => !p x := by
    rw [List.take_succ_eq_append_getElem hj, List.filter_append]; simp [hp]
  exact ⟨h.blk, h.size, by rw [e1]; exact h.num, by rw [e1]; exact h.kept, fun k y hk hy => h.left k y (by omega) hy⟩
theorem DelAt.keep {g : Nat} {e : TypeId} {sz : Nat} {l : List Link} {p : Link → Bool} {i j : Nat} {wr w' : World} {cur : Array Value} {x : Link} (h : DelAt g e sz l p i j wr cur) (hx : l[j]? = some x) (hp : p x = false) (hij : i ≤ j) (hs : l.length * 5 ≤ sz)
    (hb : Blk w' g e (wrt cur (i * 5) x.vals)) : DelAt g e sz l p (i + 1) (j + 1) w' (wrt cur (i * 5) x.vals) := by
  obtain ⟨hj, rfl⟩ := List.getElem?_eq_some_iff.1 hx
  have e1 : ((l.take (j + 1)).filter fun x => !p x) = ((l.take j).filter fun x => !p x) ++ [l[j]] := by
    rw [List.take_succ_eq_append_getElem hj, List.filter_append]; simp [hp]
  have hsz := h.size
  refine ⟨hb, by rw [wrt_size]; exact h.size, by rw [e1, List.length_append, h.num]; rfl, ?_, ?_⟩
  · intro k y hy
    rw [e1] at hy
    have hn := h.num
    by_cases hk : k < i
    · rw [List.getElem?_append_left (by omega)] at hy
      exact (h.kept k y hy).wrt_other rfl (by omega)
    · rw [List.getElem?_append_right (by omega), hn] at hy
      have hk0 : k - i = 0 := by
        rcases Nat.eq_zero_or_pos (k - i) with h0 | h0
        · exact h0
        · rw [List.getElem?_eq_none (by simp; omega)] at hy; cases hy
      rw [hk0] at hy
      simp at hy
      subst hy
      obtain rfl : k = i := by omega
      exact ElAt.wrt_same rfl (by omega)
  · intro k y hk hy
    exact (h.left k y (by omega) hy).wrt_other rfl (by omega)

set_option maxRecDepth 100000 in
set_option maxHeartbeats 4000000 in
theorem deleteFunc_link (base K : Nat) (F : FuncId) (C : Array Value) (p : Link → Bool) (A : Option Addr) (n c : Nat) (l : List Link) (w : World) (hO : Own w base 45 5 A n c (l.flatMap Link.vals)) (hK : K ≤ base) (hKw : K ≤ w.heap.size) (hp : PredL w K F C p) :
    Calls Tryd.prog 121 #[.slice A n c, .func (.func F) #[] C] w fun e w' => e = .returned (.slice A (l.filter fun x => !p x).length c) ∧ Own w' base 45 5 A (l.filter fun x => !p x).length c ((l.filter fun x => !p x).flatMap Link.vals) ∧ w.grownBy w' (A.map (·.block)) := by
  have hl : l.length = n := by have := hO.len; rw [flat_len' vals5] at this; omega
  have hcap := hO.cap_le
  have hmax : c ≤ 9223372036854775807 := by have := hcap.2; unfold maxLen at this; omega
  have hcn := hcap.1
  have HI := Lib.hid (indexFunc_link K F C p A n c l w (hO.reads (Nat.le_refl _)) (by omega) hKw hp)
  have hE := hp.enters
  have HF := Lib.hid hp
  clear hp
  by_cases hany : ∀ y ∈ l, p y = false
  · have hi : idxL p l = -1 := idxL_none hany
    have hfil : (l.filter fun x => !p x) = l := List.filter_eq_self.2 fun y hy => by rw [hany y hy]; rfl
    have HO := Lib.hid hO
    have HX := Lib.hid hfil
    rw [hi] at HI
    clear hany hi hO hfil
    go_enter Tryd.func121, Tryd.ntmps121
    go_wp2_with fail
    refine HI.out.mono ?_
    rintro e w1 ⟨rfl, hb⟩
    go_wp2_with fail
    go_ret
    rw [HX.out, hl]
    exact ⟨rfl, HO.out.below hb (Nat.le_refl _), grown_of_below hb _⟩
  · obtain ⟨k0, x0, hx0, hp0, hno⟩ : ∃ (k : Nat) (x : Link), l[k]? = some x ∧ p x = true ∧ ∀ y ∈ l.take k, p y = false := by
      have h1 : l.any p = true := by
        rw [List.any_eq_true]
        refine Classical.byContradiction fun hc => hany fun y hy => ?_
        cases hpy : p y with
        | false => rfl
        | true => exact absurd ⟨y, hy, hpy⟩ hc
      have h2 := List.findIdx_lt_length_of_exists (List.any_eq_true.1 h1)
      refine ⟨l.findIdx p, l[l.findIdx p], List.getElem?_eq_getElem h2, List.findIdx_getElem, fun y hy => ?_⟩
      rw [List.mem_take_iff_getElem] at hy
      obtain ⟨j, hj, rfl⟩ := hy
      have := List.not_of_lt_findIdx (xs := l) (p := p) (i := j) (by omega)
      simpa using this
    have hi : idxL p l = (k0 : Int) := idxL_some hx0 hp0 hno
    have hk0 : k0 < n := by rw [← hl]; exact (List.getElem?_eq_some_iff.1 hx0).1
    rw [hi] at HI
    rcases hO.form with ⟨rfl, rfl, rfl, _⟩ | ⟨g, cur, rfl, hbg, hblk, _, _, hsz, htake, _⟩
    · omega
    have hcells : ∀ k, k < l.length * 5 → cur[k]? = (l.flatMap Link.vals)[k]? := by
      intro k hk
      rw [← htake, List.getElem?_take, if_pos (by omega), Array.getElem?_toList]
    have hels := els_of_flat vals5 hcells
    have hfil : ((l.take k0).filter fun x => !p x) = l.take k0 := List.filter_eq_self.2 fun y hy => by rw [hno y hy]; rfl
    have D0 : DelAt g 45 (c * 5) l p k0 k0 w cur := ⟨hblk, hsz, by rw [hfil, List.length_take]; omega, fun k x h => hels k x (by
      rw [hfil, List.getElem?_take] at h
      split at h
      · exact h
      · cases h), fun k x _ h => hels k x h⟩
    have D1 := Lib.hid (D0.skip hx0 hp0)
    have HB := Lib.hid hblk
    have HN := Lib.hid hl
    have hlg := hblk.lt
    have hne : ((k0 : Int) == -1) = false := by simp
    clear hany hi hO hno hp0 hx0 hcells hels hfil htake hsz D0 hl hblk
    go_enter Tryd.func121, Tryd.ntmps121
    go_wp2_with fail
    refine HI.out.mono ?_
    rintro e w1 ⟨rfl, hb⟩
    go_wp2_with fail
    go_loopw [5, 6] (fun vi vj wr => ∃ (i j : Nat) (cur : Array Value), vi = .int .i64 i ∧ vj = .int .i64 j ∧ i < j ∧ j ≤ n ∧ DelAt g 45 (c * 5) l p i j wr cur ∧ w.grownBy wr (some g))
      (fun _ vj _ => n - (intOf vj).toNat)
    case atStart => exact ⟨k0, k0 + 1, cur, rfl, by go_num, by omega, by omega, D1.out.later (HB.out.below hb hlg), grown_of_below hb _⟩
    case round =>
      obtain ⟨i, j, cur1, rfl, rfl, hij, hjn, hD, hg⟩ := hrel
      by_cases hlt : j < n
      · have hxj : l[j]? = some (l[j]'(by have := HN.out; omega)) := List.getElem?_eq_getElem _
        generalize (l[j]'(by have := HN.out; omega)) = x at hxj
        have e1 := hD.left j x (Nat.le_refl _) hxj
        have c0 : wr.cell? ⟨g, j * 5, none⟩ = some (.int .i64 x.id) := (hD.blk.cell _).trans (e1 0 (by omega))
        have c1 : wr.cell? ⟨g, j * 5 + 1, none⟩ = some (.int .i64 x.fr) := (hD.blk.cell _).trans (e1 1 (by omega))
        have c2 : wr.cell? ⟨g, j * 5 + 2, none⟩ = some (.int .i64 x.to) := (hD.blk.cell _).trans (e1 2 (by omega))
        have c3 : wr.cell? ⟨g, j * 5 + 3, none⟩ = some (.int .i64 x.steps) := (hD.blk.cell _).trans (e1 3 (by omega))
        have c4 : wr.cell? ⟨g, j * 5 + 4, none⟩ = some (.int .i64 x.paces) := (hD.blk.cell _).trans (e1 4 (by omega))
        have HX := Lib.hid hxj
        have HD := Lib.hid hD
        have hgs := hg.size
        have HG := Lib.hid hg
        clear hxj hD hg e1
        go_wp2_with fail
        have hgl := HD.out.blk.lt
        have hKg : ∀ k, some g = some k → K ≤ k := fun k hk => by cases hk; omega
        refine (HF.out.calls x _ (((below_of_grown HG.out hKg (by omega)).alloc (by omega) _))).mono ?_
        rintro e w2 ⟨rfl, hb2⟩
        have X2 := (Blk.new wr 45 #[.int .i64 x.id, .int .i64 x.fr, .int .i64 x.to, .int .i64 x.steps, .int .i64 x.paces]).below hb2 (by simp)
        have G2 := (HD.out.blk.alloc (.cells #[.int .i64 x.id, .int .i64 x.fr, .int .i64 x.to, .int .i64 x.steps, .int .i64 x.paces] 45)).below hb2 (by simp; omega)
        have hG2 := Lib.hid (grown_below (grown_alloc HG.out _) hb2)
        have hsz2 := hb2.size
        rw [World.size_alloc] at hsz2
        have D2 := Lib.hid (HD.out.later G2)
        clear HG HD c0 c1 c2 c3 c4 hb2
        cases hp : p x with
        | true =>
          have HP := Lib.hid hp
          clear hp X2 G2
          go_wp2_with fail
          go_roundw
          case rel => exact ⟨i, j + 1, cur1, rfl, by go_num, by omega, by omega, D2.out.skip HX.out HP.out, hG2.out⟩
          case measure => simp [intOf]; omega
        | false =>
          have HP := Lib.hid hp
          have hsz := D2.out.size
          have x0 : w2.cell? ⟨wr.heap.size, 0, none⟩ = some (.int .i64 x.id) := X2.cell 0
          have x1 : w2.cell? ⟨wr.heap.size, 1, none⟩ = some (.int .i64 x.fr) := X2.cell 1
          have x2 : w2.cell? ⟨wr.heap.size, 2, none⟩ = some (.int .i64 x.to) := X2.cell 2
          have x3 : w2.cell? ⟨wr.heap.size, 3, none⟩ = some (.int .i64 x.steps) := X2.cell 3
          have x4 : w2.cell? ⟨wr.heap.size, 4, none⟩ = some (.int .i64 x.paces) := X2.cell 4
          have f0 : w2.frozen? ⟨g, i * 5, none⟩ = false := G2.frozen _
          have f1 : w2.frozen? ⟨g, i * 5 + 1, none⟩ = false := G2.frozen _
          have f2 : w2.frozen? ⟨g, i * 5 + 2, none⟩ = false := G2.frozen _
          have f3 : w2.frozen? ⟨g, i * 5 + 3, none⟩ = false := G2.frozen _
          have f4 : w2.frozen? ⟨g, i * 5 + 4, none⟩ = false := G2.frozen _
          obtain ⟨u0, g0⟩ : ∃ u, w2.cell? ⟨g, i * 5, none⟩ = some u := ⟨_, by rw [G2.cell]; exact Array.getElem?_eq_getElem (by omega)⟩
          obtain ⟨u1, g1⟩ : ∃ u, w2.cell? ⟨g, i * 5 + 1, none⟩ = some u := ⟨_, by rw [G2.cell]; exact Array.getElem?_eq_getElem (by omega)⟩
          obtain ⟨u2, g2⟩ : ∃ u, w2.cell? ⟨g, i * 5 + 2, none⟩ = some u := ⟨_, by rw [G2.cell]; exact Array.getElem?_eq_getElem (by omega)⟩
          obtain ⟨u3, g3⟩ : ∃ u, w2.cell? ⟨g, i * 5 + 3, none⟩ = some u := ⟨_, by rw [G2.cell]; exact Array.getElem?_eq_getElem (by omega)⟩
          obtain ⟨u4, g4⟩ : ∃ u, w2.cell? ⟨g, i * 5 + 4, none⟩ = some u := ⟨_, by rw [G2.cell]; exact Array.getElem?_eq_getElem (by omega)⟩
          have HGB := Lib.hid G2
          clear hp X2 hsz G2
          go_wp2_with fail
          go_roundw
          case rel =>
            exact ⟨i + 1, j + 1, wrt cur1 (i * 5) x.vals, by go_num, by go_num, by omega, by omega, D2.out.keep HX.out HP.out (by omega) (by have := HN.out; omega) (Blk.setCells x.vals (i * 5) HGB.out), grown_setCells x.vals (i * 5) hG2.out (.inl rfl)⟩
          case measure => simp [intOf]; omega
      · obtain rfl : j = n := by omega
        have hfin : ((l.take j).filter fun x => !p x) = l.filter fun x => !p x := by rw [List.take_of_length_le (by have := HN.out; omega)]
        have hsz := hD.size
        obtain ⟨vs, hvs, hclr⟩ := run_clear_row (P := Tryd.prog) (w := wr) (g := g) (t := 23) (ty := 0) hD.blk Tryd.underlying23 zero_link (by intro u hu; simp [Value.cells] at hu; subst hu; rfl) (i * 5) (j - i) (c - i) (by simp [Value.cells]; omega)
        have hnum := hD.num
        rw [hfin] at hnum
        have HFin := Lib.hid hfin
        have HNum := Lib.hid hnum
        have HVs := Lib.hid hvs
        have HD := Lib.hid hD
        have HG := Lib.hid hg
        have HSz := Lib.hid hsz
        clear hfin hnum hvs hD hg hsz
        go_wp2_with fail
        go_ret
        have hv5 : vs.length = (j - i) * 5 := HVs.out
        refine ⟨?_, Own.mk_ hbg (Blk.setCells vs (i * 5) HD.out.blk) (by rw [HNum.out]; omega) hcap.2 (by rw [wrt_size]; exact HSz.out) (by rw [flat_len' vals5]) ?_, grown_setCells vs (i * 5) HG.out (.inl rfl)⟩
        · rw [HNum.out]; rfl
        · intro k hk
          rw [HNum.out] at hk
          rw [wrt_out _ _ _ _ (.inl hk)]
          have hk' := HD.out.kept
          rw [HFin.out] at hk'
          exact flat_of_els (by omega) vals5 hk' k (by rw [HNum.out]; exact hk)
end Go.Proofs.YtahkjagjcogeiaaDoor
