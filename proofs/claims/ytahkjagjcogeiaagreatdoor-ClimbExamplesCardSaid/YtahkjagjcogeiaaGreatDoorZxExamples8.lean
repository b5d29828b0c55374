/- Part 8 of the texts of this claim, joined. -/
import Derived.Deep.RegionHeld3
import Derived.Test.YtahkjagjcogeiaaGreatDoorZxExamples7
set_option linter.unusedVariables false
/- slices.DeleteFunc at links. -/
namespace Go.Proofs.YtahkjagjcogeiaaGreatDoor
section
open Go.RowKit
theorem vals5 (x : Link) : x.vals.length = 5 := rfl
theorem zero_link (w : World) : (zeroValue 52).run Tryz.prog w = .ok (.agg #[.int .i64 0, .int .i64 0, .int .i64 0, .int .i64 0, .int .i64 0]) w := by kernel_rfl
structure DelAt (g : Nat) (e : TypeId) (sz : Nat) (l : List Link) (p : Link → Bool) (i j : Nat) (wr : World) (cur : Array Value) : Prop where
 blk : Blk wr g e cur
 size : cur.size = sz
 num : ((l.take j).filter fun x => !p x).length = i
 kept : ∀ (k : Nat) x, ((l.take j).filter fun x => !p x)[k]? = some x → ElAt cur 5 k x.vals
 left : ∀ (k : Nat) x, j ≤ k → l[k]? = some x → ElAt cur 5 k x.vals
theorem DelAt.later {g : Nat} {e : TypeId} {sz : Nat} {l : List Link} {p : Link → Bool} {i j : Nat} {wr w' : World} {cur : Array Value} (h : DelAt g e sz l p i j wr cur) (hb : Blk w' g e cur) : DelAt g e sz l p i j w' cur := ⟨hb, h.size, h.num, h.kept, h.left⟩
theorem DelAt.skip {g : Nat} {e : TypeId} {sz : Nat} {l : List Link} {p : Link → Bool} {i j : Nat} {wr : World} {cur : Array Value} {x : Link} (h : DelAt g e sz l p i j wr cur) (hx : l[j]? = some x) (hp : p x = true) : DelAt g e sz l p i (j + 1) wr cur := by
 obtain ⟨hj, rfl⟩ := List.getElem?_eq_some_iff.1 hx
 have e1 : ((l.take (j + 1)).filter fun x => !p x) = (l.take j).filter fun x => !p x := by
  rw [List.take_succ_eq_append_getElem hj, List.filter_append]; simp [hp]
 exact ⟨h.blk, h.size, by rw [e1]; exact h.num, by rw [e1]; exact h.kept, fun k y hk hy => h.left k y (by omega) hy⟩
theorem DelAt.keep {g : Nat} {e : TypeId} {sz : Nat} {l : List Link} {p : Link → Bool} {i j : Nat} {wr w' : World} {cur : Array Value} {x : Link} (h : DelAt g e sz l p i j wr cur) (hx : l[j]? = some x) (hp : p x = false) (hij : i ≤ j) (hs : l.length * 5 ≤ sz)
  (hb : Blk w' g e (wrt cur (i * 5) x.vals)) : DelAt g e sz l p (i + 1) (j + 1) w' (wrt cur (i * 5) x.vals) := by
 obtain ⟨hj, rfl⟩ := List.getElem?_eq_some_iff.1 hx
 have e1 : ((l.take (j + 1)).filter fun x => !p x) = ((l.take j).filter fun x => !p x) ++ [l[j]] := by
  rw [List.take_succ_eq_append_getElem hj, List.filter_append]; simp [hp]
 have hsz := h.size
 refine ⟨hb, by rw [wrt_size]; exact h.size, by rw [e1, List.length_append, h.num]; rfl, ?_, ?_⟩
 ·intro k y hy
  rw [e1] at hy
  have hn := h.num
  by_cases hk : k < i
  ·rw [List.getElem?_append_left (by omega)] at hy
   exact (h.kept k y hy).wrt_other rfl (by omega)
  ·rw [List.getElem?_append_right (by omega), hn] at hy
   have hk0 : k - i = 0 := by
    rcases Nat.eq_zero_or_pos (k - i) with h0 | h0
    ·exact h0
    ·rw [List.getElem?_eq_none (by simp; omega)] at hy; cases hy
   rw [hk0] at hy
   simp at hy
   subst hy
   obtain rfl : k = i := by omega
   exact ElAt.wrt_same rfl (by omega)
 ·intro k y hk hy
  exact (h.left k y (by omega) hy).wrt_other rfl (by omega)
set_option maxRecDepth 100000 in
set_option maxHeartbeats 4000000 in
theorem deleteFunc_link (base K : Nat) (F : FuncId) (C : Array Value) (p : Link → Bool) (A : Option Addr) (n c : Nat) (l : List Link) (w : World) (hO : Own w base 52 5 A n c (l.flatMap Link.vals)) (hK : K ≤ base) (hKw : K ≤ w.heap.size) (hp : PredL w K F C p) :
  Calls Tryz.prog 115 #[.slice A n c, .func (.func F) #[] C] w fun e w' => e = .returned (.slice A (l.filter fun x => !p x).length c) ∧ Own w' base 52 5 A (l.filter fun x => !p x).length c ((l.filter fun x => !p x).flatMap Link.vals) ∧ w.grownBy w' (A.map (·.block)) := by
 have hl : l.length = n := by have := hO.len; rw [flat_len' vals5] at this; omega
 have hcap := hO.cap_le
 have hmax : c ≤ 9223372036854775807 := by have := hcap.2; unfold maxLen at this; omega
 have hcn := hcap.1
 have HI := lh (indexFunc_link K F C p A n c l w (hO.reads (Nat.le_refl _)) (by omega) hKw hp)
 have hE := hp.enters
 have HF := lh hp
 clear hp
 by_cases hany : ∀ y ∈ l, p y = false
 ·have hi : idxL p l = -1 := idxL_none hany
  have hfil : (l.filter fun x => !p x) = l := List.filter_eq_self.2 fun y hy => by rw [hany y hy]; rfl
  have HO := lh hO
  have HX := lh hfil
  rw [hi] at HI
  clear hany hi hO hfil
  go_enter Tryz.func115, Tryz.ntmps115
  go_wp2_with fail
  refine HI.out.mono ?_
  rintro e w1 ⟨rfl, hb⟩
  go_wp2_with fail
  go_ret
  rw [HX.out, hl]
  exact ⟨rfl, HO.out.below hb (Nat.le_refl _), grown_of_below hb _⟩
 ·obtain ⟨k0, x0, hx0, hp0, hno⟩ : ∃ (k : Nat) (x : Link), l[k]? = some x ∧ p x = true ∧ ∀ y ∈ l.take k, p y = false := by
   have h1 : l.any p = true := by
    rw [List.any_eq_true]
    refine Classical.byContradiction fun hc => hany fun y hy => ?_
    cases hpy : p y with
    | false => rfl
    | true => exact absurd ⟨y, hy, hpy⟩ hc
   have h2 := List.findIdx_lt_length_of_exists (List.any_eq_true.1 h1)
   refine ⟨l.findIdx p, l[l.findIdx p], List.getElem?_eq_getElem h2, List.findIdx_getElem, fun y hy => ?_⟩
   rw [List.mem_take_iff_getElem] at hy
   obtain ⟨j, hj, rfl⟩ := hy
   have := List.not_of_lt_findIdx (xs := l) (p := p) (i := j) (by omega)
   simpa using this
  have hi : idxL p l = (k0 : Int) := idxL_some hx0 hp0 hno
  have hk0 : k0 < n := by rw [← hl]; exact (List.getElem?_eq_some_iff.1 hx0).1
  rw [hi] at HI
  rcases hO.form with ⟨rfl, rfl, rfl, _⟩ | ⟨g, cur, rfl, hbg, hblk, _, _, hsz, htake, _⟩
  ·omega
  have hcells : ∀ k, k < l.length * 5 → cur[k]? = (l.flatMap Link.vals)[k]? := by
   intro k hk
   rw [← htake, List.getElem?_take, if_pos (by omega), Array.getElem?_toList]
  have hels := els_of_flat vals5 hcells
  have hfil : ((l.take k0).filter fun x => !p x) = l.take k0 := List.filter_eq_self.2 fun y hy => by rw [hno y hy]; rfl
  have D0 : DelAt g 52 (c * 5) l p k0 k0 w cur := ⟨hblk, hsz, by rw [hfil, List.length_take]; omega, fun k x h => hels k x (by
   rw [hfil, List.getElem?_take] at h
   split at h
   ·exact h
   ·cases h), fun k x _ h => hels k x h⟩
  have D1 := lh (D0.skip hx0 hp0)
  have HB := lh hblk
  have HN := lh hl
  have hlg := hblk.lt
  have hne : ((k0 : Int) == -1) = false := by simp
  clear hany hi hO hno hp0 hx0 hcells hels hfil htake hsz D0 hl hblk
  go_enter Tryz.func115, Tryz.ntmps115
  go_wp2_with fail
  refine HI.out.mono ?_
  rintro e w1 ⟨rfl, hb⟩
  go_wp2_with fail
  go_loopw [5, 6] (fun vi vj wr => ∃ (i j : Nat) (cur : Array Value), vi = .int .i64 i ∧ vj = .int .i64 j ∧ i < j ∧ j ≤ n ∧ DelAt g 52 (c * 5) l p i j wr cur ∧ w.grownBy wr (some g))
   (fun _ vj _ => n - (intOf vj).toNat)
  case atStart => exact ⟨k0, k0 + 1, cur, rfl, by go_num, by omega, by omega, D1.out.later (HB.out.below hb hlg), grown_of_below hb _⟩
  case round =>
   obtain ⟨i, j, cur1, rfl, rfl, hij, hjn, hD, hg⟩ := hrel
   by_cases hlt : j < n
   ·have hxj : l[j]? = some (l[j]'(by have := HN.out; omega)) := List.getElem?_eq_getElem _
    generalize (l[j]'(by have := HN.out; omega)) = x at hxj
    have e1 := hD.left j x (Nat.le_refl _) hxj
    have c0 : wr.cell? ⟨g, j * 5, none⟩ = some (.int .i64 x.id) := (hD.blk.cell _).trans (e1 0 (by omega))
    have c1 : wr.cell? ⟨g, j * 5 + 1, none⟩ = some (.int .i64 x.fr) := (hD.blk.cell _).trans (e1 1 (by omega))
    have c2 : wr.cell? ⟨g, j * 5 + 2, none⟩ = some (.int .i64 x.to) := (hD.blk.cell _).trans (e1 2 (by omega))
    have c3 : wr.cell? ⟨g, j * 5 + 3, none⟩ = some (.int .i64 x.steps) := (hD.blk.cell _).trans (e1 3 (by omega))
    have c4 : wr.cell? ⟨g, j * 5 + 4, none⟩ = some (.int .i64 x.paces) := (hD.blk.cell _).trans (e1 4 (by omega))
    have HX := lh hxj
    have HD := lh hD
    have hgs := hg.size
    have HG := lh hg
    clear hxj hD hg e1
    go_wp2_with fail
    have hgl := HD.out.blk.lt
    have hKg : ∀ k, some g = some k → K ≤ k := fun k hk => by cases hk; omega
    refine (HF.out.calls x _ (((below_of_grown HG.out hKg (by omega)).alloc (by omega) _))).mono ?_
    rintro e w2 ⟨rfl, hb2⟩
    have X2 := (Blk.new wr 52 #[.int .i64 x.id, .int .i64 x.fr, .int .i64 x.to, .int .i64 x.steps, .int .i64 x.paces]).below hb2 (by simp)
    have G2 := (HD.out.blk.alloc (.cells #[.int .i64 x.id, .int .i64 x.fr, .int .i64 x.to, .int .i64 x.steps, .int .i64 x.paces] 52)).below hb2 (by simp; omega)
    have hG2 := lh (grown_below (grown_alloc HG.out _) hb2)
    have hsz2 := hb2.size
    rw [World.size_alloc] at hsz2
    have D2 := lh (HD.out.later G2)
    clear HG HD c0 c1 c2 c3 c4 hb2
    cases hp : p x with
    | true =>
     have HP := lh hp
     clear hp X2 G2
     go_wp2_with fail
     go_roundw
     case rel => exact ⟨i, j + 1, cur1, rfl, by go_num, by omega, by omega, D2.out.skip HX.out HP.out, hG2.out⟩
     case measure => simp [intOf]; omega
    | false =>
     have HP := lh hp
     have hsz := D2.out.size
     have x0 : w2.cell? ⟨wr.heap.size, 0, none⟩ = some (.int .i64 x.id) := X2.cell 0
     have x1 : w2.cell? ⟨wr.heap.size, 1, none⟩ = some (.int .i64 x.fr) := X2.cell 1
     have x2 : w2.cell? ⟨wr.heap.size, 2, none⟩ = some (.int .i64 x.to) := X2.cell 2
     have x3 : w2.cell? ⟨wr.heap.size, 3, none⟩ = some (.int .i64 x.steps) := X2.cell 3
     have x4 : w2.cell? ⟨wr.heap.size, 4, none⟩ = some (.int .i64 x.paces) := X2.cell 4
     have f0 : w2.frozen? ⟨g, i * 5, none⟩ = false := G2.frozen _
     have f1 : w2.frozen? ⟨g, i * 5 + 1, none⟩ = false := G2.frozen _
     have f2 : w2.frozen? ⟨g, i * 5 + 2, none⟩ = false := G2.frozen _
     have f3 : w2.frozen? ⟨g, i * 5 + 3, none⟩ = false := G2.frozen _
     have f4 : w2.frozen? ⟨g, i * 5 + 4, none⟩ = false := G2.frozen _
     obtain ⟨u0, g0⟩ : ∃ u, w2.cell? ⟨g, i * 5, none⟩ = some u := ⟨_, by rw [G2.cell]; exact Array.getElem?_eq_getElem (by omega)⟩
     obtain ⟨u1, g1⟩ : ∃ u, w2.cell? ⟨g, i * 5 + 1, none⟩ = some u := ⟨_, by rw [G2.cell]; exact Array.getElem?_eq_getElem (by omega)⟩
     obtain ⟨u2, g2⟩ : ∃ u, w2.cell? ⟨g, i * 5 + 2, none⟩ = some u := ⟨_, by rw [G2.cell]; exact Array.getElem?_eq_getElem (by omega)⟩
     obtain ⟨u3, g3⟩ : ∃ u, w2.cell? ⟨g, i * 5 + 3, none⟩ = some u := ⟨_, by rw [G2.cell]; exact Array.getElem?_eq_getElem (by omega)⟩
     obtain ⟨u4, g4⟩ : ∃ u, w2.cell? ⟨g, i * 5 + 4, none⟩ = some u := ⟨_, by rw [G2.cell]; exact Array.getElem?_eq_getElem (by omega)⟩
     have HGB := lh G2
     clear hp X2 hsz G2
     go_wp2_with fail
     go_roundw
     case rel =>
      exact ⟨i + 1, j + 1, wrt cur1 (i * 5) x.vals, by go_num, by go_num, by omega, by omega, D2.out.keep HX.out HP.out (by omega) (by have := HN.out; omega) (Blk.setCells x.vals (i * 5) HGB.out), grown_setCells x.vals (i * 5) hG2.out (.inl rfl)⟩
     case measure => simp [intOf]; omega
   ·obtain rfl : j = n := by omega
    have hfin : ((l.take j).filter fun x => !p x) = l.filter fun x => !p x := by rw [List.take_of_length_le (by have := HN.out; omega)]
    have hsz := hD.size
    obtain ⟨vs, hvs, hclr⟩ := run_clear_row (P := Tryz.prog) (w := wr) (g := g) (t := 23) (ty := 0) hD.blk Tryz.underlying23 zero_link (by intro u hu; simp [Value.cells] at hu; subst hu; rfl) (i * 5) (j - i) (c - i) (by simp [Value.cells]; omega)
    have hnum := hD.num
    rw [hfin] at hnum
    have HFin := lh hfin
    have HNum := lh hnum
    have HVs := lh hvs
    have HD := lh hD
    have HG := lh hg
    have HSz := lh hsz
    clear hfin hnum hvs hD hg hsz
    go_wp2_with fail
    go_ret
    have hv5 : vs.length = (j - i) * 5 := HVs.out
    refine ⟨?_, Own.mk_ hbg (Blk.setCells vs (i * 5) HD.out.blk) (by rw [HNum.out]; omega) hcap.2 (by rw [wrt_size]; exact HSz.out) (by rw [flat_len' vals5]) ?_, grown_setCells vs (i * 5) HG.out (.inl rfl)⟩
    ·rw [HNum.out]; rfl
    ·intro k hk
     rw [HNum.out] at hk
     rw [wrt_out _ _ _ _ (.inl hk)]
     have hk' := HD.out.kept
     rw [HFin.out] at hk'
     exact flat_of_els (by omega) vals5 hk' k (by rw [HNum.out]; exact hk)
end
section
open Go.RowKit
def Apart (A B : Option Addr) : Prop := ∀ a b, A = some a → B = some b → a.block ≠ b.block
theorem apart_new {w w' : World} {base base' n cap size n' cap' size' : Nat} {e e' : TypeId} {A B : Option Addr} {xs ys : List Value} (h : Own w base e size A n cap xs) (h' : Own w' base' e' size' B n' cap' ys) (hb : w.heap.size ≤ base') : Apart A B := by
 intro a b ha hb'
 have h1 := h.lt ha
 have h2 := h'.lt hb'
 omega
theorem Apart.symm {A B : Option Addr} (h : Apart A B) : Apart B A := fun a b ha hb => (h b a hb ha).symm
def TownOut (w : World) (e : Ending) (w' : World) (t : Town) : Prop := ∃ A c A' c', e = .returned (.agg #[.slice A t.places.length c, .slice A' t.links.length c']) ∧ Own w' w.heap.size 3 1 A t.places.length c (t.places.map (Value.int .i64)) ∧ Own w' w.heap.size 52 5 A' t.links.length c' (t.links.flatMap Link.vals) ∧ Apart A A' ∧ Below w.heap.size w w'
def lessT (t : Town) (p : Link → Bool) : Town := ⟨t.places, t.links.filter fun x => !p x⟩
set_option maxRecDepth 100000 in
set_option maxHeartbeats 4000000 in
theorem less_any (A : Option Addr) (n c : Nat) (A' : Option Addr) (m d : Nat) (t : Town) (F : FuncId) (C : Array Value) (p : Link → Bool) (w : World) (hn : n ≤ 1000) (hm : m ≤ 1000) (ht : TownAt w w.heap.size A n A' m t) (hp : PredL w w.heap.size F C p) :
  Calls Tryz.prog 73 #[.agg #[.slice A n c, .slice A' m d], .func (.func F) #[] C] w fun e w' => TownOut w e w' (lessT t p) := by
 have hen := hp.enters
 have HT := lh ht
 have HP := lh hp
 have hn1 : n ≤ maxLen := by unfold maxLen; omega
 have hm1 : m ≤ maxLen := by unfold maxLen; omega
 have hn2 : n * 8 ≤ 140737488355328 := by omega
 have hm2 : m * 40 ≤ 140737488355328 := by omega
 have HLn := lh ht.places.len
 have HLm := lh ht.links.len
 clear ht hp
 go_enter Tryz.func73, Tryz.ntmps73
 go_wp2_with fail
 have X0 := (Blk.new w 25 #[.slice A n c, .slice A' m d]).alloc (.cells #[.slice none 0 0, .slice none 0 0] 25)
 have Z0 := Blk.new (w.alloc (.cells #[.slice A n c, .slice A' m d] 25)) 25 #[.slice none 0 0, .slice none 0 0]
 have B0 : Below w.heap.size w ((w.alloc (.cells #[.slice A n c, .slice A' m d] 25)).alloc (.cells #[.slice none 0 0, .slice none 0 0] 25)) := ((Below.refl _ _).alloc (Nat.le_refl _) _).alloc (by simp) _
 rw [World.size_alloc] at Z0
 generalize ((w.alloc (.cells #[.slice A n c, .slice A' m d] 25)).alloc (.cells #[.slice none 0 0, .slice none 0 0] 25)) = w0 at *
 have XB := lh (X0.drew)
 have ZB := lh (Z0.drew)
 have BB := lh B0.drew
 have K0 : w0.drew.cell? ⟨w.heap.size, 0, none⟩ = some (.slice A n c) ∧ w0.drew.cell? ⟨w.heap.size, 1, none⟩ = some (.slice A' m d) := ⟨X0.cell 0, X0.cell 1⟩
 clear X0 Z0 B0
 go_region_held3 (fun w' => w'.cell? ⟨w.heap.size, 0, none⟩ = some (.slice A n c) ∧ w'.cell? ⟨w.heap.size, 1, none⟩ = some (.slice A' m d))
  (first | with_reducible assumption | exact ⟨((XB.out.far (p := ⟨w.heap.size + 1, 0, none⟩) (by show w.heap.size ≠ w.heap.size + 1; omega) _).far (p := ⟨w.heap.size + 1, 1, none⟩) (by show w.heap.size ≠ w.heap.size + 1; omega) _).cell 0, ((XB.out.far (p := ⟨w.heap.size + 1, 0, none⟩) (by show w.heap.size ≠ w.heap.size + 1; omega) _).far (p := ⟨w.heap.size + 1, 1, none⟩) (by show w.heap.size ≠ w.heap.size + 1; omega) _).cell 1⟩)
  (first
   | ((with_reducible refine (clone_int A n c t.places _ ((HT.out.places.below BB.out).more BB.out.size) hn1 hn2).mono ?_); rintro e w1 ⟨AP, cP, rfl, hP, -, hb⟩; (try have hdis := lh (apart_new HK.out hP (Nat.le_refl _)).symm); (try have HK := lh (HK.out.below hb (Nat.le_refl _))); have hlowP := lh (fun a (h : AP = some a) => (hP.lt h).1); have hXP := lh (fun a (h : AP = some a) => show w.heap.size + 1 < a.block from Nat.lt_of_lt_of_le ZB.out.lt (hlowP.out a h)); have HP' := lh (hP.mono BB.out.size); have XB := lh (XB.out.below hb XB.out.lt); have ZB := lh (ZB.out.below hb ZB.out.lt); have BB := lh (BB.out.trans (hb.mono BB.out.size)); clear hP hb; have K1 : w1.cell? ⟨w.heap.size, 0, none⟩ = some (.slice A n c) ∧ w1.cell? ⟨w.heap.size, 1, none⟩ = some (.slice A' m d) := ⟨XB.out.cell 0, XB.out.cell 1⟩; have z0 := ZB.out.cell 0; have z1 := ZB.out.cell 1; have y0 := ZB.out.frozen 0; have y1 := ZB.out.frozen 1)
   | ((with_reducible refine (clone_link A' m d t.links _ ((HT.out.links.below BB.out).more BB.out.size) hm1 hm2).mono ?_); rintro e w1 ⟨AK, cK, rfl, hK, -, hb⟩; (try have hdis := lh (apart_new HP'.out hK (Nat.le_refl _))); (try have HP' := lh (HP'.out.below hb (Nat.le_refl _))); have hlow := lh (fun a (h : AK = some a) => (hK.lt h).1); have HK := lh (hK.mono BB.out.size); have hXK := lh (fun a (h : AK = some a) => show w.heap.size + 1 < a.block from Nat.lt_of_lt_of_le ZB.out.lt (hlow.out a h)); have XB := lh (XB.out.below hb XB.out.lt); have ZB := lh (ZB.out.below hb ZB.out.lt); have BB := lh (BB.out.trans (hb.mono BB.out.size)); clear hK hb; have K1 : w1.cell? ⟨w.heap.size, 0, none⟩ = some (.slice A n c) ∧ w1.cell? ⟨w.heap.size, 1, none⟩ = some (.slice A' m d) := ⟨XB.out.cell 0, XB.out.cell 1⟩; have z0 := ZB.out.cell 0; have z1 := ZB.out.cell 1; have y0 := ZB.out.frozen 0; have y1 := ZB.out.frozen 1)
   | ((with_reducible refine (deleteFunc_link w.heap.size w.heap.size F C p AK m cK t.links _ HK.out (Nat.le_refl _) BB.out.size (HP.out.below BB.out)).mono ?_); rintro e w1 ⟨rfl, hK2, hg⟩; (try have HP' := lh (HP'.out.grown hg (fun a ha => by cases AK with | none => simp | some b => simpa using hdis.out a b ha rfl))); have HK := lh hK2; have XB := lh (XB.out.grown hg (by cases AK with | none => simp | some b => (have := hXK.out b rfl; simp; omega))); have ZB := lh (ZB.out.grown hg (by cases AK with | none => simp | some b => (have := hXK.out b rfl; simp; omega))); have BB := lh (BB.out.grown hg BB.out.size (fun k hk => by cases AK with | none => cases hk | some b => (have := hXK.out b rfl; simp at hk; omega))); clear hK2 hg; have K1 : w1.cell? ⟨w.heap.size, 0, none⟩ = some (.slice A n c) ∧ w1.cell? ⟨w.heap.size, 1, none⟩ = some (.slice A' m d) := ⟨XB.out.cell 0, XB.out.cell 1⟩; have z0 := ZB.out.cell 0; have z1 := ZB.out.cell 1; have y0 := ZB.out.frozen 0; have y1 := ZB.out.frozen 1)
   | fail)
 all_goals
  go_wp2_with fail
  refine bodyPost_ret (v := .agg #[.slice AP n cP, .slice AK (t.links.filter fun x => !p x).length cK]) (by simp [results, Tryz.results73, go_sem, z0, z1]) rfl ?_
  refine ⟨AP, cP, AK, cK, by rw [show (lessT t p).places.length = n from HLn.out]; rfl, ?_, ?_, hdis.out, (BB.out.setCell (p := ⟨w.heap.size + 1, 0, none⟩) (Nat.le_succ _) _).setCell (p := ⟨w.heap.size + 1, 1, none⟩) (Nat.le_succ _) _⟩
  ·have h := HP'.out.grown (grown_setCell (grown_setCell (grown_refl _ (some (w.heap.size + 1))) (p := ⟨w.heap.size + 1, 0, none⟩) (.inl rfl) (.slice AP n cP)) (p := ⟨w.heap.size + 1, 1, none⟩) (.inl rfl) (.slice AK (t.links.filter fun x => !p x).length cK)) (fun a ha => by have := hXP.out a ha; simp; omega)
   rw [show (lessT t p).places.length = n from HLn.out]
   exact h
  ·exact HK.out.grown (grown_setCell (grown_setCell (grown_refl _ (some (w.heap.size + 1))) (p := ⟨w.heap.size + 1, 0, none⟩) (.inl rfl) (.slice AP n cP)) (p := ⟨w.heap.size + 1, 1, none⟩) (.inl rfl) (.slice AK (t.links.filter fun x => !p x).length cK)) (fun a ha => by have := hXK.out a ha; simp; omega)
def Above (B : Nat) (A : Option Addr) : Prop := ∀ a, A = some a → B < a.block
theorem above_ne {B : Nat} {A : Option Addr} (h : Above B A) {k : Nat} (hk : k ≤ B) : some k ≠ A.map (·.block) := by
 cases A with
 | none => simp
 | some a => have := h a rfl; simp; omega
theorem above_row {B : Nat} {A : Option Addr} (h : Above B A) {k : Nat} (hk : A.map (·.block) = some k) : B < k := by
 cases A with
 | none => cases hk
 | some a => have := h a rfl; simp at hk; omega
theorem row_ne {A C : Option Addr} (h : Apart A C) {a : Addr} (ha : A = some a) : some a.block ≠ C.map (·.block) := by
 cases C with
 | none => simp
 | some c => have := h a c ha rfl; simpa using this
end
section
open Go.RowKit
theorem linksB_filter {t t' : Town} {q : Link → Bool} (hp : t'.places = t.places) : ∀ {l : List Link} {last last' : Int}, last' ≤ last → linksB t last l = true → linksB t' last' (l.filter q) = true
 | [], _, _, _, _ => rfl
 | x :: l, last, last', hl, h => by
  simp only [linksB, Bool.and_eq_true] at h
  obtain ⟨h0, hr⟩ := h
  have hlt : last < x.id ∧ x.id ≤ 9999 := by
   simp only [linkB, Bool.and_eq_true] at h0
   have := inB1_spec h0.1.1.1.1
   omega
  have hx : linkB t' last' x = true := by
   simp only [linkB, Bool.and_eq_true] at h0 ⊢
   obtain ⟨⟨⟨⟨a, b⟩, c⟩, d⟩, e⟩ := h0
   refine ⟨⟨⟨⟨?_, b⟩, c⟩, d⟩, ?_⟩
   ·simp [inB]
    omega
   ·unfold hasB at e ⊢
    rw [hp]
    exact e
  by_cases hq : q x = true
  ·rw [List.filter_cons_of_pos hq]
   simp only [linksB, Bool.and_eq_true]
   exact ⟨hx, linksB_filter hp (Int.le_refl _) hr⟩
  ·rw [List.filter_cons_of_neg hq]
   exact linksB_filter hp (by omega) hr
theorem townB_less {t : Town} {p : Link → Bool} (h : townB t = true) : townB (lessT t p) = true := by
 unfold townB sizeB at h ⊢
 simp only [Bool.and_eq_true, decide_eq_true_eq] at h ⊢
 obtain ⟨⟨⟨h1, h2⟩, h3⟩, h4⟩ := h
 refine ⟨⟨⟨h1, ?_⟩, h3⟩, linksB_filter (t := t) (t' := lessT t p) (q := fun x => !p x) rfl (Int.le_refl _) h4⟩
 exact Nat.le_trans (List.length_filter_le _ _) h2
theorem askE_less {t : Town} {p : Link → Bool} {l : List Int} (h : askE t l = 0) : askE (lessT t p) l = 0 := by
 obtain ⟨h1, h2⟩ := askE_zero h
 unfold askE
 rw [if_pos (townB_less h1), if_pos (show hasB (lessT t p) l = true from h2)]
def goneB (t : Town) (u v : Int) (dk : Bool) (p : Link → Bool) : Bool := !(best (lessT t p) dk freeP u v).isSome
theorem wayE_less {t : Town} {u v : Int} {dk : Bool} {p : Link → Bool} (h : askE t [u, v] = 0) : wayE (lessT t p) u v dk = if goneB t u v dk p then 6 else 0 := by
 unfold wayE goneB
 rw [if_pos (askE_less h)]
 cases (best (lessT t p) dk freeP u v).isSome <;> rfl
def ofOnly (id : Int) (x : Link) : Bool := x.id == id
def ofGate (id : Int) (x : Link) : Bool := x.fr == id || x.to == id
def neededL (t : Town) (u v : Int) (dk : Bool) (l : List Int) (of : Int → Link → Bool) : List Int := l.filter fun id => goneB t u v dk (of id)
def neededR (t : Town) (u v : Int) (dk : Bool) (l : List Int) (of : Int → Link → Bool) : List Int := if wayE t u v dk = 0 then neededL t u v dk l of else []
theorem needed_succ {t : Town} {u v x : Int} {dk : Bool} {l : List Int} {of : Int → Link → Bool} {k : Nat} (hx : l[k]? = some x) (hb : goneB t u v dk (of x) = true) : neededL t u v dk (l.take (k + 1)) of = neededL t u v dk (l.take k) of ++ [x] := by
 obtain ⟨hk, rfl⟩ := List.getElem?_eq_some_iff.1 hx
 unfold neededL
 rw [List.take_succ_eq_append_getElem hk, List.filter_append]
 simp [hb]
theorem needed_skip {t : Town} {u v x : Int} {dk : Bool} {l : List Int} {of : Int → Link → Bool} {k : Nat} (hx : l[k]? = some x) (hb : goneB t u v dk (of x) = false) : neededL t u v dk (l.take (k + 1)) of = neededL t u v dk (l.take k) of := by
 obtain ⟨hk, rfl⟩ := List.getElem?_eq_some_iff.1 hx
 unfold neededL
 rw [List.take_succ_eq_append_getElem hk, List.filter_append]
 simp [hb]
theorem needed_len (t : Town) (u v : Int) (dk : Bool) (l : List Int) (of : Int → Link → Bool) : (neededL t u v dk l of).length ≤ l.length := List.length_filter_le _ _
theorem wayE_zero {t : Town} {u v : Int} {dk : Bool} (h : wayE t u v dk = 0) : askE t [u, v] = 0 := by
 unfold wayE at h
 split at h
 ·assumption
 ·assumption
structure OfAt (F F2 : FuncId) (of : Int → Link → Bool) : Prop where
 enters : ∀ args W, (callFunc F args).run Tryz.prog W = .ok (.enter F args) W
 enters2 : ∀ args W, (callFunc F2 args).run Tryz.prog W = .ok (.enter F2 args) W
 calls : ∀ id W, Calls Tryz.prog F #[.int .i64 id] W fun e w' => ∃ C2, e = .returned (.func (.func F2) #[] C2) ∧ PredL w' w'.heap.size F2 C2 (of id) ∧ Below W.heap.size W w'
theorem only1_any (id : Int) (g : Nat) (x : Link) (w : World) (hg : Blk w g 3 #[.int .i64 id]) :
  Calls Tryz.prog 109 (#[.agg #[.int .i64 x.id, .int .i64 x.fr, .int .i64 x.to, .int .i64 x.steps, .int .i64 x.paces]] ++ #[.pointer (some ⟨g, 0, none⟩)]) w fun e w' => e = .returned (.bool (ofOnly id x)) ∧ Below w.heap.size w w' := by
 have h0 := hg.cell 0
 have hl := hg.lt
 go_enter Tryz.func109, Tryz.ntmps109
 go_wp2_with fail
 go_ret
 exact ⟨rfl, (Below.refl _ _).alloc (Nat.le_refl _) _⟩
theorem gate21_any (id : Int) (g : Nat) (x : Link) (w : World) (hg : Blk w g 3 #[.int .i64 id]) :
  Calls Tryz.prog 69 (#[.agg #[.int .i64 x.id, .int .i64 x.fr, .int .i64 x.to, .int .i64 x.steps, .int .i64 x.paces]] ++ #[.pointer (some ⟨g, 0, none⟩)]) w fun e w' => e = .returned (.bool (ofGate id x)) ∧ Below w.heap.size w w' := by
 have h0 := hg.cell 0
 have hl := hg.lt
 cases h1 : (x.fr == id) with
 | true =>
  have he : ofGate id x = true := by unfold ofGate; rw [h1]; rfl
  go_enter Tryz.func69, Tryz.ntmps69
  go_wp2_with fail
  go_ret
  exact ⟨ret_bool he.symm, (Below.refl _ _).alloc (Nat.le_refl _) _⟩
 | false =>
  have he : ofGate id x = (x.to == id) := by unfold ofGate; rw [h1]; rfl
  go_enter Tryz.func69, Tryz.ntmps69
  go_wp2_with fail
  go_ret
  exact ⟨ret_bool he.symm, (Below.refl _ _).alloc (Nat.le_refl _) _⟩
theorem only_of : OfAt 64 109 ofOnly where
 enters := enters_of Tryz.func64 (by kernel_rfl) rfl
 enters2 := enters_of Tryz.func109 (by kernel_rfl) rfl
 calls := fun id W => by
  have hb := Blk.new W 3 #[.int .i64 id]
  go_enter Tryz.func64, Tryz.ntmps64
  go_wp2_with fail
  go_ret
  exact ⟨_, rfl, ⟨enters_of Tryz.func109 (by kernel_rfl) rfl, fun x W2 hW => only1_any id _ x W2 (hb.below hW hb.lt)⟩, (Below.refl _ _).alloc (Nat.le_refl _) _⟩
theorem gate_of : OfAt 68 69 ofGate where
 enters := enters_of Tryz.func68 (by kernel_rfl) rfl
 enters2 := enters_of Tryz.func69 (by kernel_rfl) rfl
 calls := fun id W => by
  have hb := Blk.new W 3 #[.int .i64 id]
  go_enter Tryz.func68, Tryz.ntmps68
  go_wp2_with fail
  go_ret
  exact ⟨_, rfl, ⟨enters_of Tryz.func69 (by kernel_rfl) rfl, fun x W2 hW => gate21_any id _ x W2 (hb.below hW hb.lt)⟩, (Below.refl _ _).alloc (Nat.le_refl _) _⟩
end
section
open Go.RowKit Go.Shelf
theorem PredL.more {w : World} {K K' : Nat} {F : FuncId} {C : Array Value} {p : Link → Bool} (h : PredL w K F C p) (hK : K ≤ K') : PredL w K' F C p := ⟨h.enters, fun x W hW => h.calls x W (hW.mono hK)⟩
theorem less_n {t : Town} {n : Nat} {p : Link → Bool} (h : t.places.length = n) (hn : n ≤ 1000) : (lessT t p).places.length ≤ 1000 := by
 show t.places.length ≤ 1000
 omega
theorem less_m {t : Town} {m : Nat} {p : Link → Bool} (h : t.links.length = m) (hm : m ≤ 1000) : (lessT t p).links.length ≤ 1000 := by
 have : (lessT t p).links.length ≤ t.links.length := List.length_filter_le _ _
 omega
theorem gone_of {t : Town} {u v : Int} {dk : Bool} {p : Link → Bool} (h : askE t [u, v] = 0) (he : wayE (lessT t p) u v dk = 6) : goneB t u v dk p = true := by
 rw [wayE_less h] at he
 cases hg : goneB t u v dk p
 ·rw [hg] at he; simp at he
 ·rfl
theorem not_gone_of {t : Town} {u v e : Int} {dk : Bool} {p : Link → Bool} (h : askE t [u, v] = 0) (he : wayE (lessT t p) u v dk = e) (h6 : e ≠ 6) : goneB t u v dk p = false := by
 rw [wayE_less h] at he
 cases hg : goneB t u v dk p
 ·rfl
 ·rw [hg] at he; simp at he; omega
set_option maxRecDepth 100000 in
set_option maxHeartbeats 16000000 in
theorem needed_in (A : Option Addr) (n c : Nat) (A' : Option Addr) (m d : Nat) (t : Town) (u v : Int) (dk : Bool) (A2 : Option Addr) (k2 c2 : Nat) (l : List Int) (F F2 : FuncId) (of : Int → Link → Bool) (w : World)
  (hn : n ≤ 1000) (hm : m ≤ 1000) (hk2 : k2 ≤ 1000) (ht : TownAt w w.heap.size A n A' m t) (hr : IntsAt w w.heap.size A2 k2 l) (hL : Laid w) (hof : OfAt F F2 of) :
  CallsIn Fence.wide 9 Tryz.prog 62 #[.agg #[.slice A n c, .slice A' m d], .int .i64 u, .int .i64 v, .bool dk, .slice A2 k2 c2, .func (.func F) #[] #[]] w (ListOut w (neededR t u v dk l of) (wayE t u v dk)) := by
 have HT := lh ht
 have HL := lh hL
 have HLn := lh ht.places.len
 have HLm := lh ht.links.len
 have hl0 := hL.2.2.2
 clear ht hL
 have HR := lh hr
 have HLk := lh hr.len
 have HFO := lh hof
 have hE := hof.enters
 clear hr hof
 refine callsIn_of_wp Tryz.func62 rfl trivial ?_ rfl
 simp only [Tryz.ntmps62, List.size_toArray, List.length_cons, List.length_nil, Nat.reduceAdd, Nat.reduceSub, Array.replicate_succ, Array.replicate_zero, List.push_toArray, List.append_toArray, List.nil_append, List.cons_append]
 gi_wp2
 have Ly := lh (Lay.one w 25 #[.slice A n c, .slice A' m d])
 generalize (w.alloc (.cells #[.slice A n c, .slice A' m d] 25)) = w0 at *
 refine ⟨trivial, (callsIn_wide.2 (way_any A n c A' m d t u v dk w0 hn hm ((HT.out.below Ly.out.1).more Ly.out.1.size) (HL.out.below Ly.out.1 hl0))).mono ?_⟩
 rintro e W1 ⟨to, co, AW, nW, cW, rfl, hno, hq, hty, hb⟩
 replace Ly := lyb Ly hb
 clear hb
 clear hno hq hty
 obtain ⟨ee, hee⟩ : ∃ e, wayE t u v dk = e := ⟨_, rfl⟩
 rw [hee]
 have HEE := lh hee
 clear hee
 by_cases h0 : ee = 0
 ·subst h0
  gi_wp2
  have hb : Below W1.heap.size W1 (W1.alloc (.cells #[.int .i64 to, .int .i64 co.a, .int .i64 co.b, .int .i64 co.c, .int .i64 co.d, .slice AW nW cW] 99)) := (Below.refl _ _).alloc (Nat.le_refl _) _
  have hnew := Blk.new W1 99 #[.int .i64 to, .int .i64 co.a, .int .i64 co.b, .int .i64 co.c, .int .i64 co.d, .slice AW nW cW]
  have hge := Ly.out.bel.size
  replace Ly := lyb Ly hb
  replace Ly := lh (Ly.out.add hge hnew)
  clear hnew hge hb
  obtain ⟨G3, hG⟩ : ∃ g, W1.heap.size = g := ⟨_, rfl⟩
  rw [hG] at Ly ⊢
  generalize (W1.alloc (.cells #[.int .i64 to, .int .i64 co.a, .int .i64 co.b, .int .i64 co.c, .int .i64 co.d, .slice AW nW cW] 99)) = V2 at *
  clear hG
  replace Ly := lh (show Lay w V2 [(w.heap.size, 25, #[.slice A n c, .slice A' m d]), (G3, 99, #[.int .i64 to, .int .i64 co.a, .int .i64 co.b, .int .i64 co.c, .int .i64 co.d, .slice AW nW cW])] from Ly.out)
  gi_loopw [16, 34] (fun v16 v34 wr => ∃ (k : Nat) (B : Option Addr) (q : Nat), k ≤ k2 ∧ v34 = .int .i64 k ∧ v16 = .slice B (neededL t u v dk (l.take k) of).length q ∧ Hid (Own wr V2.heap.size 3 1 B (neededL t u v dk (l.take k) of).length q ((neededL t u v dk (l.take k) of).map (Value.int .i64)) ∧ Below V2.heap.size V2 wr))
   (fun _ vi _ => k2 - (intOf vi).toNat)
  case atStart => exact ⟨0, none, 0, by omega, rfl, rfl, lh ⟨Own.none_ _ _ _ _, Below.refl _ _⟩⟩
  case round =>
   obtain ⟨k, B, q, hk, rfl, rfl, HS⟩ := hrel
   rename World => wr
   replace Ly := lh (Ly.out.below HS.out.2)
   have HO := lh HS.out.1
   have HB := lh HS.out.2
   have hge := HS.out.2.size
   clear HS
   have hkl : (neededL t u v dk (l.take k) of).length ≤ k := by have := needed_len t u v dk (l.take k) of; rw [List.length_take] at this; omega
   by_cases hlt : k < k2
   ·have hcell := (HR.out.below Ly.out.1).cell hlt
    obtain ⟨b, off, x, rfl, hbB, hx, hc⟩ := hcell
    have HX := lh hx
    clear hx
    gi_wp2
    clear hc
    refine wpIn_flow_new [([true, true, true, false, false, true, true, true], 3), ([], 4), ([], 8)] [false, false, false, false, false, false, false, false, false, true, true, true, false, false, true] [false, false, false, false, false, false, false, false, false, false, false, false, false, true] 12 (fun b => .pointer (some ⟨b, 0, none⟩)) 99 #[.int .i64 0, .int .i64 0, .int .i64 0, .int .i64 0, .int .i64 0, .slice none 0 0] (by kernel_rfl) (by kernel_rfl) (by kernel_rfl) (below_drewN (Below.refl _ _) 1) rfl rfl rfl (fun _ _ => rfl) (fun _ _ => rfl) ?_
    refine wpFlow_cons (A := ?AF1) rfl ?hq1 ?_
    case hq1 =>
     rintro σ hσ of hof hcl
     have HOF := lh hof
     have HCL := lh hcl
     clear hof hcl
     obtain ⟨c0_, c1_⟩ := lyz2 Ly HOF 0 rfl
     have hfw := hfT
     simp only [pickB]
     repeat (gi_big_quiet_step (fail))
     refine wpQuietIn_nil ?_
     exact rfl
    intro W4 hW
    replace Ly := lyb Ly hW
    replace HO := lh (HO.out.below hW (Nat.le_refl _))
    replace HB := lh (HB.out.trans (hW.mono HB.out.size))
    clear hW
    gi_wp2
    refine ⟨trivial, (callsIn_wide.2 (HFO.out.calls x W4)).mono ?_⟩
    rintro e W5 ⟨C2, rfl, hpl, hb⟩
    replace Ly := lyb Ly hb
    replace HO := lh (HO.out.below hb (Nat.le_refl _))
    replace HB := lh (HB.out.trans (hb.mono HB.out.size))
    have HPL := lh hpl
    clear hpl
    gi_wp2
    refine ⟨trivial, hb, ?_⟩
    clear hb
    refine wpFlow_cons rfl Quietly.none ?_
    intro W6 hW
    replace Ly := lyb Ly hW
    replace HO := lh (HO.out.below hW (Nat.le_refl _))
    replace HB := lh (HB.out.trans (hW.mono HB.out.size))
    replace HPL := lh ((HPL.out.below hW).more hW.size)
    clear hW
    gi_wp2
    refine ⟨trivial, (callsIn_wide.2 (less_any A n c A' m d t F2 C2 (of x) W6 hn hm ((HT.out.below Ly.out.1).more Ly.out.1.size) HPL.out)).mono ?_⟩
    rintro e W7 ⟨AP, cP, AK, cK, rfl, hP, hK, hap, hb⟩
    replace Ly := lyb Ly hb
    replace HO := lh (HO.out.below hb (Nat.le_refl _))
    replace HB := lh (HB.out.trans (hb.mono HB.out.size))
    replace HPL := lh ((HPL.out.below hb).more hb.size)
    have HP := lh hP
    have HK := lh hK
    clear hP hK hap
    gi_wp2
    refine ⟨trivial, hb, ?_⟩
    clear hb
    clear HPL
    refine wpFlow_cons rfl Quietly.none ?_
    intro W8 hW
    replace Ly := lyb Ly hW
    replace HO := lh (HO.out.below hW (Nat.le_refl _))
    replace HB := lh (HB.out.trans (hW.mono HB.out.size))
    replace HP := lh (HP.out.below hW (Nat.le_refl _))
    replace HK := lh (HK.out.below hW (Nat.le_refl _))
    clear hW
    gi_wp2
    refine ⟨trivial, (callsIn_wide.2 (way_any AP _ cP AK _ cK (lessT t (of x)) u v dk W8 (less_n HLn.out hn) (less_m HLm.out hm) ⟨ints_of_own HP.out (Nat.le_refl _), links_of_own HK.out (Nat.le_refl _)⟩ (HL.out.below Ly.out.1 hl0))).mono ?_⟩
    rintro e W9 ⟨to2, co2, AW2, nW2, cW2, rfl, hno, hq, hty, hb⟩
    replace Ly := lyb Ly hb
    replace HO := lh (HO.out.below hb (Nat.le_refl _))
    replace HB := lh (HB.out.trans (hb.mono HB.out.size))
    replace HP := lh (HP.out.below hb (Nat.le_refl _))
    replace HK := lh (HK.out.below hb (Nat.le_refl _))
    clear hno hq hty
    obtain ⟨ev, hev⟩ : ∃ y, wayE (lessT t (of x)) u v dk = y := ⟨_, rfl⟩
    rw [hev]
    have HEV := lh hev
    clear hev
    gi_wp2
    refine ⟨trivial, hb, ?_⟩
    clear hb
    clear HP HK
    refine wpFlow_nil (A := ?AF2) ?hq2 ?_
    case hq2 =>
     rintro σ hσ of hof hcl
     have HOF := lh hof
     have HCL := lh hcl
     clear hof hcl
     obtain ⟨c0_, c1_⟩ := lyz2 Ly HOF 0 rfl
     have hfw := hfT
     simp only [pickB]
     repeat (gi_big_quiet_step (fail))
     refine wpQuietIn_nil ?_
     exact rfl
    intro b2 W10 hW hbg hbb hbi
    replace Ly := lyb Ly hW
    replace HO := lh (HO.out.below hW (Nat.le_refl _))
    replace HB := lh (HB.out.trans (hW.mono HB.out.size))
    have c0 := hbb.cell 0
    have z0 := hbb.frozen 0
    have c1 := hbb.cell 1
    have z1 := hbb.frozen 1
    have c2 := hbb.cell 2
    have z2 := hbb.frozen 2
    have c3 := hbb.cell 3
    have z3 := hbb.frozen 3
    have c4 := hbb.cell 4
    have z4 := hbb.frozen 4
    have c5 := hbb.cell 5
    have z5 := hbb.frozen 5
    have hbl := hbb.lt
    have hbv : V2.heap.size ≤ b2 := Nat.le_trans hge hbg
    simp only [pickB]
    refine wpT_cons ?_
    gi_wp2
    refine wpT_nil ?_
    clear c0 z0 c1 z1 c2 z2 c3 z3 c4 z4 c5 z5 hbl
    have R1 := ret6' hbb HB.out hbv (.int .i64 to2) (.int .i64 co2.a) (.int .i64 co2.b) (.int .i64 co2.c) (.int .i64 co2.d) (.slice AW2 nW2 cW2)
    replace HO := lh (HO.out.grown R1.2.2 (fun a ha e => by
     rcases HO.out.form with ⟨h1, _⟩ | ⟨g, cur, h1, _, h2, _⟩
     ·rw [h1] at ha; cases ha
     ·rw [h1] at ha
      cases ha
      have h3 : g = b2 := Option.some.inj e
      exact blk_ne h2 hbb (by decide) h3))
    replace HB := lh (R1.2.1)
    generalize ((((((W10.setCell ⟨b2, 0, none⟩ (.int .i64 to2)).setCell ⟨b2, 1, none⟩ (.int .i64 co2.a)).setCell ⟨b2, 2, none⟩ (.int .i64 co2.b)).setCell ⟨b2, 3, none⟩ (.int .i64 co2.c)).setCell ⟨b2, 4, none⟩ (.int .i64 co2.d)).setCell ⟨b2, 5, none⟩ (.slice AW2 nW2 cW2)) = W9 at *
    clear R1 hbb hbg hbi hbv hW Ly
    by_cases h6 : ev = 6
    ·subst h6
     have HBO := lh (gone_of (wayE_zero HEE.out) HEV.out)
     have HOW := lh (HO.out.alloc (.cells #[.int .i64 x] 3))
     have HOB : Hid (Blk (W9.alloc (.cells #[.int .i64 x] 3)) W9.heap.size 3 #[.int .i64 x]) := lh (Blk.new _ _ _)
     have HB6 := lh (HB.out.alloc HB.out.size (.cells #[.int .i64 x] 3))
     gi_wp2_with (first | (gi_at_builtin; refine wpListIn_append_any rfl (.tmp 52) (.tmp 54) (by rfl) elem_int rfl HOW.out rfl (one_int (x := x) HOB.out.lt (HOB.out.cell 0)) (ints_one _) (by unfold maxLen; omega) (by omega) HB6.out.size ?_) | fail)
     rintro A8 c8 W8 hown hgr hA8
     have HO8 := lh hown
     have HB8 := lh (HB6.out.grown hgr HB6.out.size (fun j hj => own_row HOW.out hj))
     clear hown hgr hA8
     gi_wp2
     go_roundw
     case rel =>
      have he := needed_succ (t := t) (u := u) (v := v) (dk := dk) HX.out HBO.out
      refine ⟨k + 1, A8, c8, by omega, by go_num, by rw [he]; simp, lh ⟨?_, HB8.out⟩⟩
      rw [he]
      have h := HO8.out
      simpa using h
     case measure => simp [intOf]; omega
    ·have HBO := lh (not_gone_of (wayE_zero HEE.out) HEV.out h6)
     have h6' : (ev == 6) = false := by simpa using h6
     clear h6
     gi_wp2
     go_roundw
     case rel =>
      have he := needed_skip (t := t) (u := u) (v := v) (dk := dk) HX.out HBO.out
      refine ⟨k + 1, B, q, by omega, by go_num, by rw [he], lh ⟨?_, HB.out⟩⟩
      rw [he]
      exact HO.out
     case measure => simp [intOf]; omega
   ·obtain rfl : k = k2 := by omega
    gi_wp2
    have hl : neededL t u v dk (l.take k) of = neededR t u v dk l of := by unfold neededR; rw [if_pos HEE.out, List.take_of_length_le (by rw [HLk.out]; exact Nat.le_refl _)]
    rw [hl]
    have hO := HO.out
    rw [hl] at hO
    refine bodyPost_ret (v := .tuple #[.slice B (neededR t u v dk l of).length q, .int .i64 0]) (by simp [results, Tryz.results62, go_sem]) rfl ?_
    rw [HEE.out]
    exact ⟨B, _, q, rfl, ints_of_own hO (Nat.le_refl _), Ly.out.1⟩
 ·have h1 : (ee != 0) = true := by simpa using h0
  have HE0 := lh h0
  clear h0
  gi_wp2
  refine bodyPost_ret (v := .tuple #[.slice none 0 0, .int .i64 ee]) (by simp [results, Tryz.results62, go_sem]) rfl ?_
  have hr : neededR t u v dk l of = [] := by unfold neededR; rw [if_neg (by rw [HEE.out]; exact HE0.out)]
  rw [hr, HEE.out]
  exact ⟨none, 0, 0, rfl, Reads.none_, Ly.out.1.alloc Ly.out.1.size _⟩
theorem needed_any (A : Option Addr) (n c : Nat) (A' : Option Addr) (m d : Nat) (t : Town) (u v : Int) (dk : Bool) (A2 : Option Addr) (k2 c2 : Nat) (l : List Int) (F F2 : FuncId) (of : Int → Link → Bool) (w : World)
  (hn : n ≤ 1000) (hm : m ≤ 1000) (hk2 : k2 ≤ 1000) (ht : TownAt w w.heap.size A n A' m t) (hr : IntsAt w w.heap.size A2 k2 l) (hL : Laid w) (hof : OfAt F F2 of) :
  Calls Tryz.prog 62 #[.agg #[.slice A n c, .slice A' m d], .int .i64 u, .int .i64 v, .bool dk, .slice A2 k2 c2, .func (.func F) #[] #[]] w (ListOut w (neededR t u v dk l of) (wayE t u v dk)) :=
 callsIn_wide.1 (needed_in A n c A' m d t u v dk A2 k2 c2 l F F2 of w hn hm hk2 ht hr hL hof)
end
section
open Go.RowKit
def worstStep (t : Town) (u v : Int) (dk : Bool) (s : Int × Int × Int) (id : Int) : Int × Int × Int := match best (lessT t (ofOnly id)) dk freeP u v with
 | none => s
 | some q => if s.1 = 0 then (id, q.1.b, q.1.c) else if lessP s.2.1 s.2.2 q.1.b q.1.c then (id, q.1.b, q.1.c) else s
def worstF (t : Town) (u v : Int) (dk : Bool) (l : List Int) : Int × Int × Int := l.foldl (worstStep t u v dk) (0, 0, 0)
theorem worst_succ {t : Town} {u v x : Int} {dk : Bool} {l : List Int} {k : Nat} (hx : l[k]? = some x) : worstF t u v dk (l.take (k + 1)) = worstStep t u v dk (worstF t u v dk (l.take k)) x := by
 obtain ⟨hk, rfl⟩ := List.getElem?_eq_some_iff.1 hx
 unfold worstF
 rw [List.take_succ_eq_append_getElem hk, List.foldl_append]
 rfl
theorem worst_zero {t : Town} {u v : Int} {dk : Bool} : ∀ (l : List Int) (s : Int × Int × Int), (∀ x ∈ l, x ≠ 0) → (s.1 = 0 → s = (0, 0, 0)) → (l.foldl (worstStep t u v dk) s).1 = 0 → l.foldl (worstStep t u v dk) s = (0, 0, 0)
 | [], s, _, hs, h => hs h
 | x :: l, s, hl, hs, h => by
  rw [List.foldl_cons] at h ⊢
  refine worst_zero l _ (fun y hy => hl y (by simp [hy])) (fun h0 => ?_) h
  have hx := hl x (by simp)
  unfold worstStep at h0 ⊢
  split at h0
  ·exact hs h0
  ·rename_i q hb
   split at h0
   ·exact absurd h0 hx
   ·split at h0
    ·exact absurd h0 hx
    ·contradiction
theorem worst_no {t : Town} {u v x : Int} {dk : Bool} {s : Int × Int × Int} {e : Int} (h : askE t [u, v] = 0) (he : wayE (lessT t (ofOnly x)) u v dk = e) (h0 : e ≠ 0) : worstStep t u v dk s x = s := by
 rw [wayE_less h] at he
 unfold goneB at he
 unfold worstStep
 cases hb : best (lessT t (ofOnly x)) dk freeP u v with
 | none => rfl
 | some q => rw [hb] at he; simp at he; omega
theorem worst_yes {t : Town} {u v x : Int} {dk : Bool} {s : Int × Int × Int} {a b : Int} (h : askE t [u, v] = 0) (he : wayE (lessT t (ofOnly x)) u v dk = 0) (hT : wayT (lessT t (ofOnly x)) u v dk = (a, b)) :
  worstStep t u v dk s x = if s.1 = 0 then (x, a, b) else if lessP s.2.1 s.2.2 a b then (x, a, b) else s := by
 rw [wayE_less h] at he
 unfold goneB at he
 unfold worstStep
 cases hb : best (lessT t (ofOnly x)) dk freeP u v with
 | none => rw [hb] at he; simp at he
 | some q =>
  obtain ⟨e1, e2, e3⟩ := way_some (askE_less (p := ofOnly x) h) (c := q.1) (l := q.2) hb
  rw [hT] at e3
  have e4 : a = q.1.b := congrArg Prod.fst e3
  have e5 : b = q.1.c := congrArg Prod.snd e3
  subst e4 e5
  rfl
def worstV (t : Town) (u v : Int) (dk : Bool) : Int × Int × Int × Int := if askE t [u, v] = 0 then (if (worstF t u v dk (idsOf t.links)).1 = 0 then (0, 0, 0, 6) else ((worstF t u v dk (idsOf t.links)).1, (worstF t u v dk (idsOf t.links)).2.1, (worstF t u v dk (idsOf t.links)).2.2, 0)) else (0, 0, 0, askE t [u, v])
theorem worstV_bad {t : Town} {u v e : Int} {dk : Bool} (h : askE t [u, v] = e) (h0 : e ≠ 0) : worstV t u v dk = (0, 0, 0, e) := by
 unfold worstV
 rw [h, if_neg h0]
theorem worstV_zero {t : Town} {u v : Int} {dk : Bool} {s2 s3 : Int} (h : askE t [u, v] = 0) (hs : worstF t u v dk (idsOf t.links) = (0, s2, s3)) : worstV t u v dk = (0, 0, 0, 6) := by
 unfold worstV
 rw [if_pos h, hs, if_pos rfl]
theorem worstV_some {t : Town} {u v : Int} {dk : Bool} {s1 s2 s3 : Int} (h : askE t [u, v] = 0) (hs : worstF t u v dk (idsOf t.links) = (s1, s2, s3)) (h0 : s1 ≠ 0) : worstV t u v dk = (s1, s2, s3, 0) := by
 unfold worstV
 rw [if_pos h, hs, if_neg h0]
def WorstOut (w : World) (r : Int × Int × Int × Int) (x : Ending) (w' : World) : Prop := x = .returned (.tuple #[.int .i64 r.1, .agg #[.int .i64 r.2.1, .int .i64 r.2.2.1], .int .i64 r.2.2.2]) ∧ Below w.heap.size w w'
end
section
open Go.RowKit Go.Shelf
theorem worst_ids {t : Town} {u v s2 s3 : Int} {dk : Bool} (hg : GoodT t) (h : worstF t u v dk (idsOf t.links) = (0, s2, s3)) : s2 = 0 ∧ s3 = 0 := by
 have h1 := worst_zero (t := t) (u := u) (v := v) (dk := dk) (idsOf t.links) (0, 0, 0) (fun x hx => by
  obtain ⟨y, hy, rfl⟩ := List.mem_map.1 hx
  have := hg.lids y hy
  omega) (fun _ => rfl) (by show (worstF t u v dk (idsOf t.links)).1 = 0; rw [h])
 have h2 : (0, s2, s3) = ((0 : Int), (0 : Int), (0 : Int)) := h.symm.trans h1
 simp only [Prod.mk.injEq, true_and] at h2
 exact h2
set_option maxRecDepth 100000 in
set_option maxHeartbeats 16000000 in
theorem worst_in (A : Option Addr) (n c : Nat) (A' : Option Addr) (m d : Nat) (t : Town) (u v : Int) (dk : Bool) (w : World)
  (hn : n ≤ 1000) (hm : m ≤ 1000) (ht : TownAt w w.heap.size A n A' m t) (hL : Laid w) :
  CallsIn Fence.wide 9 Tryz.prog 48 #[.agg #[.slice A n c, .slice A' m d], .int .i64 u, .int .i64 v, .bool dk] w (WorstOut w (worstV t u v dk)) := by
 have HT := lh ht
 have HL := lh hL
 have HLn := lh ht.places.len
 have HLm := lh ht.links.len
 have hl0 := hL.2.2.2
 clear ht hL
 refine callsIn_of_wp Tryz.func48 rfl trivial ?_ rfl
 simp only [Tryz.ntmps48, List.size_toArray, List.length_cons, List.length_nil, Nat.reduceAdd, Nat.reduceSub, Array.replicate_succ, Array.replicate_zero, List.push_toArray, List.append_toArray, List.nil_append, List.cons_append]
 gi_wp2
 have Ly := lh (Lay.three w 25 #[.slice A n c, .slice A' m d] 34 #[.int .i64 0, .int .i64 0] 3 #[.int .i64 u, .int .i64 v])
 generalize (((w.alloc (.cells #[.slice A n c, .slice A' m d] 25)).alloc (.cells #[.int .i64 0, .int .i64 0] 34)).alloc (.cells #[.int .i64 u, .int .i64 v] 3)) = w0 at *
 have HUV0 := lh (show IntsAt w0 w0.heap.size (some ⟨w.heap.size + 1 + 1, 0, none⟩) 2 [u, v] from two_ints (Ly.out.blk 2 rfl))
 refine ⟨trivial, (callsIn_wide.2 (asked_any A n c A' m d t (some ⟨w.heap.size + 1 + 1, 0, none⟩) 2 2 [u, v] w0 (by unfold maxLen; omega) (by unfold maxLen; omega) (by decide) ((HT.out.below Ly.out.1).more Ly.out.1.size) HUV0.out (HL.out.below Ly.out.1 hl0))).mono ?_⟩
 rintro e W1 ⟨rfl, hb⟩
 replace Ly := lyb Ly hb
 clear hb
 obtain ⟨ee, hee⟩ : ∃ ee, askE t [u, v] = ee := ⟨_, rfl⟩
 rw [hee]
 have HEE := lh hee
 clear hee
 obtain ⟨x0_0, x0_1⟩ := lyc2 Ly 0 rfl
 have l0_ := Ly.out.lt 0 rfl
 have x1_0 := lyc Ly 1 rfl 0
 have z1_0 := lyf Ly 1 rfl 0
 have x1_1 := lyc Ly 1 rfl 1
 have z1_1 := lyf Ly 1 rfl 1
 have l1_ := Ly.out.lt 1 rfl
 by_cases h0 : ee = 0
 ·subst h0
  obtain ⟨htb, hhas⟩ := askE_zero HEE.out
  have HG := lh (goodT htb)
  clear htb hhas
  gi_wp2
  clear x0_0 x0_1 l0_ x1_0 z1_0 x1_1 z1_1 l1_
  have HBL := lh (Ly.out.lt 1 rfl)
  refine ⟨trivial, (callsIn_wide.2 (ids_any A n c A' m d t W1 hm ((HT.out.links.below Ly.out.1).more Ly.out.1.size))).mono ?_⟩
  rintro e W2 ⟨AI, cI, rfl, hI, hb⟩
  replace Ly := lyb Ly hb
  clear hb
  obtain ⟨M, hM⟩ : ∃ k, (idsOf t.links).length = k := ⟨_, rfl⟩
  rw [hM] at hI ⊢
  have HM := lh hM
  have HI := lh hI
  clear hI hM
  have hM1 : M ≤ 1000 := by have h := HM.out; unfold idsOf at h; rw [List.length_map, HLm.out] at h; omega
  gi_wp2
  gi_loopw [8, 28] (fun v8 v28 wr => ∃ k : Nat, k ≤ M ∧ v28 = .int .i64 k ∧ v8 = .int .i64 (worstF t u v dk ((idsOf t.links).take k)).1 ∧ Hid (Lay w wr [(w.heap.size, 25, #[.slice A n c, .slice A' m d]), (w.heap.size + 1, 34, #[.int .i64 (worstF t u v dk ((idsOf t.links).take k)).2.1, .int .i64 (worstF t u v dk ((idsOf t.links).take k)).2.2])] ∧ Own wr W1.heap.size 3 1 AI M cI ((idsOf t.links).map (Value.int .i64))))
   (fun _ vi _ => M - (intOf vi).toNat)
  case atStart => exact ⟨0, by omega, rfl, rfl, lh ⟨Ly.out.sub (by intro b hb; simp only [List.take_zero, List.mem_cons] at hb ⊢; rcases hb with rfl | rfl | hb; exact .inl rfl; exact .inr (.inl rfl); cases hb), HI.out⟩⟩
  case round =>
   obtain ⟨k, hk, rfl, rfl, HS⟩ := hrel
   rename World => wr
   obtain ⟨s, hs⟩ : ∃ s, worstF t u v dk ((idsOf t.links).take k) = s := ⟨_, rfl⟩
   rw [hs] at HS ⊢
   obtain ⟨s1, s2, s3⟩ := s
   simp only at HS ⊢
   have HWF := lh hs
   clear hs
   replace Ly := lh HS.out.1
   replace HI := lh HS.out.2
   have HL0 := Ly
   have HI0 := HI
   have HBw := lh (Below.refl wr.heap.size wr)
   clear HS
   by_cases hlt : k < M
   ·obtain ⟨b, off, x, hAI, hbB, hx, hc⟩ := (ints_of_own HI.out (Nat.le_refl _)).cell hlt
    subst hAI
    have HX := lh hx
    clear hx
    gi_wp2
    clear hc
    refine wpIn_flow_new [([true, true, false, false, true, true, true], 2), ([], 3), ([], 7)] [false, false, false, false, false, false, false, false, true, true, true, false, false, true] [false, false, false, false, false, false, false, false, false, false, false, false, true] 11 (fun b => .pointer (some ⟨b, 0, none⟩)) 99 #[.int .i64 0, .int .i64 0, .int .i64 0, .int .i64 0, .int .i64 0, .slice none 0 0] (by kernel_rfl) (by kernel_rfl) (by kernel_rfl) (below_drewN (Below.refl _ _) 1) rfl rfl rfl (fun _ _ => rfl) (fun _ _ => rfl) ?_
    refine wpFlow_cons (A := ?AF1) rfl ?hq1 ?_
    case hq1 =>
     rintro σ hσ of hof hcl
     have HOF := lh hof
     have HCL := lh hcl
     clear hof hcl
     obtain ⟨c0_, c1_⟩ := lyz2 Ly HOF 0 rfl
     have hfw := hfT
     simp only [pickB]
     repeat (gi_big_quiet_step (fail))
     refine wpQuietIn_nil ?_
     exact rfl
    intro W41 hW
    replace Ly := lyb Ly hW
    replace HBw := lh (HBw.out.trans (hW.mono HBw.out.size))
    clear hW
    gi_wp2
    refine ⟨trivial, (callsIn_wide.2 (only_of.calls x W41)).mono ?_⟩
    rintro e W42 ⟨C2, rfl, hpl, hb⟩
    replace Ly := lyb Ly hb
    replace HBw := lh (HBw.out.trans (hb.mono HBw.out.size))
    have HPL := lh hpl
    clear hpl
    gi_wp2
    refine ⟨trivial, hb, ?_⟩
    clear hb
    refine wpFlow_cons rfl Quietly.none ?_
    intro W43 hW
    replace Ly := lyb Ly hW
    replace HBw := lh (HBw.out.trans (hW.mono HBw.out.size))
    replace HPL := lh ((HPL.out.below hW).more hW.size)
    clear hW
    gi_wp2
    refine ⟨trivial, (callsIn_wide.2 (less_any A n c A' m d t _ C2 (ofOnly x) W43 hn hm ((HT.out.below Ly.out.1).more Ly.out.1.size) HPL.out)).mono ?_⟩
    rintro e W44 ⟨AP, cP, AK, cK, rfl, hP, hK, hap, hb⟩
    replace Ly := lyb Ly hb
    replace HBw := lh (HBw.out.trans (hb.mono HBw.out.size))
    replace HPL := lh ((HPL.out.below hb).more hb.size)
    have HP := lh hP
    have HK := lh hK
    clear hP hK hap
    gi_wp2
    refine ⟨trivial, hb, ?_⟩
    clear hb
    clear HPL
    refine wpFlow_cons rfl Quietly.none ?_
    intro W45 hW
    replace Ly := lyb Ly hW
    replace HBw := lh (HBw.out.trans (hW.mono HBw.out.size))
    replace HP := lh (HP.out.below hW (Nat.le_refl _))
    replace HK := lh (HK.out.below hW (Nat.le_refl _))
    clear hW
    gi_wp2
    refine ⟨trivial, (callsIn_wide.2 (way_any AP _ cP AK _ cK (lessT t (ofOnly x)) u v dk W45 (less_n HLn.out hn) (less_m HLm.out hm) ⟨ints_of_own HP.out (Nat.le_refl _), links_of_own HK.out (Nat.le_refl _)⟩ (HL.out.below Ly.out.1 hl0))).mono ?_⟩
    rintro e W46 ⟨to2, co2, AW2, nW2, cW2, rfl, hno, hq, hty, hb⟩
    replace Ly := lyb Ly hb
    replace HBw := lh (HBw.out.trans (hb.mono HBw.out.size))
    replace HP := lh (HP.out.below hb (Nat.le_refl _))
    replace HK := lh (HK.out.below hb (Nat.le_refl _))
    have hT : wayT (lessT t (ofOnly x)) u v dk = (co2.b, co2.c) := by
     unfold wayT
     cases hr : wayR (lessT t (ofOnly x)) u v dk with
     | none => obtain ⟨_, rfl, _⟩ := hno hr; rfl
     | some q => rw [(hq q hr).1]
    have HQ := lh hT
    clear hno hq hty hT
    obtain ⟨ev, hev⟩ : ∃ y, wayE (lessT t (ofOnly x)) u v dk = y := ⟨_, rfl⟩
    rw [hev]
    have HEV := lh hev
    clear hev
    gi_wp2
    refine ⟨trivial, hb, ?_⟩
    clear hb
    clear HP HK
    refine wpFlow_nil (A := ?AF2) ?hq2 ?_
    case hq2 =>
     rintro σ hσ of hof hcl
     have HOF := lh hof
     have HCL := lh hcl
     clear hof hcl
     obtain ⟨c0_, c1_⟩ := lyz2 Ly HOF 0 rfl
     have hfw := hfT
     simp only [pickB]
     repeat (gi_big_quiet_step (fail))
     refine wpQuietIn_nil ?_
     exact rfl
    intro b2 W47 hW hbg hbb hbi
    replace Ly := lyb Ly hW
    replace HBw := lh (HBw.out.trans (hW.mono HBw.out.size))
    have c0 := hbb.cell 0
    have z0 := hbb.frozen 0
    have c1 := hbb.cell 1
    have z1 := hbb.frozen 1
    have c2 := hbb.cell 2
    have z2 := hbb.frozen 2
    have c3 := hbb.cell 3
    have z3 := hbb.frozen 3
    have c4 := hbb.cell 4
    have z4 := hbb.frozen 4
    have c5 := hbb.cell 5
    have z5 := hbb.frozen 5
    have hbl := hbb.lt
    simp only [pickB]
    refine wpT_cons ?_
    gi_wp2
    refine wpT_nil ?_
    clear c0 z0 c1 z1 c2 z2 c3 z3 c4 z4 c5 z5 hbl
    have R1 := ret6' hbb HBw.out hbg (.int .i64 to2) (.int .i64 co2.a) (.int .i64 co2.b) (.int .i64 co2.c) (.int .i64 co2.d) (.slice AW2 nW2 cW2)
    replace Ly := lh ((HL0.out.below R1.2.1).add (Nat.le_trans HL0.out.1.size hbg) R1.1)
    replace HI := lh (HI0.out.below R1.2.1 (Nat.le_refl _))
    generalize ((((((W47.setCell ⟨b2, 0, none⟩ (.int .i64 to2)).setCell ⟨b2, 1, none⟩ (.int .i64 co2.a)).setCell ⟨b2, 2, none⟩ (.int .i64 co2.b)).setCell ⟨b2, 3, none⟩ (.int .i64 co2.c)).setCell ⟨b2, 4, none⟩ (.int .i64 co2.d)).setCell ⟨b2, 5, none⟩ (.slice AW2 nW2 cW2)) = W9 at *
    clear R1 hbb hbg hbi hW HBw HL0 HI0
    replace Ly := lh (show Lay w W9 [(w.heap.size, 25, #[.slice A n c, .slice A' m d]), (w.heap.size + 1, 34, #[.int .i64 s2, .int .i64 s3]), (b2, 99, #[.int .i64 to2, .int .i64 co2.a, .int .i64 co2.b, .int .i64 co2.c, .int .i64 co2.d, .slice AW2 nW2 cW2])] from Ly.out)
    have hsucc := worst_succ (t := t) (u := u) (v := v) (dk := dk) HX.out
    rw [HWF.out] at hsucc
    have HSU := lh hsucc
    clear hsucc
    by_cases hv0 : ev = 0
    ·subst hv0
     have HY := lh (worst_yes (s := (s1, s2, s3)) HEE.out HEV.out HQ.out)
     by_cases hs0 : s1 = 0
     ·subst hs0
      have he : worstF t u v dk ((idsOf t.links).take (k + 1)) = (x, co2.b, co2.c) := by rw [HSU.out, HY.out, if_pos rfl]
      gi_wp2
      refine wpIn_flow_old [([true, true, true, true, true, true, true, true, true], 9), ([], 10)] [false, false, false, false, false, false, false, false, false, false, false, true, true, true] [] (by kernel_rfl) (by kernel_rfl) (by kernel_rfl) (below_drewN (Below.refl _ _) 1) ?_
      refine wpFlow_cons (A := ?AF3) rfl ?hq3 ?_
      case hq3 =>
       rintro σ hσ of hof hcl
       have HOF := lh hof
       have HCL := lh hcl
       clear hof hcl
       obtain ⟨c0_, c1_⟩ := lyz2 Ly HOF 1 rfl
       obtain ⟨c2_, c3_, c4_, c5_, c6_, c7_⟩ := lyz6 Ly HOF 2 rfl
       have hfw := hfT
       simp only [pickB]
       repeat (gi_big_quiet_step (fail))
       refine wpQuietIn_nil ?_
       exact rfl
      intro W48 hW
      replace Ly := lyb Ly hW
      replace HI := lh (HI.out.below hW (Nat.le_refl _))
      clear hW
      gi_wp2
      try (any_goals (exfalso; have hu := ‹some undef = some (Value.bool _)›; first | cases hu | (simp [undef] at hu; done) | exact absurd hu (by decide)))
      refine ⟨trivial, ?_⟩
      gi_wp2
      refine ⟨trivial, Below.refl _ _, ?_⟩
      refine wpFlow_cons rfl Quietly.none ?_
      intro W49 hW
      replace Ly := lyb Ly hW
      replace HI := lh (HI.out.below hW (Nat.le_refl _))
      clear hW
      gi_wp2
      try (any_goals (exfalso; have hu := ‹some undef = some (Value.bool _)›; first | cases hu | (simp [undef] at hu; done) | exact absurd hu (by decide)))
      refine ⟨trivial, ?_⟩
      gi_wp2
      refine ⟨trivial, Below.refl _ _, ?_⟩
      refine wpFlow_nil (A := ?AF4) ?hq4 ?_
      case hq4 =>
       rintro σ hσ of hof hcl
       have HOF := lh hof
       have HCL := lh hcl
       clear hof hcl
       obtain ⟨c0_, c1_⟩ := lyz2 Ly HOF 1 rfl
       obtain ⟨c2_, c3_, c4_, c5_, c6_, c7_⟩ := lyz6 Ly HOF 2 rfl
       have hfw := hfT
       simp only [pickB]
       repeat (gi_big_quiet_step (fail))
       refine wpQuietIn_nil ?_
       exact rfl
      intro W50 hW
      replace Ly := lyb Ly hW
      replace HI := lh (HI.out.below hW (Nat.le_refl _))
      clear hW
      simp only [pickB]
      refine wpT_nil ?_
      obtain ⟨x2_0, x2_1, x2_2, x2_3, x2_4, x2_5⟩ := lyc6 Ly 2 rfl
      have l2_ := Ly.out.lt 2 rfl
      gi_wp2
      clear x2_0 x2_1 x2_2 x2_3 x2_4 x2_5 l2_
      refine ⟨trivial, (callsIn_wide.2 (toil_any co2 W50)).mono ?_⟩
      rintro e W51 ⟨rfl, hb⟩
      replace Ly := lyb Ly hb
      replace HI := lh (HI.out.below hb (Nat.le_refl _))
      clear hb
      have x1_0 := lyc Ly 1 rfl 0
      have z1_0 := lyf Ly 1 rfl 0
      have x1_1 := lyc Ly 1 rfl 1
      have z1_1 := lyf Ly 1 rfl 1
      have l1_ := Ly.out.lt 1 rfl
      gi_wp2
      clear x1_0 z1_0 x1_1 z1_1 l1_
      have hls : Lay w W51 [(w.heap.size, 25, #[.slice A n c, .slice A' m d]), (w.heap.size + 1, 34, #[.int .i64 s2, .int .i64 s3])] := Ly.out.sub (by intro b hb; simp only [List.mem_cons] at hb ⊢; rcases hb with rfl | rfl | hb; exact .inl rfl; exact .inr (.inl rfl); cases hb)
      have HLs := lh (show Lay w W51 ([(w.heap.size, 25, #[.slice A n c, .slice A' m d])] ++ [(w.heap.size + 1, 34, #[.int .i64 s2, .int .i64 s3])]) from hls)
      clear hls
      have HLt := lh ((HLs.out.setLast (fun p hp e => by simp at hp; subst hp; simp at e) 0 (.int .i64 co2.b)).setLast (fun p hp e => by simp at hp; subst hp; simp at e) 1 (.int .i64 co2.c))
      have HIt := lh (HI.out.grown (grown_setCell (grown_setCell (grown_refl _ (some (w.heap.size + 1))) (p := ⟨w.heap.size + 1, 0, none⟩) (.inl rfl) (.int .i64 co2.b)) (p := ⟨w.heap.size + 1, 1, none⟩) (.inl rfl) (.int .i64 co2.c)) (fun a ha e => by have h1 := (HI.out.lt ha).1; have h2 := Option.some.inj e; have h3 := HBL.out; omega))
      go_roundw
      case rel => exact ⟨k + 1, by omega, by go_num, by rw [he], lh ⟨by rw [he]; exact HLt.out, HIt.out⟩⟩
      case measure => simp [intOf]; omega
     ·have hs1 : (s1 == 0) = false := by simpa using hs0
      gi_wp2
      refine wpIn_flow_old [([true, true, true, true, true, true, true, true, true], 9), ([], 10)] [false, false, false, false, false, false, false, false, false, false, false, true, true, true] [] (by kernel_rfl) (by kernel_rfl) (by kernel_rfl) (below_drewN (Below.refl _ _) 1) ?_
      refine wpFlow_cons (A := ?AF5) rfl ?hq5 ?_
      case hq5 =>
       rintro σ hσ of hof hcl
       have HOF := lh hof
       have HCL := lh hcl
       clear hof hcl
       obtain ⟨c0_, c1_⟩ := lyz2 Ly HOF 1 rfl
       obtain ⟨c2_, c3_, c4_, c5_, c6_, c7_⟩ := lyz6 Ly HOF 2 rfl
       have hfw := hfT
       simp only [pickB]
       repeat (gi_big_quiet_step (fail))
       refine wpQuietIn_nil ?_
       exact rfl
      intro W88 hW
      replace Ly := lyb Ly hW
      replace HI := lh (HI.out.below hW (Nat.le_refl _))
      clear hW
      gi_wp2
      refine ⟨trivial, (callsIn_wide.2 (toil_any co2 W88)).mono ?_⟩
      rintro e W89 ⟨rfl, hb⟩
      replace Ly := lyb Ly hb
      replace HI := lh (HI.out.below hb (Nat.le_refl _))
      gi_wp2
      refine ⟨trivial, hb, ?_⟩
      clear hb
      refine wpFlow_cons rfl Quietly.none ?_
      intro W90 hW
      replace Ly := lyb Ly hW
      replace HI := lh (HI.out.below hW (Nat.le_refl _))
      clear hW
      gi_wp2
      refine ⟨trivial, (callsIn_wide.2 (easier_any s2 s3 co2.b co2.c W90)).mono ?_⟩
      rintro e W91 ⟨rfl, hb⟩
      replace Ly := lyb Ly hb
      replace HI := lh (HI.out.below hb (Nat.le_refl _))
      have hel := easy_lt s2 s3 co2.b co2.c
      obtain ⟨lp, hlp⟩ : ∃ b, lessP s2 s3 co2.b co2.c = b := ⟨_, rfl⟩
      rw [hlp] at hel
      have HEL := lh hel
      clear hel
      gi_wp2
      refine ⟨trivial, hb, ?_⟩
      clear hb
      refine wpFlow_nil (A := ?AF6) ?hq6 ?_
      case hq6 =>
       rintro σ hσ of hof hcl
       have HOF := lh hof
       have HCL := lh hcl
       clear hof hcl
       obtain ⟨c0_, c1_⟩ := lyz2 Ly HOF 1 rfl
       obtain ⟨c2_, c3_, c4_, c5_, c6_, c7_⟩ := lyz6 Ly HOF 2 rfl
       have hfw := hfT
       have hel := HEL.out
       simp only [pickB]
       repeat (gi_big_quiet_step (fail))
       refine wpQuietIn_nil ?_
       exact rfl
      intro W92 hW
      replace Ly := lyb Ly hW
      replace HI := lh (HI.out.below hW (Nat.le_refl _))
      clear hW
      simp only [pickB]
      refine wpT_nil ?_
      cases lp with
      | true =>
       have he : worstF t u v dk ((idsOf t.links).take (k + 1)) = (x, co2.b, co2.c) := by rw [HSU.out, HY.out, if_neg hs0]; simp only [hlp]; rfl
       have hel := HEL.out
       simp only [decide_eq_true_eq] at hel
       obtain ⟨x2_0, x2_1, x2_2, x2_3, x2_4, x2_5⟩ := lyc6 Ly 2 rfl
       have l2_ := Ly.out.lt 2 rfl
       gi_wp2
       clear x2_0 x2_1 x2_2 x2_3 x2_4 x2_5 l2_
       refine ⟨trivial, (callsIn_wide.2 (toil_any co2 W92)).mono ?_⟩
       rintro e W93 ⟨rfl, hb⟩
       replace Ly := lyb Ly hb
       replace HI := lh (HI.out.below hb (Nat.le_refl _))
       clear hb
       have x1_0 := lyc Ly 1 rfl 0
       have z1_0 := lyf Ly 1 rfl 0
       have x1_1 := lyc Ly 1 rfl 1
       have z1_1 := lyf Ly 1 rfl 1
       have l1_ := Ly.out.lt 1 rfl
       gi_wp2
       clear x1_0 z1_0 x1_1 z1_1 l1_
       have hls : Lay w W93 [(w.heap.size, 25, #[.slice A n c, .slice A' m d]), (w.heap.size + 1, 34, #[.int .i64 s2, .int .i64 s3])] := Ly.out.sub (by intro b hb; simp only [List.mem_cons] at hb ⊢; rcases hb with rfl | rfl | hb; exact .inl rfl; exact .inr (.inl rfl); cases hb)
       have HLs := lh (show Lay w W93 ([(w.heap.size, 25, #[.slice A n c, .slice A' m d])] ++ [(w.heap.size + 1, 34, #[.int .i64 s2, .int .i64 s3])]) from hls)
       clear hls
       have HLt := lh ((HLs.out.setLast (fun p hp e => by simp at hp; subst hp; simp at e) 0 (.int .i64 co2.b)).setLast (fun p hp e => by simp at hp; subst hp; simp at e) 1 (.int .i64 co2.c))
       have HIt := lh (HI.out.grown (grown_setCell (grown_setCell (grown_refl _ (some (w.heap.size + 1))) (p := ⟨w.heap.size + 1, 0, none⟩) (.inl rfl) (.int .i64 co2.b)) (p := ⟨w.heap.size + 1, 1, none⟩) (.inl rfl) (.int .i64 co2.c)) (fun a ha e => by have h1 := (HI.out.lt ha).1; have h2 := Option.some.inj e; have h3 := HBL.out; omega))
       go_roundw
       case rel => exact ⟨k + 1, by omega, by go_num, by rw [he], lh ⟨by rw [he]; exact HLt.out, HIt.out⟩⟩
       case measure => simp [intOf]; omega
      | false =>
       have he : worstF t u v dk ((idsOf t.links).take (k + 1)) = (s1, s2, s3) := by rw [HSU.out, HY.out, if_neg hs0]; simp only [hlp]; rfl
       have hel := HEL.out
       simp only [decide_eq_false_iff_not] at hel
       obtain ⟨x2_0, x2_1, x2_2, x2_3, x2_4, x2_5⟩ := lyc6 Ly 2 rfl
       have l2_ := Ly.out.lt 2 rfl
       gi_wp2
       go_roundw
       case rel => exact ⟨k + 1, by omega, by go_num, by rw [he], lh ⟨by rw [he]; exact Ly.out.sub (by intro b hb; simp only [List.mem_cons] at hb ⊢; rcases hb with rfl | rfl | hb; exact .inl rfl; exact .inr (.inl rfl); cases hb), HI.out⟩⟩
       case measure => simp [intOf]; omega
    ·have hv1 : (ev == 0) = false := by simpa using hv0
     have he : worstF t u v dk ((idsOf t.links).take (k + 1)) = (s1, s2, s3) := by rw [HSU.out, worst_no HEE.out HEV.out hv0]
     gi_wp2
     refine wpIn_flow_old [([true, true, true, true, true, true, true, true, true], 9), ([], 10)] [false, false, false, false, false, false, false, false, false, false, false, true, true, true] [] (by kernel_rfl) (by kernel_rfl) (by kernel_rfl) (below_drewN (Below.refl _ _) 1) ?_
     refine wpFlow_cons (A := ?AF7) rfl ?hq7 ?_
     case hq7 =>
      rintro σ hσ of hof hcl
      have HOF := lh hof
      have HCL := lh hcl
      clear hof hcl
      obtain ⟨c0_, c1_⟩ := lyz2 Ly HOF 1 rfl
      obtain ⟨c2_, c3_, c4_, c5_, c6_, c7_⟩ := lyz6 Ly HOF 2 rfl
      have hfw := hfT
      simp only [pickB]
      repeat (gi_big_quiet_step (fail))
      refine wpQuietIn_nil ?_
      exact rfl
     intro W148 hW
     replace Ly := lyb Ly hW
     replace HI := lh (HI.out.below hW (Nat.le_refl _))
     clear hW
     gi_wp2
     try (any_goals (exfalso; have hu := ‹some undef = some (Value.bool _)›; first | cases hu | (simp [undef] at hu; done) | exact absurd hu (by decide)))
     refine ⟨trivial, ?_⟩
     gi_wp2
     refine ⟨trivial, Below.refl _ _, ?_⟩
     refine wpFlow_cons rfl Quietly.none ?_
     intro W149 hW
     replace Ly := lyb Ly hW
     replace HI := lh (HI.out.below hW (Nat.le_refl _))
     clear hW
     gi_wp2
     try (any_goals (exfalso; have hu := ‹some undef = some (Value.bool _)›; first | cases hu | (simp [undef] at hu; done) | exact absurd hu (by decide)))
     refine ⟨trivial, ?_⟩
     gi_wp2
     refine ⟨trivial, Below.refl _ _, ?_⟩
     refine wpFlow_nil (A := ?AF8) ?hq8 ?_
     case hq8 =>
      rintro σ hσ of hof hcl
      have HOF := lh hof
      have HCL := lh hcl
      clear hof hcl
      obtain ⟨c0_, c1_⟩ := lyz2 Ly HOF 1 rfl
      obtain ⟨c2_, c3_, c4_, c5_, c6_, c7_⟩ := lyz6 Ly HOF 2 rfl
      have hfw := hfT
      simp only [pickB]
      repeat (gi_big_quiet_step (fail))
      refine wpQuietIn_nil ?_
      exact rfl
     intro W150 hW
     replace Ly := lyb Ly hW
     replace HI := lh (HI.out.below hW (Nat.le_refl _))
     clear hW
     simp only [pickB]
     refine wpT_nil ?_
     gi_wp2
     go_roundw
     case rel => exact ⟨k + 1, by omega, by go_num, by rw [he], lh ⟨by rw [he]; exact Ly.out.sub (by intro b hb; simp only [List.mem_cons] at hb ⊢; rcases hb with rfl | rfl | hb; exact .inl rfl; exact .inr (.inl rfl); cases hb), HI.out⟩⟩
     case measure => simp [intOf]; omega
   ·obtain rfl : k = M := by omega
    have hf : worstF t u v dk (idsOf t.links) = (s1, s2, s3) := by
     have h := HWF.out
     rwa [List.take_of_length_le (by rw [HM.out]; exact Nat.le_refl _)] at h
    have HF := lh hf
    clear hf
    by_cases hs0 : s1 = 0
    ·subst hs0
     have hz := worst_ids HG.out HF.out
     obtain ⟨rfl, rfl⟩ : s2 = 0 ∧ s3 = 0 := hz
     gi_wp2
     refine wpIn_flow_old [] [true, true, false, true] [false, false, true] (by kernel_rfl) (by kernel_rfl) (by kernel_rfl) (below_drewN (Below.refl _ _) 1) ?_
     refine wpFlow_nil (A := ?AF9) ?hq9 ?_
     case hq9 =>
      rintro σ hσ of hof hcl
      have HOF := lh hof
      have HCL := lh hcl
      clear hof hcl
      obtain ⟨c0_, c1_⟩ := lyz2 Ly HOF 1 rfl
      have hfw := hfT
      simp only [pickB]
      repeat (gi_big_quiet_step (fail))
      refine wpQuietIn_nil ?_
      exact rfl
     intro W301 hW
     replace Ly := lyb Ly hW
     clear hW
     simp only [pickB]
     have x1_0 := lyc Ly 1 rfl 0
     have z1_0 := lyf Ly 1 rfl 0
     have x1_1 := lyc Ly 1 rfl 1
     have z1_1 := lyf Ly 1 rfl 1
     have l1_ := Ly.out.lt 1 rfl
     refine wpT_cons ?_
     gi_wp2
     refine wpT_nil ?_
     clear x1_0 z1_0 x1_1 z1_1 l1_
     gi_wp2
     have R1 := ret2 (Ly.out.blk 1 rfl) Ly.out.1 (by omega) (.int .i64 (0)) (.int .i64 (0))
     have y0 := R1.1.cell 0
     have y1 := R1.1.cell 1
     have hV := worstV_zero HEE.out HF.out
     exact bodyPost_ret (v := .tuple #[.int .i64 0, .agg #[.int .i64 (0), .int .i64 (0)], .int .i64 6]) (by simp [results, Tryz.results48, go_sem, y0, y1]) rfl ⟨by rw [hV], R1.2⟩
    ·have hs1 : (s1 == 0) = false := by simpa using hs0
     gi_wp2
     have x1_0 := lyc Ly 1 rfl 0
     have z1_0 := lyf Ly 1 rfl 0
     have x1_1 := lyc Ly 1 rfl 1
     have z1_1 := lyf Ly 1 rfl 1
     have l1_ := Ly.out.lt 1 rfl
     gi_region
     all_goals gi_wp2
     clear x1_0 z1_0 x1_1 z1_1 l1_
     all_goals
      have R1 := ret2 (Ly.out.blk 1 rfl) Ly.out.1 (by omega) (.int .i64 s2) (.int .i64 s3)
      have y0 := (Blk.drew R1.1).cell 0
      have y1 := (Blk.drew R1.1).cell 1
      have hV := worstV_some HEE.out HF.out hs0
      exact bodyPost_ret (v := .tuple #[.int .i64 s1, .agg #[.int .i64 s2, .int .i64 s3], .int .i64 0]) (by simp [results, Tryz.results48, go_sem, y0, y1]) rfl ⟨by rw [hV], R1.2.drew⟩
 ·have h1 : (ee != 0) = true := by simpa using h0
  have HE0 := lh h0
  clear h0
  gi_wp2
  clear x0_0 x0_1 l0_ x1_0 z1_0 x1_1 z1_1 l1_
  refine wpIn_flow_old [] [true, true, true, false, true] [false, false, false, true] (by kernel_rfl) (by kernel_rfl) (by kernel_rfl) (below_drewN (Below.refl _ _) 1) ?_
  refine wpFlow_nil (A := ?AF10) ?hq10 ?_
  case hq10 =>
   rintro σ hσ of hof hcl
   have HOF := lh hof
   have HCL := lh hcl
   clear hof hcl
   obtain ⟨c0_, c1_⟩ := lyz2 Ly HOF 1 rfl
   have hfw := hfT
   simp only [pickB]
   repeat (gi_big_quiet_step (fail))
   refine wpQuietIn_nil ?_
   exact rfl
  intro W401 hW
  replace Ly := lyb Ly hW
  clear hW
  simp only [pickB]
  have x1_0 := lyc Ly 1 rfl 0
  have z1_0 := lyf Ly 1 rfl 0
  have x1_1 := lyc Ly 1 rfl 1
  have z1_1 := lyf Ly 1 rfl 1
  have l1_ := Ly.out.lt 1 rfl
  refine wpT_cons ?_
  gi_wp2
  refine wpT_nil ?_
  clear x1_0 z1_0 x1_1 z1_1 l1_
  gi_wp2
  have R1 := ret2 (Ly.out.blk 1 rfl) Ly.out.1 (by omega) (.int .i64 (0)) (.int .i64 (0))
  have y0 := R1.1.cell 0
  have y1 := R1.1.cell 1
  have hV := worstV_bad (dk := dk) HEE.out HE0.out
  exact bodyPost_ret (v := .tuple #[.int .i64 0, .agg #[.int .i64 (0), .int .i64 (0)], .int .i64 ee]) (by simp [results, Tryz.results48, go_sem, y0, y1]) rfl ⟨by rw [hV], R1.2⟩
theorem worst_any (A : Option Addr) (n c : Nat) (A' : Option Addr) (m d : Nat) (t : Town) (u v : Int) (dk : Bool) (w : World)
  (hn : n ≤ 1000) (hm : m ≤ 1000) (ht : TownAt w w.heap.size A n A' m t) (hL : Laid w) :
  Calls Tryz.prog 48 #[.agg #[.slice A n c, .slice A' m d], .int .i64 u, .int .i64 v, .bool dk] w (WorstOut w (worstV t u v dk)) :=
 callsIn_wide.1 (worst_in A n c A' m d t u v dk w hn hm ht hL)
end
section
open Go.RowKit Go.Shelf
def walkV (t : Town) (u : Int) (l : List Int) : Int × Int × Int × Int := if askE t [u] = 0 then (match walkedF t freeP u l with
 | some q => (q.1, q.2.b, q.2.c, 0)
 | none => (0, 0, 0, 32)) else (0, 0, 0, askE t [u])
def WalkOut (w : World) (r : Int × Int × Int × Int) (x : Ending) (w' : World) : Prop := x = .returned (.tuple #[.int .i64 r.1, .agg #[.int .i64 r.2.1, .int .i64 r.2.2.1], .int .i64 r.2.2.2]) ∧ Below w.heap.size w w'
set_option maxRecDepth 100000 in
set_option maxHeartbeats 16000000 in
theorem walkx_in (A : Option Addr) (n c : Nat) (A' : Option Addr) (m d : Nat) (t : Town) (u : Int) (A2 : Option Addr) (k2 c2 : Nat) (l : List Int) (w : World)
  (hn : n ≤ 1000) (hm : m ≤ 1000) (hk2 : k2 ≤ 1000) (ht : TownAt w w.heap.size A n A' m t) (hr : IntsAt w w.heap.size A2 k2 l) (hL : Laid w) :
  CallsIn Fence.wide 9 Tryz.prog 42 #[.agg #[.slice A n c, .slice A' m d], .int .i64 u, .slice A2 k2 c2] w (WalkOut w (walkV t u l)) := by
 have HT := lh ht
 have HL := lh hL
 have hl0 := hL.2.2.2
 clear ht hL
 have HR := lh hr
 clear hr
 refine callsIn_of_wp Tryz.func42 rfl trivial ?_ rfl
 simp only [Tryz.ntmps42, List.size_toArray, List.length_cons, List.length_nil, Nat.reduceAdd, Nat.reduceSub, Array.replicate_succ, Array.replicate_zero, List.push_toArray, List.append_toArray, List.nil_append, List.cons_append]
 gi_wp2
 have Ly := lh (Lay.three w 25 #[.slice A n c, .slice A' m d] 34 #[.int .i64 0, .int .i64 0] 3 #[.int .i64 u])
 generalize (((w.alloc (.cells #[.slice A n c, .slice A' m d] 25)).alloc (.cells #[.int .i64 0, .int .i64 0] 34)).alloc (.cells #[.int .i64 u] 3)) = w0 at *
 have HUV0 := lh (show IntsAt w0 w0.heap.size (some ⟨w.heap.size + 1 + 1, 0, none⟩) 1 [u] from one_int (Ly.out.blk 2 rfl).lt (lyc Ly 2 rfl 0))
 refine ⟨trivial, (callsIn_wide.2 (asked_any A n c A' m d t (some ⟨w.heap.size + 1 + 1, 0, none⟩) 1 1 [u] w0 (by unfold maxLen; omega) (by unfold maxLen; omega) (by decide) ((HT.out.below Ly.out.1).more Ly.out.1.size) HUV0.out (HL.out.below Ly.out.1 hl0))).mono ?_⟩
 rintro e W1 ⟨rfl, hb⟩
 replace Ly := lyb Ly hb
 clear hb
 obtain ⟨ee, hee⟩ : ∃ ee, askE t [u] = ee := ⟨_, rfl⟩
 rw [hee]
 have HEE := lh hee
 clear hee
 obtain ⟨x0_0, x0_1⟩ := lyc2 Ly 0 rfl
 have l0_ := Ly.out.lt 0 rfl
 have x1_0 := lyc Ly 1 rfl 0
 have z1_0 := lyf Ly 1 rfl 0
 have x1_1 := lyc Ly 1 rfl 1
 have z1_1 := lyf Ly 1 rfl 1
 have l1_ := Ly.out.lt 1 rfl
 by_cases h0 : ee = 0
 ·subst h0
  obtain ⟨htb, hhas⟩ := askE_zero HEE.out
  have HG := lh (goodT htb)
  have hm20 : m ≤ 20 := by have := HG.out.links; have := HT.out.links.len; omega
  clear htb hhas
  gi_wp2
  clear x0_0 x0_1 l0_ x1_0 z1_0 x1_1 z1_1 l1_
  refine ⟨trivial, (callsIn_wide.2 (walked_all A n c A' m d _ _ freeP t u A2 k2 c2 l W1 hm20 hk2 ((HT.out.links.below Ly.out.1).more Ly.out.1.size) (free_price W1) HG.out.fine freeP_fair ((HR.out.below Ly.out.1).more Ly.out.1.size))).mono ?_⟩
  rintro e W2 ⟨to, co, rfl, hq, hb⟩
  replace Ly := lyb Ly hb
  clear hb
  obtain ⟨rr, hrr⟩ : ∃ r, walkedF t freeP u l = r := ⟨_, rfl⟩
  rw [hrr] at hq ⊢
  have HRR := lh hrr
  have HQ := lh hq
  clear hrr hq
  cases rr with
  | none =>
   obtain ⟨x0_0, x0_1⟩ := lyc2 Ly 0 rfl
   have l0_ := Ly.out.lt 0 rfl
   have x1_0 := lyc Ly 1 rfl 0
   have z1_0 := lyf Ly 1 rfl 0
   have x1_1 := lyc Ly 1 rfl 1
   have z1_1 := lyf Ly 1 rfl 1
   have l1_ := Ly.out.lt 1 rfl
   gi_wp2
   clear x0_0 x0_1 l0_ x1_0 z1_0 x1_1 z1_1 l1_
   have hb : Below W2.heap.size W2 (W2.alloc (.cells #[.int .i64 to, .int .i64 co.a, .int .i64 co.b, .int .i64 co.c, .int .i64 co.d, .slice none 0 0] 99)) := (Below.refl _ _).alloc (Nat.le_refl _) _
   have hnew := Blk.new W2 99 #[.int .i64 to, .int .i64 co.a, .int .i64 co.b, .int .i64 co.c, .int .i64 co.d, .slice none 0 0]
   have hge := Ly.out.bel.size
   replace Ly := lyb Ly hb
   replace Ly := lh (Ly.out.add hge hnew)
   clear hnew hge hb
   obtain ⟨G4, hG⟩ : ∃ g, W2.heap.size = g := ⟨_, rfl⟩
   rw [hG] at Ly ⊢
   generalize (W2.alloc (.cells #[.int .i64 to, .int .i64 co.a, .int .i64 co.b, .int .i64 co.c, .int .i64 co.d, .slice none 0 0] 99)) = V3 at *
   clear hG
   replace Ly := lh (show Lay w V3 [(w.heap.size, 25, #[.slice A n c, .slice A' m d]), (w.heap.size + 1, 34, #[.int .i64 0, .int .i64 0]), (w.heap.size + 1 + 1, 3, #[.int .i64 u]), (G4, 99, #[.int .i64 to, .int .i64 co.a, .int .i64 co.b, .int .i64 co.c, .int .i64 co.d, .slice none 0 0])] from Ly.out)
   refine wpIn_flow_old [] [true, true, false, true] [false, false, true] (by kernel_rfl) (by kernel_rfl) (by kernel_rfl) (below_drewN (Below.refl _ _) 1) ?_
   refine wpFlow_nil (A := ?AF1) ?hq1 ?_
   case hq1 =>
    rintro σ hσ of hof hcl
    have HOF := lh hof
    have HCL := lh hcl
    clear hof hcl
    obtain ⟨c0_, c1_⟩ := lyz2 Ly HOF 1 rfl
    have hfw := hfT
    simp only [pickB]
    repeat (gi_big_quiet_step (fail))
    refine wpQuietIn_nil ?_
    exact rfl
   intro W5 hW
   replace Ly := lyb Ly hW
   clear hW
   simp only [pickB]
   have x1_0 := lyc Ly 1 rfl 0
   have z1_0 := lyf Ly 1 rfl 0
   have x1_1 := lyc Ly 1 rfl 1
   have z1_1 := lyf Ly 1 rfl 1
   have l1_ := Ly.out.lt 1 rfl
   refine wpT_cons ?_
   gi_wp2
   refine wpT_nil ?_
   clear x1_0 z1_0 x1_1 z1_1 l1_
   gi_wp2
   have R1 := ret2 (Ly.out.blk 1 rfl) Ly.out.1 (by omega) (.int .i64 (0)) (.int .i64 (0))
   have y0 := R1.1.cell 0
   have y1 := R1.1.cell 1
   have hV : walkV t u l = (0, 0, 0, 32) := by unfold walkV; rw [if_pos HEE.out, HRR.out]
   exact bodyPost_ret (v := .tuple #[.int .i64 0, .agg #[.int .i64 (0), .int .i64 (0)], .int .i64 32]) (by simp [results, Tryz.results42, go_sem, y0, y1]) rfl ⟨by rw [hV], R1.2⟩
  | some q0 =>
   obtain rfl : q0 = (to, co) := HQ.out q0 rfl
   obtain ⟨x0_0, x0_1⟩ := lyc2 Ly 0 rfl
   have l0_ := Ly.out.lt 0 rfl
   have x1_0 := lyc Ly 1 rfl 0
   have z1_0 := lyf Ly 1 rfl 0
   have x1_1 := lyc Ly 1 rfl 1
   have z1_1 := lyf Ly 1 rfl 1
   have l1_ := Ly.out.lt 1 rfl
   gi_wp2
   clear x0_0 x0_1 l0_ x1_0 z1_0 x1_1 z1_1 l1_
   have hb : Below W2.heap.size W2 (W2.alloc (.cells #[.int .i64 to, .int .i64 co.a, .int .i64 co.b, .int .i64 co.c, .int .i64 co.d, .slice none 0 0] 99)) := (Below.refl _ _).alloc (Nat.le_refl _) _
   have hnew := Blk.new W2 99 #[.int .i64 to, .int .i64 co.a, .int .i64 co.b, .int .i64 co.c, .int .i64 co.d, .slice none 0 0]
   have hge := Ly.out.bel.size
   replace Ly := lyb Ly hb
   replace Ly := lh (Ly.out.add hge hnew)
   clear hnew hge hb
   obtain ⟨G24, hG⟩ : ∃ g, W2.heap.size = g := ⟨_, rfl⟩
   rw [hG] at Ly ⊢
   generalize (W2.alloc (.cells #[.int .i64 to, .int .i64 co.a, .int .i64 co.b, .int .i64 co.c, .int .i64 co.d, .slice none 0 0] 99)) = V23 at *
   clear hG
   replace Ly := lh (show Lay w V23 [(w.heap.size, 25, #[.slice A n c, .slice A' m d]), (w.heap.size + 1, 34, #[.int .i64 0, .int .i64 0]), (w.heap.size + 1 + 1, 3, #[.int .i64 u]), (G24, 99, #[.int .i64 to, .int .i64 co.a, .int .i64 co.b, .int .i64 co.c, .int .i64 co.d, .slice none 0 0])] from Ly.out)
   refine wpIn_flow_old [([true, true, true, true], 4)] [false, false, false, false, false, true, false, true] [false, false, false, false, false, false, true] (by kernel_rfl) (by kernel_rfl) (by kernel_rfl) (below_drewN (Below.refl _ _) 1) ?_
   refine wpFlow_cons (A := ?AF2) rfl ?hq2 ?_
   case hq2 =>
    rintro σ hσ of hof hcl
    have HOF := lh hof
    have HCL := lh hcl
    clear hof hcl
    obtain ⟨c0_, c1_, c2_, c3_, c4_, c5_⟩ := lyz6 Ly HOF 3 rfl
    have hfw := hfT
    simp only [pickB]
    repeat (gi_big_quiet_step (fail))
    refine wpQuietIn_nil ?_
    exact rfl
   intro W25 hW
   replace Ly := lyb Ly hW
   clear hW
   gi_wp2
   refine ⟨trivial, (callsIn_wide.2 (toil_any co W25)).mono ?_⟩
   rintro e W26 ⟨rfl, hb⟩
   replace Ly := lyb Ly hb
   gi_wp2
   refine ⟨trivial, hb, ?_⟩
   clear hb
   refine wpFlow_nil (A := ?AF3) ?hq3 ?_
   case hq3 =>
    rintro σ hσ of hof hcl
    have HOF := lh hof
    have HCL := lh hcl
    clear hof hcl
    obtain ⟨c0_, c1_, c2_, c3_, c4_, c5_⟩ := lyz6 Ly HOF 3 rfl
    have hfw := hfT
    simp only [pickB]
    repeat (gi_big_quiet_step (fail))
    refine wpQuietIn_nil ?_
    exact rfl
   intro W27 hW
   replace Ly := lyb Ly hW
   clear hW
   simp only [pickB]
   have x1_0 := lyc Ly 1 rfl 0
   have z1_0 := lyf Ly 1 rfl 0
   have x1_1 := lyc Ly 1 rfl 1
   have z1_1 := lyf Ly 1 rfl 1
   have l1_ := Ly.out.lt 1 rfl
   refine wpT_cons ?_
   gi_wp2
   refine wpT_nil ?_
   clear x1_0 z1_0 x1_1 z1_1 l1_
   gi_wp2
   have R1 := ret2 (Ly.out.blk 1 rfl) Ly.out.1 (by omega) (.int .i64 (co.b)) (.int .i64 (co.c))
   have y0 := R1.1.cell 0
   have y1 := R1.1.cell 1
   have hV : walkV t u l = (to, co.b, co.c, 0) := by unfold walkV; rw [if_pos HEE.out, HRR.out]
   exact bodyPost_ret (v := .tuple #[.int .i64 to, .agg #[.int .i64 (co.b), .int .i64 (co.c)], .int .i64 0]) (by simp [results, Tryz.results42, go_sem, y0, y1]) rfl ⟨by rw [hV], R1.2⟩
 ·have h1 : (ee != 0) = true := by simpa using h0
  have HE0 := lh h0
  clear h0
  gi_wp2
  clear x0_0 x0_1 l0_ x1_0 z1_0 x1_1 z1_1 l1_
  refine wpIn_flow_old [] [true, true, true, false, true] [false, false, false, true] (by kernel_rfl) (by kernel_rfl) (by kernel_rfl) (below_drewN (Below.refl _ _) 1) ?_
  refine wpFlow_nil (A := ?AF4) ?hq4 ?_
  case hq4 =>
   rintro σ hσ of hof hcl
   have HOF := lh hof
   have HCL := lh hcl
   clear hof hcl
   obtain ⟨c0_, c1_⟩ := lyz2 Ly HOF 1 rfl
   have hfw := hfT
   simp only [pickB]
   repeat (gi_big_quiet_step (fail))
   refine wpQuietIn_nil ?_
   exact rfl
  intro W43 hW
  replace Ly := lyb Ly hW
  clear hW
  simp only [pickB]
  have x1_0 := lyc Ly 1 rfl 0
  have z1_0 := lyf Ly 1 rfl 0
  have x1_1 := lyc Ly 1 rfl 1
  have z1_1 := lyf Ly 1 rfl 1
  have l1_ := Ly.out.lt 1 rfl
  refine wpT_cons ?_
  gi_wp2
  refine wpT_nil ?_
  clear x1_0 z1_0 x1_1 z1_1 l1_
  gi_wp2
  have R1 := ret2 (Ly.out.blk 1 rfl) Ly.out.1 (by omega) (.int .i64 (0)) (.int .i64 (0))
  have y0 := R1.1.cell 0
  have y1 := R1.1.cell 1
  have hV : walkV t u l = (0, 0, 0, ee) := by unfold walkV; rw [if_neg (by rw [HEE.out]; exact HE0.out), HEE.out]
  exact bodyPost_ret (v := .tuple #[.int .i64 0, .agg #[.int .i64 (0), .int .i64 (0)], .int .i64 ee]) (by simp [results, Tryz.results42, go_sem, y0, y1]) rfl ⟨by rw [hV], R1.2⟩
theorem walk_any (A : Option Addr) (n c : Nat) (A' : Option Addr) (m d : Nat) (t : Town) (u : Int) (A2 : Option Addr) (k2 c2 : Nat) (l : List Int) (w : World)
  (hn : n ≤ 1000) (hm : m ≤ 1000) (hk2 : k2 ≤ 1000) (ht : TownAt w w.heap.size A n A' m t) (hr : IntsAt w w.heap.size A2 k2 l) (hL : Laid w) :
  Calls Tryz.prog 42 #[.agg #[.slice A n c, .slice A' m d], .int .i64 u, .slice A2 k2 c2] w (WalkOut w (walkV t u l)) :=
 callsIn_wide.1 (walkx_in A n c A' m d t u A2 k2 c2 l w hn hm hk2 ht hr hL)
end
section
open Go.RowKit Go.Shelf
set_option maxRecDepth 100000 in
set_option maxHeartbeats 16000000 in
theorem need_in (A : Option Addr) (n c : Nat) (A' : Option Addr) (m d : Nat) (t : Town) (u v : Int) (dk : Bool) (w : World)
  (hn : n ≤ 1000) (hm : m ≤ 1000) (ht : TownAt w w.heap.size A n A' m t) (hL : Laid w) :
  CallsIn Fence.wide 9 Tryz.prog 25 #[.agg #[.slice A n c, .slice A' m d], .int .i64 u, .int .i64 v, .bool dk] w (ListOut w (neededR t u v dk (idsOf t.links) ofOnly) (wayE t u v dk)) := by
 have HT := lh ht
 have HL := lh hL
 have HLm := lh ht.links.len
 have hl0 := hL.2.2.2
 clear ht hL
 refine callsIn_of_wp Tryz.func25 rfl trivial ?_ rfl
 simp only [Tryz.ntmps25, List.size_toArray, List.length_cons, List.length_nil, Nat.reduceAdd, Nat.reduceSub, Array.replicate_succ, Array.replicate_zero, List.push_toArray, List.append_toArray, List.nil_append, List.cons_append]
 gi_wp2
 have Ly := lh (Lay.one w 25 #[.slice A n c, .slice A' m d])
 generalize (w.alloc (.cells #[.slice A n c, .slice A' m d] 25)) = w0 at *
 refine wpIn_flow_old [([true, true, true, true, true], 5), ([], 6)] [false, false, false, false, false, false, false, true, true, true, true] [] (by kernel_rfl) (by kernel_rfl) (by kernel_rfl) (below_drewN (Below.refl _ _) 1) ?_
 refine wpFlow_cons (A := ?AF1) rfl ?hq1 ?_
 case hq1 =>
  rintro σ hσ of hof hcl
  have HOF := lh hof
  have HCL := lh hcl
  clear hof hcl
  obtain ⟨c0_, c1_⟩ := lyz2 Ly HOF 0 rfl
  have hfw := hfT
  simp only [pickB]
  repeat (gi_big_quiet_step (fail))
  refine wpQuietIn_nil ?_
  exact rfl
 intro W1 hW
 replace Ly := lyb Ly hW
 clear hW
 gi_wp2
 refine ⟨trivial, (callsIn_wide.2 (ids_any A n c A' m d t W1 hm ((HT.out.links.below Ly.out.1).more Ly.out.1.size))).mono ?_⟩
 rintro e W2 ⟨AI, cI, rfl, hI, hb⟩
 replace Ly := lyb Ly hb
 have HI := lh hI
 clear hI
 gi_wp2
 refine ⟨trivial, hb, ?_⟩
 clear hb
 refine wpFlow_cons rfl Quietly.none ?_
 intro W3 hW
 replace Ly := lyb Ly hW
 replace HI := lh (HI.out.below hW (Nat.le_refl _))
 clear hW
 gi_wp2
 refine ⟨trivial, (callsIn_wide.2 (needed_any A n c A' m d t u v dk AI _ cI (idsOf t.links) _ _ ofOnly W3 hn hm (by unfold idsOf; rw [List.length_map, HLm.out]; exact hm) ((HT.out.below Ly.out.1).more Ly.out.1.size) (ints_of_own HI.out (Nat.le_refl _)) (HL.out.below Ly.out.1 hl0) only_of)).mono ?_⟩
 rintro e W4 ⟨AN, nN, cN, rfl, hiw, hb⟩
 replace Ly := lyb Ly hb
 replace HI := lh (HI.out.below hb (Nat.le_refl _))
 have HN := lh hiw
 clear hiw
 gi_wp2
 refine ⟨trivial, hb, ?_⟩
 clear hb
 refine wpFlow_nil (A := ?AF2) ?hq2 ?_
 case hq2 =>
  rintro σ hσ of hof hcl
  have HOF := lh hof
  have HCL := lh hcl
  clear hof hcl
  obtain ⟨c0_, c1_⟩ := lyz2 Ly HOF 0 rfl
  have hfw := hfT
  simp only [pickB]
  repeat (gi_big_quiet_step (fail))
  refine wpQuietIn_nil ?_
  exact rfl
 intro W5 hW
 replace Ly := lyb Ly hW
 replace HI := lh (HI.out.below hW (Nat.le_refl _))
 replace HN := iu HN hW
 clear hW
 simp only [pickB]
 refine wpT_nil ?_
 gi_wp2
 exact bodyPost_ret (v := .tuple #[.slice AN nN cN, .int .i64 (wayE t u v dk)]) (by simp [results, Tryz.results25, go_sem]) rfl ⟨AN, nN, cN, rfl, HN.out, Ly.out.1⟩
theorem need_any (A : Option Addr) (n c : Nat) (A' : Option Addr) (m d : Nat) (t : Town) (u v : Int) (dk : Bool) (w : World)
  (hn : n ≤ 1000) (hm : m ≤ 1000) (ht : TownAt w w.heap.size A n A' m t) (hL : Laid w) :
  Calls Tryz.prog 25 #[.agg #[.slice A n c, .slice A' m d], .int .i64 u, .int .i64 v, .bool dk] w (ListOut w (neededR t u v dk (idsOf t.links) ofOnly) (wayE t u v dk)) :=
 callsIn_wide.1 (need_in A n c A' m d t u v dk w hn hm ht hL)
end
section
open Go.RowKit Go.Shelf
def inUV (u v x : Int) : Bool := x == u || x == v
def othersL (t : Town) (u v : Int) : List Int := t.places.filter fun x => !inUV u v x
theorem gate1_any (x u v : Int) (g1 g2 : Nat) (w : World) (h1 : Blk w g1 3 #[.int .i64 u]) (h2 : Blk w g2 3 #[.int .i64 v]) :
  Calls Tryz.prog 67 (#[.int .i64 x] ++ #[.pointer (some ⟨g1, 0, none⟩), .pointer (some ⟨g2, 0, none⟩)]) w fun e w' => e = .returned (.bool (inUV u v x)) ∧ Below w.heap.size w w' := by
 have hd : inUV u v x = (x == u || x == v) := rfl
 have HD := lh hd
 clear hd
 have c1 := h1.cell 0
 have c2 := h2.cell 0
 have l1 := h1.lt
 have l2 := h2.lt
 cases hu : (x == u) with
 | true =>
  go_enter Tryz.func67, Tryz.ntmps67
  go_wp2_with fail
  go_ret
  exact ⟨ret_bool (by rw [HD.out, hu]; rfl), Below.refl _ _⟩
 | false =>
  go_enter Tryz.func67, Tryz.ntmps67
  go_wp2_with fail
  go_ret
  exact ⟨ret_bool (by rw [HD.out, hu]; rfl), Below.refl _ _⟩
theorem gate1_pred {u v : Int} {g1 g2 K : Nat} {w : World} (h1 : Blk w g1 3 #[.int .i64 u]) (h2 : Blk w g2 3 #[.int .i64 v]) (k1 : g1 < K) (k2 : g2 < K) : PredI w K 67 #[.pointer (some ⟨g1, 0, none⟩), .pointer (some ⟨g2, 0, none⟩)] (inUV u v) :=
 ⟨enters_of Tryz.func67 (by kernel_rfl) rfl, fun x W hW => gate1_any x u v g1 g2 W (h1.below hW k1) (h2.below hW k2)⟩
set_option maxRecDepth 100000 in
set_option maxHeartbeats 16000000 in
theorem gate_in (A : Option Addr) (n c : Nat) (A' : Option Addr) (m d : Nat) (t : Town) (u v : Int) (dk : Bool) (w : World)
  (hn : n ≤ 1000) (hm : m ≤ 1000) (ht : TownAt w w.heap.size A n A' m t) (hL : Laid w) :
  CallsIn Fence.wide 9 Tryz.prog 26 #[.agg #[.slice A n c, .slice A' m d], .int .i64 u, .int .i64 v, .bool dk] w (ListOut w (neededR t u v dk (othersL t u v) ofGate) (wayE t u v dk)) := by
 have HT := lh ht
 have HL := lh hL
 have HLn := lh ht.places.len
 have hl0 := hL.2.2.2
 clear ht hL
 refine callsIn_of_wp Tryz.func26 rfl trivial ?_ rfl
 simp only [Tryz.ntmps26, List.size_toArray, List.length_cons, List.length_nil, Nat.reduceAdd, Nat.reduceSub, Array.replicate_succ, Array.replicate_zero, List.push_toArray, List.append_toArray, List.nil_append, List.cons_append]
 gi_wp2
 have Ly := lh (Lay.three w 25 #[.slice A n c, .slice A' m d] 3 #[.int .i64 u] 3 #[.int .i64 v])
 generalize (((w.alloc (.cells #[.slice A n c, .slice A' m d] 25)).alloc (.cells #[.int .i64 u] 3)).alloc (.cells #[.int .i64 v] 3)) = w0 at *
 have HLB := lh (Ly.out.lt 1 rfl)
 have HLC := lh (Ly.out.lt 2 rfl)
 have HL0 := Ly
 refine ⟨trivial, (callsIn_wide.2 (clone_int A n c t.places w0 ((HT.out.places.below Ly.out.1).more Ly.out.1.size) (by unfold maxLen; omega) (by omega))).mono ?_⟩
 rintro e W1 ⟨AP, cP, rfl, hP, _, hb⟩
 have HP := lh hP
 have HB := lh hb
 replace Ly := lyb Ly hb
 have HPR := lh (gate1_pred (u := u) (v := v) (Ly.out.blk 1 rfl) (Ly.out.blk 2 rfl) HLB.out HLC.out)
 have hE := HPR.out.enters
 clear hP hb
 gi_wp2
 refine ⟨trivial, (callsIn_wide.2 (deleteFunc_int w0.heap.size w0.heap.size _ _ (inUV u v) AP n cP t.places W1 HP.out (Nat.le_refl _) HB.out.size HPR.out)).mono ?_⟩
 rintro e W2 ⟨rfl, hO, hg⟩
 rw [show (t.places.filter fun x => !inUV u v x) = othersL t u v from rfl] at hO ⊢
 have HO := lh hO
 have HB2 := lh (HB.out.grown hg HB.out.size (fun j hj => own_row HP.out hj))
 replace Ly := lh (HL0.out.below HB2.out)
 have hlo : (othersL t u v).length ≤ 1000 := by have h1 := HLn.out; have h2 : (othersL t u v).length ≤ t.places.length := List.length_filter_le _ _; omega
 clear hO hg HB HPR hE HL0 HP
 obtain ⟨x0_0, x0_1⟩ := lyc2 Ly 0 rfl
 have l0_ := Ly.out.lt 0 rfl
 have x1_0 := lyc Ly 1 rfl 0
 have l1_ := Ly.out.lt 1 rfl
 have x2_0 := lyc Ly 2 rfl 0
 have l2_ := Ly.out.lt 2 rfl
 gi_wp2
 clear x0_0 x0_1 l0_ x1_0 l1_ x2_0 l2_
 refine ⟨trivial, (callsIn_wide.2 (needed_any A n c A' m d t u v dk AP _ cP (othersL t u v) _ _ ofGate W2 hn hm hlo ((HT.out.below Ly.out.1).more Ly.out.1.size) (ints_of_own HO.out (Nat.le_refl _)) (HL.out.below Ly.out.1 hl0) gate_of)).mono ?_⟩
 rintro e W3 ⟨AN, nN, cN, rfl, hiw, hb⟩
 replace Ly := lyb Ly hb
 clear hb
 have HN := lh hiw
 clear hiw
 gi_wp2
 exact bodyPost_ret (v := .tuple #[.slice AN nN cN, .int .i64 (wayE t u v dk)]) (by simp [results, Tryz.results26, go_sem]) rfl ⟨AN, nN, cN, rfl, HN.out, Ly.out.1⟩
theorem gate_any (A : Option Addr) (n c : Nat) (A' : Option Addr) (m d : Nat) (t : Town) (u v : Int) (dk : Bool) (w : World)
  (hn : n ≤ 1000) (hm : m ≤ 1000) (ht : TownAt w w.heap.size A n A' m t) (hL : Laid w) :
  Calls Tryz.prog 26 #[.agg #[.slice A n c, .slice A' m d], .int .i64 u, .int .i64 v, .bool dk] w (ListOut w (neededR t u v dk (othersL t u v) ofGate) (wayE t u v dk)) :=
 callsIn_wide.1 (gate_in A n c A' m d t u v dk w hn hm ht hL)
end
section
open Go.RowKit Go.Shelf
def wetF (t : Town) (s : Skin) (u v : Int) (dk : Bool) : List Int × Int × Int := if or2 (askE t [u, v]) (dryE s) = 0 then
    match best t dk (lossP s.pace.hi s.step.hi) u v with
    | none => ([], 0, 6)
    | some r => (r.2, max 0 (s.drops - r.1.a), 0)
 else ([], 0, or2 (askE t [u, v]) (dryE s))
def WetOut (w : World) (r : List Int × Int × Int) (x : Ending) (w' : World) : Prop := ∃ (A : Option Addr) (n c : Nat), x = .returned (.tuple #[.slice A n c, .int .i64 r.2.1, .int .i64 r.2.2]) ∧ IntsAt w' w'.heap.size A n r.1 ∧ Below w.heap.size w w'
set_option maxRecDepth 100000 in
set_option maxHeartbeats 16000000 in
theorem wet_in (A : Option Addr) (n c : Nat) (A' : Option Addr) (m d : Nat) (t : Town) (s : Skin) (u v : Int) (dk : Bool) (w : World)
  (hn : n ≤ 1000) (hm : m ≤ 1000) (ht : TownAt w w.heap.size A n A' m t) (hL : Laid w) :
  CallsIn Fence.wide 9 Tryz.prog 35 #[.agg #[.slice A n c, .slice A' m d], .agg #[.int .i64 s.drops, .int .i64 s.pace.lo, .int .i64 s.pace.hi, .int .i64 s.step.lo, .int .i64 s.step.hi], .int .i64 u, .int .i64 v, .bool dk] w (WetOut w (wetF t s u v dk)) := by
 have HT := lh ht
 have HL := lh hL
 have hl0 := hL.2.2.2
 clear ht hL
 refine callsIn_of_wp Tryz.func35 rfl trivial ?_ rfl
 simp only [Tryz.ntmps35, List.size_toArray, List.length_cons, List.length_nil, Nat.reduceAdd, Nat.reduceSub, Array.replicate_succ, Array.replicate_zero, List.push_toArray, List.append_toArray, List.nil_append, List.cons_append]
 gi_wp2
 have Ly := lh (Lay.two w 25 #[.slice A n c, .slice A' m d] 65 #[.int .i64 s.drops, .int .i64 s.pace.lo, .int .i64 s.pace.hi, .int .i64 s.step.lo, .int .i64 s.step.hi])
 generalize ((w.alloc (.cells #[.slice A n c, .slice A' m d] 25)).alloc (.cells #[.int .i64 s.drops, .int .i64 s.pace.lo, .int .i64 s.pace.hi, .int .i64 s.step.lo, .int .i64 s.step.hi] 65)) = w0 at *
 refine wpIn_flow_old [([true, true, true, false, false, true], 3), ([], 4), ([], 6), ([], 7), ([], 8)] [false, false, false, false, false, false, false, false, false, true] [] (by kernel_rfl) (by kernel_rfl) (by kernel_rfl) (below_drewN (Below.refl _ _) 1) ?_
 refine wpFlow_cons (A := ?AF1) rfl ?hq1 ?_
 case hq1 =>
  rintro σ hσ of hof hcl
  have HOF := lh hof
  have HCL := lh hcl
  clear hof hcl
  obtain ⟨c0_, c1_⟩ := lyz2 Ly HOF 0 rfl
  obtain ⟨c2_, c3_, c4_, c5_, c6_⟩ := lyz5 Ly HOF 1 rfl
  have hfw := hfT
  simp only [pickB]
  repeat (gi_big_quiet_step (fail))
  refine wpQuietIn_nil ?_
  exact rfl
 intro W1 hW
 replace Ly := lyb Ly hW
 clear hW
 gi_wp2
 refine ⟨trivial, (Below.refl _ _).alloc (Nat.le_refl _) _, ?_⟩
 have hb : Below W1.heap.size W1 (W1.alloc (.cells #[.int .i64 u, .int .i64 v] 3)) := (Below.refl _ _).alloc (Nat.le_refl _) _
 replace Ly := lyb Ly hb
 have HPl := lh (show IntsAt (W1.alloc (.cells #[.int .i64 u, .int .i64 v] 3)) (W1.alloc (.cells #[.int .i64 u, .int .i64 v] 3)).heap.size (some ⟨W1.heap.size, 0, none⟩) 2 [u, v] from IntsAt.new W1 3 [u, v] _ (by simp))
 obtain ⟨P3, hP⟩ : ∃ P, W1.heap.size = P := ⟨_, rfl⟩
 rw [hP] at HPl ⊢
 generalize (W1.alloc (.cells #[.int .i64 u, .int .i64 v] 3)) = V2 at *
 clear hb hP
 refine wpFlow_cons rfl Quietly.none ?_
 intro W4 hW
 replace Ly := lyb Ly hW
 replace HPl := iu HPl hW
 clear hW
 have hlw := (Ly.out.blk 1 rfl).lt
 gi_wp2
 refine ⟨trivial, (callsIn_wide.2 (asked_any A n c A' m d t (some ⟨P3, 0, none⟩) 2 2 [u, v] W4 (by unfold maxLen; omega) (by unfold maxLen; omega) (by decide) ((HT.out.below Ly.out.1).more Ly.out.1.size) HPl.out (HL.out.below Ly.out.1 hl0))).mono ?_⟩
 rintro e W5 ⟨rfl, hb⟩
 replace Ly := lyb Ly hb
 replace HPl := iu HPl hb
 gi_wp2
 refine ⟨trivial, hb, ?_⟩
 clear hb
 clear HPl
 refine wpFlow_cons rfl Quietly.none ?_
 intro W6 hW
 replace Ly := lyb Ly hW
 clear hW
 have hlw := (Ly.out.blk 1 rfl).lt
 gi_wp2
 refine ⟨trivial, (callsIn_wide.2 (dry_any s W6)).mono ?_⟩
 rintro e W7 ⟨rfl, hb⟩
 replace Ly := lyb Ly hb
 gi_wp2
 refine ⟨trivial, hb, ?_⟩
 clear hb
 refine wpFlow_cons rfl Quietly.none ?_
 intro W8 hW
 replace Ly := lyb Ly hW
 clear hW
 gi_wp2
 refine ⟨trivial, (Below.refl _ _).alloc (Nat.le_refl _) _, ?_⟩
 have hb : Below W8.heap.size W8 (W8.alloc (.cells #[.int .i64 (askE t [u, v]), .int .i64 (dryE s)] 30)) := (Below.refl _ _).alloc (Nat.le_refl _) _
 replace Ly := lyb Ly hb
 have HOr := lh (Blk.new W8 30 #[.int .i64 (askE t [u, v]), .int .i64 (dryE s)])
 obtain ⟨P10, hP⟩ : ∃ P, W8.heap.size = P := ⟨_, rfl⟩
 rw [hP] at HOr ⊢
 generalize (W8.alloc (.cells #[.int .i64 (askE t [u, v]), .int .i64 (dryE s)] 30)) = V9 at *
 clear hb hP
 refine wpFlow_cons rfl Quietly.none ?_
 intro W11 hW
 replace Ly := lyb Ly hW
 replace HOr := lh (HOr.out.below hW HOr.out.lt)
 clear hW
 gi_wp2
 refine ⟨trivial, (callsIn_wide.2 (or_any (askE t [u, v]) (dryE s) P10 W11 HOr.out)).mono ?_⟩
 rintro e W12 ⟨rfl, rfl⟩
 gi_wp2
 refine ⟨trivial, Below.refl _ _, ?_⟩
 clear HOr
 obtain ⟨ee, hee⟩ : ∃ ee, or2 (askE t [u, v]) (dryE s) = ee := ⟨_, rfl⟩
 rw [hee]
 have HEE := lh hee
 clear hee
 refine wpFlow_nil (A := ?AF2) ?hq2 ?_
 case hq2 =>
  rintro σ hσ of hof hcl
  have HOF := lh hof
  have HCL := lh hcl
  clear hof hcl
  obtain ⟨c0_, c1_⟩ := lyz2 Ly HOF 0 rfl
  obtain ⟨c2_, c3_, c4_, c5_, c6_⟩ := lyz5 Ly HOF 1 rfl
  have hfw := hfT
  simp only [pickB]
  repeat (gi_big_quiet_step (fail))
  refine wpQuietIn_nil ?_
  exact rfl
 intro W13 hW
 replace Ly := lyb Ly hW
 clear hW
 simp only [pickB]
 refine wpT_nil ?_
 by_cases h0 : ee = 0
 ·subst h0
  have HOK := lh (or2_zero HEE.out)
  obtain ⟨htb, hhas⟩ := askE_zero HOK.out.1
  have HG := lh (goodT htb)
  have HGS := lh (goodS (dryE_zero HOK.out.2))
  have HUV := lh (hasB_mem hhas)
  have HFA := lh (lossP_fair (a := s.pace.hi) (b := s.step.hi) HGS.out.pace.2.1 HGS.out.step.2.1)
  have hm20 : m ≤ 20 := by have := HG.out.links; have := HT.out.links.len; omega
  clear htb hhas
  gi_wp2
  clear hlw
  have HLay0 := lh Ly.out
  refine wpIn_flow_new [([true, true, true, true, true, true, true, true, false, false, true, false, true], 8), ([false, false, false, false, false, false, false, false, false, true], 11)] [false, false, false, false, false, false, false, false, false, false, false, false, false, true, true, true, true, false, false, true] [false, false, false, false, false, false, false, false, false, false, false, false, false, false, false, false, false, false, true] 17 (fun b => .pointer (some ⟨b, 0, none⟩)) 99 #[.int .i64 0, .int .i64 0, .int .i64 0, .int .i64 0, .int .i64 0, .slice none 0 0] (by kernel_rfl) (by kernel_rfl) (by kernel_rfl) (below_drewN (Below.refl _ _) 1) rfl rfl rfl (fun _ _ => rfl) (fun _ _ => rfl) ?_
  refine wpFlow_cons (A := ?AF3) rfl ?hq3 ?_
  case hq3 =>
   rintro σ hσ of hof hcl
   have HOF := lh hof
   have HCL := lh hcl
   clear hof hcl
   obtain ⟨c0_, c1_⟩ := lyz2 Ly HOF 0 rfl
   obtain ⟨c2_, c3_, c4_, c5_, c6_⟩ := lyz5 Ly HOF 1 rfl
   have hfw := hfT
   simp only [pickB]
   repeat (gi_big_quiet_step (fail))
   refine wpQuietIn_nil ?_
   exact rfl
  intro W14 hW
  replace Ly := lyb Ly hW
  clear hW
  gi_wp2
  refine ⟨trivial, (callsIn_wide.2 (drips_any s.pace.hi s.step.hi W14 (by have := HGS.out.pace; omega) (by have := HGS.out.step; omega))).mono ?_⟩
  rintro e W15 ⟨⟨b1, b2, rfl, hp1⟩, hb⟩
  replace Ly := lyb Ly hb
  have HP1 := lh hp1
  clear hp1
  gi_wp2
  refine ⟨trivial, hb, ?_⟩
  clear hb
  refine wpFlow_cons (A := ?AF4) rfl ?hq4 ?_
  case hq4 =>
   rintro σ hσ of hof hcl
   have HOF := lh hof
   have HCL := lh hcl
   clear hof hcl
   obtain ⟨c0_, c1_⟩ := lyz2 Ly HOF 0 rfl
   obtain ⟨c2_, c3_, c4_, c5_, c6_⟩ := lyz5 Ly HOF 1 rfl
   have hfw := hfT
   simp only [pickB]
   repeat (gi_big_quiet_step (fail))
   refine wpQuietIn_nil ?_
   exact rfl
  intro W16 hW
  replace Ly := lyb Ly hW
  replace HP1 := lh (HP1.out.below hW)
  clear hW
  gi_wp2
  refine ⟨trivial, (callsIn_wide.2 (callsIn_wide.1 (all_in A n c A' m d dk _ _ (lossP s.pace.hi s.step.hi) t u W16 hm20 ((HT.out.links.below Ly.out.1).more Ly.out.1.size) HP1.out HG.out.fine HFA.out (HUV.out u (by simp)) HG.out.ids))).mono ?_⟩
  rintro e W17 ⟨r, ms, rfl, hms, hrr, hoks, hfn, hb⟩
  replace Ly := lyb Ly hb
  replace HP1 := lh (HP1.out.below hb)
  have HMS := lh hms
  have HOKS := lh hoks
  have HFN := lh hfn
  clear hms hrr hoks hfn
  gi_wp2
  refine ⟨trivial, hb, ?_⟩
  clear hb
  clear HP1
  have HOV := lh (show okI v from okI_of (by have := HG.out.ids v (HUV.out v (by simp)); omega) (by have := HG.out.ids v (HUV.out v (by simp)); omega))
  have HMG : Hid (∀ W, Below W17.heap.size W17 W → WkMap W r ms) := lh (fun W hb => HMS.out.below hb HMS.out.lt)
  cases hlk : look ms v with
  | none =>
   have HLK := lh hlk
   clear hlk
   have HBE : Hid (best t dk (lossP s.pace.hi s.step.hi) u v = none) := lh (by rw [← HFN.out v]; unfold fnOf; rw [HLK.out]; rfl)
   refine wpFlow_nil (A := ?AF5) ?hq5 ?_
   case hq5 =>
    rintro σ hσ of hof hcl
    have HOF := lh hof
    have HCL := lh hcl
    clear hof hcl
    obtain ⟨c0_, c1_⟩ := lyz2 Ly HOF 0 rfl
    obtain ⟨c2_, c3_, c4_, c5_, c6_⟩ := lyz5 Ly HOF 1 rfl
    have hfw := hfT
    have hlook : ∀ z, (Instr.lookup 104 (.map (some r)) (.int .i64 v) true).run Tryz.prog (of z) = .ok (.tuple #[zeroWk, .bool false]) (of z) := fun z => by
     have h := (HMG.out _ (HOF.out z)).lookup wkTy HOV.out true
     rw [HLK.out] at h
     exact h
    simp only [pickB]
    repeat (gi_big_quiet_step (fail))
    refine wpQuietIn_nil ?_
    exact rfl
   intro b W18 hW hbg hbb hbi
   replace Ly := lyb Ly hW
   have c0 := hbb.cell 0
   have z0 := hbb.frozen 0
   have c1 := hbb.cell 1
   have z1 := hbb.frozen 1
   have c2 := hbb.cell 2
   have z2 := hbb.frozen 2
   have c3 := hbb.cell 3
   have z3 := hbb.frozen 3
   have c4 := hbb.cell 4
   have z4 := hbb.frozen 4
   have c5 := hbb.cell 5
   have z5 := hbb.frozen 5
   have hbl := hbb.lt
   have hbw : w.heap.size ≤ b := Nat.le_trans (Nat.le_trans HLay0.out.1.size hbg) (Nat.le_refl _)
   simp only [pickB]
   refine wpT_cons ?_
   gi_wp2
   refine wpT_nil ?_
   have R6 := ret6' hbb (Below.refl b W18) (Nat.le_refl _) (.int .i64 0) (.int .i64 0) (.int .i64 0) (.int .i64 0) (.int .i64 0) (.slice none 0 0)
   have HLay9 := lh (Lay.add (w := w) (bs := [(w.heap.size, 25, #[.slice A n c, .slice A' m d]), (w.heap.size + 1, 65, #[.int .i64 s.drops, .int .i64 s.pace.lo, .int .i64 s.pace.hi, .int .i64 s.step.lo, .int .i64 s.step.hi])]) ⟨Ly.out.1.trans (R6.2.1.mono hbw), fun p hp => ⟨(Ly.out.2 p hp).1, (Ly.out.2 p hp).2.below R6.2.1 (by have := (HLay0.out.2 p hp).2.lt; omega)⟩⟩ hbw R6.1)
   generalize ((((((W18.setCell ⟨b, 0, none⟩ (.int .i64 0)).setCell ⟨b, 1, none⟩ (.int .i64 0)).setCell ⟨b, 2, none⟩ (.int .i64 0)).setCell ⟨b, 3, none⟩ (.int .i64 0)).setCell ⟨b, 4, none⟩ (.int .i64 0)).setCell ⟨b, 5, none⟩ (.slice none 0 0)) = W99 at *
   clear c0 z0 c1 z1 c2 z2 c3 z3 c4 z4 c5 z5 hbl hbb hW hbg R6
   gi_wp2
   have hF : wetF t s u v dk = ([], 0, 6) := by unfold wetF; rw [if_pos HEE.out, HBE.out]
   refine bodyPost_ret (v := .tuple #[.slice none 0 0, .int .i64 0, .int .i64 6]) (by simp [results, Tryz.results35, go_sem]) rfl ?_
   rw [hF]
   exact ⟨none, 0, 0, rfl, Reads.none_, HLay9.out.1⟩
  | some x =>
   have HLK := lh hlk
   clear hlk
   have HBE : Hid (best t dk (lossP s.pace.hi s.step.hi) u v = some (x.cost, x.links)) := lh (by rw [← HFN.out v]; unfold fnOf; rw [HLK.out]; rfl)
   have HXO := lh (HOKS.out _ (look_mem HLK.out))
   have hcb := ((best_first HG.out.fine HFA.out dk u v) |> fun h => by rw [HBE.out] at h; exact h.1.bound HG.out.fine HFA.out)
   have hx9 : x.n ≤ 9 := HXO.out.short
   have HXL : Hid (x.n = x.links.length) := lh HXO.out.len
   have hca : 0 ≤ x.cost.a ∧ x.cost.a ≤ 2000000 := by have := HXL.out; omega
   obtain ⟨hca0, hca1⟩ := hca
   obtain ⟨hd0, hd1⟩ := HGS.out.drops
   clear hcb
   refine wpFlow_nil (A := ?AF6) ?hq6 ?_
   case hq6 =>
    rintro σ hσ of hof hcl
    have HOF := lh hof
    have HCL := lh hcl
    clear hof hcl
    obtain ⟨c0_, c1_⟩ := lyz2 Ly HOF 0 rfl
    obtain ⟨c2_, c3_, c4_, c5_, c6_⟩ := lyz5 Ly HOF 1 rfl
    have hfw := hfT
    have hlook : ∀ z, (Instr.lookup 104 (.map (some r)) (.int .i64 v) true).run Tryz.prog (of z) = .ok (.tuple #[x.val, .bool true]) (of z) := fun z => by
     have h := (HMG.out _ (HOF.out z)).lookup wkTy HOV.out true
     rw [HLK.out] at h
     exact h
    simp only [pickB]
    repeat (gi_big_quiet_step (fail))
    refine wpQuietIn_nil ?_
    exact rfl
   intro b W19 hW hbg hbb hbi
   replace Ly := lyb Ly hW
   replace HXO := lh (HXO.out.below hW)
   have c0 := hbb.cell 0
   have z0 := hbb.frozen 0
   have c1 := hbb.cell 1
   have z1 := hbb.frozen 1
   have c2 := hbb.cell 2
   have z2 := hbb.frozen 2
   have c3 := hbb.cell 3
   have z3 := hbb.frozen 3
   have c4 := hbb.cell 4
   have z4 := hbb.frozen 4
   have c5 := hbb.cell 5
   have z5 := hbb.frozen 5
   have hbl := hbb.lt
   have hbw : w.heap.size ≤ b := Nat.le_trans (Nat.le_trans HLay0.out.1.size hbg) (Nat.le_refl _)
   simp only [pickB]
   refine wpT_cons ?_
   gi_wp2
   refine wpT_nil ?_
   have R6 := ret6' hbb (Below.refl b W19) (Nat.le_refl _) (.int .i64 x.to) (.int .i64 x.cost.a) (.int .i64 x.cost.b) (.int .i64 x.cost.c) (.int .i64 x.cost.d) (.slice x.A x.n x.cap)
   have HLay9 := lh (Lay.add (w := w) (bs := [(w.heap.size, 25, #[.slice A n c, .slice A' m d]), (w.heap.size + 1, 65, #[.int .i64 s.drops, .int .i64 s.pace.lo, .int .i64 s.pace.hi, .int .i64 s.step.lo, .int .i64 s.step.hi])]) ⟨Ly.out.1.trans (R6.2.1.mono hbw), fun p hp => ⟨(Ly.out.2 p hp).1, (Ly.out.2 p hp).2.below R6.2.1 (by have := (HLay0.out.2 p hp).2.lt; omega)⟩⟩ hbw R6.1)
   have HX9 := lh (HXO.out.grownBox R6.2.2 hbb)
   generalize ((((((W19.setCell ⟨b, 0, none⟩ (.int .i64 x.to)).setCell ⟨b, 1, none⟩ (.int .i64 x.cost.a)).setCell ⟨b, 2, none⟩ (.int .i64 x.cost.b)).setCell ⟨b, 3, none⟩ (.int .i64 x.cost.c)).setCell ⟨b, 4, none⟩ (.int .i64 x.cost.d)).setCell ⟨b, 5, none⟩ (.slice x.A x.n x.cap)) = W99 at *
   clear c0 z0 c1 z1 c2 z2 c3 z3 c4 z4 c5 z5 hbl hbb hW hbg R6
   gi_wp2
   replace Ly := HLay9
   refine wpIn_flow_old [] [true, true, true, true, true, true, true, true, true, true, true, true] [] (by kernel_rfl) (by kernel_rfl) (by kernel_rfl) (below_drewN (Below.refl _ _) 1) ?_
   refine wpFlow_nil (A := ?AF7) ?hq7 ?_
   case hq7 =>
    rintro σ hσ of hof hcl
    have HOF := lh hof
    have HCL := lh hcl
    clear hof hcl
    obtain ⟨c0_, c1_, c2_, c3_, c4_⟩ := lyz5 Ly HOF 1 rfl
    obtain ⟨c5_, c6_, c7_, c8_, c9_, c10_⟩ := lyz6 Ly HOF 2 rfl
    have hfw := hfT
    simp only [pickB]
    repeat (gi_big_quiet_step (fail))
    refine wpQuietIn_nil ?_
    exact rfl
   intro W20 hW
   replace Ly := lyb Ly hW
   replace HX9 := lh (HX9.out.below hW)
   clear hW
   simp only [pickB]
   refine wpT_nil ?_
   gi_wp2
   have hF : wetF t s u v dk = (x.links, max 0 (s.drops - x.cost.a), 0) := by unfold wetF; rw [if_pos HEE.out, HBE.out]
   refine bodyPost_ret (v := .tuple #[.slice x.A x.n x.cap, .int .i64 (max 0 (s.drops - x.cost.a)), .int .i64 0]) (by simp [results, Tryz.results35, go_sem]) rfl ?_
   rw [hF]
   exact ⟨x.A, x.n, x.cap, rfl, HX9.out.at_, Ly.out.1⟩
 ·have h1 : (ee != 0) = true := by simpa using h0
  have HE0 := lh h0
  clear h0
  gi_wp2
  have hF : wetF t s u v dk = ([], 0, ee) := by unfold wetF; rw [HEE.out, if_neg HE0.out]
  refine bodyPost_ret (v := .tuple #[.slice none 0 0, .int .i64 0, .int .i64 ee]) (by simp [results, Tryz.results35, go_sem]) rfl ?_
  rw [hF]
  exact ⟨none, 0, 0, rfl, Reads.none_, Ly.out.1⟩
theorem wet_any (A : Option Addr) (n c : Nat) (A' : Option Addr) (m d : Nat) (t : Town) (s : Skin) (u v : Int) (dk : Bool) (w : World)
  (hn : n ≤ 1000) (hm : m ≤ 1000) (ht : TownAt w w.heap.size A n A' m t) (hL : Laid w) :
  Calls Tryz.prog 35 #[.agg #[.slice A n c, .slice A' m d], .agg #[.int .i64 s.drops, .int .i64 s.pace.lo, .int .i64 s.pace.hi, .int .i64 s.step.lo, .int .i64 s.step.hi], .int .i64 u, .int .i64 v, .bool dk] w (WetOut w (wetF t s u v dk)) :=
 callsIn_wide.1 (wet_in A n c A' m d t s u v dk w hn hm ht hL)
end
end Go.Proofs.YtahkjagjcogeiaaGreatDoor
