/- slices.Insert of one link into an owned slice. -/
import Derived.Test.YtahkjagjcogeiaaDoorDeleteFuncLink
import Derived.Test.YtahkjagjcogeiaaDoorCopy
namespace Go.Proofs.YtahkjagjcogeiaaDoor
open Go.RowKit
set_option linter.unusedVariables false

theorem lit_add (g o k : Nat) : ((⟨g, o, none⟩ : Addr).add k) = ⟨g, o + k, none⟩ := by
  unfold Addr.add
  by_cases hk : k = 0
  · simp [hk]
  · simp [hk]
theorem flat_take {α : Type} {vals : α → List Value} {size : Nat} (hv : ∀ x, (vals x).length = size) (l : List α) (k : Nat) : (l.flatMap vals).take (k * size) = (l.take k).flatMap vals := by
  induction l generalizing k with
  | nil => simp
  | cons x l ih =>
    cases k with
    | zero => simp
    | succ k =>
      rw [List.flatMap_cons, List.take_succ_cons, List.flatMap_cons, ← ih k, List.take_append, hv, show (k + 1) * size - size = k * size by rw [Nat.add_mul]; omega, List.take_of_length_le (by rw [hv, Nat.add_mul]; omega)]
theorem flat_drop {α : Type} {vals : α → List Value} {size : Nat} (hv : ∀ x, (vals x).length = size) (l : List α) (k : Nat) : (l.flatMap vals).drop (k * size) = (l.drop k).flatMap vals := by
  induction l generalizing k with
  | nil => simp
  | cons x l ih =>
    cases k with
    | zero => simp
    | succ k =>
      rw [List.flatMap_cons, List.drop_succ_cons, ← ih k, List.drop_append, hv, show (k + 1) * size - size = k * size by rw [Nat.add_mul]; omega, List.drop_of_length_le (by rw [hv, Nat.add_mul]; omega), List.nil_append]

/-- Cells behind two copies: the head as it was, x, the tail. -/
theorem ins_cells {l : List Link} {x : Link} {at_ n : Nat} (hl : l.length = n) (hat : at_ ≤ n) {cs : Array Value} (hsz : (n + 1) * 5 ≤ cs.size) (hhead : ∀ k, k < at_ * 5 → cs[k]? = (l.flatMap Link.vals)[k]?) (first : Bool) :
    ∀ k, k < (n + 1) * 5 → (if first then wrt (wrt cs (at_ * 5) x.vals) ((at_ + 1) * 5) ((l.drop at_).flatMap Link.vals) else wrt (wrt cs ((at_ + 1) * 5) ((l.drop at_).flatMap Link.vals)) (at_ * 5) x.vals)[k]? = ((l.take at_ ++ x :: l.drop at_).flatMap Link.vals)[k]? := by
  have hd : ((l.drop at_).flatMap Link.vals).length = (n - at_) * 5 := by rw [flat_len' vals5, List.length_drop, hl]
  have ht : ((l.take at_).flatMap Link.vals).length = at_ * 5 := by rw [flat_len' vals5, List.length_take]; congr 1; omega
  have hx : x.vals.length = 5 := rfl
  intro k hk
  rw [List.flatMap_append, List.flatMap_cons]
  by_cases h1 : k < at_ * 5
  · rw [List.getElem?_append_left (by omega)]
    have : (l.flatMap Link.vals)[k]? = ((l.take at_).flatMap Link.vals)[k]? := by
      rw [← flat_take vals5, List.getElem?_take, if_pos h1]
    rw [← this, ← hhead k h1]
    cases first
    · simp only [Bool.false_eq_true, if_false]
      rw [wrt_out _ _ _ _ (.inl h1), wrt_out _ _ _ _ (.inl (by omega))]
    · simp only [if_true]
      rw [wrt_out _ _ _ _ (.inl (by omega)), wrt_out _ _ _ _ (.inl h1)]
  · rw [List.getElem?_append_right (by omega), ht]
    by_cases h2 : k < (at_ + 1) * 5
    · rw [List.getElem?_append_left (by omega)]
      obtain ⟨q, rfl⟩ : ∃ q, k = at_ * 5 + q := ⟨k - at_ * 5, by omega⟩
      rw [show at_ * 5 + q - at_ * 5 = q by omega]
      cases first
      · simp only [Bool.false_eq_true, if_false]
        rw [wrt_in _ _ _ _ (by omega) (by rw [wrt_size]; omega)]
      · simp only [if_true]
        rw [wrt_out _ _ _ _ (.inl (by omega)), wrt_in _ _ _ _ (by omega) (by omega)]
    · rw [List.getElem?_append_right (by omega), hx]
      obtain ⟨q, rfl⟩ : ∃ q, k = (at_ + 1) * 5 + q := ⟨k - (at_ + 1) * 5, by omega⟩
      rw [show (at_ + 1) * 5 + q - at_ * 5 - 5 = q by omega]
      cases first
      · simp only [Bool.false_eq_true, if_false]
        rw [wrt_out _ _ _ _ (.inr (by omega)), wrt_in _ _ _ _ (by omega) (by omega)]
      · simp only [if_true]
        rw [wrt_in _ _ _ _ (by omega) (by rw [wrt_size]; omega)]

/-- A one-element slice of a link in a block of its own. -/
theorem one_link {w : World} {vb : Nat} {tv : TypeId} {x : Link} (h : Blk w vb tv #[.int .i64 x.id, .int .i64 x.fr, .int .i64 x.to, .int .i64 x.steps, .int .i64 x.paces]) {B : Nat} (hB : vb < B) : Reads w B 5 (some ⟨vb, 0, none⟩) 1 x.vals :=
  ⟨rfl, fun _ => ⟨_, rfl, hB, fun j u hu => by
    rw [lit_add, Nat.zero_add, h.cell, ← hu]
    simp [Link.vals]⟩⟩
theorem vals_one (x : Link) : ∀ u ∈ x.vals, u.oneCell' = true := by
  intro u hu
  simp only [Link.vals, List.mem_cons, List.not_mem_nil, or_false] at hu
  rcases hu with rfl | rfl | rfl | rfl | rfl <;> rfl

theorem sizeof_link (w : World) : (sizeOf 45).run Tryd.prog w = .ok 5 w := by kernel_rfl
theorem size_link : (Tryd.prog.info? 45).map (·.size) = some 5 := by kernel_rfl

set_option maxRecDepth 100000 in
set_option maxHeartbeats 4000000 in
/-- At the end. -/
theorem insert_end (base : Nat) (A : Option Addr) (n c : Nat) (l : List Link) (vb : Nat) (tv : TypeId) (x : Link) (w : World) (hO : Own w base 45 5 A n c (l.flatMap Link.vals)) (hbase : base ≤ w.heap.size) (hn : n ≤ 100) (hx : Blk w vb tv #[.int .i64 x.id, .int .i64 x.fr, .int .i64 x.to, .int .i64 x.steps, .int .i64 x.paces]) :
    Calls Tryd.prog 69 #[.slice A n c, .int .i64 n, .slice (some ⟨vb, 0, none⟩) 1 1] w fun e w' => ∃ A' c', e = .returned (.slice A' (n + 1) c') ∧ Own w' base 45 5 A' (n + 1) c' ((l ++ [x]).flatMap Link.vals) ∧ w.grownBy w' (A.map (·.block)) ∧ (A' = A ∨ A' = some ⟨w.heap.size, 0, none⟩) := by
  have hcap := hO.cap_le
  have hcn := hcap.1
  have hmax : c ≤ 9223372036854775807 := by have := hcap.2; unfold maxLen at this; omega
  have hnil : A = none → n = 0 ∧ c = 0 ∧ l.flatMap Link.vals = [] := fun h => by subst h; exact hO.nil
  have HO := Lib.hid hO
  have HX := Lib.hid hx
  have HR : Hid (Reads w (vb + 1) 5 (some ⟨vb, 0, none⟩) 1 x.vals) := one_link hx (by omega)
  clear hO hx hcap
  cases A with
  | none =>
    obtain ⟨rfl, rfl, hl0⟩ := hnil rfl
    clear hnil hl0
    go_enter Tryd.func69, Tryd.ntmps69
    go_wp2_with (at_builtin; refine wpList_append_any _ rfl _ _ rfl elem_link rfl HO.out rfl HR.out (vals_one x) (by decide) (by decide) hbase ?_)
    rintro A' cap' w' hown hg hA
    go_wp2_with fail
    go_ret
    exact ⟨A', cap', rfl, by rw [List.flatMap_append]; simpa using hown, hg, hA⟩
  | some a =>
    clear hnil
    obtain ⟨g, rfl⟩ : ∃ g, a = ⟨g, 0, none⟩ := by
      rcases HO.out.form with ⟨h, _⟩ | ⟨g, cur, h, _⟩
      · cases h
      · cases h; exact ⟨g, rfl⟩
    go_enter Tryd.func69, Tryd.ntmps69
    go_wp2_with (at_builtin; refine wpList_append_any _ rfl _ _ rfl elem_link rfl HO.out rfl HR.out (vals_one x) (by unfold maxLen; omega) (by omega) hbase ?_)
    all_goals
      rintro A' cap' w' hown hg hA
      go_wp2_with fail
      go_ret
      exact ⟨A', cap', rfl, by rw [List.flatMap_append]; simpa using hown, hg, hA⟩

theorem below_of_grown_setCells {B : Nat} {w : World} : ∀ {vs : List Value} {o : Nat} {w' : World}, Below B w w' → Below B w (w'.setCells B o vs)
  | [], _, _, h => h
  | v :: r, o, w', h => below_of_grown_setCells (vs := r) (o := o + 1) (h.setCell (p := ⟨B, o, none⟩) (Nat.le_refl _) v)
theorem splitc {w : World} {g : Nat} {e : TypeId} {cs : Array Value} (hb : Blk w g e cs) {l : List Link} {n : Nat} (hl : l.length = n) (hcs : ∀ k, k < n * 5 → cs[k]? = (l.flatMap Link.vals)[k]?) (at_ : Nat) (hat : at_ ≤ n) :
    ∀ j v, ((l.drop at_).flatMap Link.vals)[j]? = some v → w.cell? ((⟨g, at_ * 5, none⟩ : Addr).add j) = some v := by
  intro j v hv
  have hd : ((l.drop at_).flatMap Link.vals).length = (n - at_) * 5 := by rw [flat_len' vals5, List.length_drop, hl]
  have hj : j < (n - at_) * 5 := by rw [← hd]; exact (List.getElem?_eq_some_iff.1 hv).1
  rw [lit_add, hb.cell, hcs _ (by omega), ← hv, ← flat_drop vals5, List.getElem?_drop]

set_option maxRecDepth 100000 in
set_option maxHeartbeats 400000 in
/-- In the middle, where there is room. -/
theorem insert_room (base g n c at_ : Nat) (l : List Link) (vb : Nat) (x : Link) (w : World) (hO : Own w base 45 5 (some ⟨g, 0, none⟩) n c (l.flatMap Link.vals)) (hat : at_ < n) (hc : n + 1 ≤ c) (hx : Blk w vb 45 #[.int .i64 x.id, .int .i64 x.fr, .int .i64 x.to, .int .i64 x.steps, .int .i64 x.paces]) (hne : vb ≠ g) :
    Calls Tryd.prog 69 #[.slice (some ⟨g, 0, none⟩) n c, .int .i64 at_, .slice (some ⟨vb, 0, none⟩) 1 1] w fun e w' => e = .returned (.slice (some ⟨g, 0, none⟩) (n + 1) c) ∧ Own w' base 45 5 (some ⟨g, 0, none⟩) (n + 1) c ((l.take at_ ++ x :: l.drop at_).flatMap Link.vals) ∧ w.grownBy w' (some g) := by
  have hl : l.length = n := by have := hO.len; rw [flat_len' vals5] at this; omega
  have hcap := hO.cap_le
  have hmax : c ≤ 9223372036854775807 := by have := hcap.2; unfold maxLen at this; omega
  rcases hO.form with ⟨h, _⟩ | ⟨g', cur, h, hbg, hblk, _, _, hsz, htake, _⟩
  · cases h
  · cases h
    have hcs : ∀ k, k < n * 5 → cur[k]? = (l.flatMap Link.vals)[k]? := by
      intro k hk
      rw [← htake, List.getElem?_take, if_pos hk, Array.getElem?_toList]
    have hd : ((l.drop at_).flatMap Link.vals).length = (n - at_) * 5 := by rw [flat_len' vals5, List.length_drop, hl]
    have hz1 : ¬ ((at_ : Int) = (n : Int)) := by omega
    have hov : ∀ lb cb, (callFunc 123 #[.slice (some ⟨vb, 0, none⟩) 1 1, .slice (some ⟨g, (at_ + 1) * 5, none⟩) lb cb]).run Tryd.prog w = .ok (.value (.bool false)) w := fun lb cb => by
      rw [run_callFunc_extern (P := Tryd.prog) (f := 123) (fn := Tryd.f123) (by kernel_rfl) (by kernel_rfl) (by kernel_rfl) (by kernel_rfl) (e := Extern.SlicesOverlaps.overlaps #[23, 23] #[4]) (by kernel_rfl),
        Lib.run_overlaps_apart w 23 4 45 Tryd.underlying23 5 sizeof_link ⟨vb, 0, none⟩ ⟨g, (at_ + 1) * 5, none⟩ 1 1 lb cb hne 45 45 5 cur.size
          (by unfold World.shape?; rw [show w.heap[vb]? = _ from hx]; rfl) (by unfold World.shape?; rw [show w.heap[g]? = _ from hblk]) (by omega) (hx.frozen 0) (hx.frozen 5)]
      rfl
    have hcp1 : ∀ ty dc sc, (Builtin.copy_ #[23, 23] ty #[.slice (some ⟨g, (at_ + 1) * 5, none⟩) (n - at_) dc, .slice (some ⟨g, at_ * 5, none⟩) (n + 1 - at_) sc]).run Tryd.prog w.drew = .ok (goInt (Nat.min (n + 1 - at_) (n - at_))) (w.drew.setCells g ((at_ + 1) * 5) ((l.drop at_).flatMap Link.vals)) := fun ty dc sc =>
      run_copy_blk (Blk.drewN hblk 1) Tryd.underlying23 size_link _ _ dc ⟨g, at_ * 5, none⟩ _ sc _ (by rw [hd, show Nat.min (n + 1 - at_) (n - at_) = n - at_ from Nat.min_eq_right (by omega)]) (splitc hblk hl hcs at_ (by omega)) (by rw [hd, hsz]; omega) (links_one _)
    have hb1 := Blk.setCells ((l.drop at_).flatMap Link.vals) ((at_ + 1) * 5) (Blk.drewN hblk 1)
    have hx1 : Blk (w.drew.setCells g ((at_ + 1) * 5) ((l.drop at_).flatMap Link.vals)) vb 45 #[.int .i64 x.id, .int .i64 x.fr, .int .i64 x.to, .int .i64 x.steps, .int .i64 x.paces] := ((grown_setCells (g := g) ((l.drop at_).flatMap Link.vals) ((at_ + 1) * 5) (grown_drew (grown_refl w (some g)) 1) (.inl rfl)).block vb hx.lt (by simp [hne])).trans hx
    have hcp2 : ∀ ty dc, (Builtin.copy_ #[23, 23] ty #[.slice (some ⟨g, at_ * 5, none⟩) (n + 1 - at_) dc, .slice (some ⟨vb, 0, none⟩) 1 1]).run Tryd.prog (w.drew.setCells g ((at_ + 1) * 5) ((l.drop at_).flatMap Link.vals)) = .ok (goInt (Nat.min 1 (n + 1 - at_))) ((w.drew.setCells g ((at_ + 1) * 5) ((l.drop at_).flatMap Link.vals)).setCells g (at_ * 5) x.vals) := fun ty dc =>
      run_copy_blk hb1 Tryd.underlying23 size_link _ _ dc ⟨vb, 0, none⟩ _ 1 _ (by rw [show Nat.min 1 (n + 1 - at_) = 1 from Nat.min_eq_left (by omega)]; rfl) (by
        intro j v hv
        rw [lit_add, Nat.zero_add]
        refine (hx1.cell j).trans ?_
        rw [← hv]
        simp [Link.vals]) (by rw [wrt_size, hsz]; simp [Link.vals]; omega) (vals_one x)
    have hic := ins_cells (x := x) hl (show at_ ≤ n by omega) (cs := cur) (by omega) (fun k hk => hcs k (by omega)) false
    simp only [Bool.false_eq_true, if_false] at hic
    have hfin : Own ((w.drew.setCells g ((at_ + 1) * 5) ((l.drop at_).flatMap Link.vals)).setCells g (at_ * 5) x.vals) base 45 5 (some ⟨g, 0, none⟩) (n + 1) c ((l.take at_ ++ x :: l.drop at_).flatMap Link.vals) :=
      Own.mk_ hbg (Blk.setCells x.vals (at_ * 5) hb1) hc hcap.2 (by rw [wrt_size, wrt_size]; exact hsz) (by rw [flat_len' vals5]; simp; omega) hic
    have hgr : w.grownBy ((w.drew.setCells g ((at_ + 1) * 5) ((l.drop at_).flatMap Link.vals)).setCells g (at_ * 5) x.vals) (some g) := grown_setCells x.vals (at_ * 5) (grown_setCells _ _ (grown_drew (grown_refl w (some g)) 1) (.inl rfl)) (.inl rfl)
    have mixed : Tryd.prog.follows .mixedOrders = true := by kernel_rfl
    have k1 : ((at_ : Int) == (n : Int)) = false := by simp; omega
    have k2 : ¬ (c = at_ + 1) := by omega
    have k3 : ¬ (c = at_) := by omega
    have k4 : decide ((c : Int) < (n : Int) + 1) = false := by simp; omega
    have k5 : ((at_ : Int) + 1).toNat = at_ + 1 := by omega
    have k6 : ((n : Int) + 1).toNat = n + 1 := by omega
    have k7 : IntKind.i64.wrap ((at_ : Int) + 1) = (at_ : Int) + 1 := by rw [IntKind.wrap_i64]; omega
    have k8 : (0 : Int) ≤ (at_ : Int) + 1 := by omega
    have k9 : at_ ≤ n := by omega
    have k10 : (at_ : Int) ≤ (n : Int) + 1 := by omega
    have k11 : n + 1 - (at_ + 1) = n - at_ := by omega
    have HF := Lib.hid hfin
    have HG := Lib.hid hgr
    have H1 := Lib.hid hcp1
    have H2 := Lib.hid hcp2
    clear hcp1 hcp2
    clear hfin hgr hic hb1 hx1 hx hO hcs hd hsz htake hl hblk hcap
    go_enter Tryd.func69, Tryd.ntmps69
    go_wp2_with (simp only [hov])
    clear hov
    have hcp1 := H1.out
    go_region
    clear hcp1
    have hcp2 := H2.out
    go_wp2_with fail
    go_ret
    exact ⟨rfl, HF.out, HG.out⟩

theorem under_int_kind : Tryd.prog.underlying 3 = some (.int .i64) := Tryd.underlying3

set_option maxRecDepth 100000 in
set_option maxHeartbeats 1000000 in
/-- In the middle, where there is no room. -/
theorem insert_grow (base g n c at_ : Nat) (l : List Link) (vb : Nat) (x : Link) (w : World) (hO : Own w base 45 5 (some ⟨g, 0, none⟩) n c (l.flatMap Link.vals)) (hbase : base ≤ w.heap.size) (hat : at_ < n) (hn : n ≤ 100) (hc : c < n + 1) (hx : Blk w vb 45 #[.int .i64 x.id, .int .i64 x.fr, .int .i64 x.to, .int .i64 x.steps, .int .i64 x.paces]) :
    Calls Tryd.prog 69 #[.slice (some ⟨g, 0, none⟩) n c, .int .i64 at_, .slice (some ⟨vb, 0, none⟩) 1 1] w fun e w' => ∃ c', e = .returned (.slice (some ⟨w.heap.size, 0, none⟩) (n + 1) c') ∧ Own w' base 45 5 (some ⟨w.heap.size, 0, none⟩) (n + 1) c' ((l.take at_ ++ x :: l.drop at_).flatMap Link.vals) ∧ Below w.heap.size w w' := by
  have hl : l.length = n := by have := hO.len; rw [flat_len' vals5] at this; omega
  have hcap := hO.cap_le
  have hmax : c ≤ 9223372036854775807 := by have := hcap.2; unfold maxLen at this; omega
  obtain ⟨i0, hi, hz0, hz1, hz2⟩ := info_parts info_link
  rcases hO.form with ⟨h, _⟩ | ⟨g', cur, h, hbg, hblk, _, _, hsz, htake, _⟩
  · cases h
  · cases h
    have hcs : ∀ k, k < n * 5 → cur[k]? = (l.flatMap Link.vals)[k]? := by
      intro k hk
      rw [← htake, List.getElem?_take, if_pos hk, Array.getElem?_toList]
    have hd : ((l.drop at_).flatMap Link.vals).length = (n - at_) * 5 := by rw [flat_len' vals5, List.length_drop, hl]
    have htk : ((l.take at_).flatMap Link.vals).length = at_ * 5 := by rw [flat_len' vals5, List.length_take]; congr 1; omega
    have hgl := hblk.lt
    have hxl := hx.lt
    have hap : ∀ ty, (Builtin.append_ #[23, 3] ty #[.slice (some ⟨g, 0, none⟩) at_ c, .int .i64 ((n + 1 - at_ : Nat) : Int)]).run Tryd.prog w = _ := fun ty =>
      run_append_make hblk Tryd.underlying23 under_int_kind hi hz0 at_ c (n + 1 - at_) ((l.take at_).flatMap Link.vals) (by rw [hz1]; exact htk) (by
        intro k hk
        rw [hz1] at hk
        rw [hcs k (by omega), ← flat_take vals5, List.getElem?_take, if_pos hk]) (by omega) (by rw [hz1]; omega) (by omega) (by omega) (by rw [hz2]; omega)
    rw [show at_ + (n + 1 - at_) = n + 1 by omega] at hap
    have hge := grownCap_ge w (n + 1) c 45
    have hle := grownCap_le_maxLen w (n + 1) c 45 (by unfold maxLen; omega)
    generalize grownCap w (n + 1) c 45 = cap' at hap hge hle
    obtain ⟨news, hnews⟩ : ∃ news : Array Value, ((l.take at_).flatMap Link.vals).toArray ++ Builtin.zeroCells (Value.agg #[.int .i64 0, .int .i64 0, .int .i64 0, .int .i64 0, .int .i64 0]).cells (n + 1 - at_) ++ Builtin.zeroCells (Value.agg #[.int .i64 0, .int .i64 0, .int .i64 0, .int .i64 0, .int .i64 0]).cells (cap' - (n + 1)) = news := ⟨_, rfl⟩
    rw [hnews] at hap
    have hns : news.size = cap' * 5 := by
      rw [← hnews]
      simp only [Array.size_append, List.size_toArray, htk, Builtin.zeroCells, Array.size_map, Array.size_range, Value.cells]
      simp
      omega
    have hhead : ∀ k, k < at_ * 5 → news[k]? = (l.flatMap Link.vals)[k]? := by
      intro k hk
      rw [← hnews, Array.append_assoc, Array.getElem?_append_left (by simp [htk]; omega), List.getElem?_toArray, ← flat_take vals5, List.getElem?_take, if_pos hk]
    have hw1 : Blk (w.drew.alloc (.cells news 45)) w.heap.size 45 news := Blk.new w.drew _ _
    have hb1 : Below w.heap.size w (w.drew.alloc (.cells news 45)) := (Below.refl _ _).drew.alloc (Nat.le_refl _) _
    have hx1 := hx.below hb1 hxl
    obtain ⟨W1, hW1⟩ : ∃ W1, w.drew.alloc (.cells news 45) = W1 := ⟨_, rfl⟩
    rw [hW1] at hap hw1 hb1 hx1
    have hcp1 : ∀ ty dc, (Builtin.copy_ #[23, 23] ty #[.slice (some ⟨w.heap.size, at_ * 5, none⟩) (n + 1 - at_) dc, .slice (some ⟨vb, 0, none⟩) 1 1]).run Tryd.prog W1 = .ok (goInt (Nat.min 1 (n + 1 - at_))) (W1.setCells w.heap.size (at_ * 5) x.vals) := fun ty dc =>
      run_copy_blk hw1 Tryd.underlying23 size_link _ _ dc ⟨vb, 0, none⟩ _ 1 _ (by rw [show Nat.min 1 (n + 1 - at_) = 1 from Nat.min_eq_left (by omega)]; rfl) (by
        intro j v hv
        rw [lit_add, Nat.zero_add]
        refine (hx1.cell j).trans ?_
        rw [← hv]
        simp [Link.vals]) (by rw [hns]; simp [Link.vals]; omega) (vals_one x)
    have hw2 := Blk.drewN (Blk.setCells x.vals (at_ * 5) hw1) 1
    have hb2 : Below w.heap.size w (W1.setCells w.heap.size (at_ * 5) x.vals) := below_of_grown_setCells hb1
    obtain ⟨W2, hW2⟩ : ∃ W2, W1.setCells w.heap.size (at_ * 5) x.vals = W2 := ⟨_, rfl⟩
    rw [hW2] at hcp1 hw2 hb2
    have hcp2 : ∀ ty dc sc, (Builtin.copy_ #[23, 23] ty #[.slice (some ⟨w.heap.size, (at_ + 1) * 5, none⟩) (n - at_) dc, .slice (some ⟨g, at_ * 5, none⟩) (n - at_) sc]).run Tryd.prog W2.drew = .ok (goInt (Nat.min (n - at_) (n - at_))) (W2.drew.setCells w.heap.size ((at_ + 1) * 5) ((l.drop at_).flatMap Link.vals)) := fun ty dc sc =>
      run_copy_blk hw2 Tryd.underlying23 size_link _ _ dc ⟨g, at_ * 5, none⟩ _ sc _ (by rw [hd, show Nat.min (n - at_) (n - at_) = n - at_ from Nat.min_self _]) (splitc (Blk.drewN (hblk.below hb2 hgl) 1) hl hcs at_ (by omega)) (by rw [wrt_size, hd, hns]; omega) (links_one _)
    have hic := ins_cells (x := x) hl (show at_ ≤ n by omega) (cs := news) (by omega) hhead true
    simp only [if_true] at hic
    have hfin : Own (W2.drew.setCells w.heap.size ((at_ + 1) * 5) ((l.drop at_).flatMap Link.vals)) base 45 5 (some ⟨w.heap.size, 0, none⟩) (n + 1) cap' ((l.take at_ ++ x :: l.drop at_).flatMap Link.vals) :=
      Own.mk_ hbase (Blk.setCells ((l.drop at_).flatMap Link.vals) ((at_ + 1) * 5) hw2) (by omega) hle (by rw [wrt_size, wrt_size]; exact hns) (by rw [flat_len' vals5]; simp; omega) hic
    have hgr : Below w.heap.size w (W2.drew.setCells w.heap.size ((at_ + 1) * 5) ((l.drop at_).flatMap Link.vals)) := below_of_grown_setCells hb2.drew
    have mixed : Tryd.prog.follows .mixedOrders = true := by kernel_rfl
    have k1 : ((at_ : Int) == (n : Int)) = false := by simp; omega
    have k2 : ¬ (cap' = at_ + 1) := by omega
    have k3 : ¬ (cap' = at_) := by omega
    have k2' : ¬ (c = at_) := by omega
    have k4 : decide ((c : Int) < (n : Int) + 1) = true := by simp; omega
    have k5 : ((at_ : Int) + 1).toNat = at_ + 1 := by omega
    have k6 : ((n : Int) + 1).toNat = n + 1 := by omega
    have k7 : IntKind.i64.wrap ((at_ : Int) + 1) = (at_ : Int) + 1 := by rw [IntKind.wrap_i64]; omega
    have k8 : (0 : Int) ≤ (at_ : Int) + 1 := by omega
    have k9 : at_ ≤ n := by omega
    have k10 : (at_ : Int) ≤ (n : Int) + 1 := by omega
    have k11 : n + 1 - (at_ + 1) = n - at_ := by omega
    have k12 : (n : Int) + 1 - (at_ : Int) = ((n + 1 - at_ : Nat) : Int) := by omega
    have HF := Lib.hid hfin
    have HG := Lib.hid hgr
    rw [← k12] at hap
    have HA := Lib.hid hap
    clear hap k12
    have H1 := Lib.hid hcp1
    have H2 := Lib.hid hcp2
    clear hfin hgr hic hb1 hx1 hx hO hcs hd hsz htake hl hblk hcap hcp1 hcp2 hW1 hW2 hnews hns hhead hw1 hw2 hb2 hi hz0 hz1 hz2 htk
    go_enter Tryd.func69, Tryd.ntmps69
    have hcp1 := H1.out
    go_wp2_with (at_builtin; refine Lib.wpList_append_run _ rfl _ _ 23 3 rfl _ _ rfl rfl _ _ (HA.out _) ?_)
    clear hcp1
    have hcp2 := H2.out
    go_region
    clear hcp2
    go_wp2_with fail
    go_ret
    exact ⟨cap', rfl, HF.out, HG.out⟩

/-- slices.Insert of one link. -/
theorem insert_link (base : Nat) (A : Option Addr) (n c at_ : Nat) (l : List Link) (vb : Nat) (x : Link) (w : World) (hO : Own w base 45 5 A n c (l.flatMap Link.vals)) (hbase : base ≤ w.heap.size) (hat : at_ ≤ n) (hn : n ≤ 100) (hx : Blk w vb 45 #[.int .i64 x.id, .int .i64 x.fr, .int .i64 x.to, .int .i64 x.steps, .int .i64 x.paces]) (hne : ∀ a, A = some a → vb ≠ a.block) :
    Calls Tryd.prog 69 #[.slice A n c, .int .i64 at_, .slice (some ⟨vb, 0, none⟩) 1 1] w fun e w' => ∃ A' c', e = .returned (.slice A' (n + 1) c') ∧ Own w' base 45 5 A' (n + 1) c' ((l.take at_ ++ x :: l.drop at_).flatMap Link.vals) ∧ w.grownBy w' (A.map (·.block)) ∧ (A' = A ∨ A' = some ⟨w.heap.size, 0, none⟩) := by
  have hl : l.length = n := by have := hO.len; rw [flat_len' vals5] at this; omega
  rcases Nat.eq_or_lt_of_le hat with rfl | hlt
  · refine (insert_end base A at_ c l vb _ x w hO hbase hn hx).mono ?_
    rintro e w' ⟨A', c', h1, h2, h3, h4⟩
    rw [List.take_of_length_le (by omega), List.drop_eq_nil_of_le (by omega)]
    exact ⟨A', c', h1, h2, h3, h4⟩
  · obtain ⟨g, rfl⟩ : ∃ g, A = some ⟨g, 0, none⟩ := by
      rcases hO.form with ⟨_, h, _⟩ | ⟨g, cur, h, _⟩
      · omega
      · exact ⟨g, h⟩
    by_cases hc : n + 1 ≤ c
    · refine (insert_room base g n c at_ l vb x w hO hlt hc hx (hne _ rfl)).mono ?_
      rintro e w' ⟨h1, h2, h3⟩
      exact ⟨_, _, h1, h2, h3, .inl rfl⟩
    · refine (insert_grow base g n c at_ l vb x w hO hbase hlt hn (by omega) hx).mono ?_
      rintro e w' ⟨c', h1, h2, h3⟩
      exact ⟨_, _, h1, h2, grown_of_below h3 _, .inr rfl⟩
end Go.Proofs.YtahkjagjcogeiaaDoor
