/- Part 11 of the texts of this claim, joined. -/
import Derived.Test.YtahkjagjcogeiaaGreatDoorRows
import Derived.ProofKit
import Derived.LaidMore
import Derived.LaidHandle
import Derived.Stop.Joined
import Derived.ChangeSame
import Derived.OpenShut
import Derived.Test.YtahkjagjcogeiaaGreatDoorZxClosed10
set_option linter.unusedVariables false
/- slices.Insert of one link into an owned slice. -/
namespace Go.Proofs.YtahkjagjcogeiaaGreatDoor
open Go.RowKit

theorem lit_add (g o k : Nat) : ((⟨g, o, none⟩ : Addr).add k) = ⟨g, o + k, none⟩ := by
 unfold Addr.add
 by_cases hk : k = 0
 ·simp [hk]
 ·simp [hk]
theorem flat_take {α : Type} {vals : α → List Value} {size : Nat} (hv : ∀ x, (vals x).length = size) (l : List α) (k : Nat) : (l.flatMap vals).take (k * size) = (l.take k).flatMap vals := by
 induction l generalizing k with
 | nil => simp
 | cons x l ih =>
  cases k with
  | zero => simp
  | succ k =>
   rw [List.flatMap_cons, List.take_succ_cons, List.flatMap_cons, ← ih k, List.take_append, hv, show (k + 1) * size - size = k * size by rw [Nat.add_mul]; omega, List.take_of_length_le (by rw [hv, Nat.add_mul]; omega)]
theorem flat_drop {α : Type} {vals : α → List Value} {size : Nat} (hv : ∀ x, (vals x).length = size) (l : List α) (k : Nat) : (l.flatMap vals).drop (k * size) = (l.drop k).flatMap vals := by
 induction l generalizing k with
 | nil => simp
 | cons x l ih =>
  cases k with
  | zero => simp
  | succ k =>
   rw [List.flatMap_cons, List.drop_succ_cons, ← ih k, List.drop_append, hv, show (k + 1) * size - size = k * size by rw [Nat.add_mul]; omega, List.drop_of_length_le (by rw [hv, Nat.add_mul]; omega), List.nil_append]

/-- Cells behind two copies: the head as it was, x, the tail. -/
theorem ins_cells {l : List Link} {x : Link} {at_ n : Nat} (hl : l.length = n) (hat : at_ ≤ n) {cs : Array Value} (hsz : (n + 1) * 5 ≤ cs.size) (hhead : ∀ k, k < at_ * 5 → cs[k]? = (l.flatMap Link.vals)[k]?) (first : Bool) :
  ∀ k, k < (n + 1) * 5 → (if first then wrt (wrt cs (at_ * 5) x.vals) ((at_ + 1) * 5) ((l.drop at_).flatMap Link.vals) else wrt (wrt cs ((at_ + 1) * 5) ((l.drop at_).flatMap Link.vals)) (at_ * 5) x.vals)[k]? = ((l.take at_ ++ x :: l.drop at_).flatMap Link.vals)[k]? := by
 have hd : ((l.drop at_).flatMap Link.vals).length = (n - at_) * 5 := by rw [flat_len' vals5, List.length_drop, hl]
 have ht : ((l.take at_).flatMap Link.vals).length = at_ * 5 := by rw [flat_len' vals5, List.length_take]; congr 1; omega
 have hx : x.vals.length = 5 := rfl
 intro k hk
 rw [List.flatMap_append, List.flatMap_cons]
 by_cases h1 : k < at_ * 5
 ·rw [List.getElem?_append_left (by omega)]
  have : (l.flatMap Link.vals)[k]? = ((l.take at_).flatMap Link.vals)[k]? := by
   rw [← flat_take vals5, List.getElem?_take, if_pos h1]
  rw [← this, ← hhead k h1]
  cases first
  ·simp only [Bool.false_eq_true, if_false]
   rw [wrt_out _ _ _ _ (.inl h1), wrt_out _ _ _ _ (.inl (by omega))]
  ·simp only [if_true]
   rw [wrt_out _ _ _ _ (.inl (by omega)), wrt_out _ _ _ _ (.inl h1)]
 ·rw [List.getElem?_append_right (by omega), ht]
  by_cases h2 : k < (at_ + 1) * 5
  ·rw [List.getElem?_append_left (by omega)]
   obtain ⟨q, rfl⟩ : ∃ q, k = at_ * 5 + q := ⟨k - at_ * 5, by omega⟩
   rw [show at_ * 5 + q - at_ * 5 = q by omega]
   cases first
   ·simp only [Bool.false_eq_true, if_false]
    rw [wrt_in _ _ _ _ (by omega) (by rw [wrt_size]; omega)]
   ·simp only [if_true]
    rw [wrt_out _ _ _ _ (.inl (by omega)), wrt_in _ _ _ _ (by omega) (by omega)]
  ·rw [List.getElem?_append_right (by omega), hx]
   obtain ⟨q, rfl⟩ : ∃ q, k = (at_ + 1) * 5 + q := ⟨k - (at_ + 1) * 5, by omega⟩
   rw [show (at_ + 1) * 5 + q - at_ * 5 - 5 = q by omega]
   cases first
   ·simp only [Bool.false_eq_true, if_false]
    rw [wrt_out _ _ _ _ (.inr (by omega)), wrt_in _ _ _ _ (by omega) (by omega)]
   ·simp only [if_true]
    rw [wrt_in _ _ _ _ (by omega) (by rw [wrt_size]; omega)]

/-- A one-element slice of a link in a block of its own. -/
theorem one_link {w : World} {vb : Nat} {tv : TypeId} {x : Link} (h : Blk w vb tv #[.int .i64 x.id, .int .i64 x.fr, .int .i64 x.to, .int .i64 x.steps, .int .i64 x.paces]) {B : Nat} (hB : vb < B) : Reads w B 5 (some ⟨vb, 0, none⟩) 1 x.vals :=
 ⟨rfl, fun _ => ⟨_, rfl, hB, fun j u hu => by
  rw [lit_add, Nat.zero_add, h.cell, ← hu]
  simp [Link.vals]⟩⟩
theorem vals_one (x : Link) : ∀ u ∈ x.vals, u.oneCell' = true := by
 intro u hu
 simp only [Link.vals, List.mem_cons, List.not_mem_nil, or_false] at hu
 rcases hu with rfl | rfl | rfl | rfl | rfl <;> rfl

theorem sizeof_link (w : World) : (sizeOf 52).run Tryz.prog w = .ok 5 w := by kernel_rfl
theorem size_link : (Tryz.prog.info? 52).map (·.size) = some 5 := by kernel_rfl

set_option maxRecDepth 100000 in
set_option maxHeartbeats 4000000 in
/-- At the end. -/
theorem insert_end (base : Nat) (A : Option Addr) (n c : Nat) (l : List Link) (vb : Nat) (tv : TypeId) (x : Link) (w : World) (hO : Own w base 52 5 A n c (l.flatMap Link.vals)) (hbase : base ≤ w.heap.size) (hn : n ≤ 100) (hx : Blk w vb tv #[.int .i64 x.id, .int .i64 x.fr, .int .i64 x.to, .int .i64 x.steps, .int .i64 x.paces]) :
  Calls Tryz.prog 99 #[.slice A n c, .int .i64 n, .slice (some ⟨vb, 0, none⟩) 1 1] w fun e w' => ∃ A' c', e = .returned (.slice A' (n + 1) c') ∧ Own w' base 52 5 A' (n + 1) c' ((l ++ [x]).flatMap Link.vals) ∧ w.grownBy w' (A.map (·.block)) ∧ (A' = A ∨ A' = some ⟨w.heap.size, 0, none⟩) := by
 have hcap := hO.cap_le
 have hcn := hcap.1
 have hmax : c ≤ 9223372036854775807 := by have := hcap.2; unfold maxLen at this; omega
 have hnil : A = none → n = 0 ∧ c = 0 ∧ l.flatMap Link.vals = [] := fun h => by subst h; exact hO.nil
 have HO := Lib.hid hO
 have HX := Lib.hid hx
 have HR : Hid (Reads w (vb + 1) 5 (some ⟨vb, 0, none⟩) 1 x.vals) := one_link hx (by omega)
 clear hO hx hcap
 cases A with
 | none =>
  obtain ⟨rfl, rfl, hl0⟩ := hnil rfl
  clear hnil hl0
  go_enter Tryz.func99, Tryz.ntmps99
  go_wp2_with (at_builtin; refine wpList_append_any _ rfl _ _ rfl elem_link rfl HO.out rfl HR.out (vals_one x) (by decide) (by decide) hbase ?_)
  rintro A' cap' w' hown hg hA
  go_wp2_with fail
  go_ret
  exact ⟨A', cap', rfl, by rw [List.flatMap_append]; simpa using hown, hg, hA⟩
 | some a =>
  clear hnil
  obtain ⟨g, rfl⟩ : ∃ g, a = ⟨g, 0, none⟩ := by
   rcases HO.out.form with ⟨h, _⟩ | ⟨g, cur, h, _⟩
   ·cases h
   ·cases h; exact ⟨g, rfl⟩
  go_enter Tryz.func99, Tryz.ntmps99
  go_wp2_with (at_builtin; refine wpList_append_any _ rfl _ _ rfl elem_link rfl HO.out rfl HR.out (vals_one x) (by unfold maxLen; omega) (by omega) hbase ?_)
  all_goals
   rintro A' cap' w' hown hg hA
   go_wp2_with fail
   go_ret
   exact ⟨A', cap', rfl, by rw [List.flatMap_append]; simpa using hown, hg, hA⟩

theorem below_of_grown_setCells {B : Nat} {w : World} : ∀ {vs : List Value} {o : Nat} {w' : World}, Below B w w' → Below B w (w'.setCells B o vs)
 | [], _, _, h => h
 | v :: r, o, w', h => below_of_grown_setCells (vs := r) (o := o + 1) (h.setCell (p := ⟨B, o, none⟩) (Nat.le_refl _) v)
theorem splitc {w : World} {g : Nat} {e : TypeId} {cs : Array Value} (hb : Blk w g e cs) {l : List Link} {n : Nat} (hl : l.length = n) (hcs : ∀ k, k < n * 5 → cs[k]? = (l.flatMap Link.vals)[k]?) (at_ : Nat) (hat : at_ ≤ n) :
  ∀ j v, ((l.drop at_).flatMap Link.vals)[j]? = some v → w.cell? ((⟨g, at_ * 5, none⟩ : Addr).add j) = some v := by
 intro j v hv
 have hd : ((l.drop at_).flatMap Link.vals).length = (n - at_) * 5 := by rw [flat_len' vals5, List.length_drop, hl]
 have hj : j < (n - at_) * 5 := by rw [← hd]; exact (List.getElem?_eq_some_iff.1 hv).1
 rw [lit_add, hb.cell, hcs _ (by omega), ← hv, ← flat_drop vals5, List.getElem?_drop]

set_option maxRecDepth 100000 in
set_option maxHeartbeats 400000 in
/-- In the middle, where there is room. -/
theorem insert_room (base g n c at_ : Nat) (l : List Link) (vb : Nat) (x : Link) (w : World) (hO : Own w base 52 5 (some ⟨g, 0, none⟩) n c (l.flatMap Link.vals)) (hat : at_ < n) (hc : n + 1 ≤ c) (hx : Blk w vb 52 #[.int .i64 x.id, .int .i64 x.fr, .int .i64 x.to, .int .i64 x.steps, .int .i64 x.paces]) (hne : vb ≠ g) :
  Calls Tryz.prog 99 #[.slice (some ⟨g, 0, none⟩) n c, .int .i64 at_, .slice (some ⟨vb, 0, none⟩) 1 1] w fun e w' => e = .returned (.slice (some ⟨g, 0, none⟩) (n + 1) c) ∧ Own w' base 52 5 (some ⟨g, 0, none⟩) (n + 1) c ((l.take at_ ++ x :: l.drop at_).flatMap Link.vals) ∧ w.grownBy w' (some g) := by
 have hl : l.length = n := by have := hO.len; rw [flat_len' vals5] at this; omega
 have hcap := hO.cap_le
 have hmax : c ≤ 9223372036854775807 := by have := hcap.2; unfold maxLen at this; omega
 rcases hO.form with ⟨h, _⟩ | ⟨g', cur, h, hbg, hblk, _, _, hsz, htake, _⟩
 ·cases h
 ·cases h
  have hcs : ∀ k, k < n * 5 → cur[k]? = (l.flatMap Link.vals)[k]? := by
   intro k hk
   rw [← htake, List.getElem?_take, if_pos hk, Array.getElem?_toList]
  have hd : ((l.drop at_).flatMap Link.vals).length = (n - at_) * 5 := by rw [flat_len' vals5, List.length_drop, hl]
  have hz1 : ¬ ((at_ : Int) = (n : Int)) := by omega
  have hov : ∀ lb cb, (callFunc 125 #[.slice (some ⟨vb, 0, none⟩) 1 1, .slice (some ⟨g, (at_ + 1) * 5, none⟩) lb cb]).run Tryz.prog w = .ok (.value (.bool false)) w := fun lb cb => by
   rw [run_callFunc_extern (P := Tryz.prog) (f := 125) (fn := Tryz.f125) (by kernel_rfl) (by kernel_rfl) (by kernel_rfl) (by kernel_rfl) (e := Extern.SlicesOverlaps.overlaps #[23, 23] #[4]) (by kernel_rfl),
    Lib.run_overlaps_apart w 23 4 52 Tryz.underlying23 5 sizeof_link ⟨vb, 0, none⟩ ⟨g, (at_ + 1) * 5, none⟩ 1 1 lb cb hne 52 52 5 cur.size
     (by unfold World.shape?; rw [show w.heap[vb]? = _ from hx]; rfl) (by unfold World.shape?; rw [show w.heap[g]? = _ from hblk]) (by omega) (hx.frozen 0) (hx.frozen 5)]
   rfl
  have hcp1 : ∀ ty dc sc, (Builtin.copy_ #[23, 23] ty #[.slice (some ⟨g, (at_ + 1) * 5, none⟩) (n - at_) dc, .slice (some ⟨g, at_ * 5, none⟩) (n + 1 - at_) sc]).run Tryz.prog w.drew = .ok (goInt (Nat.min (n + 1 - at_) (n - at_))) (w.drew.setCells g ((at_ + 1) * 5) ((l.drop at_).flatMap Link.vals)) := fun ty dc sc =>
   run_copy_blk (Blk.drewN hblk 1) Tryz.underlying23 size_link _ _ dc ⟨g, at_ * 5, none⟩ _ sc _ (by rw [hd, show Nat.min (n + 1 - at_) (n - at_) = n - at_ from Nat.min_eq_right (by omega)]) (splitc hblk hl hcs at_ (by omega)) (by rw [hd, hsz]; omega) (links_one _)
  have hb1 := Blk.setCells ((l.drop at_).flatMap Link.vals) ((at_ + 1) * 5) (Blk.drewN hblk 1)
  have hx1 : Blk (w.drew.setCells g ((at_ + 1) * 5) ((l.drop at_).flatMap Link.vals)) vb 52 #[.int .i64 x.id, .int .i64 x.fr, .int .i64 x.to, .int .i64 x.steps, .int .i64 x.paces] := ((grown_setCells (g := g) ((l.drop at_).flatMap Link.vals) ((at_ + 1) * 5) (grown_drew (grown_refl w (some g)) 1) (.inl rfl)).block vb hx.lt (by simp [hne])).trans hx
  have hcp2 : ∀ ty dc, (Builtin.copy_ #[23, 23] ty #[.slice (some ⟨g, at_ * 5, none⟩) (n + 1 - at_) dc, .slice (some ⟨vb, 0, none⟩) 1 1]).run Tryz.prog (w.drew.setCells g ((at_ + 1) * 5) ((l.drop at_).flatMap Link.vals)) = .ok (goInt (Nat.min 1 (n + 1 - at_))) ((w.drew.setCells g ((at_ + 1) * 5) ((l.drop at_).flatMap Link.vals)).setCells g (at_ * 5) x.vals) := fun ty dc =>
   run_copy_blk hb1 Tryz.underlying23 size_link _ _ dc ⟨vb, 0, none⟩ _ 1 _ (by rw [show Nat.min 1 (n + 1 - at_) = 1 from Nat.min_eq_left (by omega)]; rfl) (by
    intro j v hv
    rw [lit_add, Nat.zero_add]
    refine (hx1.cell j).trans ?_
    rw [← hv]
    simp [Link.vals]) (by rw [wrt_size, hsz]; simp [Link.vals]; omega) (vals_one x)
  have hic := ins_cells (x := x) hl (show at_ ≤ n by omega) (cs := cur) (by omega) (fun k hk => hcs k (by omega)) false
  simp only [Bool.false_eq_true, if_false] at hic
  have hfin : Own ((w.drew.setCells g ((at_ + 1) * 5) ((l.drop at_).flatMap Link.vals)).setCells g (at_ * 5) x.vals) base 52 5 (some ⟨g, 0, none⟩) (n + 1) c ((l.take at_ ++ x :: l.drop at_).flatMap Link.vals) :=
   Own.mk_ hbg (Blk.setCells x.vals (at_ * 5) hb1) hc hcap.2 (by rw [wrt_size, wrt_size]; exact hsz) (by rw [flat_len' vals5]; simp; omega) hic
  have hgr : w.grownBy ((w.drew.setCells g ((at_ + 1) * 5) ((l.drop at_).flatMap Link.vals)).setCells g (at_ * 5) x.vals) (some g) := grown_setCells x.vals (at_ * 5) (grown_setCells _ _ (grown_drew (grown_refl w (some g)) 1) (.inl rfl)) (.inl rfl)
  have mixed : Tryz.prog.follows .mixedOrders = true := by kernel_rfl
  have k1 : ((at_ : Int) == (n : Int)) = false := by simp; omega
  have k2 : ¬ (c = at_ + 1) := by omega
  have k3 : ¬ (c = at_) := by omega
  have k4 : decide ((c : Int) < (n : Int) + 1) = false := by simp; omega
  have k5 : ((at_ : Int) + 1).toNat = at_ + 1 := by omega
  have k6 : ((n : Int) + 1).toNat = n + 1 := by omega
  have k7 : IntKind.i64.wrap ((at_ : Int) + 1) = (at_ : Int) + 1 := by rw [IntKind.wrap_i64]; omega
  have k8 : (0 : Int) ≤ (at_ : Int) + 1 := by omega
  have k9 : at_ ≤ n := by omega
  have k10 : (at_ : Int) ≤ (n : Int) + 1 := by omega
  have k11 : n + 1 - (at_ + 1) = n - at_ := by omega
  have HF := Lib.hid hfin
  have HG := Lib.hid hgr
  have H1 := Lib.hid hcp1
  have H2 := Lib.hid hcp2
  clear hcp1 hcp2
  clear hfin hgr hic hb1 hx1 hx hO hcs hd hsz htake hl hblk hcap
  go_enter Tryz.func99, Tryz.ntmps99
  go_wp2_with (simp only [hov])
  clear hov
  have hcp1 := H1.out
  go_region
  clear hcp1
  have hcp2 := H2.out
  go_wp2_with fail
  go_ret
  exact ⟨rfl, HF.out, HG.out⟩

theorem under_int_kind : Tryz.prog.underlying 3 = some (.int .i64) := Tryz.underlying3

set_option maxRecDepth 100000 in
set_option maxHeartbeats 1000000 in
/-- In the middle, where there is no room. -/
theorem insert_grow (base g n c at_ : Nat) (l : List Link) (vb : Nat) (x : Link) (w : World) (hO : Own w base 52 5 (some ⟨g, 0, none⟩) n c (l.flatMap Link.vals)) (hbase : base ≤ w.heap.size) (hat : at_ < n) (hn : n ≤ 100) (hc : c < n + 1) (hx : Blk w vb 52 #[.int .i64 x.id, .int .i64 x.fr, .int .i64 x.to, .int .i64 x.steps, .int .i64 x.paces]) :
  Calls Tryz.prog 99 #[.slice (some ⟨g, 0, none⟩) n c, .int .i64 at_, .slice (some ⟨vb, 0, none⟩) 1 1] w fun e w' => ∃ c', e = .returned (.slice (some ⟨w.heap.size, 0, none⟩) (n + 1) c') ∧ Own w' base 52 5 (some ⟨w.heap.size, 0, none⟩) (n + 1) c' ((l.take at_ ++ x :: l.drop at_).flatMap Link.vals) ∧ Below w.heap.size w w' := by
 have hl : l.length = n := by have := hO.len; rw [flat_len' vals5] at this; omega
 have hcap := hO.cap_le
 have hmax : c ≤ 9223372036854775807 := by have := hcap.2; unfold maxLen at this; omega
 obtain ⟨i0, hi, hz0, hz1, hz2⟩ := info_parts info_link
 rcases hO.form with ⟨h, _⟩ | ⟨g', cur, h, hbg, hblk, _, _, hsz, htake, _⟩
 ·cases h
 ·cases h
  have hcs : ∀ k, k < n * 5 → cur[k]? = (l.flatMap Link.vals)[k]? := by
   intro k hk
   rw [← htake, List.getElem?_take, if_pos hk, Array.getElem?_toList]
  have hd : ((l.drop at_).flatMap Link.vals).length = (n - at_) * 5 := by rw [flat_len' vals5, List.length_drop, hl]
  have htk : ((l.take at_).flatMap Link.vals).length = at_ * 5 := by rw [flat_len' vals5, List.length_take]; congr 1; omega
  have hgl := hblk.lt
  have hxl := hx.lt
  have hap : ∀ ty, (Builtin.append_ #[23, 3] ty #[.slice (some ⟨g, 0, none⟩) at_ c, .int .i64 ((n + 1 - at_ : Nat) : Int)]).run Tryz.prog w = _ := fun ty =>
   run_append_make hblk Tryz.underlying23 under_int_kind hi hz0 at_ c (n + 1 - at_) ((l.take at_).flatMap Link.vals) (by rw [hz1]; exact htk) (by
    intro k hk
    rw [hz1] at hk
    rw [hcs k (by omega), ← flat_take vals5, List.getElem?_take, if_pos hk]) (by omega) (by rw [hz1]; omega) (by omega) (by omega) (by rw [hz2]; omega)
  rw [show at_ + (n + 1 - at_) = n + 1 by omega] at hap
  have hge := grownCap_ge w (n + 1) c 52
  have hle := grownCap_le_maxLen w (n + 1) c 52 (by unfold maxLen; omega)
  generalize grownCap w (n + 1) c 52 = cap' at hap hge hle
  obtain ⟨news, hnews⟩ : ∃ news : Array Value, ((l.take at_).flatMap Link.vals).toArray ++ Builtin.zeroCells (Value.agg #[.int .i64 0, .int .i64 0, .int .i64 0, .int .i64 0, .int .i64 0]).cells (n + 1 - at_) ++ Builtin.zeroCells (Value.agg #[.int .i64 0, .int .i64 0, .int .i64 0, .int .i64 0, .int .i64 0]).cells (cap' - (n + 1)) = news := ⟨_, rfl⟩
  rw [hnews] at hap
  have hns : news.size = cap' * 5 := by
   rw [← hnews]
   simp only [Array.size_append, List.size_toArray, htk, Builtin.zeroCells, Array.size_map, Array.size_range, Value.cells]
   simp
   omega
  have hhead : ∀ k, k < at_ * 5 → news[k]? = (l.flatMap Link.vals)[k]? := by
   intro k hk
   rw [← hnews, Array.append_assoc, Array.getElem?_append_left (by simp [htk]; omega), List.getElem?_toArray, ← flat_take vals5, List.getElem?_take, if_pos hk]
  have hw1 : Blk (w.drew.alloc (.cells news 52)) w.heap.size 52 news := Blk.new w.drew _ _
  have hb1 : Below w.heap.size w (w.drew.alloc (.cells news 52)) := (Below.refl _ _).drew.alloc (Nat.le_refl _) _
  have hx1 := hx.below hb1 hxl
  obtain ⟨W1, hW1⟩ : ∃ W1, w.drew.alloc (.cells news 52) = W1 := ⟨_, rfl⟩
  rw [hW1] at hap hw1 hb1 hx1
  have hcp1 : ∀ ty dc, (Builtin.copy_ #[23, 23] ty #[.slice (some ⟨w.heap.size, at_ * 5, none⟩) (n + 1 - at_) dc, .slice (some ⟨vb, 0, none⟩) 1 1]).run Tryz.prog W1 = .ok (goInt (Nat.min 1 (n + 1 - at_))) (W1.setCells w.heap.size (at_ * 5) x.vals) := fun ty dc =>
   run_copy_blk hw1 Tryz.underlying23 size_link _ _ dc ⟨vb, 0, none⟩ _ 1 _ (by rw [show Nat.min 1 (n + 1 - at_) = 1 from Nat.min_eq_left (by omega)]; rfl) (by
    intro j v hv
    rw [lit_add, Nat.zero_add]
    refine (hx1.cell j).trans ?_
    rw [← hv]
    simp [Link.vals]) (by rw [hns]; simp [Link.vals]; omega) (vals_one x)
  have hw2 := Blk.drewN (Blk.setCells x.vals (at_ * 5) hw1) 1
  have hb2 : Below w.heap.size w (W1.setCells w.heap.size (at_ * 5) x.vals) := below_of_grown_setCells hb1
  obtain ⟨W2, hW2⟩ : ∃ W2, W1.setCells w.heap.size (at_ * 5) x.vals = W2 := ⟨_, rfl⟩
  rw [hW2] at hcp1 hw2 hb2
  have hcp2 : ∀ ty dc sc, (Builtin.copy_ #[23, 23] ty #[.slice (some ⟨w.heap.size, (at_ + 1) * 5, none⟩) (n - at_) dc, .slice (some ⟨g, at_ * 5, none⟩) (n - at_) sc]).run Tryz.prog W2.drew = .ok (goInt (Nat.min (n - at_) (n - at_))) (W2.drew.setCells w.heap.size ((at_ + 1) * 5) ((l.drop at_).flatMap Link.vals)) := fun ty dc sc =>
   run_copy_blk hw2 Tryz.underlying23 size_link _ _ dc ⟨g, at_ * 5, none⟩ _ sc _ (by rw [hd, show Nat.min (n - at_) (n - at_) = n - at_ from Nat.min_self _]) (splitc (Blk.drewN (hblk.below hb2 hgl) 1) hl hcs at_ (by omega)) (by rw [wrt_size, hd, hns]; omega) (links_one _)
  have hic := ins_cells (x := x) hl (show at_ ≤ n by omega) (cs := news) (by omega) hhead true
  simp only [if_true] at hic
  have hfin : Own (W2.drew.setCells w.heap.size ((at_ + 1) * 5) ((l.drop at_).flatMap Link.vals)) base 52 5 (some ⟨w.heap.size, 0, none⟩) (n + 1) cap' ((l.take at_ ++ x :: l.drop at_).flatMap Link.vals) :=
   Own.mk_ hbase (Blk.setCells ((l.drop at_).flatMap Link.vals) ((at_ + 1) * 5) hw2) (by omega) hle (by rw [wrt_size, wrt_size]; exact hns) (by rw [flat_len' vals5]; simp; omega) hic
  have hgr : Below w.heap.size w (W2.drew.setCells w.heap.size ((at_ + 1) * 5) ((l.drop at_).flatMap Link.vals)) := below_of_grown_setCells hb2.drew
  have mixed : Tryz.prog.follows .mixedOrders = true := by kernel_rfl
  have k1 : ((at_ : Int) == (n : Int)) = false := by simp; omega
  have k2 : ¬ (cap' = at_ + 1) := by omega
  have k3 : ¬ (cap' = at_) := by omega
  have k2' : ¬ (c = at_) := by omega
  have k4 : decide ((c : Int) < (n : Int) + 1) = true := by simp; omega
  have k5 : ((at_ : Int) + 1).toNat = at_ + 1 := by omega
  have k6 : ((n : Int) + 1).toNat = n + 1 := by omega
  have k7 : IntKind.i64.wrap ((at_ : Int) + 1) = (at_ : Int) + 1 := by rw [IntKind.wrap_i64]; omega
  have k8 : (0 : Int) ≤ (at_ : Int) + 1 := by omega
  have k9 : at_ ≤ n := by omega
  have k10 : (at_ : Int) ≤ (n : Int) + 1 := by omega
  have k11 : n + 1 - (at_ + 1) = n - at_ := by omega
  have k12 : (n : Int) + 1 - (at_ : Int) = ((n + 1 - at_ : Nat) : Int) := by omega
  have HF := Lib.hid hfin
  have HG := Lib.hid hgr
  rw [← k12] at hap
  have HA := Lib.hid hap
  clear hap k12
  have H1 := Lib.hid hcp1
  have H2 := Lib.hid hcp2
  clear hfin hgr hic hb1 hx1 hx hO hcs hd hsz htake hl hblk hcap hcp1 hcp2 hW1 hW2 hnews hns hhead hw1 hw2 hb2 hi hz0 hz1 hz2 htk
  go_enter Tryz.func99, Tryz.ntmps99
  have hcp1 := H1.out
  go_wp2_with (at_builtin; refine Lib.wpList_append_run _ rfl _ _ 23 3 rfl _ _ rfl rfl _ _ (HA.out _) ?_)
  clear hcp1
  have hcp2 := H2.out
  go_region
  clear hcp2
  go_wp2_with fail
  go_ret
  exact ⟨cap', rfl, HF.out, HG.out⟩

/-- slices.Insert of one link. -/
theorem insert_link (base : Nat) (A : Option Addr) (n c at_ : Nat) (l : List Link) (vb : Nat) (x : Link) (w : World) (hO : Own w base 52 5 A n c (l.flatMap Link.vals)) (hbase : base ≤ w.heap.size) (hat : at_ ≤ n) (hn : n ≤ 100) (hx : Blk w vb 52 #[.int .i64 x.id, .int .i64 x.fr, .int .i64 x.to, .int .i64 x.steps, .int .i64 x.paces]) (hne : ∀ a, A = some a → vb ≠ a.block) :
  Calls Tryz.prog 99 #[.slice A n c, .int .i64 at_, .slice (some ⟨vb, 0, none⟩) 1 1] w fun e w' => ∃ A' c', e = .returned (.slice A' (n + 1) c') ∧ Own w' base 52 5 A' (n + 1) c' ((l.take at_ ++ x :: l.drop at_).flatMap Link.vals) ∧ w.grownBy w' (A.map (·.block)) ∧ (A' = A ∨ A' = some ⟨w.heap.size, 0, none⟩) := by
 have hl : l.length = n := by have := hO.len; rw [flat_len' vals5] at this; omega
 rcases Nat.eq_or_lt_of_le hat with rfl | hlt
 ·refine (insert_end base A at_ c l vb _ x w hO hbase hn hx).mono ?_
  rintro e w' ⟨A', c', h1, h2, h3, h4⟩
  rw [List.take_of_length_le (by omega), List.drop_eq_nil_of_le (by omega)]
  exact ⟨A', c', h1, h2, h3, h4⟩
 ·obtain ⟨g, rfl⟩ : ∃ g, A = some ⟨g, 0, none⟩ := by
   rcases hO.form with ⟨_, h, _⟩ | ⟨g, cur, h, _⟩
   ·omega
   ·exact ⟨g, h⟩
  by_cases hc : n + 1 ≤ c
  ·refine (insert_room base g n c at_ l vb x w hO hlt hc hx (hne _ rfl)).mono ?_
   rintro e w' ⟨h1, h2, h3⟩
   exact ⟨_, _, h1, h2, h3, .inl rfl⟩
  ·refine (insert_grow base g n c at_ l vb x w hO hbase hlt hn (by omega) hx).mono ?_
   rintro e w' ⟨c', h1, h2, h3⟩
   exact ⟨_, _, h1, h2, grown_of_below h3 _, .inr rfl⟩
end Go.Proofs.YtahkjagjcogeiaaGreatDoor
/- climb.Open. -/
namespace Go.Proofs.YtahkjagjcogeiaaGreatDoor
open Go.RowKit

/-- Where things lie while Open works. -/
structure OpenGh where
 AP : Option Addr
 cP : Nat
 AK : Option Addr
 cK : Nat
 AI : Option Addr
 cI : Nat
 g : Nat

def openT (t : Town) (x : Link) : Town := ⟨t.places, t.links.take (lowB t.links x.id) ++ x :: t.links.drop (lowB t.links x.id)⟩
def openR (t : Town) (x : Link) : Town := if townB t && townB (openT t x) then openT t x else noTown
def openE (t : Town) (x : Link) : Int := if townB t then (if townB (openT t x) then 0 else 34) else 30

theorem linksB_pw {t : Town} : ∀ {l : List Link} {last : Int}, linksB t last l = true → (∀ x ∈ l, last < x.id) ∧ l.Pairwise fun x y => x.id < y.id
 | [], _, _ => ⟨by simp, List.Pairwise.nil⟩
 | x :: l, last, h => by
  simp only [linksB, Bool.and_eq_true] at h
  obtain ⟨h1, h2⟩ := linksB_pw h.2
  have h3 : last < x.id := by
   have := h.1
   unfold linkB at this
   simp only [Bool.and_eq_true] at this
   have := inB_iff.1 this.1.1.1.1
   omega
  refine ⟨fun y hy => ?_, List.Pairwise.cons h1 h2⟩
  rcases List.mem_cons.1 hy with rfl | hy
  ·exact h3
  ·have := h1 y hy; omega
theorem townB_links {t : Town} (h : townB t = true) : t.links.Pairwise fun x y => x.id < y.id := by
 unfold townB at h
 simp only [Bool.and_eq_true] at h
 exact (linksB_pw h.2).2
theorem townB_size {t : Town} (h : townB t = true) : t.places.length ≤ 9 ∧ t.links.length ≤ 20 := by
 unfold townB sizeB at h
 simp only [Bool.and_eq_true, decide_eq_true_eq] at h
 have := inB_iff.1 h.1.1.1
 exact ⟨by omega, h.1.1.2⟩

set_option maxRecDepth 100000 in
set_option maxHeartbeats 8000000 in
theorem open_any (A : Option Addr) (n c : Nat) (A' : Option Addr) (m d : Nat) (t : Town) (x : Link) (w : World) (hn : n ≤ 1000) (hm : m ≤ 1000) (ht : TownAt w w.heap.size A n A' m t) (hL : Laid w) :
  Calls Tryz.prog 45 #[.agg #[.slice A n c, .slice A' m d], .agg #[.int .i64 x.id, .int .i64 x.fr, .int .i64 x.to, .int .i64 x.steps, .int .i64 x.paces]] w fun e w' => TownErr w e w' (openR t x) (openE t x) := by
 have HT := Lib.hid ht
 have HL := Lib.hid hL
 have hl0 := hL.2.2.2
 have hn1 : n ≤ maxLen := by unfold maxLen; omega
 have hm1 : m ≤ maxLen := by unfold maxLen; omega
 have hn2 : n * 8 ≤ 140737488355328 := by omega
 have hm2 : m * 40 ≤ 140737488355328 := by omega
 clear ht hL
 go_enter Tryz.func45, Tryz.ntmps45
 go_wp2_with fail
 have X0 := ((Blk.new w 25 #[.slice A n c, .slice A' m d]).alloc (.cells #[.int .i64 x.id, .int .i64 x.fr, .int .i64 x.to, .int .i64 x.steps, .int .i64 x.paces] 52)).alloc (.cells #[.slice none 0 0, .slice none 0 0] 25)
 have Y0 := (Blk.new (w.alloc (.cells #[.slice A n c, .slice A' m d] 25)) 52 #[.int .i64 x.id, .int .i64 x.fr, .int .i64 x.to, .int .i64 x.steps, .int .i64 x.paces]).alloc (.cells #[.slice none 0 0, .slice none 0 0] 25)
 have Z0 := Blk.new ((w.alloc (.cells #[.slice A n c, .slice A' m d] 25)).alloc (.cells #[.int .i64 x.id, .int .i64 x.fr, .int .i64 x.to, .int .i64 x.steps, .int .i64 x.paces] 52)) 25 #[.slice none 0 0, .slice none 0 0]
 have B0 : Below w.heap.size w (((w.alloc (.cells #[.slice A n c, .slice A' m d] 25)).alloc (.cells #[.int .i64 x.id, .int .i64 x.fr, .int .i64 x.to, .int .i64 x.steps, .int .i64 x.paces] 52)).alloc (.cells #[.slice none 0 0, .slice none 0 0] 25)) := (((Below.refl _ _).alloc (Nat.le_refl _) _).alloc (by simp) _).alloc (by simp; omega) _
 rw [World.size_alloc] at Y0
 rw [World.size_alloc, World.size_alloc] at Z0
 generalize (((w.alloc (.cells #[.slice A n c, .slice A' m d] 25)).alloc (.cells #[.int .i64 x.id, .int .i64 x.fr, .int .i64 x.to, .int .i64 x.steps, .int .i64 x.paces] 52)).alloc (.cells #[.slice none 0 0, .slice none 0 0] 25)) = w0 at *
 with_reducible refine (check_any A n c A' m d t w0 hn1 hm1 ((HT.out.below B0).more B0.size) (HL.out.below B0 hl0)).mono ?_
 rintro e w1 ⟨rfl, hb1⟩
 replace X0 := X0.below hb1 X0.lt
 replace Y0 := Y0.below hb1 Y0.lt
 replace Z0 := Z0.below hb1 Z0.lt
 replace B0 := B0.trans (hb1.mono B0.size)
 have x0 := X0.cell 0
 have x1 := X0.cell 1
 have y0 := Y0.cell 0
 have z0 := Z0.cell 0
 have z1 := Z0.cell 1
 have q0 := Z0.frozen 0
 have q1 := Z0.frozen 1
 clear hb1
 cases htb : townB t with
 | false =>
  have hc : chk t = 30 := by unfold chk; rw [htb]; rfl
  have HC := Lib.hid htb
  clear htb
  go_wp2_with fail
  have e1 : openR t x = noTown := by unfold openR; rw [HC.out]; rfl
  have e2 : openE t x = 30 := by unfold openE; rw [HC.out]; rfl
  rw [e1, e2]
  exact bodyPost_ret (v := .tuple #[.agg #[.slice none 0 0, .slice none 0 0], .int .i64 30]) (by simp [results, Tryz.results45, go_sem, z0, z1]) rfl (TownErr.none_ ((B0.setCell (p := ⟨w.heap.size + 1 + 1, 0, none⟩) (by show w.heap.size ≤ w.heap.size + 1 + 1; omega) _).setCell (p := ⟨w.heap.size + 1 + 1, 1, none⟩) (by show w.heap.size ≤ w.heap.size + 1 + 1; omega) _))
 | true =>
  have hc : chk t = 0 := by unfold chk; rw [htb]; rfl
  have hsz := townB_size htb
  have hl1 := HT.out.links.len
  have hm3 : m ≤ 100 := by omega
  have hlow : lowB t.links x.id ≤ m := by rw [← hl1]; exact lowB_le _ _
  have HS := Lib.hid (townB_links htb)
  have HC := Lib.hid htb
  have Hl1 := Lib.hid hl1
  clear htb z0 z1 q0 q1 hsz hl1
  go_wp2_with fail
  with_reducible refine (search_link A' m d t.links x.id w1 ((HT.out.links.below B0).more B0.size) hm HS.out).mono ?_
  rintro e w2 ⟨⟨fb, rfl⟩, hb2⟩
  replace X0 := X0.below hb2 X0.lt
  replace Y0 := Y0.below hb2 Y0.lt
  replace Z0 := Z0.below hb2 Z0.lt
  replace B0 := B0.trans (hb2.mono B0.size)
  clear x0 x1 y0 hb2
  go_wp2_with fail
  refine wp_region_steps (by kernel_rfl) (by kernel_rfl) (fun σ : OpenGh × (Nat → Value) => { tmps := #[.agg #[.slice A n c, .slice A' m d], .agg #[.int .i64 x.id, .int .i64 x.fr, .int .i64 x.to, .int .i64 x.steps, .int .i64 x.paces], .pointer (some ⟨w.heap.size, 0, none⟩), .pointer (some ⟨w.heap.size + 1, 0, none⟩), .pointer (some ⟨w.heap.size + 1 + 1, 0, none⟩), .int .i64 0, .int .i64 0, .int .i64 (lowB t.links x.id), .bool fb, .agg #[.slice A n c, .slice A' m d], .int .i64 0, .int .i64 0, .bool false, undef, undef, .tuple #[.int .i64 (lowB t.links x.id), .bool fb], .pointer (some ⟨w.heap.size, 1, none⟩), .slice A' m d, .pointer (some ⟨w.heap.size + 1, 0, none⟩), .int .i64 x.id, .tuple #[.int .i64 (lowB t.links x.id), .bool fb], .int .i64 (lowB t.links x.id), .bool fb, σ.2 23, σ.2 24, σ.2 25, σ.2 26, σ.2 27, σ.2 28, σ.2 29, σ.2 30, σ.2 31, σ.2 32, σ.2 33, undef, undef, undef, undef, undef], defers := [] })
   (fun L σ W => (Below w.heap.size w W) ∧ (L 11 = false → Blk W w.heap.size 25 #[.slice A n c, .slice A' m d]) ∧ (L 11 = true → Blk W w.heap.size 25 #[.slice σ.1.AP n σ.1.cP, .slice σ.1.AI (m + 1) σ.1.cI]) ∧ (Blk W (w.heap.size + 1) 52 #[.int .i64 x.id, .int .i64 x.fr, .int .i64 x.to, .int .i64 x.steps, .int .i64 x.paces]) ∧ (Blk W (w.heap.size + 1 + 1) 25 #[.slice none 0 0, .slice none 0 0]) ∧ (L 2 = true → Own W w.heap.size 3 1 σ.1.AP n σ.1.cP (t.places.map (Value.int .i64)) ∧ Above (w.heap.size + 2) σ.1.AP) ∧ (L 5 = true → L 9 = false → Own W w.heap.size 52 5 σ.1.AK m σ.1.cK (t.links.flatMap Link.vals) ∧ Above (w.heap.size + 2) σ.1.AK) ∧ (L 8 = true → L 9 = false → Blk W σ.1.g 52 #[.int .i64 x.id, .int .i64 x.fr, .int .i64 x.to, .int .i64 x.steps, .int .i64 x.paces] ∧ w.heap.size + 2 < σ.1.g) ∧ (L 9 = true → Own W w.heap.size 52 5 σ.1.AI (m + 1) σ.1.cI ((t.links.take (lowB t.links x.id) ++ x :: t.links.drop (lowB t.links x.id)).flatMap Link.vals) ∧ Above (w.heap.size + 2) σ.1.AI) ∧ (L 2 = true → L 5 = true → L 9 = false → Apart σ.1.AP σ.1.AK) ∧ (L 2 = true → L 9 = true → Apart σ.1.AP σ.1.AI) ∧ (L 5 = true → L 8 = true → L 9 = false → ∀ a, σ.1.AK = some a → σ.1.g ≠ a.block) ∧ (L 0 = true → σ.2 23 = .pointer (some ⟨w.heap.size, 0, none⟩)) ∧ (L 1 = true → σ.2 24 = .slice A n c) ∧ (L 2 = true → σ.2 25 = .slice σ.1.AP n σ.1.cP) ∧ (L 3 = true → σ.2 26 = .pointer (some ⟨w.heap.size, 1, none⟩)) ∧ (L 4 = true → σ.2 27 = .slice A' m d) ∧ (L 5 = true → σ.2 28 = .slice σ.1.AK m σ.1.cK) ∧ (L 6 = true → σ.2 29 = .int .i64 (lowB t.links x.id)) ∧ (L 7 = true → σ.2 30 = .agg #[.int .i64 x.id, .int .i64 x.fr, .int .i64 x.to, .int .i64 x.steps, .int .i64 x.paces]) ∧ (L 8 = true → σ.2 31 = .slice (some ⟨σ.1.g, 0, none⟩) 1 1) ∧ (L 9 = true → σ.2 32 = .slice σ.1.AI (m + 1) σ.1.cI) ∧ (L 10 = true → σ.2 33 = .agg #[.slice σ.1.AP n σ.1.cP, .slice σ.1.AI (m + 1) σ.1.cI]))
   (⟨none, 0, none, 0, none, 0, 0⟩, fun k => undef) rfl ?_ ?_ ?_
  ·exact ⟨B0.drew, fun _ => X0.drew, (fun h => by cases h), Y0.drew, Z0.drew, (fun h => by cases h), (fun h => by cases h), (fun h => by cases h), (fun h => by cases h), (fun h => by cases h), (fun h => by cases h), (fun h => by cases h), (fun h => by cases h), (fun h => by cases h), (fun h => by cases h), (fun h => by cases h), (fun h => by cases h), (fun h => by cases h), (fun h => by cases h), (fun h => by cases h), (fun h => by cases h), (fun h => by cases h), (fun h => by cases h)⟩
  ·refine ⟨?_, ?_, ?_, ?_, ?_, ?_, ?_, ?_, ?_, ?_, ?_, ?_, trivial⟩
   ·rintro L ⟨gh, s⟩ W hu hd hdn ⟨g1, g2, g3, g4, g5, gP, gK, gB, gI, dPK, dPI, dKB, f0, f1, f2, f3, f4, f5, f6, f7, f8, f9, f10⟩ K Q hK
    have HF := Lib.hid (And.intro g1 (And.intro g2 (And.intro g3 (And.intro g4 (And.intro g5 (And.intro gP (And.intro gK (And.intro gB (And.intro gI (And.intro dPK (And.intro dPI (And.intro dKB (And.intro f0 (And.intro f1 (And.intro f2 (And.intro f3 (And.intro f4 (And.intro f5 (And.intro f6 (And.intro f7 (And.intro f8 (And.intro f9 f10))))))))))))))))))))))
    clear f10 f9 f8 f7 f6 f5 f4 f3 f2 f1 f0 dKB dPI dPK gI gB gK gP g5 g4 g3 g2 g1 hd
    simp only
    go_wp2_with fail
    obtain ⟨g1, g2, g3, g4, g5, gP, gK, gB, gI, dPK, dPI, dKB, f0, f1, f2, f3, f4, f5, f6, f7, f8, f9, f10⟩ := HF.out
    exact hK (gh, (upd s 23 (.pointer (some ⟨w.heap.size, 0, none⟩)))) _ ⟨g1, g2, g3, g4, g5, gP, gK, gB, gI, dPK, dPI, dKB, (fun _ => rfl), f1, f2, f3, f4, f5, f6, f7, f8, f9, f10⟩
   ·rintro L ⟨gh, s⟩ W hu hd hdn ⟨g1, g2, g3, g4, g5, gP, gK, gB, gI, dPK, dPI, dKB, f0, f1, f2, f3, f4, f5, f6, f7, f8, f9, f10⟩ K Q hK
    have e0 := f0 (hd.at_ 0 rfl)
    have h11 : L 11 = false := by
     cases hc : L 11 with
     | false => rfl
     | true => exact hdn.no 11 1 hc rfl hu
    have c0 : W.cell? ⟨w.heap.size, 0, none⟩ = some (.slice A n c) := (g2 h11).cell 0
    have HF := Lib.hid (And.intro g1 (And.intro g2 (And.intro g3 (And.intro g4 (And.intro g5 (And.intro gP (And.intro gK (And.intro gB (And.intro gI (And.intro dPK (And.intro dPI (And.intro dKB (And.intro f0 (And.intro f1 (And.intro f2 (And.intro f3 (And.intro f4 (And.intro f5 (And.intro f6 (And.intro f7 (And.intro f8 (And.intro f9 f10))))))))))))))))))))))
    clear f10 f9 f8 f7 f6 f5 f4 f3 f2 f1 f0 dKB dPI dPK gI gB gK gP g5 g4 g3 g2 g1 hd
    simp only at e0 ⊢
    go_wp2_with fail
    obtain ⟨g1, g2, g3, g4, g5, gP, gK, gB, gI, dPK, dPI, dKB, f0, f1, f2, f3, f4, f5, f6, f7, f8, f9, f10⟩ := HF.out
    exact hK (gh, (upd (upd s 23 (.pointer (some ⟨w.heap.size, 0, none⟩))) 24 (.slice A n c))) _ ⟨g1, g2, g3, g4, g5, gP, gK, gB, gI, dPK, dPI, dKB, (fun _ => rfl), (fun _ => rfl), f2, f3, f4, f5, f6, f7, f8, f9, f10⟩
   ·rintro L ⟨gh, s⟩ W hu hd hdn ⟨g1, g2, g3, g4, g5, gP, gK, gB, gI, dPK, dPI, dKB, f0, f1, f2, f3, f4, f5, f6, f7, f8, f9, f10⟩ K Q hK
    have e1 := f1 (hd.at_ 1 rfl)
    have HI := Lib.hid ((HT.out.places.below g1).more g1.size)
    have HG1 := Lib.hid g1
    have hW := g5.lt
    have HF := Lib.hid (And.intro g1 (And.intro g2 (And.intro g3 (And.intro g4 (And.intro g5 (And.intro gP (And.intro gK (And.intro gB (And.intro gI (And.intro dPK (And.intro dPI (And.intro dKB (And.intro f0 (And.intro f1 (And.intro f2 (And.intro f3 (And.intro f4 (And.intro f5 (And.intro f6 (And.intro f7 (And.intro f8 (And.intro f9 f10))))))))))))))))))))))
    clear f10 f9 f8 f7 f6 f5 f4 f3 f2 f1 f0 dKB dPI dPK gI gB gK gP g5 g4 g3 g2 g1 hd
    simp only at e1 ⊢
    go_wp2_with fail
    with_reducible refine (clone_int A n c t.places W HI.out hn1 hn2).mono ?_
    rintro e W1 ⟨AP, cP, rfl, hP, -, hb⟩
    go_wp2_with fail
    obtain ⟨g1, g2, g3, g4, g5, gP, gK, gB, gI, dPK, dPI, dKB, f0, f1, f2, f3, f4, f5, f6, f7, f8, f9, f10⟩ := HF.out
    have hA : Above (w.heap.size + 2) AP := fun a ha => Nat.lt_of_lt_of_le hW (hP.lt ha).1
    exact hK ({ gh with AP := AP, cP := cP }, (upd (upd s 24 (.slice A n c)) 25 (.slice AP n cP))) _ ⟨(g1.trans (hb.mono g1.size)), (fun h => (g2 h).below hb (g2 h).lt), (fun h => hdn.no 11 2 h rfl hu), (g4.below hb g4.lt), (g5.below hb g5.lt), (fun _ => ⟨hP.mono g1.size, hA⟩), (fun h h2 => ⟨(gK h h2).1.below hb (Nat.le_refl _), (gK h h2).2⟩), (fun h h2 => ⟨(gB h h2).1.below hb (gB h h2).1.lt, (gB h h2).2⟩), (fun h => ⟨(gI h).1.below hb (Nat.le_refl _), (gI h).2⟩), (fun _ h5 h9 => (apart_new (gK h5 h9).1 hP (Nat.le_refl _)).symm), (fun _ h9 => (apart_new (gI h9).1 hP (Nat.le_refl _)).symm), dKB, f0, (fun _ => rfl), (fun _ => rfl), f3, f4, f5, f6, f7, f8, f9, (fun h => hdn.no 10 2 h rfl hu)⟩
   ·rintro L ⟨gh, s⟩ W hu hd hdn ⟨g1, g2, g3, g4, g5, gP, gK, gB, gI, dPK, dPI, dKB, f0, f1, f2, f3, f4, f5, f6, f7, f8, f9, f10⟩ K Q hK
    have HF := Lib.hid (And.intro g1 (And.intro g2 (And.intro g3 (And.intro g4 (And.intro g5 (And.intro gP (And.intro gK (And.intro gB (And.intro gI (And.intro dPK (And.intro dPI (And.intro dKB (And.intro f0 (And.intro f1 (And.intro f2 (And.intro f3 (And.intro f4 (And.intro f5 (And.intro f6 (And.intro f7 (And.intro f8 (And.intro f9 f10))))))))))))))))))))))
    clear f10 f9 f8 f7 f6 f5 f4 f3 f2 f1 f0 dKB dPI dPK gI gB gK gP g5 g4 g3 g2 g1 hd
    simp only
    go_wp2_with fail
    obtain ⟨g1, g2, g3, g4, g5, gP, gK, gB, gI, dPK, dPI, dKB, f0, f1, f2, f3, f4, f5, f6, f7, f8, f9, f10⟩ := HF.out
    exact hK (gh, (upd s 26 (.pointer (some ⟨w.heap.size, 1, none⟩)))) _ ⟨g1, g2, g3, g4, g5, gP, gK, gB, gI, dPK, dPI, dKB, f0, f1, f2, (fun _ => rfl), f4, f5, f6, f7, f8, f9, f10⟩
   ·rintro L ⟨gh, s⟩ W hu hd hdn ⟨g1, g2, g3, g4, g5, gP, gK, gB, gI, dPK, dPI, dKB, f0, f1, f2, f3, f4, f5, f6, f7, f8, f9, f10⟩ K Q hK
    have e3 := f3 (hd.at_ 3 rfl)
    have h11 : L 11 = false := by
     cases hc : L 11 with
     | false => rfl
     | true => exact hdn.no 11 4 hc rfl hu
    have c0 : W.cell? ⟨w.heap.size, 1, none⟩ = some (.slice A' m d) := (g2 h11).cell 1
    have HF := Lib.hid (And.intro g1 (And.intro g2 (And.intro g3 (And.intro g4 (And.intro g5 (And.intro gP (And.intro gK (And.intro gB (And.intro gI (And.intro dPK (And.intro dPI (And.intro dKB (And.intro f0 (And.intro f1 (And.intro f2 (And.intro f3 (And.intro f4 (And.intro f5 (And.intro f6 (And.intro f7 (And.intro f8 (And.intro f9 f10))))))))))))))))))))))
    clear f10 f9 f8 f7 f6 f5 f4 f3 f2 f1 f0 dKB dPI dPK gI gB gK gP g5 g4 g3 g2 g1 hd
    simp only at e3 ⊢
    go_wp2_with fail
    obtain ⟨g1, g2, g3, g4, g5, gP, gK, gB, gI, dPK, dPI, dKB, f0, f1, f2, f3, f4, f5, f6, f7, f8, f9, f10⟩ := HF.out
    exact hK (gh, (upd (upd s 26 (.pointer (some ⟨w.heap.size, 1, none⟩))) 27 (.slice A' m d))) _ ⟨g1, g2, g3, g4, g5, gP, gK, gB, gI, dPK, dPI, dKB, f0, f1, f2, (fun _ => rfl), (fun _ => rfl), f5, f6, f7, f8, f9, f10⟩
   ·rintro L ⟨gh, s⟩ W hu hd hdn ⟨g1, g2, g3, g4, g5, gP, gK, gB, gI, dPK, dPI, dKB, f0, f1, f2, f3, f4, f5, f6, f7, f8, f9, f10⟩ K Q hK
    have e4 := f4 (hd.at_ 4 rfl)
    have HI := Lib.hid ((HT.out.links.below g1).more g1.size)
    have HG1 := Lib.hid g1
    have hW := g5.lt
    have HF := Lib.hid (And.intro g1 (And.intro g2 (And.intro g3 (And.intro g4 (And.intro g5 (And.intro gP (And.intro gK (And.intro gB (And.intro gI (And.intro dPK (And.intro dPI (And.intro dKB (And.intro f0 (And.intro f1 (And.intro f2 (And.intro f3 (And.intro f4 (And.intro f5 (And.intro f6 (And.intro f7 (And.intro f8 (And.intro f9 f10))))))))))))))))))))))
    clear f10 f9 f8 f7 f6 f5 f4 f3 f2 f1 f0 dKB dPI dPK gI gB gK gP g5 g4 g3 g2 g1 hd
    simp only at e4 ⊢
    go_wp2_with fail
    with_reducible refine (clone_link A' m d t.links W HI.out hm1 hm2).mono ?_
    rintro e W1 ⟨AK, cK, rfl, hK2, -, hb⟩
    go_wp2_with fail
    obtain ⟨g1, g2, g3, g4, g5, gP, gK, gB, gI, dPK, dPI, dKB, f0, f1, f2, f3, f4, f5, f6, f7, f8, f9, f10⟩ := HF.out
    have hA : Above (w.heap.size + 2) AK := fun a ha => Nat.lt_of_lt_of_le hW (hK2.lt ha).1
    exact hK ({ gh with AK := AK, cK := cK }, (upd (upd s 27 (.slice A' m d)) 28 (.slice AK m cK))) _ ⟨(g1.trans (hb.mono g1.size)), (fun h => (g2 h).below hb (g2 h).lt), (fun h => (g3 h).below hb (g3 h).lt), (g4.below hb g4.lt), (g5.below hb g5.lt), (fun h => ⟨(gP h).1.below hb (Nat.le_refl _), (gP h).2⟩), (fun _ _ => ⟨hK2.mono g1.size, hA⟩), (fun h h2 => ⟨(gB h h2).1.below hb (gB h h2).1.lt, (gB h h2).2⟩), (fun h => ⟨(gI h).1.below hb (Nat.le_refl _), (gI h).2⟩), (fun h2 _ _ => apart_new (gP h2).1 hK2 (Nat.le_refl _)), dPI, (fun _ h8 h9 a ha => fun (e : gh.g = a.block) => by have h1 := (gB h8 h9).1.lt; have h2 := (hK2.lt ha).1; omega), f0, f1, f2, f3, (fun _ => rfl), (fun _ => rfl), f6, f7, f8, (fun h => hdn.no 9 5 h rfl hu), f10⟩
   ·rintro L ⟨gh, s⟩ W hu hd hdn ⟨g1, g2, g3, g4, g5, gP, gK, gB, gI, dPK, dPI, dKB, f0, f1, f2, f3, f4, f5, f6, f7, f8, f9, f10⟩ K Q hK
    have HF := Lib.hid (And.intro g1 (And.intro g2 (And.intro g3 (And.intro g4 (And.intro g5 (And.intro gP (And.intro gK (And.intro gB (And.intro gI (And.intro dPK (And.intro dPI (And.intro dKB (And.intro f0 (And.intro f1 (And.intro f2 (And.intro f3 (And.intro f4 (And.intro f5 (And.intro f6 (And.intro f7 (And.intro f8 (And.intro f9 f10))))))))))))))))))))))
    clear f10 f9 f8 f7 f6 f5 f4 f3 f2 f1 f0 dKB dPI dPK gI gB gK gP g5 g4 g3 g2 g1 hd
    simp only
    go_wp2_with fail
    obtain ⟨g1, g2, g3, g4, g5, gP, gK, gB, gI, dPK, dPI, dKB, f0, f1, f2, f3, f4, f5, f6, f7, f8, f9, f10⟩ := HF.out
    exact hK (gh, (upd s 29 (.int .i64 (lowB t.links x.id)))) _ ⟨g1, g2, g3, g4, g5, gP, gK, gB, gI, dPK, dPI, dKB, f0, f1, f2, f3, f4, f5, (fun _ => rfl), f7, f8, f9, f10⟩
   ·rintro L ⟨gh, s⟩ W hu hd hdn ⟨g1, g2, g3, g4, g5, gP, gK, gB, gI, dPK, dPI, dKB, f0, f1, f2, f3, f4, f5, f6, f7, f8, f9, f10⟩ K Q hK
    have c0 : W.cell? ⟨w.heap.size + 1, 0, none⟩ = some (.int .i64 x.id) := g4.cell 0
    have c1 : W.cell? ⟨w.heap.size + 1, 1, none⟩ = some (.int .i64 x.fr) := g4.cell 1
    have c2 : W.cell? ⟨w.heap.size + 1, 2, none⟩ = some (.int .i64 x.to) := g4.cell 2
    have c3 : W.cell? ⟨w.heap.size + 1, 3, none⟩ = some (.int .i64 x.steps) := g4.cell 3
    have c4 : W.cell? ⟨w.heap.size + 1, 4, none⟩ = some (.int .i64 x.paces) := g4.cell 4
    have HF := Lib.hid (And.intro g1 (And.intro g2 (And.intro g3 (And.intro g4 (And.intro g5 (And.intro gP (And.intro gK (And.intro gB (And.intro gI (And.intro dPK (And.intro dPI (And.intro dKB (And.intro f0 (And.intro f1 (And.intro f2 (And.intro f3 (And.intro f4 (And.intro f5 (And.intro f6 (And.intro f7 (And.intro f8 (And.intro f9 f10))))))))))))))))))))))
    clear f10 f9 f8 f7 f6 f5 f4 f3 f2 f1 f0 dKB dPI dPK gI gB gK gP g5 g4 g3 g2 g1 hd
    simp only
    go_wp2_with fail
    obtain ⟨g1, g2, g3, g4, g5, gP, gK, gB, gI, dPK, dPI, dKB, f0, f1, f2, f3, f4, f5, f6, f7, f8, f9, f10⟩ := HF.out
    exact hK (gh, (upd s 30 (.agg #[.int .i64 x.id, .int .i64 x.fr, .int .i64 x.to, .int .i64 x.steps, .int .i64 x.paces]))) _ ⟨g1, g2, g3, g4, g5, gP, gK, gB, gI, dPK, dPI, dKB, f0, f1, f2, f3, f4, f5, f6, (fun _ => rfl), f8, f9, f10⟩
   ·rintro L ⟨gh, s⟩ W hu hd hdn ⟨g1, g2, g3, g4, g5, gP, gK, gB, gI, dPK, dPI, dKB, f0, f1, f2, f3, f4, f5, f6, f7, f8, f9, f10⟩ K Q hK
    have e7 := f7 (hd.at_ 7 rfl)
    have hW := g5.lt
    have HF := Lib.hid (And.intro g1 (And.intro g2 (And.intro g3 (And.intro g4 (And.intro g5 (And.intro gP (And.intro gK (And.intro gB (And.intro gI (And.intro dPK (And.intro dPI (And.intro dKB (And.intro f0 (And.intro f1 (And.intro f2 (And.intro f3 (And.intro f4 (And.intro f5 (And.intro f6 (And.intro f7 (And.intro f8 (And.intro f9 f10))))))))))))))))))))))
    clear f10 f9 f8 f7 f6 f5 f4 f3 f2 f1 f0 dKB dPI dPK gI gB gK gP g5 g4 g3 g2 g1 hd
    simp only at e7 ⊢
    go_wp2_with fail
    obtain ⟨g1, g2, g3, g4, g5, gP, gK, gB, gI, dPK, dPI, dKB, f0, f1, f2, f3, f4, f5, f6, f7, f8, f9, f10⟩ := HF.out
    have hb : Below W.heap.size W (W.alloc (.cells #[.int .i64 x.id, .int .i64 x.fr, .int .i64 x.to, .int .i64 x.steps, .int .i64 x.paces] 52)) := (Below.refl _ _).alloc (Nat.le_refl _) _
    exact hK ({ gh with g := W.heap.size }, (upd (upd s 30 (.agg #[.int .i64 x.id, .int .i64 x.fr, .int .i64 x.to, .int .i64 x.steps, .int .i64 x.paces])) 31 (.slice (some ⟨W.heap.size, 0, none⟩) 1 1))) _ ⟨(g1.trans (hb.mono g1.size)), (fun h => (g2 h).below hb (g2 h).lt), (fun h => (g3 h).below hb (g3 h).lt), (g4.below hb g4.lt), (g5.below hb g5.lt), (fun h => ⟨(gP h).1.below hb (Nat.le_refl _), (gP h).2⟩), (fun h h2 => ⟨(gK h h2).1.below hb (Nat.le_refl _), (gK h h2).2⟩), (fun _ _ => ⟨Blk.new W _ _, hW⟩), (fun h => ⟨(gI h).1.below hb (Nat.le_refl _), (gI h).2⟩), dPK, dPI, (fun h5 _ h9 a ha => fun (e : W.heap.size = a.block) => by have h2 := ((gK h5 h9).1.lt ha).2; omega), f0, f1, f2, f3, f4, f5, f6, (fun _ => rfl), (fun _ => rfl), f9, f10⟩
   ·rintro L ⟨gh, s⟩ W hu hd hdn ⟨g1, g2, g3, g4, g5, gP, gK, gB, gI, dPK, dPI, dKB, f0, f1, f2, f3, f4, f5, f6, f7, f8, f9, f10⟩ K Q hK
    have e5 := f5 (hd.at_ 5 rfl)
    have e6 := f6 (hd.at_ 6 rfl)
    have e8 := f8 (hd.at_ 8 rfl)
    have HK := Lib.hid (gK (hd.at_ 5 rfl) hu)
    have HB := Lib.hid (gB (hd.at_ 8 rfl) hu)
    have HD := Lib.hid (dKB (hd.at_ 5 rfl) (hd.at_ 8 rfl) hu)
    have HG1 := Lib.hid g1
    have h5 : L 5 = true := hd.at_ 5 rfl
    have hW := g5.lt
    have HF := Lib.hid (And.intro g1 (And.intro g2 (And.intro g3 (And.intro g4 (And.intro g5 (And.intro gP (And.intro gK (And.intro gB (And.intro gI (And.intro dPK (And.intro dPI (And.intro dKB (And.intro f0 (And.intro f1 (And.intro f2 (And.intro f3 (And.intro f4 (And.intro f5 (And.intro f6 (And.intro f7 (And.intro f8 (And.intro f9 f10))))))))))))))))))))))
    clear f10 f9 f8 f7 f6 f5 f4 f3 f2 f1 f0 dKB dPI dPK gI gB gK gP g5 g4 g3 g2 g1 hd
    simp only at e5 e6 e8 ⊢
    go_wp2_with fail
    with_reducible refine (insert_link w.heap.size gh.AK m gh.cK (lowB t.links x.id) t.links gh.g x W HK.out.1 HG1.out.size hlow hm3 HB.out.1 HD.out).mono ?_
    rintro e W1 ⟨AI, cI, rfl, hI, hg, hA⟩
    go_wp2_with fail
    obtain ⟨g1, g2, g3, g4, g5, gP, gK, gB, gI, dPK, dPI, dKB, f0, f1, f2, f3, f4, f5, f6, f7, f8, f9, f10⟩ := HF.out
    have hKr : ∀ k, k ≤ w.heap.size + 2 → some k ≠ gh.AK.map (·.block) := fun k hk => above_ne HK.out.2 hk
    have hAI : Above (w.heap.size + 2) AI := fun a ha => by
     rcases hA with h | h
     ·rw [h] at ha; exact HK.out.2 a ha
     ·rw [h] at ha; cases ha; exact hW
    have hdPI : L 2 = true → Apart gh.AP AI := fun h2 => by
     rcases hA with h | h
     ·rw [h]; exact dPK h2 h5 hu
     ·rw [h]; intro a b ha hb; cases hb; have := ((gP h2).1.lt ha).2; exact fun e => by simp at e; omega
    exact hK ({ gh with AI := AI, cI := cI }, (upd (upd (upd (upd s 28 (.slice gh.AK m gh.cK)) 29 (.int .i64 (lowB t.links x.id))) 31 (.slice (some ⟨gh.g, 0, none⟩) 1 1)) 32 (.slice AI (m + 1) cI))) _ ⟨(g1.grown hg g1.size (fun k hk => by have := above_row HK.out.2 hk; omega)), (fun h => (g2 h).grown hg (hKr _ (by omega))), (fun h => hdn.no 11 9 h rfl hu), (g4.grown hg (hKr _ (by omega))), (g5.grown hg (hKr _ (by omega))), (fun h => ⟨(gP h).1.grown hg (fun a ha => row_ne (dPK h h5 hu) ha), (gP h).2⟩), (fun _ h9 => by cases h9), (fun _ h9 => by cases h9), (fun _ => ⟨hI, hAI⟩), (fun _ _ h9 => by cases h9), (fun h2 _ => hdPI h2), (fun _ _ h9 => by cases h9), f0, f1, f2, f3, f4, (fun _ => rfl), (fun _ => rfl), f7, (fun _ => rfl), (fun _ => rfl), (fun h => hdn.no 10 9 h rfl hu)⟩
   ·rintro L ⟨gh, s⟩ W hu hd hdn ⟨g1, g2, g3, g4, g5, gP, gK, gB, gI, dPK, dPI, dKB, f0, f1, f2, f3, f4, f5, f6, f7, f8, f9, f10⟩ K Q hK
    have e2 := f2 (hd.at_ 2 rfl)
    have e9 := f9 (hd.at_ 9 rfl)
    have HF := Lib.hid (And.intro g1 (And.intro g2 (And.intro g3 (And.intro g4 (And.intro g5 (And.intro gP (And.intro gK (And.intro gB (And.intro gI (And.intro dPK (And.intro dPI (And.intro dKB (And.intro f0 (And.intro f1 (And.intro f2 (And.intro f3 (And.intro f4 (And.intro f5 (And.intro f6 (And.intro f7 (And.intro f8 (And.intro f9 f10))))))))))))))))))))))
    clear f10 f9 f8 f7 f6 f5 f4 f3 f2 f1 f0 dKB dPI dPK gI gB gK gP g5 g4 g3 g2 g1 hd
    simp only at e2 e9 ⊢
    go_wp2_with fail
    obtain ⟨g1, g2, g3, g4, g5, gP, gK, gB, gI, dPK, dPI, dKB, f0, f1, f2, f3, f4, f5, f6, f7, f8, f9, f10⟩ := HF.out
    exact hK (gh, (upd (upd (upd s 25 (.slice gh.AP n gh.cP)) 32 (.slice gh.AI (m + 1) gh.cI)) 33 (.agg #[.slice gh.AP n gh.cP, .slice gh.AI (m + 1) gh.cI]))) _ ⟨g1, g2, g3, g4, g5, gP, gK, gB, gI, dPK, dPI, dKB, f0, f1, (fun _ => rfl), f3, f4, f5, f6, f7, f8, (fun _ => rfl), (fun _ => rfl)⟩
   ·rintro L ⟨gh, s⟩ W hu hd hdn ⟨g1, g2, g3, g4, g5, gP, gK, gB, gI, dPK, dPI, dKB, f0, f1, f2, f3, f4, f5, f6, f7, f8, f9, f10⟩ K Q hK
    have e10 := f10 (hd.at_ 10 rfl)
    have h1 : L 1 = true := hd.at_ 1 rfl
    have h4 : L 4 = true := hd.at_ 4 rfl
    have G2 := g2 hu
    have c0 : W.cell? ⟨w.heap.size, 0, none⟩ = some (.slice A n c) := G2.cell 0
    have c1 : W.cell? ⟨w.heap.size, 1, none⟩ = some (.slice A' m d) := G2.cell 1
    have y0 : W.frozen? ⟨w.heap.size, 0, none⟩ = false := G2.frozen 0
    have y1 : W.frozen? ⟨w.heap.size, 1, none⟩ = false := G2.frozen 1
    have HG2 := Lib.hid G2
    clear G2
    have HF := Lib.hid (And.intro g1 (And.intro g2 (And.intro g3 (And.intro g4 (And.intro g5 (And.intro gP (And.intro gK (And.intro gB (And.intro gI (And.intro dPK (And.intro dPI (And.intro dKB (And.intro f0 (And.intro f1 (And.intro f2 (And.intro f3 (And.intro f4 (And.intro f5 (And.intro f6 (And.intro f7 (And.intro f8 (And.intro f9 f10))))))))))))))))))))))
    clear f10 f9 f8 f7 f6 f5 f4 f3 f2 f1 f0 dKB dPI dPK gI gB gK gP g5 g4 g3 g2 g1 hd
    simp only at e10 ⊢
    go_wp2_with fail
    obtain ⟨g1, g2, g3, g4, g5, gP, gK, gB, gI, dPK, dPI, dKB, f0, f1, f2, f3, f4, f5, f6, f7, f8, f9, f10⟩ := HF.out
    have hg : W.grownBy ((W.setCell ⟨w.heap.size, 0, none⟩ (.slice gh.AP n gh.cP)).setCell ⟨w.heap.size, 1, none⟩ (.slice gh.AI (m + 1) gh.cI)) (some w.heap.size) := grown_setCell (grown_setCell (grown_refl _ _) (p := ⟨w.heap.size, 0, none⟩) (.inl rfl) _) (p := ⟨w.heap.size, 1, none⟩) (.inl rfl) _
    exact hK (gh, (upd s 33 (.agg #[.slice gh.AP n gh.cP, .slice gh.AI (m + 1) gh.cI]))) _ ⟨((g1.setCell (p := ⟨w.heap.size, 0, none⟩) (Nat.le_refl _) _).setCell (p := ⟨w.heap.size, 1, none⟩) (Nat.le_refl _) _), (fun h => by cases h), (fun _ => (HG2.out.set_ 0 (.slice gh.AP n gh.cP)).set_ 1 (.slice gh.AI (m + 1) gh.cI)), (g4.grown hg (by intro e; have := Option.some.inj e; omega)), (g5.grown hg (by intro e; have := Option.some.inj e; omega)), (fun h => ⟨(gP h).1.grown hg (fun a ha => by have := (gP h).2 a ha; simp; omega), (gP h).2⟩), (fun h h9 => ⟨(gK h h9).1.grown hg (fun a ha => by have := (gK h h9).2 a ha; simp; omega), (gK h h9).2⟩), (fun h h9 => ⟨(gB h h9).1.grown hg (by have := (gB h h9).2; simp; omega), (gB h h9).2⟩), (fun h => ⟨(gI h).1.grown hg (fun a ha => by have := (gI h).2 a ha; simp; omega), (gI h).2⟩), dPK, dPI, dKB, f0, f1, f2, f3, f4, f5, f6, f7, f8, f9, (fun _ => rfl)⟩
  ·rintro L ⟨gh, s⟩ W hall ⟨g1, g2, g3, g4, g5, gP, gK, gB, gI, dPK, dPI, dKB, f0, f1, f2, f3, f4, f5, f6, f7, f8, f9, f10⟩
   have G3 := g3 (hall 11 (by decide))
   have GP := gP (hall 2 (by decide))
   have GI := gI (hall 9 (by decide))
   have DPI := Lib.hid (dPI (hall 2 (by decide)) (hall 9 (by decide)))
   have ht2 : TownAt W W.heap.size gh.AP n gh.AI (m + 1) (openT t x) := ⟨ints_of_own GP.1 (Nat.le_refl _), links_of_own GI.1 (Nat.le_refl _)⟩
   have HT2 := Lib.hid ht2
   have Hl3 : Hid (t.places.length = n) := HT.out.places.len
   have Hl2 : Hid ((openT t x).links.length = m + 1) := HT2.out.links.len
   have HGP := Lib.hid GP
   have HGI := Lib.hid GI
   have HG3 := Lib.hid G3
   have HG5 := Lib.hid g5
   have HG1 := Lib.hid g1
   have hm4 : m + 1 ≤ maxLen := by unfold maxLen; omega
   have x0 := G3.cell 0
   have x1 := G3.cell 1
   clear hall g1 g2 g3 g4 g5 gP gK gB gI dPK dPI dKB f0 f1 f2 f3 f4 f5 f6 f7 f8 f9 f10 G3 GP GI ht2
   simp only
   go_wp2_with fail
   with_reducible refine (check_any gh.AP n gh.cP gh.AI (m + 1) gh.cI (openT t x) W hn1 hm4 HT2.out (HL.out.below HG1.out hl0)).mono ?_
   rintro e W3 ⟨rfl, hb3⟩
   have Z3 := HG5.out.below hb3 HG5.out.lt
   have X3 := HG3.out.below hb3 HG3.out.lt
   have B3 := HG1.out.trans (hb3.mono HG1.out.size)
   have z0 := Z3.cell 0
   have z1 := Z3.cell 1
   have q0 := Z3.frozen 0
   have q1 := Z3.frozen 1
   cases hto : townB (openT t x) with
   | false =>
    have hc2 : chk (openT t x) = 30 := by unfold chk; rw [hto]; rfl
    have HC2 := Lib.hid hto
    clear hto x0 x1
    go_wp2_with fail
    have e1 : openR t x = noTown := by unfold openR; rw [HC2.out]; simp
    have e2 : openE t x = 34 := by unfold openE; rw [HC.out, HC2.out]; rfl
    rw [e1, e2]
    exact bodyPost_ret (v := .tuple #[.agg #[.slice none 0 0, .slice none 0 0], .int .i64 34]) (by simp [results, Tryz.results45, go_sem, z0, z1]) rfl (TownErr.none_ ((B3.setCell (p := ⟨w.heap.size + 1 + 1, 0, none⟩) (by show w.heap.size ≤ w.heap.size + 1 + 1; omega) _).setCell (p := ⟨w.heap.size + 1 + 1, 1, none⟩) (by show w.heap.size ≤ w.heap.size + 1 + 1; omega) _))
   | true =>
    have hc2 : chk (openT t x) = 0 := by unfold chk; rw [hto]; rfl
    have HC2 := Lib.hid hto
    have x2 := X3.cell 0
    have x3 := X3.cell 1
    clear hto x0 x1
    go_wp2_with fail
    have e1 : openR t x = openT t x := by unfold openR; rw [HC.out, HC2.out]; rfl
    have e2 : openE t x = 0 := by unfold openE; rw [HC.out, HC2.out]; rfl
    rw [e1, e2]
    refine bodyPost_ret (v := .tuple #[.agg #[.slice gh.AP n gh.cP, .slice gh.AI (m + 1) gh.cI], .int .i64 0]) (by simp [results, Tryz.results45, go_sem, z0, z1]) rfl ?_
    have hgr := grown_setCell (grown_setCell (grown_of_below hb3 (some (w.heap.size + 1 + 1))) (p := ⟨w.heap.size + 1 + 1, 0, none⟩) (.inl rfl) (.slice gh.AP n gh.cP)) (p := ⟨w.heap.size + 1 + 1, 1, none⟩) (.inl rfl) (.slice gh.AI (m + 1) gh.cI)
    have o1 := HGP.out.1.grown hgr (fun a ha => by have := HGP.out.2 a ha; simp; omega)
    have o2 := HGI.out.1.grown hgr (fun a ha => by have := HGI.out.2 a ha; simp; omega)
    refine ⟨gh.AP, gh.cP, gh.AI, gh.cI, ?_, ?_, ?_, DPI.out, (B3.setCell (p := ⟨w.heap.size + 1 + 1, 0, none⟩) (by show w.heap.size ≤ w.heap.size + 1 + 1; omega) _).setCell (p := ⟨w.heap.size + 1 + 1, 1, none⟩) (by show w.heap.size ≤ w.heap.size + 1 + 1; omega) _⟩
    ·rw [Hl2.out, show (openT t x).places.length = n from Hl3.out]
    ·rw [show (openT t x).places.length = n from Hl3.out]; exact o1
    ·rw [Hl2.out]; exact o2
end Go.Proofs.YtahkjagjcogeiaaGreatDoor
/- Towns with more links, and with less; donkeys: plain Lean. -/
namespace Go.Proofs.YtahkjagjcogeiaaGreatDoor

section
variable {t t' : Town} {u v : Int} {dk dk' : Bool} {l k : List Int} {g g' : Gone} {p : Price} {c d : Cost}
theorem mem_ids {x : Link} (hx : x ∈ t.links) : memI (idsOf t.links) x.id = true := by
 rw [memI_iff]
 unfold idsOf
 exact List.mem_map.2 ⟨x, hx, rfl⟩
theorem close_one {x : Link} (hb : townB t = true) (hx : x ∈ t.links) : closeE t [x.id] = 0 ∧ closeT t [x.id] = lessT t (fun y => memI [x.id] y.id) := by
 have h1 : closeB t 0 [x.id] = true := by
  unfold closeB
  have h2 : 0 < x.id := by
   have h3 := hb
   unfold townB at h3
   simp only [Bool.and_eq_true] at h3
   exact ((linksB_spec h3.2).1 x hx).1
  rw [mem_ids hx]
  simp [h2, closeB]
 unfold closeE closeT
 rw [hb, h1]
 exact ⟨rfl, rfl⟩
end
end Go.Proofs.YtahkjagjcogeiaaGreatDoor
/- A link closed and opened again; the dearest link to close: plain Lean. -/
namespace Go.Proofs.YtahkjagjcogeiaaGreatDoor

section
variable {t t' : Town} {u v : Int} {dk dk' : Bool} {l k : List Int} {p : Price} {c d : Cost}
theorem only_mem (t : Town) (id : Int) : lessT t (ofOnly id) = lessT t (fun y => memI [id] y.id) := by
 unfold lessT
 congr 1
 apply List.filter_congr
 intro y _
 have : ofOnly id y = memI [id] y.id := by rw [Bool.eq_iff_iff]; simp [ofOnly, memI]
 rw [this]
theorem links_at {ls : List Link} {x : Link} (hp : ls.Pairwise fun x y => x.id < y.id) (hx : x ∈ ls) : ∃ l1 l2, ls = l1 ++ x :: l2 ∧ (∀ y ∈ l1, y.id < x.id) ∧ ∀ y ∈ l2, x.id < y.id := by
 obtain ⟨l1, l2, rfl⟩ := List.append_of_mem hx
 rw [List.pairwise_append, List.pairwise_cons] at hp
 exact ⟨l1, l2, rfl, fun y hy => hp.2.2 y hy x (by simp), hp.2.1.1⟩
theorem less_at {x : Link} {l1 l2 : List Link} (h : t.links = l1 ++ x :: l2) (h1 : ∀ y ∈ l1, y.id < x.id) (h2 : ∀ y ∈ l2, x.id < y.id) : (lessT t (fun y => memI [x.id] y.id)).links = l1 ++ l2 := by
 unfold lessT
 simp only
 rw [h, List.filter_append]
 have e1 : l1.filter (fun y => !memI [x.id] y.id) = l1 := List.filter_eq_self.2 (fun y hy => by have := h1 y hy; simp [memI]; omega)
 have e2 : (x :: l2).filter (fun y => !memI [x.id] y.id) = l2 := by
  rw [List.filter_cons_of_neg (by simp [memI])]
  exact List.filter_eq_self.2 (fun y hy => by have := h2 y hy; simp [memI]; omega)
 rw [e1, e2]
theorem back_same {x : Link} (hb : townB t = true) (hx : x ∈ t.links) : openE (lessT t (fun y => memI [x.id] y.id)) x = 0 ∧ openR (lessT t (fun y => memI [x.id] y.id)) x = t := by
 obtain ⟨l1, l2, h, h1, h2⟩ := links_at (townB_links hb) hx
 have hl := less_at h h1 h2
 have hlow : lowB (l1 ++ l2) x.id = l1.length := by
  refine lowB_of (by simp) (fun y hy => ?_) (fun y hy => ?_)
  ·rw [List.take_left'] at hy
   ·exact h1 y hy
   ·rfl
  ·rw [List.getElem?_append_right (Nat.le_refl _)] at hy
   have := h2 y (List.mem_of_getElem? hy)
   omega
 have ho : openT (lessT t (fun y => memI [x.id] y.id)) x = t := by
  unfold openT
  rw [hl, hlow]
  have e : (l1 ++ l2).take l1.length ++ x :: (l1 ++ l2).drop l1.length = t.links := by simp [h]
  rw [e]
  rfl
 have hlb := townB_less (p := fun y => memI [x.id] y.id) hb
 unfold openE openR
 rw [if_pos hlb, ho, if_pos hb, hlb, hb]
 exact ⟨rfl, rfl⟩

/-- What is told of the links so far. -/
structure WorstOk (t : Town) (u v : Int) (dk : Bool) (pre : List Int) (s : Int × Int × Int) : Prop where
 none_ : s.1 = 0 → ∀ id ∈ pre, best (lessT t (ofOnly id)) dk freeP u v = none
 mem : s.1 ≠ 0 → s.1 ∈ pre ∧ ∃ q, best (lessT t (ofOnly s.1)) dk freeP u v = some q ∧ q.1.b = s.2.1 ∧ q.1.c = s.2.2
 most : s.1 ≠ 0 → ∀ id ∈ pre, ∀ q, best (lessT t (ofOnly id)) dk freeP u v = some q → lessP s.2.1 s.2.2 q.1.b q.1.c = false ∧ (q.1.b = s.2.1 ∧ q.1.c = s.2.2 → s.1 ≤ id)
theorem lessP_trans {a b c d e f : Int} (h1 : lessP a b c d = true) (h2 : lessP a b e f = false) : lessP c d e f = false ∧ ¬ (e = c ∧ f = d) := by
 simp only [lessP, Bool.or_eq_true, decide_eq_true_eq, Bool.and_eq_true, beq_iff_eq, Bool.or_eq_false_iff, decide_eq_false_iff_not, Bool.and_eq_false_iff, beq_eq_false_iff_ne] at *
 omega
theorem lessP_self (a b : Int) : lessP a b a b = false := by simp [lessP]
theorem worst_step {pre : List Int} {s : Int × Int × Int} {id : Int} (h : WorstOk t u v dk pre s) (h0 : id ≠ 0) (hlt : ∀ x ∈ pre, x < id) : WorstOk t u v dk (pre ++ [id]) (worstStep t u v dk s id) := by
 unfold worstStep
 cases hb : best (lessT t (ofOnly id)) dk freeP u v with
 | none =>
  refine ⟨fun hs x hx => ?_, fun hs => ⟨by simp [(h.mem hs).1], (h.mem hs).2⟩, fun hs x hx q hq => ?_⟩
  ·rcases List.mem_append.1 hx with hx | hx
   ·exact h.none_ hs x hx
   ·rw [List.mem_singleton.1 hx]; exact hb
  ·rcases List.mem_append.1 hx with hx | hx
   ·exact h.most hs x hx q hq
   ·rw [List.mem_singleton.1 hx, hb] at hq; cases hq
 | some q0 =>
  simp only
  by_cases hs : s.1 = 0
  ·rw [if_pos hs]
   refine ⟨fun e => absurd e h0, fun _ => ⟨by simp, q0, hb, rfl, rfl⟩, fun _ x hx q hq => ?_⟩
   rcases List.mem_append.1 hx with hx | hx
   ·rw [h.none_ hs x hx] at hq; cases hq
   ·rw [List.mem_singleton.1 hx] at hq ⊢
    rw [hb] at hq
    cases hq
    exact ⟨lessP_self _ _, fun _ => Int.le_refl _⟩
  ·rw [if_neg hs]
   cases hl : lessP s.2.1 s.2.2 q0.1.b q0.1.c with
   | true =>
    rw [if_pos rfl]
    refine ⟨fun e => absurd e h0, fun _ => ⟨by simp, q0, hb, rfl, rfl⟩, fun _ x hx q hq => ?_⟩
    rcases List.mem_append.1 hx with hx | hx
    ·have := lessP_trans hl (h.most hs x hx q hq).1
     exact ⟨this.1, fun e => absurd e this.2⟩
    ·rw [List.mem_singleton.1 hx] at hq ⊢
     rw [hb] at hq
     cases hq
     exact ⟨lessP_self _ _, fun _ => Int.le_refl _⟩
   | false =>
    rw [if_neg (by simp)]
    refine ⟨fun e => absurd e hs, fun _ => ⟨by simp [(h.mem hs).1], (h.mem hs).2⟩, fun _ x hx q hq => ?_⟩
    rcases List.mem_append.1 hx with hx | hx
    ·exact h.most hs x hx q hq
    ·rw [List.mem_singleton.1 hx] at hq ⊢
     rw [hb] at hq
     cases hq
     refine ⟨hl, fun _ => ?_⟩
     have := hlt s.1 (h.mem hs).1
     omega
theorem worst_all : ∀ (l pre : List Int) (s : Int × Int × Int), WorstOk t u v dk pre s → (∀ x ∈ l, x ≠ 0) → (pre ++ l).Pairwise (· < ·) → WorstOk t u v dk (pre ++ l) (l.foldl (worstStep t u v dk) s)
 | [], pre, s, h, _, _ => by simpa using h
 | x :: l, pre, s, h, h0, hp => by
  rw [List.foldl_cons]
  have h1 : WorstOk t u v dk (pre ++ [x]) (worstStep t u v dk s x) := worst_step h (h0 x (by simp)) (fun y hy => (List.pairwise_append.1 hp).2.2 y hy x (by simp))
  have := worst_all l (pre ++ [x]) _ h1 (fun y hy => h0 y (by simp [hy])) (by simpa using hp)
  simpa using this
theorem worst_ok (hb : townB t = true) : WorstOk t u v dk (idsOf t.links) (worstF t u v dk (idsOf t.links)) := by
 have h3 := hb
 unfold townB at h3
 simp only [Bool.and_eq_true] at h3
 have hs := linksB_spec h3.2
 have := worst_all (t := t) (u := u) (v := v) (dk := dk) (idsOf t.links) [] (0, 0, 0) ⟨fun _ x hx => by simp at hx, fun h => absurd rfl h, fun h => absurd rfl h⟩
  (fun x hx => by
   obtain ⟨y, hy, rfl⟩ := List.mem_map.1 hx
   have := (hs.1 y hy).1
   omega)
  (by
   rw [List.nil_append]
   unfold idsOf
   rw [List.pairwise_map]
   exact hs.2)
 unfold worstF
 simpa using this
theorem linkI_pos {k : Int} (h : ∃ y ∈ t.links, y.id = k) : 0 ≤ linkI t.links k := by
 unfold linkI idxL
 obtain ⟨y, hy, rfl⟩ := h
 rw [if_pos (List.any_eq_true.2 ⟨y, hy, by simp⟩)]
 omega
/-- The law, without one link. -/
theorem worst_law {x : Link} (hb : townB t = true) (hx : x ∈ t.links) (ha : askE t [u, v] = 0) :
  (worstV t u v dk = (0, 0, 0, 6) ∧ wayE (lessT t (fun y => memI [x.id] y.id)) u v dk = 6) ∨
  ∃ (k a b : Int), worstV t u v dk = (k, a, b, 0) ∧ (∃ y ∈ t.links, y.id = k) ∧ wayE (lessT t (fun y => memI [k] y.id)) u v dk = 0 ∧ wayT (lessT t (fun y => memI [k] y.id)) u v dk = (a, b) ∧
   (wayE (lessT t (fun y => memI [x.id] y.id)) u v dk = 0 → lessP a b (wayT (lessT t (fun y => memI [x.id] y.id)) u v dk).1 (wayT (lessT t (fun y => memI [x.id] y.id)) u v dk).2 = false ∧ (wayT (lessT t (fun y => memI [x.id] y.id)) u v dk = (a, b) → k ≤ x.id)) := by
 have h := worst_ok (u := u) (v := v) (dk := dk) hb
 obtain ⟨⟨k, a, b⟩, hs⟩ : ∃ s, worstF t u v dk (idsOf t.links) = s := ⟨_, rfl⟩
 rw [hs] at h
 have hax : ∀ id, askE (lessT t (fun y => memI [id] y.id)) [u, v] = 0 := fun id => askE_less ha
 have hxi : x.id ∈ idsOf t.links := List.mem_map.2 ⟨x, hx, rfl⟩
 by_cases h0 : k = 0
 ·subst h0
  have hn := h.none_ rfl x.id hxi
  rw [only_mem] at hn
  left
  obtain ⟨rfl, rfl⟩ := worst_ids (goodT hb) hs
  exact ⟨worstV_zero ha hs, (way_none (hax _) hn).1⟩
 ·obtain ⟨hk, q, hq, hqb, hqc⟩ := h.mem h0
  rw [only_mem] at hq
  have hw := way_some (hax k) hq
  refine .inr ⟨k, a, b, worstV_some ha hs h0, ?_, hw.1, by rw [hw.2.2, hqb, hqc], fun he => ?_⟩
  ·obtain ⟨y, hy, e⟩ := List.mem_map.1 hk
   exact ⟨y, hy, e⟩
  ·cases hb' : best (lessT t (fun y => memI [x.id] y.id)) dk freeP u v with
   | none => rw [(way_none (hax _) hb').1] at he; cases he
   | some q' =>
    have hw' := way_some (hax x.id) hb'
    have := h.most h0 x.id hxi q' (by rw [only_mem]; exact hb')
    rw [hw'.2.2]
    refine ⟨this.1, fun e => this.2 ?_⟩
    have e1 := congrArg Prod.fst e
    have e2 := congrArg Prod.snd e
    exact ⟨e1, e2⟩
end
end Go.Proofs.YtahkjagjcogeiaaGreatDoor
/- The answer's Twin. -/
namespace Go.Proofs.YtahkjagjcogeiaaGreatDoor
open Go.RowKit

structure TwinGh where
 g0 : Nat
 A1 : Option Addr
 c1 : Nat
 g4 : Nat
 A2 : Option Addr
 c2 : Nat

set_option maxRecDepth 100000 in
set_option maxHeartbeats 8000000 in
theorem twin_any (A : Option Addr) (n c : Nat) (A' : Option Addr) (m d : Nat) (t : Town) (w : World) (hn : n ≤ 1000) (hm : m ≤ 1000) (ht : TownAt w w.heap.size A n A' m t) :
  Calls Tryz.prog 71 #[.agg #[.slice A n c, .slice A' m d]] w fun e w' => TownOut w e w' t := by
 have HT := Lib.hid ht
 have HLn := Lib.hid ht.places.len
 have HLm := Lib.hid ht.links.len
 have hn1 : n ≤ maxLen := by unfold maxLen; omega
 have hm1 : m ≤ maxLen := by unfold maxLen; omega
 have hn2 : n * 8 ≤ 140737488355328 := by omega
 have hm2 : m * 40 ≤ 140737488355328 := by omega
 clear ht
 go_enter Tryz.func71, Tryz.ntmps71
 go_wp2_with fail
 have X0 := (Blk.new w 25 #[.slice A n c, .slice A' m d]).alloc (.cells #[.slice none 0 0, .slice none 0 0] 25)
 have Z0 := Blk.new (w.alloc (.cells #[.slice A n c, .slice A' m d] 25)) 25 #[.slice none 0 0, .slice none 0 0]
 have B0 : Below w.heap.size w ((w.alloc (.cells #[.slice A n c, .slice A' m d] 25)).alloc (.cells #[.slice none 0 0, .slice none 0 0] 25)) := ((Below.refl _ _).alloc (Nat.le_refl _) _).alloc (by simp) _
 rw [World.size_alloc] at Z0
 generalize ((w.alloc (.cells #[.slice A n c, .slice A' m d] 25)).alloc (.cells #[.slice none 0 0, .slice none 0 0] 25)) = w0 at *
 refine wp_region_steps (by kernel_rfl) (by kernel_rfl) (fun σ : TwinGh × (Nat → Value) => { tmps := #[.agg #[.slice A n c, .slice A' m d], .pointer (some ⟨w.heap.size, 0, none⟩), .pointer (some ⟨w.heap.size + 1, 0, none⟩), σ.2 3, σ.2 4, σ.2 5, σ.2 6, σ.2 7, σ.2 8, σ.2 9, σ.2 10, σ.2 11], defers := [] })
  (fun L σ W => (Below w.heap.size w W) ∧ (Blk W w.heap.size 25 #[.slice A n c, .slice A' m d]) ∧ (L 9 = false → Blk W (w.heap.size + 1) 25 #[.slice none 0 0, .slice none 0 0]) ∧ (L 9 = true → Blk W (w.heap.size + 1) 25 #[.slice σ.1.A1 n σ.1.c1, .slice σ.1.A2 m σ.1.c2]) ∧ (L 0 = true → L 3 = false → Blk W σ.1.g0 3 #[] ∧ w.heap.size + 1 < σ.1.g0) ∧ (L 4 = true → L 7 = false → Blk W σ.1.g4 52 #[] ∧ w.heap.size + 1 < σ.1.g4) ∧ (L 3 = true → Own W w.heap.size 3 1 σ.1.A1 n σ.1.c1 (t.places.map (Value.int .i64)) ∧ Above (w.heap.size + 1) σ.1.A1) ∧ (L 7 = true → Own W w.heap.size 52 5 σ.1.A2 m σ.1.c2 (t.links.flatMap Link.vals) ∧ Above (w.heap.size + 1) σ.1.A2) ∧ (L 3 = true → L 7 = true → Apart σ.1.A1 σ.1.A2) ∧ (L 3 = true → L 4 = true → L 7 = false → ∀ a, σ.1.A1 = some a → a.block ≠ σ.1.g4) ∧ (L 0 = true → L 7 = true → L 3 = false → ∀ a, σ.1.A2 = some a → a.block ≠ σ.1.g0) ∧ (L 0 = true → L 4 = true → L 3 = false → L 7 = false → σ.1.g0 ≠ σ.1.g4) ∧ (L 0 = true → σ.2 3 = .slice (some ⟨σ.1.g0, 0, none⟩) 0 0) ∧ (L 1 = true → σ.2 4 = .pointer (some ⟨w.heap.size, 0, none⟩)) ∧ (L 2 = true → σ.2 5 = .slice A n c) ∧ (L 3 = true → σ.2 6 = .slice σ.1.A1 n σ.1.c1) ∧ (L 4 = true → σ.2 7 = .slice (some ⟨σ.1.g4, 0, none⟩) 0 0) ∧ (L 5 = true → σ.2 8 = .pointer (some ⟨w.heap.size, 1, none⟩)) ∧ (L 6 = true → σ.2 9 = .slice A' m d) ∧ (L 7 = true → σ.2 10 = .slice σ.1.A2 m σ.1.c2) ∧ (L 8 = true → σ.2 11 = .agg #[.slice σ.1.A1 n σ.1.c1, .slice σ.1.A2 m σ.1.c2]))
  (⟨0, none, 0, 0, none, 0⟩, fun k => undef) rfl ?_ ?_ ?_
 ·exact ⟨B0.drew, X0.drew, fun _ => Z0.drew, (fun h => by cases h), (fun h => by cases h), (fun h => by cases h), (fun h => by cases h), (fun h => by cases h), (fun h => by cases h), (fun h => by cases h), (fun h => by cases h), (fun h => by cases h), (fun h => by cases h), (fun h => by cases h), (fun h => by cases h), (fun h => by cases h), (fun h => by cases h), (fun h => by cases h), (fun h => by cases h), (fun h => by cases h), (fun h => by cases h)⟩
 ·refine ⟨?_, ?_, ?_, ?_, ?_, ?_, ?_, ?_, ?_, ?_, trivial⟩
  ·rintro L ⟨gh, s⟩ W hu hd hdn ⟨g1, g2, gZ, gR, gE, gF, g3, g7, d37, d34, d07, d04, f0, f1, f2, f3, f4, f5, f6, f7, f8⟩ K Q hK
   try dsimp only at g1 g2 gZ gR gE gF g3 g7 d37 d34 d07 d04 f0 f1 f2 f3 f4 f5 f6 f7 f8 ⊢
   have h9 : L 9 = false := by
    cases hc : L 9 with
    | false => rfl
    | true => exact hdn.no 9 0 hc rfl hu
   have hW := (gZ h9).lt
   have HF := Lib.hid (And.intro g1 (And.intro g2 (And.intro gZ (And.intro gR (And.intro gE (And.intro gF (And.intro g3 (And.intro g7 (And.intro d37 (And.intro d34 (And.intro d07 (And.intro d04 (And.intro f0 (And.intro f1 (And.intro f2 (And.intro f3 (And.intro f4 (And.intro f5 (And.intro f6 (And.intro f7 f8))))))))))))))))))))
   clear f8 f7 f6 f5 f4 f3 f2 f1 f0 d04 d07 d34 d37 g7 g3 gF gE gR gZ g2 g1 hd
   try simp only
   go_wp2_with fail
   obtain ⟨g1, g2, gZ, gR, gE, gF, g3, g7, d37, d34, d07, d04, f0, f1, f2, f3, f4, f5, f6, f7, f8⟩ := HF.out
   have hb : Below W.heap.size W (W.alloc (.cells #[] 3)) := (Below.refl _ _).alloc (Nat.le_refl _) _
   exact hK ({ gh with g0 := W.heap.size }, (upd s 3 (.slice (some ⟨W.heap.size, 0, none⟩) 0 0))) _ ⟨(g1.trans (hb.mono g1.size)), (g2.below hb g2.lt), (fun h => (gZ h).below hb (gZ h).lt), (fun h => (gR h).below hb (gR h).lt), (fun _ _ => ⟨Blk.new W _ _, hW⟩), (fun h h3 => ⟨(gF h h3).1.below hb (gF h h3).1.lt, (gF h h3).2⟩), (fun h => ⟨(g3 h).1.below hb (Nat.le_refl _), (g3 h).2⟩), (fun h => ⟨(g7 h).1.below hb (Nat.le_refl _), (g7 h).2⟩), d37, d34, (fun _ h7 _ a ha => fun (e : a.block = W.heap.size) => by have := ((g7 h7).1.lt ha).2; omega), (fun _ h4 _ h7 => fun (e : W.heap.size = gh.g4) => by have := (gF h4 h7).1.lt; omega), (fun _ => rfl), f1, f2, f3, f4, f5, f6, f7, f8⟩
  ·rintro L ⟨gh, s⟩ W hu hd hdn ⟨g1, g2, gZ, gR, gE, gF, g3, g7, d37, d34, d07, d04, f0, f1, f2, f3, f4, f5, f6, f7, f8⟩ K Q hK
   try dsimp only at g1 g2 gZ gR gE gF g3 g7 d37 d34 d07 d04 f0 f1 f2 f3 f4 f5 f6 f7 f8 ⊢
   have HF := Lib.hid (And.intro g1 (And.intro g2 (And.intro gZ (And.intro gR (And.intro gE (And.intro gF (And.intro g3 (And.intro g7 (And.intro d37 (And.intro d34 (And.intro d07 (And.intro d04 (And.intro f0 (And.intro f1 (And.intro f2 (And.intro f3 (And.intro f4 (And.intro f5 (And.intro f6 (And.intro f7 f8))))))))))))))))))))
   clear f8 f7 f6 f5 f4 f3 f2 f1 f0 d04 d07 d34 d37 g7 g3 gF gE gR gZ g2 g1 hd
   try simp only
   go_wp2_with fail
   obtain ⟨g1, g2, gZ, gR, gE, gF, g3, g7, d37, d34, d07, d04, f0, f1, f2, f3, f4, f5, f6, f7, f8⟩ := HF.out
   exact hK (gh, (upd s 4 (.pointer (some ⟨w.heap.size, 0, none⟩)))) _ ⟨g1, g2, gZ, gR, gE, gF, g3, g7, d37, d34, d07, d04, f0, (fun _ => rfl), f2, f3, f4, f5, f6, f7, f8⟩
  ·rintro L ⟨gh, s⟩ W hu hd hdn ⟨g1, g2, gZ, gR, gE, gF, g3, g7, d37, d34, d07, d04, f0, f1, f2, f3, f4, f5, f6, f7, f8⟩ K Q hK
   try dsimp only at g1 g2 gZ gR gE gF g3 g7 d37 d34 d07 d04 f0 f1 f2 f3 f4 f5 f6 f7 f8 ⊢
   have e1 := f1 (hd.at_ 1 rfl)
   have c0 : W.cell? ⟨w.heap.size, 0, none⟩ = some (.slice A n c) := g2.cell 0
   have HF := Lib.hid (And.intro g1 (And.intro g2 (And.intro gZ (And.intro gR (And.intro gE (And.intro gF (And.intro g3 (And.intro g7 (And.intro d37 (And.intro d34 (And.intro d07 (And.intro d04 (And.intro f0 (And.intro f1 (And.intro f2 (And.intro f3 (And.intro f4 (And.intro f5 (And.intro f6 (And.intro f7 f8))))))))))))))))))))
   clear f8 f7 f6 f5 f4 f3 f2 f1 f0 d04 d07 d34 d37 g7 g3 gF gE gR gZ g2 g1 hd
   try simp only at e1 ⊢
   go_wp2_with fail
   obtain ⟨g1, g2, gZ, gR, gE, gF, g3, g7, d37, d34, d07, d04, f0, f1, f2, f3, f4, f5, f6, f7, f8⟩ := HF.out
   exact hK (gh, (upd (upd s 4 (.pointer (some ⟨w.heap.size, 0, none⟩))) 5 (.slice A n c))) _ ⟨g1, g2, gZ, gR, gE, gF, g3, g7, d37, d34, d07, d04, f0, (fun _ => rfl), (fun _ => rfl), f3, f4, f5, f6, f7, f8⟩
  ·rintro L ⟨gh, s⟩ W hu hd hdn ⟨g1, g2, gZ, gR, gE, gF, g3, g7, d37, d34, d07, d04, f0, f1, f2, f3, f4, f5, f6, f7, f8⟩ K Q hK
   try dsimp only at g1 g2 gZ gR gE gF g3 g7 d37 d34 d07 d04 f0 f1 f2 f3 f4 f5 f6 f7 f8 ⊢
   have e0 := f0 (hd.at_ 0 rfl)
   have e2 := f2 (hd.at_ 2 rfl)
   have h9 : L 9 = false := by
    cases hc : L 9 with
    | false => rfl
    | true => exact hdn.no 9 3 hc rfl hu
   have HE := Lib.hid (gE (hd.at_ 0 rfl) hu)
   have HI := Lib.hid ((HT.out.places.below g1).more g1.size)
   have HO : Hid (Own W w.heap.size 3 1 (some ⟨gh.g0, 0, none⟩) 0 0 []) := Own.mk_ (by have := HE.out.2; omega) HE.out.1 (Nat.le_refl _) (Nat.zero_le _) rfl rfl (fun k hk => by omega)
   have HG1 := Lib.hid g1
   have h0 : L 0 = true := hd.at_ 0 rfl
   have hW := (gZ h9).lt
   have HF := Lib.hid (And.intro g1 (And.intro g2 (And.intro gZ (And.intro gR (And.intro gE (And.intro gF (And.intro g3 (And.intro g7 (And.intro d37 (And.intro d34 (And.intro d07 (And.intro d04 (And.intro f0 (And.intro f1 (And.intro f2 (And.intro f3 (And.intro f4 (And.intro f5 (And.intro f6 (And.intro f7 f8))))))))))))))))))))
   clear f8 f7 f6 f5 f4 f3 f2 f1 f0 d04 d07 d34 d37 g7 g3 gF gE gR gZ g2 g1 hd
   try simp only at e0 e2 ⊢
   go_wp2_with (at_builtin; refine wpList_append_any _ rfl _ _ rfl elem_int e0 HO.out e2 HI.out (ints_one _) (by simpa using hn1) (by simpa using hn2) HG1.out.size ?_)
   rintro A1 c1 W1 hown hg hA
   have hg : W.grownBy W1 (some gh.g0) := hg
   go_wp2_with fail
   obtain ⟨g1, g2, gZ, gR, gE, gF, g3, g7, d37, d34, d07, d04, f0, f1, f2, f3, f4, f5, f6, f7, f8⟩ := HF.out
   have hg0 := HE.out.2
   have hA1 : Above (w.heap.size + 1) A1 := fun a ha => by
    rcases hA with h | h
    ·rw [h] at ha; cases ha; exact hg0
    ·rw [h] at ha; cases ha; exact hW
   exact hK ({ gh with A1 := A1, c1 := c1 }, (upd (upd (upd s 3 (.slice (some ⟨gh.g0, 0, none⟩) 0 0)) 5 (.slice A n c)) 6 (.slice A1 n c1))) _ ⟨(g1.grown hg g1.size (fun k hk => by cases hk; omega)), (g2.grown hg (by intro e; have := Option.some.inj e; omega)), (fun h => (gZ h).grown hg (by intro e; have := Option.some.inj e; omega)), (fun h => hdn.no 9 3 h rfl hu), (fun _ h => by cases h), (fun h h7 => ⟨(gF h h7).1.grown hg (by intro e; have := Option.some.inj e; exact d04 h0 h hu h7 this.symm), (gF h h7).2⟩), (fun _ => ⟨hown, hA1⟩), (fun h => ⟨(g7 h).1.grown hg (fun a ha => by intro e; exact d07 h0 h hu a ha (Option.some.inj e)), (g7 h).2⟩), (fun _ h7 => fun a b ha hb => by
         rcases hA with h | h
         ·rw [h] at ha; cases ha; exact (d07 h0 h7 hu b hb).symm
         ·rw [h] at ha; cases ha; exact fun e => by have := ((g7 h7).1.lt hb).2; simp at e; omega), (fun _ h4 h7 a ha => by
         rcases hA with h | h
         ·rw [h] at ha; cases ha; exact d04 h0 h4 hu h7
         ·rw [h] at ha; cases ha; exact fun e => by have := (gF h4 h7).1.lt; simp at e; omega), (fun _ _ h => by cases h), (fun _ _ h => by cases h), (fun _ => rfl), f1, (fun _ => rfl), (fun _ => rfl), f4, f5, f6, f7, (fun h => hdn.no 8 3 h rfl hu)⟩
  ·rintro L ⟨gh, s⟩ W hu hd hdn ⟨g1, g2, gZ, gR, gE, gF, g3, g7, d37, d34, d07, d04, f0, f1, f2, f3, f4, f5, f6, f7, f8⟩ K Q hK
   try dsimp only at g1 g2 gZ gR gE gF g3 g7 d37 d34 d07 d04 f0 f1 f2 f3 f4 f5 f6 f7 f8 ⊢
   have h9 : L 9 = false := by
    cases hc : L 9 with
    | false => rfl
    | true => exact hdn.no 9 4 hc rfl hu
   have hW := (gZ h9).lt
   have HF := Lib.hid (And.intro g1 (And.intro g2 (And.intro gZ (And.intro gR (And.intro gE (And.intro gF (And.intro g3 (And.intro g7 (And.intro d37 (And.intro d34 (And.intro d07 (And.intro d04 (And.intro f0 (And.intro f1 (And.intro f2 (And.intro f3 (And.intro f4 (And.intro f5 (And.intro f6 (And.intro f7 f8))))))))))))))))))))
   clear f8 f7 f6 f5 f4 f3 f2 f1 f0 d04 d07 d34 d37 g7 g3 gF gE gR gZ g2 g1 hd
   try simp only
   go_wp2_with fail
   obtain ⟨g1, g2, gZ, gR, gE, gF, g3, g7, d37, d34, d07, d04, f0, f1, f2, f3, f4, f5, f6, f7, f8⟩ := HF.out
   have hb : Below W.heap.size W (W.alloc (.cells #[] 52)) := (Below.refl _ _).alloc (Nat.le_refl _) _
   exact hK ({ gh with g4 := W.heap.size }, (upd s 7 (.slice (some ⟨W.heap.size, 0, none⟩) 0 0))) _ ⟨(g1.trans (hb.mono g1.size)), (g2.below hb g2.lt), (fun h => (gZ h).below hb (gZ h).lt), (fun h => (gR h).below hb (gR h).lt), (fun h h3 => ⟨(gE h h3).1.below hb (gE h h3).1.lt, (gE h h3).2⟩), (fun _ _ => ⟨Blk.new W _ _, hW⟩), (fun h => ⟨(g3 h).1.below hb (Nat.le_refl _), (g3 h).2⟩), (fun h => ⟨(g7 h).1.below hb (Nat.le_refl _), (g7 h).2⟩), d37, (fun h3 _ _ a ha => fun (e : a.block = W.heap.size) => by have := ((g3 h3).1.lt ha).2; omega), d07, (fun h0 _ h3 _ => fun (e : gh.g0 = W.heap.size) => by have := (gE h0 h3).1.lt; omega), f0, f1, f2, f3, (fun _ => rfl), f5, f6, f7, f8⟩
  ·rintro L ⟨gh, s⟩ W hu hd hdn ⟨g1, g2, gZ, gR, gE, gF, g3, g7, d37, d34, d07, d04, f0, f1, f2, f3, f4, f5, f6, f7, f8⟩ K Q hK
   try dsimp only at g1 g2 gZ gR gE gF g3 g7 d37 d34 d07 d04 f0 f1 f2 f3 f4 f5 f6 f7 f8 ⊢
   have HF := Lib.hid (And.intro g1 (And.intro g2 (And.intro gZ (And.intro gR (And.intro gE (And.intro gF (And.intro g3 (And.intro g7 (And.intro d37 (And.intro d34 (And.intro d07 (And.intro d04 (And.intro f0 (And.intro f1 (And.intro f2 (And.intro f3 (And.intro f4 (And.intro f5 (And.intro f6 (And.intro f7 f8))))))))))))))))))))
   clear f8 f7 f6 f5 f4 f3 f2 f1 f0 d04 d07 d34 d37 g7 g3 gF gE gR gZ g2 g1 hd
   try simp only
   go_wp2_with fail
   obtain ⟨g1, g2, gZ, gR, gE, gF, g3, g7, d37, d34, d07, d04, f0, f1, f2, f3, f4, f5, f6, f7, f8⟩ := HF.out
   exact hK (gh, (upd s 8 (.pointer (some ⟨w.heap.size, 1, none⟩)))) _ ⟨g1, g2, gZ, gR, gE, gF, g3, g7, d37, d34, d07, d04, f0, f1, f2, f3, f4, (fun _ => rfl), f6, f7, f8⟩
  ·rintro L ⟨gh, s⟩ W hu hd hdn ⟨g1, g2, gZ, gR, gE, gF, g3, g7, d37, d34, d07, d04, f0, f1, f2, f3, f4, f5, f6, f7, f8⟩ K Q hK
   try dsimp only at g1 g2 gZ gR gE gF g3 g7 d37 d34 d07 d04 f0 f1 f2 f3 f4 f5 f6 f7 f8 ⊢
   have e5 := f5 (hd.at_ 5 rfl)
   have c0 : W.cell? ⟨w.heap.size, 1, none⟩ = some (.slice A' m d) := g2.cell 1
   have HF := Lib.hid (And.intro g1 (And.intro g2 (And.intro gZ (And.intro gR (And.intro gE (And.intro gF (And.intro g3 (And.intro g7 (And.intro d37 (And.intro d34 (And.intro d07 (And.intro d04 (And.intro f0 (And.intro f1 (And.intro f2 (And.intro f3 (And.intro f4 (And.intro f5 (And.intro f6 (And.intro f7 f8))))))))))))))))))))
   clear f8 f7 f6 f5 f4 f3 f2 f1 f0 d04 d07 d34 d37 g7 g3 gF gE gR gZ g2 g1 hd
   try simp only at e5 ⊢
   go_wp2_with fail
   obtain ⟨g1, g2, gZ, gR, gE, gF, g3, g7, d37, d34, d07, d04, f0, f1, f2, f3, f4, f5, f6, f7, f8⟩ := HF.out
   exact hK (gh, (upd (upd s 8 (.pointer (some ⟨w.heap.size, 1, none⟩))) 9 (.slice A' m d))) _ ⟨g1, g2, gZ, gR, gE, gF, g3, g7, d37, d34, d07, d04, f0, f1, f2, f3, f4, (fun _ => rfl), (fun _ => rfl), f7, f8⟩
  ·rintro L ⟨gh, s⟩ W hu hd hdn ⟨g1, g2, gZ, gR, gE, gF, g3, g7, d37, d34, d07, d04, f0, f1, f2, f3, f4, f5, f6, f7, f8⟩ K Q hK
   try dsimp only at g1 g2 gZ gR gE gF g3 g7 d37 d34 d07 d04 f0 f1 f2 f3 f4 f5 f6 f7 f8 ⊢
   have e4 := f4 (hd.at_ 4 rfl)
   have e6 := f6 (hd.at_ 6 rfl)
   have h9 : L 9 = false := by
    cases hc : L 9 with
    | false => rfl
    | true => exact hdn.no 9 7 hc rfl hu
   have HE := Lib.hid (gF (hd.at_ 4 rfl) hu)
   have HI := Lib.hid ((HT.out.links.below g1).more g1.size)
   have HO : Hid (Own W w.heap.size 52 5 (some ⟨gh.g4, 0, none⟩) 0 0 []) := Own.mk_ (by have := HE.out.2; omega) HE.out.1 (Nat.le_refl _) (Nat.zero_le _) rfl rfl (fun k hk => by omega)
   have HG1 := Lib.hid g1
   have h4 : L 4 = true := hd.at_ 4 rfl
   have hW := (gZ h9).lt
   have HF := Lib.hid (And.intro g1 (And.intro g2 (And.intro gZ (And.intro gR (And.intro gE (And.intro gF (And.intro g3 (And.intro g7 (And.intro d37 (And.intro d34 (And.intro d07 (And.intro d04 (And.intro f0 (And.intro f1 (And.intro f2 (And.intro f3 (And.intro f4 (And.intro f5 (And.intro f6 (And.intro f7 f8))))))))))))))))))))
   clear f8 f7 f6 f5 f4 f3 f2 f1 f0 d04 d07 d34 d37 g7 g3 gF gE gR gZ g2 g1 hd
   try simp only at e4 e6 ⊢
   go_wp2_with (at_builtin; refine wpList_append_any _ rfl _ _ rfl elem_link e4 HO.out e6 HI.out (links_one _) (by simpa using hm1) (by simpa using hm2) HG1.out.size ?_)
   rintro A2 c2 W1 hown hg hA
   have hg : W.grownBy W1 (some gh.g4) := hg
   go_wp2_with fail
   obtain ⟨g1, g2, gZ, gR, gE, gF, g3, g7, d37, d34, d07, d04, f0, f1, f2, f3, f4, f5, f6, f7, f8⟩ := HF.out
   have hg0 := HE.out.2
   have hA2 : Above (w.heap.size + 1) A2 := fun a ha => by
    rcases hA with h | h
    ·rw [h] at ha; cases ha; exact hg0
    ·rw [h] at ha; cases ha; exact hW
   exact hK ({ gh with A2 := A2, c2 := c2 }, (upd (upd (upd s 7 (.slice (some ⟨gh.g4, 0, none⟩) 0 0)) 9 (.slice A' m d)) 10 (.slice A2 m c2))) _ ⟨(g1.grown hg g1.size (fun k hk => by cases hk; omega)), (g2.grown hg (by intro e; have := Option.some.inj e; omega)), (fun h => (gZ h).grown hg (by intro e; have := Option.some.inj e; omega)), (fun h => hdn.no 9 7 h rfl hu), (fun h h3 => ⟨(gE h h3).1.grown hg (by intro e; have := Option.some.inj e; exact d04 h h4 h3 hu this), (gE h h3).2⟩), (fun _ h => by cases h), (fun h => ⟨(g3 h).1.grown hg (fun a ha => by intro e; exact d34 h h4 hu a ha (Option.some.inj e)), (g3 h).2⟩), (fun _ => ⟨hown, hA2⟩), (fun h3 _ => fun a b ha hb => by
         rcases hA with h | h
         ·rw [h] at hb; cases hb; exact d34 h3 h4 hu a ha
         ·rw [h] at hb; cases hb; exact fun e => by have := ((g3 h3).1.lt ha).2; simp at e; omega), (fun _ _ h => by cases h), (fun h0 _ h3 a ha => by
         rcases hA with h | h
         ·rw [h] at ha; cases ha; exact (d04 h0 h4 h3 hu).symm
         ·rw [h] at ha; cases ha; exact fun e => by have := (gE h0 h3).1.lt; simp at e; omega), (fun _ _ _ h => by cases h), f0, f1, f2, f3, (fun _ => rfl), f5, (fun _ => rfl), (fun _ => rfl), (fun h => hdn.no 8 7 h rfl hu)⟩
  ·rintro L ⟨gh, s⟩ W hu hd hdn ⟨g1, g2, gZ, gR, gE, gF, g3, g7, d37, d34, d07, d04, f0, f1, f2, f3, f4, f5, f6, f7, f8⟩ K Q hK
   try dsimp only at g1 g2 gZ gR gE gF g3 g7 d37 d34 d07 d04 f0 f1 f2 f3 f4 f5 f6 f7 f8 ⊢
   have e3 := f3 (hd.at_ 3 rfl)
   have e7 := f7 (hd.at_ 7 rfl)
   have HF := Lib.hid (And.intro g1 (And.intro g2 (And.intro gZ (And.intro gR (And.intro gE (And.intro gF (And.intro g3 (And.intro g7 (And.intro d37 (And.intro d34 (And.intro d07 (And.intro d04 (And.intro f0 (And.intro f1 (And.intro f2 (And.intro f3 (And.intro f4 (And.intro f5 (And.intro f6 (And.intro f7 f8))))))))))))))))))))
   clear f8 f7 f6 f5 f4 f3 f2 f1 f0 d04 d07 d34 d37 g7 g3 gF gE gR gZ g2 g1 hd
   try simp only at e3 e7 ⊢
   go_wp2_with fail
   obtain ⟨g1, g2, gZ, gR, gE, gF, g3, g7, d37, d34, d07, d04, f0, f1, f2, f3, f4, f5, f6, f7, f8⟩ := HF.out
   exact hK (gh, (upd (upd (upd s 6 (.slice gh.A1 n gh.c1)) 10 (.slice gh.A2 m gh.c2)) 11 (.agg #[.slice gh.A1 n gh.c1, .slice gh.A2 m gh.c2]))) _ ⟨g1, g2, gZ, gR, gE, gF, g3, g7, d37, d34, d07, d04, f0, f1, f2, (fun _ => rfl), f4, f5, f6, (fun _ => rfl), (fun _ => rfl)⟩
  ·rintro L ⟨gh, s⟩ W hu hd hdn ⟨g1, g2, gZ, gR, gE, gF, g3, g7, d37, d34, d07, d04, f0, f1, f2, f3, f4, f5, f6, f7, f8⟩ K Q hK
   try dsimp only at g1 g2 gZ gR gE gF g3 g7 d37 d34 d07 d04 f0 f1 f2 f3 f4 f5 f6 f7 f8 ⊢
   have e8 := f8 (hd.at_ 8 rfl)
   have G2 := gZ hu
   have c0 : W.cell? ⟨w.heap.size + 1, 0, none⟩ = some (.slice none 0 0) := G2.cell 0
   have c1 : W.cell? ⟨w.heap.size + 1, 1, none⟩ = some (.slice none 0 0) := G2.cell 1
   have y0 : W.frozen? ⟨w.heap.size + 1, 0, none⟩ = false := G2.frozen 0
   have y1 : W.frozen? ⟨w.heap.size + 1, 1, none⟩ = false := G2.frozen 1
   have HG2 := Lib.hid G2
   clear G2
   have HF := Lib.hid (And.intro g1 (And.intro g2 (And.intro gZ (And.intro gR (And.intro gE (And.intro gF (And.intro g3 (And.intro g7 (And.intro d37 (And.intro d34 (And.intro d07 (And.intro d04 (And.intro f0 (And.intro f1 (And.intro f2 (And.intro f3 (And.intro f4 (And.intro f5 (And.intro f6 (And.intro f7 f8))))))))))))))))))))
   clear f8 f7 f6 f5 f4 f3 f2 f1 f0 d04 d07 d34 d37 g7 g3 gF gE gR gZ g2 g1 hd
   try simp only at e8 ⊢
   go_wp2_with fail
   obtain ⟨g1, g2, gZ, gR, gE, gF, g3, g7, d37, d34, d07, d04, f0, f1, f2, f3, f4, f5, f6, f7, f8⟩ := HF.out
   have hg : W.grownBy ((W.setCell ⟨w.heap.size + 1, 0, none⟩ (.slice gh.A1 n gh.c1)).setCell ⟨w.heap.size + 1, 1, none⟩ (.slice gh.A2 m gh.c2)) (some (w.heap.size + 1)) := grown_setCell (grown_setCell (grown_refl _ _) (p := ⟨w.heap.size + 1, 0, none⟩) (.inl rfl) _) (p := ⟨w.heap.size + 1, 1, none⟩) (.inl rfl) _
   exact hK (gh, (upd s 11 (.agg #[.slice gh.A1 n gh.c1, .slice gh.A2 m gh.c2]))) _ ⟨(g1.grown hg g1.size (fun k hk => by cases hk; omega)), (g2.grown hg (by intro e; have := Option.some.inj e; omega)), (fun h => by cases h), (fun _ => (HG2.out.set_ 0 (.slice gh.A1 n gh.c1)).set_ 1 (.slice gh.A2 m gh.c2)), (fun h h3 => ⟨(gE h h3).1.grown hg (by have := (gE h h3).2; intro e; have := Option.some.inj e; omega), (gE h h3).2⟩), (fun h h3 => ⟨(gF h h3).1.grown hg (by have := (gF h h3).2; intro e; have := Option.some.inj e; omega), (gF h h3).2⟩), (fun h => ⟨(g3 h).1.grown hg (fun a ha => by have := (g3 h).2 a ha; intro e; have := Option.some.inj e; omega), (g3 h).2⟩), (fun h => ⟨(g7 h).1.grown hg (fun a ha => by have := (g7 h).2 a ha; intro e; have := Option.some.inj e; omega), (g7 h).2⟩), d37, d34, d07, d04, f0, f1, f2, f3, f4, f5, f6, f7, (fun _ => rfl)⟩
 ·rintro L ⟨gh, s⟩ W hall ⟨g1, g2, gZ, gR, gE, gF, g3, g7, d37, d34, d07, d04, f0, f1, f2, f3, f4, f5, f6, f7, f8⟩
  have G := gR (hall 9 (by decide))
  have G3 := g3 (hall 3 (by decide))
  have G7 := g7 (hall 7 (by decide))
  have DD := Lib.hid (d37 (hall 3 (by decide)) (hall 7 (by decide)))
  have z0 := G.cell 0
  have z1 := G.cell 1
  have HG3 := Lib.hid G3
  have HG7 := Lib.hid G7
  have HG1 := Lib.hid g1
  clear hall g1 g2 gZ gR gE gF g3 g7 d37 d34 d07 d04 f0 f1 f2 f3 f4 f5 f6 f7 f8 G G3 G7
  simp only
  go_wp2_with fail
  refine bodyPost_ret (v := .agg #[.slice gh.A1 n gh.c1, .slice gh.A2 m gh.c2]) (by simp [results, Tryz.results71, go_sem, z0, z1]) rfl ?_
  refine ⟨gh.A1, gh.c1, gh.A2, gh.c2, ?_, ?_, ?_, DD.out, HG1.out⟩
  ·rw [HLn.out, HLm.out]
  ·rw [HLn.out]; exact HG3.out.1
  ·rw [HLm.out]; exact HG7.out.1

end Go.Proofs.YtahkjagjcogeiaaGreatDoor
/- The answer's Without. -/
namespace Go.Proofs.YtahkjagjcogeiaaGreatDoor
open Go.RowKit

theorem memI_snoc {l : List Int} {k : Nat} {y x : Int} (hy : l[k]? = some y) : memI (l.take (k + 1)) x = (memI (l.take k) x || (y == x)) := by
 obtain ⟨hk, rfl⟩ := List.getElem?_eq_some_iff.1 hy
 rw [List.take_succ_eq_append_getElem hk]
 unfold memI
 rw [Bool.eq_iff_iff]
 simp only [List.contains_iff_mem, Bool.or_eq_true, List.mem_append, List.mem_singleton, beq_iff_eq]
 constructor
 ·rintro (h | h)
  ·exact .inl h
  ·exact .inr h.symm
 ·rintro (h | h)
  ·exact .inl h
  ·exact .inr h.symm

/-- Between two rounds of Without: the places, and k links kept. -/
structure WoAt (w : World) (G : Nat) (t : Town) (n : Nat) (p : Link → Bool) (i : Nat) (wr : World) (AP : Option Addr) (cP : Nat) (AK : Option Addr) (cK : Nat) : Prop where
 box : Blk wr G 25 #[.slice AP n cP, .slice AK ((t.links.take i).filter fun x => !p x).length cK]
 places : Own wr w.heap.size 3 1 AP n cP (t.places.map (Value.int .i64))
 links : Own wr w.heap.size 52 5 AK ((t.links.take i).filter fun x => !p x).length cK (((t.links.take i).filter fun x => !p x).flatMap Link.vals)
 apart : Apart AP AK
 boxP : ∀ a, AP = some a → a.block ≠ G
 boxK : ∀ a, AK = some a → a.block ≠ G
 upP : Above (w.heap.size + 1) AP
 upK : Above (w.heap.size + 1) AK
 bel : Below w.heap.size w wr
 zbox : Blk wr (w.heap.size + 1) 25 #[.slice none 0 0, .slice none 0 0]
 hG : w.heap.size + 1 < G

section
variable {w : World} {G : Nat} {t : Town} {n : Nat} {p : Link → Bool} {i : Nat} {wr w' : World} {AP : Option Addr} {cP : Nat} {AK : Option Addr} {cK : Nat} {x : Link}
theorem WoAt.below (h : WoAt w G t n p i wr AP cP AK cK) (hb : Below wr.heap.size wr w') : WoAt w G t n p i w' AP cP AK cK :=
 ⟨h.box.below hb h.box.lt, h.places.below hb (Nat.le_refl _), h.links.below hb (Nat.le_refl _), h.apart, h.boxP, h.boxK, h.upP, h.upK, h.bel.trans (hb.mono h.bel.size), h.zbox.below hb h.zbox.lt, h.hG⟩
theorem WoAt.skip (h : WoAt w G t n p i wr AP cP AK cK) (hx : t.links[i]? = some x) (hp : p x = true) : WoAt w G t n p (i + 1) wr AP cP AK cK := by
 obtain ⟨hj, rfl⟩ := List.getElem?_eq_some_iff.1 hx
 have e1 : ((t.links.take (i + 1)).filter fun x => !p x) = (t.links.take i).filter fun x => !p x := by
  rw [List.take_succ_eq_append_getElem hj, List.filter_append]; simp [hp]
 exact ⟨by rw [e1]; exact h.box, h.places, by rw [e1]; exact h.links, h.apart, h.boxP, h.boxK, h.upP, h.upK, h.bel, h.zbox, h.hG⟩
/-- One link is kept: it is appended, and the field is stored. -/
theorem WoAt.keep (h : WoAt w G t n p i wr AP cP AK cK) (hx : t.links[i]? = some x) (hp : p x = false) {A2 : Option Addr} {c2 : Nat}
  (hown : Own w' w.heap.size 52 5 A2 (((t.links.take i).filter fun x => !p x).length + 1) c2 (((t.links.take i).filter fun x => !p x).flatMap Link.vals ++ x.vals)) (hg : wr.grownBy w' (AK.map (·.block))) (hA : A2 = AK ∨ ∃ b, wr.heap.size ≤ b ∧ A2 = some ⟨b, 0, none⟩) :
  WoAt w G t n p (i + 1) (w'.setCell ⟨G, 1, none⟩ (.slice A2 (((t.links.take i).filter fun x => !p x).length + 1) c2)) AP cP A2 c2 := by
 obtain ⟨hj, rfl⟩ := List.getElem?_eq_some_iff.1 hx
 have e1 : ((t.links.take (i + 1)).filter fun x => !p x) = ((t.links.take i).filter fun x => !p x) ++ [t.links[i]] := by
  rw [List.take_succ_eq_append_getElem hj, List.filter_append]; simp [hp]
 have e2 : (((t.links.take i).filter fun x => !p x) ++ [t.links[i]]).length = ((t.links.take i).filter fun x => !p x).length + 1 := by simp
 have e3 : (((t.links.take i).filter fun x => !p x) ++ [t.links[i]]).flatMap Link.vals = ((t.links.take i).filter fun x => !p x).flatMap Link.vals ++ t.links[i].vals := by simp
 have hrow : ∀ k, (∀ a, AK = some a → a.block ≠ k) → some k ≠ AK.map (·.block) := by
  intro k hk
  cases AK with
  | none => simp
  | some a => simpa using (hk a rfl).symm
 have nG : ∀ a, A2 = some a → a.block ≠ G := by
  intro a ha
  rcases hA with hA | ⟨b, hb, hA⟩
  ·rw [hA] at ha; exact h.boxK a ha
  ·rw [hA] at ha; cases ha
   have := h.box.lt
   exact fun e => by simp at e; omega
 have hs : ∀ u : Value, w'.grownBy (w'.setCell ⟨G, 1, none⟩ u) (some G) := fun u => grown_setCell (grown_refl _ _) (p := ⟨G, 1, none⟩) (.inl rfl) u
 have hGl := h.hG
 rw [← e2] at hown ⊢
 refine ⟨?_, ?_, ?_, ?_, h.boxP, nG, h.upP, ?_, ?_, ?_, h.hG⟩
 ·rw [e1]
  exact (h.box.grown hg (hrow G h.boxK)).set_ 1 _
 ·exact (h.places.grown hg (fun a ha => row_ne h.apart ha)).grown (hs _) (fun a ha e => h.boxP a ha (Option.some.inj e))
 ·rw [e1, e3]
  exact hown.grown (hs _) (fun a ha e => nG a ha (Option.some.inj e))
 ·intro a b ha hb
  rcases hA with hA | ⟨b', hb', hA⟩
  ·rw [hA] at hb; exact h.apart a b ha hb
  ·rw [hA] at hb; cases hb
   have := (h.places.lt ha).2
   exact fun e => by simp at e; omega
 ·intro a ha
  rcases hA with hA | ⟨b, hb, hA⟩
  ·rw [hA] at ha; exact h.upK a ha
  ·rw [hA] at ha; cases ha
   have := h.zbox.lt
   show w.heap.size + 1 < b
   have := h.box.lt
   omega
 ·refine Below.setCell (h.bel.grown hg h.bel.size (fun k hk => ?_)) (p := ⟨G, 1, none⟩) (by show w.heap.size ≤ G; omega) _
  cases AK with
  | none => cases hk
  | some a => have := h.upK a rfl; simp at hk; omega
 ·exact (h.zbox.grown hg (hrow _ (fun a ha e => by have := h.upK a ha; omega))).grown (hs _) (by intro e; have := Option.some.inj e; omega)
end

set_option maxRecDepth 100000 in
set_option maxHeartbeats 4000000 in
theorem without_any (A : Option Addr) (n c : Nat) (A' : Option Addr) (m d : Nat) (t : Town) (A2 : Option Addr) (k2 c2 : Nat) (l : List Int) (w : World) (hn : n ≤ 1000) (hm : m ≤ 1000) (hk : k2 ≤ 1000) (ht : TownAt w w.heap.size A n A' m t) (hr : IntsAt w w.heap.size A2 k2 l) :
  Calls Tryz.prog 51 #[.agg #[.slice A n c, .slice A' m d], .slice A2 k2 c2] w fun e w' => TownOut w e w' (lessT t fun x => memI l x.id) := by
 have HT := Lib.hid ht
 have HR := Lib.hid hr
 have HLn := Lib.hid ht.places.len
 have HLm := Lib.hid ht.links.len
 have HLk := Lib.hid hr.len
 clear ht hr
 go_enter Tryz.func51, Tryz.ntmps51
 go_wp2_with fail
 have X0 := (Blk.new w 25 #[.slice A n c, .slice A' m d]).alloc (.cells #[.slice none 0 0, .slice none 0 0] 25)
 have Z0 := Blk.new (w.alloc (.cells #[.slice A n c, .slice A' m d] 25)) 25 #[.slice none 0 0, .slice none 0 0]
 have B0 : Below w.heap.size w ((w.alloc (.cells #[.slice A n c, .slice A' m d] 25)).alloc (.cells #[.slice none 0 0, .slice none 0 0] 25)) := ((Below.refl _ _).alloc (Nat.le_refl _) _).alloc (by simp) _
 rw [World.size_alloc] at Z0
 generalize ((w.alloc (.cells #[.slice A n c, .slice A' m d] 25)).alloc (.cells #[.slice none 0 0, .slice none 0 0] 25)) = w0 at *
 have hz0 := Z0.lt
 with_reducible refine (twin_any A n c A' m d t w0 hn hm ((HT.out.below B0).more B0.size)).mono ?_
 rintro e w1 ⟨AP, cP, AK, cK, rfl, hP, hK, hPK, hb1⟩
 have hUP : Above (w.heap.size + 1) AP := fun a ha => by have := (hP.lt ha).1; omega
 have hlP : ∀ a, AP = some a → a.block < w1.heap.size := fun a ha => (hP.lt ha).2
 have hP' := hP.mono B0.size
 clear hP hK hPK
 replace X0 := X0.below hb1 X0.lt
 replace Z0 := Z0.below hb1 Z0.lt
 replace B0 := B0.trans (hb1.mono B0.size)
 have x0 := X0.cell 0
 have x1 := X0.cell 1
 have hz1 := Z0.lt
 have hx1 := X0.lt
 have hx2 : ¬ w.heap.size = w1.heap.size := by omega
 rw [HLn.out] at hP'
 rw [HLn.out, HLm.out]
 have HP := Lib.hid hP'
 have HPl := Lib.hid hlP
 have HUP := Lib.hid hUP
 clear hP' hlP hUP hb1
 go_wp2_with fail
 have hW0 : WoAt w w1.heap.size t n (fun x => memI l x.id) 0 (w1.alloc (.cells #[.slice AP n cP, .slice none 0 0] 25)) AP cP none 0 := by
  refine ⟨Blk.new w1 _ _, HP.out.alloc _, Own.none_ _ _ _ _, (fun _ _ _ h => by cases h), (fun a ha e => by have := HPl.out a ha; omega), (fun _ h => by cases h), HUP.out, (fun _ h => by cases h), B0.alloc B0.size _, Z0.alloc _, hz1⟩
 have HW0 := Lib.hid hW0
 clear hW0 x0 x1 X0 Z0 HPl HUP HP hx1 hx2
 generalize (w1.alloc (.cells #[.slice AP n cP, .slice none 0 0] 25)) = w2 at *
 go_loopw [17] (fun vi wr => ∃ (i : Nat) (AK : Option Addr) (cK : Nat), i ≤ m ∧ vi = .int .i64 i ∧ WoAt w w1.heap.size t n (fun x => memI l x.id) i wr AP cP AK cK)
  (fun vi _ => m - (intOf vi).toNat)
 case atStart => exact ⟨0, none, 0, by omega, rfl, HW0.out⟩
 case round =>
  obtain ⟨i, AK, cK, hi, rfl, hW⟩ := hrel
  have HW := Lib.hid hW
  clear hW
  by_cases hlt : i < m
  ·obtain ⟨b, off, x, rfl, hbB, hx, hc0, hc1, hc2, hc3, hc4⟩ := (HT.out.links.below HW.out.bel).cell hlt
   have HX := Lib.hid hx
   clear hx
   go_wp2_with fail
   have X1 := Blk.new wr 52 #[.int .i64 x.id, .int .i64 x.fr, .int .i64 x.to, .int .i64 x.steps, .int .i64 x.paces]
   have hb1 : Below wr.heap.size wr (wr.alloc (.cells #[.int .i64 x.id, .int .i64 x.fr, .int .i64 x.to, .int .i64 x.steps, .int .i64 x.paces] 52)) := (Below.refl _ _).alloc (Nat.le_refl _) _
   have HW1 := Lib.hid (HW.out.below hb1)
   clear hc0 hc1 hc2 hc3 hc4 HW hb1
   generalize (wr.alloc (.cells #[.int .i64 x.id, .int .i64 x.fr, .int .i64 x.to, .int .i64 x.steps, .int .i64 x.paces] 52)) = w3 at *
   have x0 := X1.cell 0
   go_loop [8, 23] (fun vb vj => ∃ j : Nat, j ≤ k2 ∧ vj = .int .i64 j ∧ vb = .bool (memI (l.take j) x.id)) (fun _ vj => k2 - (intOf vj).toNat)
   case atStart => exact ⟨0, by omega, rfl, rfl⟩
   case round =>
    obtain ⟨j, hj, rfl, rfl⟩ := hrel
    by_cases hjl : j < k2
    ·obtain ⟨b', off', y, rfl, hbB', hy, hd0⟩ := (HR.out.below HW1.out.bel).cell hjl
     have HS := Lib.hid (memI_snoc (x := x.id) hy)
     clear hy
     cases hm1 : memI (l.take j) x.id with
     | true =>
      have HM := Lib.hid hm1
      clear hm1
      go_wp2_with fail
      go_round
      case rel => exact ⟨j + 1, by omega, by go_num, by rw [HS.out, HM.out]; rfl⟩
      case measure => simp [intOf]; omega
     | false =>
      have HM := Lib.hid hm1
      clear hm1
      go_wp2_with fail
      go_round
      case rel => exact ⟨j + 1, by omega, by go_num, by rw [HS.out, HM.out]; rfl⟩
      case measure => simp [intOf]; omega
    ·obtain rfl : j = k2 := by omega
     have hfull : memI (l.take j) x.id = memI l x.id := by rw [List.take_of_length_le (by have := HLk.out; omega)]
     have HFull := Lib.hid hfull
     clear hfull
     cases hm1 : memI (l.take j) x.id with
     | true =>
      have HM := Lib.hid hm1
      clear hm1
      go_wp2_with fail
      go_roundw
      case rel => exact ⟨i + 1, AK, cK, by omega, by go_num, HW1.out.skip HX.out (by show memI l x.id = true; rw [← HFull.out, HM.out])⟩
      case measure => simp [intOf]; omega
     | false =>
      have HM := Lib.hid hm1
      clear hm1
      have b1 := HW1.out.box.cell 1
      have x1 := X1.cell 1
      have x2 := X1.cell 2
      have x3 := X1.cell 3
      have x4 := X1.cell 4
      have hlen : ((t.links.take i).filter fun x => !memI l x.id).length ≤ i := by
       have h1 := List.length_filter_le (fun x : Link => !memI l x.id) (t.links.take i)
       have h2 := List.length_take_le i t.links
       omega
      have HLen := Lib.hid hlen
      have HS3 := Lib.hid HW1.out.bel.size
      clear hlen
      go_wp2_with (at_builtin; refine wpList_append_any _ rfl _ _ rfl elem_link rfl (HW1.out.links.alloc _) rfl (one_link (Blk.new w3 _ _) (Nat.lt_succ_self _)) (vals_one x) (by have := HLen.out; unfold maxLen; omega) (by have := HLen.out; omega) (by have := HS3.out; simp; omega) ?_)
      all_goals
       rintro A3 c3 W1 hown hg hA
       have HW2 := HW1.out.below ((Below.refl w3.heap.size w3).alloc (Nat.le_refl _) (.cells #[.int .i64 x.id, .int .i64 x.fr, .int .i64 x.to, .int .i64 x.steps, .int .i64 x.paces] 52))
       have HGrow := Lib.hid (show w3.grownBy W1 (AK.map (·.block)) from grown_trans (grown_of_below ((Below.refl w3.heap.size w3).alloc (Nat.le_refl _) (.cells #[.int .i64 x.id, .int .i64 x.fr, .int .i64 x.to, .int .i64 x.steps, .int .i64 x.paces] 52)) _) hg)
       have hrow : some w1.heap.size ≠ AK.map (·.block) := by
        intro e
        cases AK with
        | none => cases e
        | some a => exact HW1.out.boxK a rfl (Option.some.inj e).symm
       have hbox := HW1.out.box.grown HGrow.out hrow
       have q0 := hbox.frozen 1
       have q1 := hbox.cell 1
       have HA : Hid (A3 = AK ∨ ∃ b, w3.heap.size ≤ b ∧ A3 = some ⟨b, 0, none⟩) := by
        rcases hA with h | h
        ·exact .inl h
        ·exact .inr ⟨_, by simp, h⟩
       have HOwn := Lib.hid hown
       clear hown hg hA x0 x1 x2 x3 x4 b1 hbox hrow HW2
       go_wp2_with fail
       go_roundw
       case rel => exact ⟨i + 1, A3, c3, by omega, by go_num, by
        have h1 := HW1.out.keep HX.out (by show memI l x.id = false; rw [← HFull.out, HM.out]) HOwn.out HGrow.out HA.out
        exact h1⟩
       case measure => simp [intOf]; omega
  ·obtain rfl : i = m := by omega
   have b0 := HW.out.box.cell 0
   have b1 := HW.out.box.cell 1
   have z0 := HW.out.zbox.cell 0
   have z1 := HW.out.zbox.cell 1
   have q0 := HW.out.zbox.frozen 0
   have q1 := HW.out.zbox.frozen 1
   go_wp2_with fail
   have hfin : ((t.links.take i).filter fun x => !memI l x.id) = (lessT t fun x => memI l x.id).links := by
    rw [List.take_of_length_le (by have := HLm.out; omega)]; rfl
   have HFin := Lib.hid hfin
   clear hfin
   have hs : ∀ (u v : Value), wr.grownBy ((wr.setCell ⟨w.heap.size + 1, 0, none⟩ u).setCell ⟨w.heap.size + 1, 1, none⟩ v) (some (w.heap.size + 1)) := fun u v => grown_setCell (grown_setCell (grown_refl _ _) (p := ⟨w.heap.size + 1, 0, none⟩) (.inl rfl) _) (p := ⟨w.heap.size + 1, 1, none⟩) (.inl rfl) _
   refine bodyPost_ret (v := .agg #[.slice AP n cP, .slice AK ((t.links.take i).filter fun x => !memI l x.id).length cK]) (by simp [results, Tryz.results51, go_sem, z0, z1]) rfl ?_
   refine ⟨AP, cP, AK, cK, ?_, ?_, ?_, HW.out.apart, (HW.out.bel.setCell (p := ⟨w.heap.size + 1, 0, none⟩) (Nat.le_succ _) _).setCell (p := ⟨w.heap.size + 1, 1, none⟩) (Nat.le_succ _) _⟩
   ·rw [HFin.out, show (lessT t fun x => memI l x.id).places.length = n from HLn.out]
   ·rw [show (lessT t fun x => memI l x.id).places.length = n from HLn.out]
    exact HW.out.places.grown (hs _ _) (fun a ha e => by have := HW.out.upP a ha; have := Option.some.inj e; omega)
   ·rw [← HFin.out]
    exact HW.out.links.grown (hs _ _) (fun a ha e => by have := HW.out.upK a ha; have := Option.some.inj e; omega)
end Go.Proofs.YtahkjagjcogeiaaGreatDoor
/- The law ClimbClosed, walked. -/
namespace Go.Proofs.YtahkjagjcogeiaaGreatDoor
open Go.RowKit Go.Shelf

set_option maxRecDepth 100000 in
set_option maxHeartbeats 16000000 in
theorem zclosed_walk_in (A : Option Addr) (n c : Nat) (A' : Option Addr) (m d : Nat) (t : Town) (fr : Nat) (to_ : Nat) (dk : Bool) (wh : Nat) (w : World) (hn : n ≤ maxLen) (hm : m ≤ maxLen) (hfr : fr ≤ 255) (hto_ : to_ ≤ 255) (hwh : wh ≤ 255) (ht : TownAt w w.heap.size A n A' m t)  (hL : Laid w) :
  CallsIn Fence.wide 9 Tryz.prog 12 #[.agg #[.slice A n c, .slice A' m d], .int .u8 fr, .int .u8 to_, .bool dk, .int .u8 wh] w fun e w' => e = .returned (.bool true) ∧ Below w.heap.size w w' := by
 have HT := Lib.hid ht
 have HL := Lib.hid hL
 have hl0 := hL.2.2.2
 have HLn := Lib.hid ht.places.len
 have HLm := Lib.hid ht.links.len
 clear ht hL
 unfold maxLen at hn hm
 refine callsIn_of_wp Tryz.func12 rfl trivial ?_ rfl
 simp only [Tryz.ntmps12, List.size_toArray, List.length_cons, List.length_nil, Nat.reduceAdd, Nat.reduceSub, Array.replicate_succ, Array.replicate_zero, List.push_toArray, List.append_toArray, List.nil_append, List.cons_append]
 gi_wp2
 have HLay := Lib.hid (Lay.one w 25 #[.slice A n c, .slice A' m d])
 generalize (w.alloc (.cells #[.slice A n c, .slice A' m d] 25)) = w0 at *
 refine ⟨trivial, (callsIn_wide.2 (alive_any w0 (HL.out.below HLay.out.bel hl0))).mono ?_⟩
 rintro e W1 ⟨rfl, hb⟩
 replace HLay := Lib.hid (HLay.out.below hb)
 clear hb
 have x0_0 := (HLay.out.blk 0 rfl).cell 0
 have x0_1 := (HLay.out.blk 0 rfl).cell 1
 have l0_ := HLay.out.lt 0 rfl
 gi_wp2
 clear x0_0 x0_1 l0_
 refine ⟨trivial, (callsIn_wide.2 (ready_any A n c A' m d t W1 ((HT.out.below HLay.out.bel).more HLay.out.bel.size))).mono ?_⟩
 rintro e W2 ⟨rfl, hb⟩
 replace HLay := Lib.hid (HLay.out.below hb)
 clear hb
 cases hrd : readyB n m t with
 | false =>
  clear hrd
  gi_wp2
  exact bodyPost_ret (v := .bool true) (by simp [results, Tryz.results12, go_sem]) rfl ⟨rfl, HLay.out.bel⟩
 | true =>
 have htb : townB t = true := by unfold readyB at hrd; simp at hrd; exact hrd.2
 have HTB := Lib.hid htb
 have HG := Lib.hid (goodT htb)
 have hm20 : m ≤ 20 := by have := HG.out.links; have := HLm.out; omega
 have hn9 : n ≤ 9 := by have := HG.out.fine.size; have := HLn.out; omega
 have hn1 : 1 ≤ n := by have := townB_one htb; have := HLn.out; omega
 have HP1 : Hid (1 ≤ t.places.length) := Lib.hid (townB_one htb)
 clear hrd htb
 by_cases hm0 : m = 0
 ·have hm0b : (((m : Nat) : Int) == 0) = true := by simp; omega
  have x0_0 := (HLay.out.blk 0 rfl).cell 0
  have x0_1 := (HLay.out.blk 0 rfl).cell 1
  have l0_ := HLay.out.lt 0 rfl
  gi_wp2
  clear x0_0 x0_1 l0_
  exact bodyPost_ret (v := .bool true) (by simp [results, Tryz.results12, go_sem]) rfl ⟨rfl, HLay.out.bel⟩
 have hm0b : (((m : Nat) : Int) == 0) = false := by simp; omega
 have hm1 : 0 < m := by omega
 have x0_0 := (HLay.out.blk 0 rfl).cell 0
 have x0_1 := (HLay.out.blk 0 rfl).cell 1
 have l0_ := HLay.out.lt 0 rfl
 gi_wp2
 clear x0_0 x0_1 l0_
 refine wpIn_flow_old [([true, true, false, true, true], 2), ([], 5)] [false, false, false, false, false, false, true, true] [] (by kernel_rfl) (by kernel_rfl) (by kernel_rfl) (below_drewN (Below.refl _ _) 1) ?_
 refine wpFlow_cons (A := ?AF1) rfl ?hq1 ?_
 case hq1 =>
  rintro σ hσ of hof hcl
  have HOF := Lib.hid hof
  have HCL := Lib.hid hcl
  clear hof hcl
  have c0_ : ∀ z, (of z).cell? ⟨w.heap.size, 0, none⟩ = some (.slice A n c) := fun z => ((HLay.out.below (HOF.out z)).blk 0 rfl).cell 0
  have c1_ : ∀ z, (of z).cell? ⟨w.heap.size, 1, none⟩ = some (.slice A' m d) := fun z => ((HLay.out.below (HOF.out z)).blk 0 rfl).cell 1
  have hfw : ∀ f, Fence.wide.fn f := fun _ => trivial
  simp only [pickB]
  repeat (gi_big_quiet_step (fail))
  refine wpQuietIn_nil ?_
  exact rfl
 intro W3 hW
 replace HLay := Lib.hid (HLay.out.below hW)
 clear hW
 have hlw := (HLay.out.blk 0 rfl).lt
 gi_wp2
 refine ⟨trivial, (callsIn_wide.2 (lplace_any A n c A' m d t fr W3 hn1 (by omega) hfr ((HT.out.places.below HLay.out.bel).more HLay.out.bel.size))).mono ?_⟩
 rintro e W4 ⟨rfl, hb⟩
 replace HLay := Lib.hid (HLay.out.below hb)
 obtain ⟨u, hu⟩ : ∃ u, plN t fr = u := ⟨_, rfl⟩
 rw [hu]
 have Hu := Lib.hid (show u ∈ t.places from hu ▸ plN_mem HP1.out fr)
 clear hu
 gi_wp2
 refine ⟨trivial, hb, ?_⟩
 clear hb
 clear hlw
 refine wpFlow_cons rfl Quietly.none ?_
 intro W5 hW
 replace HLay := Lib.hid (HLay.out.below hW)
 clear hW
 have hlw := (HLay.out.blk 0 rfl).lt
 gi_wp2
 refine ⟨trivial, (callsIn_wide.2 (lplace_any A n c A' m d t to_ W5 hn1 (by omega) hto_ ((HT.out.places.below HLay.out.bel).more HLay.out.bel.size))).mono ?_⟩
 rintro e W6 ⟨rfl, hb⟩
 replace HLay := Lib.hid (HLay.out.below hb)
 obtain ⟨v, hv⟩ : ∃ v, plN t to_ = v := ⟨_, rfl⟩
 rw [hv]
 have Hv := Lib.hid (show v ∈ t.places from hv ▸ plN_mem HP1.out to_)
 clear hv
 gi_wp2
 refine ⟨trivial, hb, ?_⟩
 clear hb
 clear hlw
 refine wpFlow_nil (A := ?AF2) ?hq2 ?_
 case hq2 =>
  rintro σ hσ of hof hcl
  have HOF := Lib.hid hof
  have HCL := Lib.hid hcl
  clear hof hcl
  have c0_ : ∀ z, (of z).cell? ⟨w.heap.size, 0, none⟩ = some (.slice A n c) := fun z => ((HLay.out.below (HOF.out z)).blk 0 rfl).cell 0
  have c1_ : ∀ z, (of z).cell? ⟨w.heap.size, 1, none⟩ = some (.slice A' m d) := fun z => ((HLay.out.below (HOF.out z)).blk 0 rfl).cell 1
  have hfw : ∀ f, Fence.wide.fn f := fun _ => trivial
  simp only [pickB]
  repeat (gi_big_quiet_step (fail))
  refine wpQuietIn_nil ?_
  exact rfl
 intro W7 hW
 replace HLay := Lib.hid (HLay.out.below hW)
 clear hW
 simp only [pickB]
 refine wpT_nil ?_
 have HA2 := Lib.hid (askE_two HTB.out Hu.out Hv.out)
 gi_wp2
 have hrm : wh % m < m := Nat.mod_lt _ hm1
 have HM : Hid (Int.tmod (wh : Int) (m : Int) = ((wh % m : Nat) : Int)) := Lib.hid (by rw [Int.tmod_eq_emod_of_nonneg (by omega)]; push_cast; rfl)
 obtain ⟨r, hrq⟩ : ∃ r, wh % m = r := ⟨_, rfl⟩
 rw [hrq] at HM hrm
 obtain ⟨bq, oq, y, rfl, hbq, hy, h0, h1, h2, h3, h4⟩ := (HT.out.links.below HLay.out.bel).cell hrm
 have HYM := Lib.hid (List.mem_of_getElem? hy)
 have HC0 := Lib.hid h0
 have HC1 := Lib.hid h1
 have HC2 := Lib.hid h2
 have HC3 := Lib.hid h3
 have HC4 := Lib.hid h4
 have hbl2 : bq < W7.heap.size := Nat.lt_of_lt_of_le hbq HLay.out.bel.size
 have r0 : (0 : Int) ≤ (r : Int) := by omega
 have rm : (r : Int) < (m : Int) := by omega
 have hmn : ¬ m = 0 := by omega
 have hmn2 : (m == 0) = false := by simp; omega
 have hmz : (((m : Nat) : Int) == 0) = false := by simp; omega
 have wx : IntKind.i64.wrap (wh : Int) = (wh : Int) := IntWalk.i64_in _ (by omega)
 have htm := HM.out
 clear hy h0 h1 h2 h3 h4 hrq hbq
 have HCL := Lib.hid (close_one HTB.out HYM.out)
 have HBK := Lib.hid (back_same HTB.out HYM.out)
 have HLay0 := Lib.hid HLay.out
 refine wpIn_flow_new [] [true, true, true, true, true, true, true, true, true, true] [false, false, false, false, false, false, false, false, false, false, false, true] 10 (fun b => .pointer (some ⟨b, 0, none⟩)) 52 #[.int .i64 0, .int .i64 0, .int .i64 0, .int .i64 0, .int .i64 0] (by kernel_rfl) (by kernel_rfl) (by kernel_rfl) (below_drewN (Below.refl _ _) 1) rfl rfl rfl (fun _ _ => rfl) (fun _ _ => rfl) ?_
 refine wpFlow_nil (A := ?AF3) ?hq3 ?_
 case hq3 =>
  rintro σ hσ of hof hcl
  have HOF := Lib.hid hof
  have HCL := Lib.hid hcl
  clear hof hcl
  have c0_ : ∀ z, (of z).cell? ⟨w.heap.size, 0, none⟩ = some (.slice A n c) := fun z => ((HLay.out.below (HOF.out z)).blk 0 rfl).cell 0
  have c1_ : ∀ z, (of z).cell? ⟨w.heap.size, 1, none⟩ = some (.slice (some ⟨bq, oq, none⟩) m d) := fun z => ((HLay.out.below (HOF.out z)).blk 0 rfl).cell 1
  have hfw : ∀ f, Fence.wide.fn f := fun _ => trivial
  have hcl0 : ∀ z, (of z).cell? ⟨bq, oq + r * 5, none⟩ = some (.int .i64 y.id) := fun z => ((HOF.out z).cell (p := ⟨bq, oq + r * 5, none⟩) hbl2).trans HC0.out
  have hcl1 : ∀ z, (of z).cell? ⟨bq, oq + r * 5 + 1, none⟩ = some (.int .i64 y.fr) := fun z => ((HOF.out z).cell (p := ⟨bq, oq + r * 5 + 1, none⟩) hbl2).trans HC1.out
  have hcl2 : ∀ z, (of z).cell? ⟨bq, oq + r * 5 + 2, none⟩ = some (.int .i64 y.to) := fun z => ((HOF.out z).cell (p := ⟨bq, oq + r * 5 + 2, none⟩) hbl2).trans HC2.out
  have hcl3 : ∀ z, (of z).cell? ⟨bq, oq + r * 5 + 3, none⟩ = some (.int .i64 y.steps) := fun z => ((HOF.out z).cell (p := ⟨bq, oq + r * 5 + 3, none⟩) hbl2).trans HC3.out
  have hcl4 : ∀ z, (of z).cell? ⟨bq, oq + r * 5 + 4, none⟩ = some (.int .i64 y.paces) := fun z => ((HOF.out z).cell (p := ⟨bq, oq + r * 5 + 4, none⟩) hbl2).trans HC4.out
  simp only [pickB]
  repeat (gi_big_quiet_step (fail))
  refine wpQuietIn_nil ?_
  exact rfl
 intro G9 W8 hW hbg hbb hbi
 replace HLay := Lib.hid (HLay.out.below hW)
 clear r0 rm hmn hmn2 hmz wx htm HC0 HC1 HC2 HC3 HC4
 have c0 := hbb.cell 0
 have z0 := hbb.frozen 0
 have c1 := hbb.cell 1
 have z1 := hbb.frozen 1
 have c2 := hbb.cell 2
 have z2 := hbb.frozen 2
 have c3 := hbb.cell 3
 have z3 := hbb.frozen 3
 have c4 := hbb.cell 4
 have z4 := hbb.frozen 4
 have hbl := hbb.lt
 have hbw : w.heap.size ≤ G9 := Nat.le_trans HLay0.out.1.size hbg
 simp only [pickB]
 refine wpT_cons ?_
 gi_wp2
 refine wpT_nil ?_
 have R2 := ret5' hbb (Below.refl G9 W8) (Nat.le_refl _) (.int .i64 y.id) (.int .i64 y.fr) (.int .i64 y.to) (.int .i64 y.steps) (.int .i64 y.paces)
 replace HLay := Lib.hid (Lay.add (w := w) (bs := [(w.heap.size, 25, #[.slice A n c, .slice (some ⟨bq, oq, none⟩) m d])]) ⟨HLay.out.1.trans (R2.2.1.mono hbw), fun p hp => ⟨(HLay.out.2 p hp).1, (HLay.out.2 p hp).2.below R2.2.1 (by have := (HLay0.out.2 p hp).2.lt; omega)⟩⟩ hbw R2.1)
 generalize (((((W8.setCell ⟨G9, 0, none⟩ (.int .i64 y.id)).setCell ⟨G9, 1, none⟩ (.int .i64 y.fr)).setCell ⟨G9, 2, none⟩ (.int .i64 y.to)).setCell ⟨G9, 3, none⟩ (.int .i64 y.steps)).setCell ⟨G9, 4, none⟩ (.int .i64 y.paces)) = W9 at *
 clear c0 z0 c1 z1 c2 z2 c3 z3 c4 z4 hbl hbb hW hbg R2 hbw hbi HLay0
 gi_upto_region 6 with fail
 have x0_0 := (HLay.out.blk 0 rfl).cell 0
 have x0_1 := (HLay.out.blk 0 rfl).cell 1
 have l0_ := HLay.out.lt 0 rfl
 have x1_0 := (HLay.out.blk 1 rfl).cell 0
 have x1_1 := (HLay.out.blk 1 rfl).cell 1
 have x1_2 := (HLay.out.blk 1 rfl).cell 2
 have x1_3 := (HLay.out.blk 1 rfl).cell 3
 have x1_4 := (HLay.out.blk 1 rfl).cell 4
 have l1_ := HLay.out.lt 1 rfl
 gi_wp2
 clear x0_0 x0_1 l0_ x1_0 x1_1 x1_2 x1_3 x1_4 l1_
 obtain ⟨V10, hV⟩ : ∃ V, (W9.alloc (.cells #[.int .i64 y.id] 3)) = V := ⟨_, rfl⟩
 rw [hV]
 have hb := fbox_bel hV
 have hnew := fbox_blk hV
 have hge := HLay.out.bel.size
 replace HLay := Lib.hid (HLay.out.below hb)
 replace HLay := Lib.hid (HLay.out.add hge hnew)
 clear hnew hge hb hV
 obtain ⟨G11, hG⟩ : ∃ g, W9.heap.size = g := ⟨_, rfl⟩
 rw [hG] at HLay ⊢
 clear hG
 refine ⟨trivial, (callsIn_wide.2 (close_any A n c (some ⟨bq, oq, none⟩) m d t (some ⟨G11, 0, none⟩) 1 1 [y.id] V10 (by omega) (by omega) (by omega) ((HT.out.below HLay.out.bel).more HLay.out.bel.size) (ints_blk2 [y.id] (HLay.out.blk 2 rfl)) (HL.out.below HLay.out.bel hl0))).mono ?_⟩
 rintro e W12 ⟨AZ, cZ, AY, cY, rfl, hZ1, hZ2, _, hb⟩
 replace HLay := Lib.hid (HLay.out.below hb)
 clear hb
 rw [HCL.out.1, HCL.out.2]
 rw [HCL.out.2] at hZ1 hZ2
 have HZ1 := Lib.hid hZ1
 have HZ2 := Lib.hid hZ2
 clear hZ1 hZ2
 obtain ⟨tl, htl⟩ : ∃ x, lessT t (fun y' => memI [y.id] y'.id) = x := ⟨_, rfl⟩
 rw [htl] at HZ1 HZ2 HBK ⊢
 have HTL := Lib.hid htl
 clear htl
 have hnl : tl.places.length ≤ 1000 := by rw [← HTL.out]; exact less_n HLn.out (by omega)
 have hml : tl.links.length ≤ 1000 := by rw [← HTL.out]; exact less_m HLm.out (by omega)
 gi_upto_region 7 with fail
 obtain ⟨V13, hV⟩ : ∃ V, (W12.alloc (.cells #[.slice AZ tl.places.length cZ, .slice AY tl.links.length cY] 25)) = V := ⟨_, rfl⟩
 rw [hV]
 have hb := fbox_bel hV
 have hnew := fbox_blk hV
 have hge := HLay.out.bel.size
 replace HLay := Lib.hid (HLay.out.below hb)
 replace HZ1 := Lib.hid (HZ1.out.below hb (Nat.le_refl _))
 replace HZ2 := Lib.hid (HZ2.out.below hb (Nat.le_refl _))
 replace HLay := Lib.hid (HLay.out.add hge hnew)
 clear hnew hge hb hV
 obtain ⟨G14, hG⟩ : ∃ g, W12.heap.size = g := ⟨_, rfl⟩
 rw [hG] at HLay ⊢
 clear hG
 have x3_0 := (HLay.out.blk 3 rfl).cell 0
 have x3_1 := (HLay.out.blk 3 rfl).cell 1
 have l3_ := HLay.out.lt 3 rfl
 have x1_0 := (HLay.out.blk 1 rfl).cell 0
 have x1_1 := (HLay.out.blk 1 rfl).cell 1
 have x1_2 := (HLay.out.blk 1 rfl).cell 2
 have x1_3 := (HLay.out.blk 1 rfl).cell 3
 have x1_4 := (HLay.out.blk 1 rfl).cell 4
 have l1_ := HLay.out.lt 1 rfl
 gi_wp2
 clear x3_0 x3_1 l3_ x1_0 x1_1 x1_2 x1_3 x1_4 l1_
 refine ⟨trivial, (callsIn_wide.2 (open_any AZ tl.places.length cZ AY tl.links.length cY tl y V13 hnl hml ⟨ints_of_own HZ1.out (Nat.le_refl _), links_of_own HZ2.out (Nat.le_refl _)⟩ (HL.out.below HLay.out.bel hl0))).mono ?_⟩
 rintro e W15 ⟨AO, cO, AO2, cO2, rfl, hO1, hO2, _, hb⟩
 replace HLay := Lib.hid (HLay.out.below hb)
 replace HZ1 := Lib.hid (HZ1.out.below hb (Nat.le_refl _))
 replace HZ2 := Lib.hid (HZ2.out.below hb (Nat.le_refl _))
 clear hb
 rw [HBK.out.1, HBK.out.2]
 rw [HBK.out.2] at hO1 hO2
 rw [HLn.out] at hO1 ⊢
 rw [HLm.out] at hO2 ⊢
 have HO1 := Lib.hid hO1
 have HO2 := Lib.hid hO2
 clear hO1 hO2
 gi_upto_region 8 with fail
 obtain ⟨V16, hV⟩ : ∃ V, (W15.alloc (.cells #[.slice AO n cO, .slice AO2 m cO2] 25)) = V := ⟨_, rfl⟩
 rw [hV]
 have hb := fbox_bel hV
 have hnew := fbox_blk hV
 have hge := HLay.out.bel.size
 replace HLay := Lib.hid (HLay.out.below hb)
 replace HZ1 := Lib.hid (HZ1.out.below hb (Nat.le_refl _))
 replace HZ2 := Lib.hid (HZ2.out.below hb (Nat.le_refl _))
 replace HO1 := Lib.hid (HO1.out.below hb (Nat.le_refl _))
 replace HO2 := Lib.hid (HO2.out.below hb (Nat.le_refl _))
 replace HLay := Lib.hid (HLay.out.add hge hnew)
 clear hnew hge hb hV
 obtain ⟨G17, hG⟩ : ∃ g, W15.heap.size = g := ⟨_, rfl⟩
 rw [hG] at HLay ⊢
 clear hG
 refine wpIn_flow_old [([true, true, true, true, true, true, true, true, true], 9), ([false, false, false, false, false, false, false, false, false, false, true, true, true, true, true, true, true], 17), ([], 18), ([], 19)] [false, false, false, false, false, false, false, false, false, false, false, false, false, false, false, false, false, false, false, false, true, true] [] (by kernel_rfl) (by kernel_rfl) (by kernel_rfl) (below_drewN (Below.refl _ _) 1) ?_
 refine wpFlow_cons (A := ?AF4) rfl ?hq4 ?_
 case hq4 =>
  rintro σ hσ of hof hcl
  have HOF := Lib.hid hof
  have HCL := Lib.hid hcl
  clear hof hcl
  have c0_ : ∀ z, (of z).cell? ⟨w.heap.size, 0, none⟩ = some (.slice A n c) := fun z => ((HLay.out.below (HOF.out z)).blk 0 rfl).cell 0
  have c1_ : ∀ z, (of z).cell? ⟨w.heap.size, 1, none⟩ = some (.slice (some ⟨bq, oq, none⟩) m d) := fun z => ((HLay.out.below (HOF.out z)).blk 0 rfl).cell 1
  have c2_ : ∀ z, (of z).cell? ⟨G17, 0, none⟩ = some (.slice AO n cO) := fun z => ((HLay.out.below (HOF.out z)).blk 4 rfl).cell 0
  have c3_ : ∀ z, (of z).cell? ⟨G17, 1, none⟩ = some (.slice AO2 m cO2) := fun z => ((HLay.out.below (HOF.out z)).blk 4 rfl).cell 1
  have c4_ : ∀ z, (of z).cell? ⟨G14, 0, none⟩ = some (.slice AZ tl.places.length cZ) := fun z => ((HLay.out.below (HOF.out z)).blk 3 rfl).cell 0
  have c5_ : ∀ z, (of z).cell? ⟨G14, 1, none⟩ = some (.slice AY tl.links.length cY) := fun z => ((HLay.out.below (HOF.out z)).blk 3 rfl).cell 1
  have c6_ : ∀ z, (of z).cell? ⟨G9, 0, none⟩ = some (.int .i64 y.id) := fun z => ((HLay.out.below (HOF.out z)).blk 1 rfl).cell 0
  have hfw : ∀ f, Fence.wide.fn f := fun _ => trivial
  simp only [pickB]
  repeat (gi_big_quiet_step (fail))
  refine wpQuietIn_nil ?_
  exact rfl
 intro W18 hW
 replace HLay := Lib.hid (HLay.out.below hW)
 replace HZ1 := Lib.hid (HZ1.out.below hW (Nat.le_refl _))
 replace HZ2 := Lib.hid (HZ2.out.below hW (Nat.le_refl _))
 replace HO1 := Lib.hid (HO1.out.below hW (Nat.le_refl _))
 replace HO2 := Lib.hid (HO2.out.below hW (Nat.le_refl _))
 clear hW
 gi_wp2
 refine ⟨trivial, (callsIn_wide.2 (same_any AO n cO AO2 m cO2 t A n c (some ⟨bq, oq, none⟩) m d t W18 (by unfold maxLen; omega) (by unfold maxLen; omega) (by unfold maxLen; omega) (by unfold maxLen; omega) ⟨ints_of_own HO1.out (Nat.le_refl _), links_of_own HO2.out (Nat.le_refl _)⟩ ((HT.out.below HLay.out.bel).more HLay.out.bel.size))).mono ?_⟩
 rintro e W19 ⟨rfl, hb⟩
 replace HLay := Lib.hid (HLay.out.below hb)
 replace HZ1 := Lib.hid (HZ1.out.below hb (Nat.le_refl _))
 replace HZ2 := Lib.hid (HZ2.out.below hb (Nat.le_refl _))
 replace HO1 := Lib.hid (HO1.out.below hb (Nat.le_refl _))
 replace HO2 := Lib.hid (HO2.out.below hb (Nat.le_refl _))
 rw [sameT_refl']
 gi_wp2
 refine ⟨trivial, hb, ?_⟩
 clear hb
 refine wpFlow_cons (A := ?AF5) rfl ?hq5 ?_
 case hq5 =>
  rintro σ hσ of hof hcl
  have HOF := Lib.hid hof
  have HCL := Lib.hid hcl
  clear hof hcl
  have c0_ : ∀ z, (of z).cell? ⟨w.heap.size, 0, none⟩ = some (.slice A n c) := fun z => ((HLay.out.below (HOF.out z)).blk 0 rfl).cell 0
  have c1_ : ∀ z, (of z).cell? ⟨w.heap.size, 1, none⟩ = some (.slice (some ⟨bq, oq, none⟩) m d) := fun z => ((HLay.out.below (HOF.out z)).blk 0 rfl).cell 1
  have c2_ : ∀ z, (of z).cell? ⟨G17, 0, none⟩ = some (.slice AO n cO) := fun z => ((HLay.out.below (HOF.out z)).blk 4 rfl).cell 0
  have c3_ : ∀ z, (of z).cell? ⟨G17, 1, none⟩ = some (.slice AO2 m cO2) := fun z => ((HLay.out.below (HOF.out z)).blk 4 rfl).cell 1
  have c4_ : ∀ z, (of z).cell? ⟨G14, 0, none⟩ = some (.slice AZ tl.places.length cZ) := fun z => ((HLay.out.below (HOF.out z)).blk 3 rfl).cell 0
  have c5_ : ∀ z, (of z).cell? ⟨G14, 1, none⟩ = some (.slice AY tl.links.length cY) := fun z => ((HLay.out.below (HOF.out z)).blk 3 rfl).cell 1
  have c6_ : ∀ z, (of z).cell? ⟨G9, 0, none⟩ = some (.int .i64 y.id) := fun z => ((HLay.out.below (HOF.out z)).blk 1 rfl).cell 0
  have hfw : ∀ f, Fence.wide.fn f := fun _ => trivial
  simp only [pickB]
  repeat (gi_big_quiet_step (fail))
  refine wpQuietIn_nil ?_
  exact rfl
 intro W20 hW
 replace HLay := Lib.hid (HLay.out.below hW)
 replace HZ1 := Lib.hid (HZ1.out.below hW (Nat.le_refl _))
 replace HZ2 := Lib.hid (HZ2.out.below hW (Nat.le_refl _))
 replace HO1 := Lib.hid (HO1.out.below hW (Nat.le_refl _))
 replace HO2 := Lib.hid (HO2.out.below hW (Nat.le_refl _))
 clear hW
 gi_wp2
 refine ⟨trivial, (Below.refl _ _).alloc (Nat.le_refl _) _, ?_⟩
 have hb : Below W20.heap.size W20 (W20.alloc (.cells #[.int .i64 y.id] 3)) := (Below.refl _ _).alloc (Nat.le_refl _) _
 replace HLay := Lib.hid (HLay.out.below hb)
 replace HZ1 := Lib.hid (HZ1.out.below hb (Nat.le_refl _))
 replace HZ2 := Lib.hid (HZ2.out.below hb (Nat.le_refl _))
 replace HO1 := Lib.hid (HO1.out.below hb (Nat.le_refl _))
 replace HO2 := Lib.hid (HO2.out.below hb (Nat.le_refl _))
 have HPl := Lib.hid (show IntsAt (W20.alloc (.cells #[.int .i64 y.id] 3)) (W20.alloc (.cells #[.int .i64 y.id] 3)).heap.size (some ⟨W20.heap.size, 0, none⟩) 1 [y.id] from IntsAt.new W20 3 [y.id] _ (by simp))
 obtain ⟨P22, hP⟩ : ∃ P, W20.heap.size = P := ⟨_, rfl⟩
 rw [hP] at HPl ⊢
 generalize (W20.alloc (.cells #[.int .i64 y.id] 3)) = V21 at *
 clear hb hP
 refine wpFlow_cons rfl Quietly.none ?_
 intro W23 hW
 replace HLay := Lib.hid (HLay.out.below hW)
 replace HZ1 := Lib.hid (HZ1.out.below hW (Nat.le_refl _))
 replace HZ2 := Lib.hid (HZ2.out.below hW (Nat.le_refl _))
 replace HO1 := Lib.hid (HO1.out.below hW (Nat.le_refl _))
 replace HO2 := Lib.hid (HO2.out.below hW (Nat.le_refl _))
 replace HPl := Lib.hid ((HPl.out.below hW).more hW.size)
 clear hW
 gi_wp2
 refine ⟨trivial, (callsIn_wide.2 (without_any A n c (some ⟨bq, oq, none⟩) m d t (some ⟨P22, 0, none⟩) 1 1 [y.id] W23 (by omega) (by omega) (by omega) ((HT.out.below HLay.out.bel).more HLay.out.bel.size) HPl.out)).mono ?_⟩
 rintro e W24 ⟨AU, cU, AU2, cU2, rfl, hU1, hU2, _, hb⟩
 replace HLay := Lib.hid (HLay.out.below hb)
 replace HZ1 := Lib.hid (HZ1.out.below hb (Nat.le_refl _))
 replace HZ2 := Lib.hid (HZ2.out.below hb (Nat.le_refl _))
 replace HO1 := Lib.hid (HO1.out.below hb (Nat.le_refl _))
 replace HO2 := Lib.hid (HO2.out.below hb (Nat.le_refl _))
 replace HPl := Lib.hid ((HPl.out.below hb).more hb.size)
 rw [HTL.out] at hU1 hU2 ⊢
 have HU1 := Lib.hid hU1
 have HU2 := Lib.hid hU2
 clear hU1 hU2
 gi_wp2
 refine ⟨trivial, hb, ?_⟩
 clear hb
 clear HPl
 refine wpFlow_cons rfl Quietly.none ?_
 intro W25 hW
 replace HLay := Lib.hid (HLay.out.below hW)
 replace HZ1 := Lib.hid (HZ1.out.below hW (Nat.le_refl _))
 replace HZ2 := Lib.hid (HZ2.out.below hW (Nat.le_refl _))
 replace HO1 := Lib.hid (HO1.out.below hW (Nat.le_refl _))
 replace HO2 := Lib.hid (HO2.out.below hW (Nat.le_refl _))
 replace HU1 := Lib.hid (HU1.out.below hW (Nat.le_refl _))
 replace HU2 := Lib.hid (HU2.out.below hW (Nat.le_refl _))
 clear hW
 gi_wp2
 refine ⟨trivial, (callsIn_wide.2 (same_any AZ tl.places.length cZ AY tl.links.length cY tl AU tl.places.length cU AU2 tl.links.length cU2 tl W25 (by unfold maxLen; omega) (by unfold maxLen; omega) (by unfold maxLen; omega) (by unfold maxLen; omega) ⟨ints_of_own HZ1.out (Nat.le_refl _), links_of_own HZ2.out (Nat.le_refl _)⟩ ⟨ints_of_own HU1.out (Nat.le_refl _), links_of_own HU2.out (Nat.le_refl _)⟩)).mono ?_⟩
 rintro e W26 ⟨rfl, hb⟩
 replace HLay := Lib.hid (HLay.out.below hb)
 replace HZ1 := Lib.hid (HZ1.out.below hb (Nat.le_refl _))
 replace HZ2 := Lib.hid (HZ2.out.below hb (Nat.le_refl _))
 replace HO1 := Lib.hid (HO1.out.below hb (Nat.le_refl _))
 replace HO2 := Lib.hid (HO2.out.below hb (Nat.le_refl _))
 replace HU1 := Lib.hid (HU1.out.below hb (Nat.le_refl _))
 replace HU2 := Lib.hid (HU2.out.below hb (Nat.le_refl _))
 rw [sameT_refl']
 gi_wp2
 refine ⟨trivial, hb, ?_⟩
 clear hb
 clear HU1 HU2
 refine wpFlow_nil (A := ?AF6) ?hq6 ?_
 case hq6 =>
  rintro σ hσ of hof hcl
  have HOF := Lib.hid hof
  have HCL := Lib.hid hcl
  clear hof hcl
  have c0_ : ∀ z, (of z).cell? ⟨w.heap.size, 0, none⟩ = some (.slice A n c) := fun z => ((HLay.out.below (HOF.out z)).blk 0 rfl).cell 0
  have c1_ : ∀ z, (of z).cell? ⟨w.heap.size, 1, none⟩ = some (.slice (some ⟨bq, oq, none⟩) m d) := fun z => ((HLay.out.below (HOF.out z)).blk 0 rfl).cell 1
  have c2_ : ∀ z, (of z).cell? ⟨G17, 0, none⟩ = some (.slice AO n cO) := fun z => ((HLay.out.below (HOF.out z)).blk 4 rfl).cell 0
  have c3_ : ∀ z, (of z).cell? ⟨G17, 1, none⟩ = some (.slice AO2 m cO2) := fun z => ((HLay.out.below (HOF.out z)).blk 4 rfl).cell 1
  have c4_ : ∀ z, (of z).cell? ⟨G14, 0, none⟩ = some (.slice AZ tl.places.length cZ) := fun z => ((HLay.out.below (HOF.out z)).blk 3 rfl).cell 0
  have c5_ : ∀ z, (of z).cell? ⟨G14, 1, none⟩ = some (.slice AY tl.links.length cY) := fun z => ((HLay.out.below (HOF.out z)).blk 3 rfl).cell 1
  have c6_ : ∀ z, (of z).cell? ⟨G9, 0, none⟩ = some (.int .i64 y.id) := fun z => ((HLay.out.below (HOF.out z)).blk 1 rfl).cell 0
  have hfw : ∀ f, Fence.wide.fn f := fun _ => trivial
  simp only [pickB]
  repeat (gi_big_quiet_step (fail))
  refine wpQuietIn_nil ?_
  exact rfl
 intro W27 hW
 replace HLay := Lib.hid (HLay.out.below hW)
 replace HZ1 := Lib.hid (HZ1.out.below hW (Nat.le_refl _))
 replace HZ2 := Lib.hid (HZ2.out.below hW (Nat.le_refl _))
 replace HO1 := Lib.hid (HO1.out.below hW (Nat.le_refl _))
 replace HO2 := Lib.hid (HO2.out.below hW (Nat.le_refl _))
 clear hW
 simp only [pickB]
 refine wpT_nil ?_
 have HWL := Lib.hid (worst_law (u := u) (v := v) (dk := dk) HTB.out HYM.out HA2.out)
 rw [HTL.out] at HWL
 have x3_0 := (HLay.out.blk 3 rfl).cell 0
 have x3_1 := (HLay.out.blk 3 rfl).cell 1
 have l3_ := HLay.out.lt 3 rfl
 gi_wp2
 clear x3_0 x3_1 l3_
 refine ⟨trivial, (callsIn_wide.2 (toilw_any AZ tl.places.length cZ AY tl.links.length cY tl u v dk W27 hnl hml ⟨ints_of_own HZ1.out (Nat.le_refl _), links_of_own HZ2.out (Nat.le_refl _)⟩ (HL.out.below HLay.out.bel hl0))).mono ?_⟩
 rintro e W28 ⟨rfl, hb⟩
 replace HLay := Lib.hid (HLay.out.below hb)
 replace HZ1 := Lib.hid (HZ1.out.below hb (Nat.le_refl _))
 replace HZ2 := Lib.hid (HZ2.out.below hb (Nat.le_refl _))
 replace HO1 := Lib.hid (HO1.out.below hb (Nat.le_refl _))
 replace HO2 := Lib.hid (HO2.out.below hb (Nat.le_refl _))
 clear hb
 obtain ⟨e4, he4⟩ : ∃ e, wayE tl u v dk = e := ⟨_, rfl⟩
 obtain ⟨⟨a4, b4⟩, hq4⟩ : ∃ q, wayT tl u v dk = q := ⟨_, rfl⟩
 rw [he4, hq4]
 have HE4 := Lib.hid he4
 have HQ4 := Lib.hid hq4
 clear he4 hq4
 gi_upto_region 11 with fail
 obtain ⟨V29, hV⟩ : ∃ V, (W28.alloc (.cells #[.int .i64 a4, .int .i64 b4] 34)) = V := ⟨_, rfl⟩
 rw [hV]
 have hb := fbox_bel hV
 have hnew := fbox_blk hV
 have hge := HLay.out.bel.size
 replace HLay := Lib.hid (HLay.out.below hb)
 replace HZ1 := Lib.hid (HZ1.out.below hb (Nat.le_refl _))
 replace HZ2 := Lib.hid (HZ2.out.below hb (Nat.le_refl _))
 replace HO1 := Lib.hid (HO1.out.below hb (Nat.le_refl _))
 replace HO2 := Lib.hid (HO2.out.below hb (Nat.le_refl _))
 replace HLay := Lib.hid (HLay.out.add hge hnew)
 clear hnew hge hb hV
 obtain ⟨G30, hG⟩ : ∃ g, W28.heap.size = g := ⟨_, rfl⟩
 rw [hG] at HLay ⊢
 clear hG
 rw [HE4.out, HQ4.out] at HWL
 have x0_0 := (HLay.out.blk 0 rfl).cell 0
 have x0_1 := (HLay.out.blk 0 rfl).cell 1
 have l0_ := HLay.out.lt 0 rfl
 gi_wp2
 clear x0_0 x0_1 l0_
 refine ⟨trivial, (callsIn_wide.2 (worst_any A n c (some ⟨bq, oq, none⟩) m d t u v dk V29 (by omega) (by omega) ((HT.out.below HLay.out.bel).more HLay.out.bel.size) (HL.out.below HLay.out.bel hl0))).mono ?_⟩
 rintro e W31 ⟨rfl, hb⟩
 replace HLay := Lib.hid (HLay.out.below hb)
 replace HZ1 := Lib.hid (HZ1.out.below hb (Nat.le_refl _))
 replace HZ2 := Lib.hid (HZ2.out.below hb (Nat.le_refl _))
 replace HO1 := Lib.hid (HO1.out.below hb (Nat.le_refl _))
 replace HO2 := Lib.hid (HO2.out.below hb (Nat.le_refl _))
 clear hb
 rcases HWL.out with ⟨hwv, h46⟩ | ⟨k, a, b, hwv, hkm, hk0, hkt, hkl⟩
 ·subst h46
  rw [hwv]
  clear hwv
  gi_upto_region 12 with fail
  obtain ⟨V32, hV⟩ : ∃ V, (W31.alloc (.cells #[.int .i64 0, .int .i64 0] 34)) = V := ⟨_, rfl⟩
  rw [hV]
  have hb := fbox_bel hV
  have hnew := fbox_blk hV
  have hge := HLay.out.bel.size
  replace HLay := Lib.hid (HLay.out.below hb)
  replace HZ1 := Lib.hid (HZ1.out.below hb (Nat.le_refl _))
  replace HZ2 := Lib.hid (HZ2.out.below hb (Nat.le_refl _))
  replace HO1 := Lib.hid (HO1.out.below hb (Nat.le_refl _))
  replace HO2 := Lib.hid (HO2.out.below hb (Nat.le_refl _))
  replace HLay := Lib.hid (HLay.out.add hge hnew)
  clear hnew hge hb hV
  obtain ⟨G33, hG⟩ : ∃ g, W31.heap.size = g := ⟨_, rfl⟩
  rw [hG] at HLay ⊢
  clear hG
  gi_wp2
  exact bodyPost_ret (v := .bool true) (by simp [results, Tryz.results12, go_sem]) rfl ⟨rfl, HLay.out.bel⟩
 ·have HKM := Lib.hid hkm
  have HK0 := Lib.hid hk0
  have HKT := Lib.hid hkt
  have HKL := Lib.hid hkl
  rw [hwv]
  clear hwv hkm hk0 hkt hkl
  gi_upto_region 12 with fail
  obtain ⟨V34, hV⟩ : ∃ V, (W31.alloc (.cells #[.int .i64 a, .int .i64 b] 34)) = V := ⟨_, rfl⟩
  rw [hV]
  have hb := fbox_bel hV
  have hnew := fbox_blk hV
  have hge := HLay.out.bel.size
  replace HLay := Lib.hid (HLay.out.below hb)
  replace HZ1 := Lib.hid (HZ1.out.below hb (Nat.le_refl _))
  replace HZ2 := Lib.hid (HZ2.out.below hb (Nat.le_refl _))
  replace HO1 := Lib.hid (HO1.out.below hb (Nat.le_refl _))
  replace HO2 := Lib.hid (HO2.out.below hb (Nat.le_refl _))
  replace HLay := Lib.hid (HLay.out.add hge hnew)
  clear hnew hge hb hV
  obtain ⟨G35, hG⟩ : ∃ g, W31.heap.size = g := ⟨_, rfl⟩
  rw [hG] at HLay ⊢
  clear hG
  have x0_0 := (HLay.out.blk 0 rfl).cell 0
  have x0_1 := (HLay.out.blk 0 rfl).cell 1
  have l0_ := HLay.out.lt 0 rfl
  gi_wp2
  clear x0_0 x0_1 l0_
  refine ⟨trivial, (callsIn_wide.2 (link_any A n c (some ⟨bq, oq, none⟩) m d t k V34 (by unfold maxLen; omega) ((HT.out.links.below HLay.out.bel).more HLay.out.bel.size))).mono ?_⟩
  rintro e W36 ⟨rfl, hb⟩
  replace HLay := Lib.hid (HLay.out.below hb)
  replace HZ1 := Lib.hid (HZ1.out.below hb (Nat.le_refl _))
  replace HZ2 := Lib.hid (HZ2.out.below hb (Nat.le_refl _))
  replace HO1 := Lib.hid (HO1.out.below hb (Nat.le_refl _))
  replace HO2 := Lib.hid (HO2.out.below hb (Nat.le_refl _))
  clear hb
  obtain ⟨li, hli⟩ : ∃ x, linkI t.links k = x := ⟨_, rfl⟩
  have hli0 : decide (li < 0) = false := by
   have h := linkI_pos HKM.out
   rw [hli] at h
   simp
   omega
  rw [hli]
  clear hli
  gi_upto_region 16 with fail
  have x0_0 := (HLay.out.blk 0 rfl).cell 0
  have x0_1 := (HLay.out.blk 0 rfl).cell 1
  have l0_ := HLay.out.lt 0 rfl
  gi_wp2
  clear x0_0 x0_1 l0_
  obtain ⟨V37, hV⟩ : ∃ V, (W36.alloc (.cells #[.int .i64 k] 3)) = V := ⟨_, rfl⟩
  rw [hV]
  have hb := fbox_bel hV
  have hnew := fbox_blk hV
  have hge := HLay.out.bel.size
  replace HLay := Lib.hid (HLay.out.below hb)
  replace HZ1 := Lib.hid (HZ1.out.below hb (Nat.le_refl _))
  replace HZ2 := Lib.hid (HZ2.out.below hb (Nat.le_refl _))
  replace HO1 := Lib.hid (HO1.out.below hb (Nat.le_refl _))
  replace HO2 := Lib.hid (HO2.out.below hb (Nat.le_refl _))
  replace HLay := Lib.hid (HLay.out.add hge hnew)
  clear hnew hge hb hV
  obtain ⟨G38, hG⟩ : ∃ g, W36.heap.size = g := ⟨_, rfl⟩
  rw [hG] at HLay ⊢
  clear hG
  refine ⟨trivial, (callsIn_wide.2 (without_any A n c (some ⟨bq, oq, none⟩) m d t (some ⟨G38, 0, none⟩) 1 1 [k] V37 (by omega) (by omega) (by omega) ((HT.out.below HLay.out.bel).more HLay.out.bel.size) (ints_blk2 [k] (HLay.out.blk 7 rfl)))).mono ?_⟩
  rintro e W39 ⟨AU, cU, AU2, cU2, rfl, hU1, hU2, _, hb⟩
  replace HLay := Lib.hid (HLay.out.below hb)
  replace HZ1 := Lib.hid (HZ1.out.below hb (Nat.le_refl _))
  replace HZ2 := Lib.hid (HZ2.out.below hb (Nat.le_refl _))
  replace HO1 := Lib.hid (HO1.out.below hb (Nat.le_refl _))
  replace HO2 := Lib.hid (HO2.out.below hb (Nat.le_refl _))
  clear hb
  have HU1 := Lib.hid hU1
  have HU2 := Lib.hid hU2
  clear hU1 hU2
  obtain ⟨tu, htu⟩ : ∃ x, lessT t (fun y' => memI [k] y'.id) = x := ⟨_, rfl⟩
  rw [htu] at HU1 HU2 HK0 HKT ⊢
  have hnu : tu.places.length ≤ 1000 := by rw [← htu]; exact less_n HLn.out (by omega)
  have hmu : tu.links.length ≤ 1000 := by rw [← htu]; exact less_m HLm.out (by omega)
  clear htu
  gi_wp2
  refine ⟨trivial, (callsIn_wide.2 (toilw_any AU tu.places.length cU AU2 tu.links.length cU2 tu u v dk W39 hnu hmu ⟨ints_of_own HU1.out (Nat.le_refl _), links_of_own HU2.out (Nat.le_refl _)⟩ (HL.out.below HLay.out.bel hl0))).mono ?_⟩
  rintro e W40 ⟨rfl, hb⟩
  replace HLay := Lib.hid (HLay.out.below hb)
  replace HZ1 := Lib.hid (HZ1.out.below hb (Nat.le_refl _))
  replace HZ2 := Lib.hid (HZ2.out.below hb (Nat.le_refl _))
  replace HO1 := Lib.hid (HO1.out.below hb (Nat.le_refl _))
  replace HO2 := Lib.hid (HO2.out.below hb (Nat.le_refl _))
  replace HU1 := Lib.hid (HU1.out.below hb (Nat.le_refl _))
  replace HU2 := Lib.hid (HU2.out.below hb (Nat.le_refl _))
  clear hb
  rw [HK0.out, HKT.out]
  gi_upto_region 17 with fail
  obtain ⟨V41, hV⟩ : ∃ V, (W40.alloc (.cells #[.int .i64 a, .int .i64 b] 34)) = V := ⟨_, rfl⟩
  rw [hV]
  have hb := fbox_bel hV
  have hnew := fbox_blk hV
  have hge := HLay.out.bel.size
  replace HLay := Lib.hid (HLay.out.below hb)
  replace HZ1 := Lib.hid (HZ1.out.below hb (Nat.le_refl _))
  replace HZ2 := Lib.hid (HZ2.out.below hb (Nat.le_refl _))
  replace HO1 := Lib.hid (HO1.out.below hb (Nat.le_refl _))
  replace HO2 := Lib.hid (HO2.out.below hb (Nat.le_refl _))
  replace HU1 := Lib.hid (HU1.out.below hb (Nat.le_refl _))
  replace HU2 := Lib.hid (HU2.out.below hb (Nat.le_refl _))
  replace HLay := Lib.hid (HLay.out.add hge hnew)
  clear hnew hge hb hV
  obtain ⟨G42, hG⟩ : ∃ g, W40.heap.size = g := ⟨_, rfl⟩
  rw [hG] at HLay ⊢
  clear hG
  have hes := eqToil_same a b
  have x6_0 := (HLay.out.blk 6 rfl).cell 0
  have x6_1 := (HLay.out.blk 6 rfl).cell 1
  have l6_ := HLay.out.lt 6 rfl
  have x8_0 := (HLay.out.blk 8 rfl).cell 0
  have x8_1 := (HLay.out.blk 8 rfl).cell 1
  have l8_ := HLay.out.lt 8 rfl
  gi_upto_region 19 with fail
  clear x6_0 x6_1 l6_ x8_0 x8_1 l8_
  clear hes
  by_cases h5 : e4 = 0
  ·have HKL2 := Lib.hid (HKL.out h5)
   subst h5
   have x5_0 := (HLay.out.blk 5 rfl).cell 0
   have x5_1 := (HLay.out.blk 5 rfl).cell 1
   have l5_ := HLay.out.lt 5 rfl
   have x6_0 := (HLay.out.blk 6 rfl).cell 0
   have x6_1 := (HLay.out.blk 6 rfl).cell 1
   have l6_ := HLay.out.lt 6 rfl
   have x1_0 := (HLay.out.blk 1 rfl).cell 0
   have x1_1 := (HLay.out.blk 1 rfl).cell 1
   have x1_2 := (HLay.out.blk 1 rfl).cell 2
   have x1_3 := (HLay.out.blk 1 rfl).cell 3
   have x1_4 := (HLay.out.blk 1 rfl).cell 4
   have l1_ := HLay.out.lt 1 rfl
   gi_wp2
   clear x5_0 x5_1 l5_ x6_0 x6_1 l6_ x1_0 x1_1 x1_2 x1_3 x1_4 l1_
   refine ⟨trivial, (callsIn_wide.2 (lessToil_any a b a4 b4 V41)).mono ?_⟩
   rintro e W43 ⟨rfl, hb⟩
   replace HLay := Lib.hid (HLay.out.below hb)
   replace HZ1 := Lib.hid (HZ1.out.below hb (Nat.le_refl _))
   replace HZ2 := Lib.hid (HZ2.out.below hb (Nat.le_refl _))
   replace HO1 := Lib.hid (HO1.out.below hb (Nat.le_refl _))
   replace HO2 := Lib.hid (HO2.out.below hb (Nat.le_refl _))
   replace HU1 := Lib.hid (HU1.out.below hb (Nat.le_refl _))
   replace HU2 := Lib.hid (HU2.out.below hb (Nat.le_refl _))
   clear hb
   rw [HKL2.out.1]
   by_cases heq : a4 = a ∧ b4 = b
   ·obtain ⟨ha4, hb4⟩ := heq
    have hle := HKL2.out.2 (by rw [ha4, hb4])
    have hte := fun w => eqToil_yes ⟨ha4, hb4⟩ w
    have hled : decide (k ≤ y.id) = true := by simp; omega
    clear ha4 hb4 hle
    have x5_0 := (HLay.out.blk 5 rfl).cell 0
    have x5_1 := (HLay.out.blk 5 rfl).cell 1
    have l5_ := HLay.out.lt 5 rfl
    have x6_0 := (HLay.out.blk 6 rfl).cell 0
    have x6_1 := (HLay.out.blk 6 rfl).cell 1
    have l6_ := HLay.out.lt 6 rfl
    have x1_0 := (HLay.out.blk 1 rfl).cell 0
    have x1_1 := (HLay.out.blk 1 rfl).cell 1
    have x1_2 := (HLay.out.blk 1 rfl).cell 2
    have x1_3 := (HLay.out.blk 1 rfl).cell 3
    have x1_4 := (HLay.out.blk 1 rfl).cell 4
    have l1_ := HLay.out.lt 1 rfl
    gi_wp2
    clear x5_0 x5_1 l5_ x6_0 x6_1 l6_ x1_0 x1_1 x1_2 x1_3 x1_4 l1_
    exact bodyPost_ret (v := .bool true) (by simp [results, Tryz.results12, go_sem]) rfl ⟨rfl, HLay.out.bel⟩
   ·have hte := fun w => eqToil_no heq w
    clear heq
    have x5_0 := (HLay.out.blk 5 rfl).cell 0
    have x5_1 := (HLay.out.blk 5 rfl).cell 1
    have l5_ := HLay.out.lt 5 rfl
    have x6_0 := (HLay.out.blk 6 rfl).cell 0
    have x6_1 := (HLay.out.blk 6 rfl).cell 1
    have l6_ := HLay.out.lt 6 rfl
    have x1_0 := (HLay.out.blk 1 rfl).cell 0
    have x1_1 := (HLay.out.blk 1 rfl).cell 1
    have x1_2 := (HLay.out.blk 1 rfl).cell 2
    have x1_3 := (HLay.out.blk 1 rfl).cell 3
    have x1_4 := (HLay.out.blk 1 rfl).cell 4
    have l1_ := HLay.out.lt 1 rfl
    gi_wp2
    clear x5_0 x5_1 l5_ x6_0 x6_1 l6_ x1_0 x1_1 x1_2 x1_3 x1_4 l1_
    exact bodyPost_ret (v := .bool true) (by simp [results, Tryz.results12, go_sem]) rfl ⟨rfl, HLay.out.bel⟩
  ·have h5b : (e4 != 0) = true := by simpa using h5
   clear h5
   have x5_0 := (HLay.out.blk 5 rfl).cell 0
   have x5_1 := (HLay.out.blk 5 rfl).cell 1
   have l5_ := HLay.out.lt 5 rfl
   have x6_0 := (HLay.out.blk 6 rfl).cell 0
   have x6_1 := (HLay.out.blk 6 rfl).cell 1
   have l6_ := HLay.out.lt 6 rfl
   have x1_0 := (HLay.out.blk 1 rfl).cell 0
   have x1_1 := (HLay.out.blk 1 rfl).cell 1
   have x1_2 := (HLay.out.blk 1 rfl).cell 2
   have x1_3 := (HLay.out.blk 1 rfl).cell 3
   have x1_4 := (HLay.out.blk 1 rfl).cell 4
   have l1_ := HLay.out.lt 1 rfl
   gi_wp2
   all_goals try (rename_i hA hB; exact undef_ne hA)
   clear x5_0 x5_1 l5_ x6_0 x6_1 l6_ x1_0 x1_1 x1_2 x1_3 x1_4 l1_
   refine ⟨trivial, ?_⟩
   gi_wp2
   exact bodyPost_ret (v := .bool true) (by simp [results, Tryz.results12, go_sem]) rfl ⟨rfl, HLay.out.bel⟩
theorem zclosed_walk (A : Option Addr) (n c : Nat) (A' : Option Addr) (m d : Nat) (t : Town) (fr : Nat) (to_ : Nat) (dk : Bool) (wh : Nat) (w : World) (hn : n ≤ maxLen) (hm : m ≤ maxLen) (hfr : fr ≤ 255) (hto_ : to_ ≤ 255) (hwh : wh ≤ 255) (ht : TownAt w w.heap.size A n A' m t)  (hL : Laid w) :
  Calls Tryz.prog 12 #[.agg #[.slice A n c, .slice A' m d], .int .u8 fr, .int .u8 to_, .bool dk, .int .u8 wh] w fun e w' => e = .returned (.bool true) ∧ Below w.heap.size w w' :=
 callsIn_wide.1 (zclosed_walk_in A n c A' m d t fr to_ dk wh w hn hm hfr hto_ hwh ht  hL)
end Go.Proofs.YtahkjagjcogeiaaGreatDoor
/- The table of checks as the row lists it: its three cells. The door's own heap meets the condition. -/
namespace Go.Proofs.YtahkjagjcogeiaaGreatDoor
open Go.ChangeShapes Go.WideShapes Go.ChangeAt Go.RowKit
set_option maxRecDepth 100000

def laidL : List (String × DataW Unit) := [("aguador/climb.checks", Rows.laid_aguador_climb_checks)]
theorem gChecks : Tryz.prog.globalNamed "aguador/climb.checks" = some 0 := by kernel_rfl
theorem tChecks : (Tryz.prog.globals[0]?).map (·.type) = some 163 := by kernel_rfl
theorem cellsCheck : Tryz.prog.cellsOf 162 = 1 := by kernel_rfl
theorem cellsFuncB : Tryz.prog.cellsOf 28 = 1 := by kernel_rfl
theorem checkUnd : ∃ f, Tryz.prog.underlying 162 = some (.struct #[f]) ∧ f.type = 28 ∧ f.offset = 0 := ⟨_, Tryz.underlying162, rfl, rfl⟩

/-- The door's own heap meets the condition. -/
theorem door_met (os : Os) (args : Array Value) : laidMetH Tryz.prog laidL ((World.doorLaid Tryz.prog 800 os).forCall (fun _ _ => 0) ⟨#[], args, []⟩).memory :=
 laidMetH_of_parts3 (fuel := 8) (laidMet_of_run' 8 (by kernel_rfl) (by kernel_rfl)) (by kernel_rfl) (by kernel_rfl)

theorem check_cell {W : World} {fuel : Nat} {cs : List Value} {b : UInt8} {r : List UInt8} {q : List MemPlace} {f0 : FuncId} (h : DataW.trod (funcToken Tryz.prog) Tryz.prog W 0 (fun _ => true) true fuel 162 cs = some (.agg [.held (b :: r)], q))
  (hone : ((List.range Tryz.prog.funcs.size).filter fun f => (Tryz.prog.funcs[f]?).any (·.name.toUTF8.data.toList == b :: r)) = [f0]) : cs = [.func (.func f0) #[] #[]] := by
 obtain ⟨f, hu, ht, ho⟩ := checkUnd
 obtain ⟨y0, n, hx, hl, h0⟩ := trod_struct1 hu h
 rw [cellsCheck] at hl
 match cs, hl with
 | [c], _ =>
  have h1 : DataW.trod (funcToken Tryz.prog) Tryz.prog W 0 (fun _ => true) true n 28 [c] = some y0 := by simpa [ht, ho, cellsFuncB] using h0
  simp only [Prod.mk.injEq, DataW.agg.injEq, List.cons.injEq, and_true] at hx
  obtain ⟨z, p⟩ := y0
  obtain ⟨e1, e2⟩ := hx
  simp only at e1
  subst e1
  rw [func_of_trod Tryz.underlying28 hone h1]

theorem of_laid {W : World} (h : laidMetH Tryz.prog laidL W) : Laid W := by
 obtain ⟨g, t, cs, fuel, p, hg, ht, hv, hd⟩ := h.funcs (List.mem_singleton.2 rfl)
 obtain rfl := Option.some.inj (gChecks.symm.trans hg)
 obtain rfl := Option.some.inj (tChecks.symm.trans ht)
 obtain ⟨xs, m, _, hx, hlen, hn, hel⟩ := DataW.trod_array Tryz.underlying163 hd
 rw [cellsCheck] at hel
 match xs, hn with
 | [x0, x1, x2], _ =>
  have h0 := hel 0 (by decide)
  have h1 := hel 1 (by decide)
  have h2 := hel 2 (by decide)
  simp only [Prod.mk.injEq] at hx
  have hx1 := hx.1
  simp only [DataW.funcsOut, DataW.funcsOutAll, List.map_cons, List.map_nil, DataW.agg.injEq, List.cons.injEq, and_true] at hx1
  obtain ⟨e0, e1, e2⟩ := hx1
  obtain ⟨x0, p0⟩ := x0
  obtain ⟨x1, p1⟩ := x1
  obtain ⟨x2, p2⟩ := x2
  simp only at e0 e1 e2
  subst e0 e1 e2
  have k0 := check_cell (f0 := 174) h0 (by kernel_rfl)
  have k1 := check_cell (f0 := 175) h1 (by kernel_rfl)
  have k2 := check_cell (f0 := 176) h2 (by kernel_rfl)
  have at_ : ∀ i, W.cell? ⟨0, i, none⟩ = cs[i]? := fun i => by simpa using World.var?_cell hg hv i
  obtain ⟨l⟩ := cs
  have c0 : W.cell? ⟨0, 0, none⟩ = some (.func (.func 174) #[] #[]) := by
   rw [at_]
   have := congrArg (·[0]?) k0
   simpa [List.getElem?_take, List.getElem?_drop] using this
  have c1 : W.cell? ⟨0, 1, none⟩ = some (.func (.func 175) #[] #[]) := by
   rw [at_]
   have := congrArg (·[0]?) k1
   simpa [List.getElem?_take, List.getElem?_drop] using this
  have c2 : W.cell? ⟨0, 2, none⟩ = some (.func (.func 176) #[] #[]) := by
   rw [at_]
   have := congrArg (·[0]?) k2
   simpa [List.getElem?_take, List.getElem?_drop] using this
  exact ⟨c0, c1, c2, World.block_lt_of_cell? W _ c0⟩

end Go.Proofs.YtahkjagjcogeiaaGreatDoor
