/- ClimbMore: whatever the arguments, the law answers true. The row, and the card. -/
import Derived.Test.YtahkjagjcogeiaaGreatDoorRows
import Derived.ProofKit
import Derived.LaidMore
import Derived.LaidHandle
import Derived.Stop.Joined
import Derived.ChangeSame
import Derived.OpenShut
import Derived.Lib.SmallJoins
import Derived.ChangeArms
import Derived.SevenTiedAt
import Derived.Test.YtahkjagjcogeiaaGreatDoorCards
import Derived.Test.YtahkjagjcogeiaaGreatDoorTie
import Derived.Test.YtahkjagjcogeiaaGreatDoorZxMore10
set_option linter.unusedVariables false
/- slices.Insert of one link into an owned slice. -/
namespace Go.Proofs.YtahkjagjcogeiaaGreatDoor
open Go.RowKit

theorem lit_add (g o k : Nat) : ((⟨g, o, none⟩ : Addr).add k) = ⟨g, o + k, none⟩ := by
 unfold Addr.add
 by_cases hk : k = 0
 ·simp [hk]
 ·simp [hk]
theorem flat_take {α : Type} {vals : α → List Value} {size : Nat} (hv : ∀ x, (vals x).length = size) (l : List α) (k : Nat) : (l.flatMap vals).take (k * size) = (l.take k).flatMap vals := by
 induction l generalizing k with
 | nil => simp
 | cons x l ih =>
  cases k with
  | zero => simp
  | succ k =>
   rw [List.flatMap_cons, List.take_succ_cons, List.flatMap_cons, ← ih k, List.take_append, hv, show (k + 1) * size - size = k * size by rw [Nat.add_mul]; omega, List.take_of_length_le (by rw [hv, Nat.add_mul]; omega)]
theorem flat_drop {α : Type} {vals : α → List Value} {size : Nat} (hv : ∀ x, (vals x).length = size) (l : List α) (k : Nat) : (l.flatMap vals).drop (k * size) = (l.drop k).flatMap vals := by
 induction l generalizing k with
 | nil => simp
 | cons x l ih =>
  cases k with
  | zero => simp
  | succ k =>
   rw [List.flatMap_cons, List.drop_succ_cons, ← ih k, List.drop_append, hv, show (k + 1) * size - size = k * size by rw [Nat.add_mul]; omega, List.drop_of_length_le (by rw [hv, Nat.add_mul]; omega), List.nil_append]

/-- Cells behind two copies: the head as it was, x, the tail. -/
theorem ins_cells {l : List Link} {x : Link} {at_ n : Nat} (hl : l.length = n) (hat : at_ ≤ n) {cs : Array Value} (hsz : (n + 1) * 5 ≤ cs.size) (hhead : ∀ k, k < at_ * 5 → cs[k]? = (l.flatMap Link.vals)[k]?) (first : Bool) :
  ∀ k, k < (n + 1) * 5 → (if first then wrt (wrt cs (at_ * 5) x.vals) ((at_ + 1) * 5) ((l.drop at_).flatMap Link.vals) else wrt (wrt cs ((at_ + 1) * 5) ((l.drop at_).flatMap Link.vals)) (at_ * 5) x.vals)[k]? = ((l.take at_ ++ x :: l.drop at_).flatMap Link.vals)[k]? := by
 have hd : ((l.drop at_).flatMap Link.vals).length = (n - at_) * 5 := by rw [flat_len' vals5, List.length_drop, hl]
 have ht : ((l.take at_).flatMap Link.vals).length = at_ * 5 := by rw [flat_len' vals5, List.length_take]; congr 1; omega
 have hx : x.vals.length = 5 := rfl
 intro k hk
 rw [List.flatMap_append, List.flatMap_cons]
 by_cases h1 : k < at_ * 5
 ·rw [List.getElem?_append_left (by omega)]
  have : (l.flatMap Link.vals)[k]? = ((l.take at_).flatMap Link.vals)[k]? := by
   rw [← flat_take vals5, List.getElem?_take, if_pos h1]
  rw [← this, ← hhead k h1]
  cases first
  ·simp only [Bool.false_eq_true, if_false]
   rw [wrt_out _ _ _ _ (.inl h1), wrt_out _ _ _ _ (.inl (by omega))]
  ·simp only [if_true]
   rw [wrt_out _ _ _ _ (.inl (by omega)), wrt_out _ _ _ _ (.inl h1)]
 ·rw [List.getElem?_append_right (by omega), ht]
  by_cases h2 : k < (at_ + 1) * 5
  ·rw [List.getElem?_append_left (by omega)]
   obtain ⟨q, rfl⟩ : ∃ q, k = at_ * 5 + q := ⟨k - at_ * 5, by omega⟩
   rw [show at_ * 5 + q - at_ * 5 = q by omega]
   cases first
   ·simp only [Bool.false_eq_true, if_false]
    rw [wrt_in _ _ _ _ (by omega) (by rw [wrt_size]; omega)]
   ·simp only [if_true]
    rw [wrt_out _ _ _ _ (.inl (by omega)), wrt_in _ _ _ _ (by omega) (by omega)]
  ·rw [List.getElem?_append_right (by omega), hx]
   obtain ⟨q, rfl⟩ : ∃ q, k = (at_ + 1) * 5 + q := ⟨k - (at_ + 1) * 5, by omega⟩
   rw [show (at_ + 1) * 5 + q - at_ * 5 - 5 = q by omega]
   cases first
   ·simp only [Bool.false_eq_true, if_false]
    rw [wrt_out _ _ _ _ (.inr (by omega)), wrt_in _ _ _ _ (by omega) (by omega)]
   ·simp only [if_true]
    rw [wrt_in _ _ _ _ (by omega) (by rw [wrt_size]; omega)]

/-- A one-element slice of a link in a block of its own. -/
theorem one_link {w : World} {vb : Nat} {tv : TypeId} {x : Link} (h : Blk w vb tv #[.int .i64 x.id, .int .i64 x.fr, .int .i64 x.to, .int .i64 x.steps, .int .i64 x.paces]) {B : Nat} (hB : vb < B) : Reads w B 5 (some ⟨vb, 0, none⟩) 1 x.vals :=
 ⟨rfl, fun _ => ⟨_, rfl, hB, fun j u hu => by
  rw [lit_add, Nat.zero_add, h.cell, ← hu]
  simp [Link.vals]⟩⟩
theorem vals_one (x : Link) : ∀ u ∈ x.vals, u.oneCell' = true := by
 intro u hu
 simp only [Link.vals, List.mem_cons, List.not_mem_nil, or_false] at hu
 rcases hu with rfl | rfl | rfl | rfl | rfl <;> rfl

theorem sizeof_link (w : World) : (sizeOf 52).run Tryz.prog w = .ok 5 w := by kernel_rfl
theorem size_link : (Tryz.prog.info? 52).map (·.size) = some 5 := by kernel_rfl

set_option maxRecDepth 100000 in
set_option maxHeartbeats 4000000 in
/-- At the end. -/
theorem insert_end (base : Nat) (A : Option Addr) (n c : Nat) (l : List Link) (vb : Nat) (tv : TypeId) (x : Link) (w : World) (hO : Own w base 52 5 A n c (l.flatMap Link.vals)) (hbase : base ≤ w.heap.size) (hn : n ≤ 100) (hx : Blk w vb tv #[.int .i64 x.id, .int .i64 x.fr, .int .i64 x.to, .int .i64 x.steps, .int .i64 x.paces]) :
  Calls Tryz.prog 99 #[.slice A n c, .int .i64 n, .slice (some ⟨vb, 0, none⟩) 1 1] w fun e w' => ∃ A' c', e = .returned (.slice A' (n + 1) c') ∧ Own w' base 52 5 A' (n + 1) c' ((l ++ [x]).flatMap Link.vals) ∧ w.grownBy w' (A.map (·.block)) ∧ (A' = A ∨ A' = some ⟨w.heap.size, 0, none⟩) := by
 have hcap := hO.cap_le
 have hcn := hcap.1
 have hmax : c ≤ 9223372036854775807 := by have := hcap.2; unfold maxLen at this; omega
 have hnil : A = none → n = 0 ∧ c = 0 ∧ l.flatMap Link.vals = [] := fun h => by subst h; exact hO.nil
 have HO := Lib.hid hO
 have HX := Lib.hid hx
 have HR : Hid (Reads w (vb + 1) 5 (some ⟨vb, 0, none⟩) 1 x.vals) := one_link hx (by omega)
 clear hO hx hcap
 cases A with
 | none =>
  obtain ⟨rfl, rfl, hl0⟩ := hnil rfl
  clear hnil hl0
  go_enter Tryz.func99, Tryz.ntmps99
  go_wp2_with (at_builtin; refine wpList_append_any _ rfl _ _ rfl elem_link rfl HO.out rfl HR.out (vals_one x) (by decide) (by decide) hbase ?_)
  rintro A' cap' w' hown hg hA
  go_wp2_with fail
  go_ret
  exact ⟨A', cap', rfl, by rw [List.flatMap_append]; simpa using hown, hg, hA⟩
 | some a =>
  clear hnil
  obtain ⟨g, rfl⟩ : ∃ g, a = ⟨g, 0, none⟩ := by
   rcases HO.out.form with ⟨h, _⟩ | ⟨g, cur, h, _⟩
   ·cases h
   ·cases h; exact ⟨g, rfl⟩
  go_enter Tryz.func99, Tryz.ntmps99
  go_wp2_with (at_builtin; refine wpList_append_any _ rfl _ _ rfl elem_link rfl HO.out rfl HR.out (vals_one x) (by unfold maxLen; omega) (by omega) hbase ?_)
  all_goals
   rintro A' cap' w' hown hg hA
   go_wp2_with fail
   go_ret
   exact ⟨A', cap', rfl, by rw [List.flatMap_append]; simpa using hown, hg, hA⟩

theorem below_of_grown_setCells {B : Nat} {w : World} : ∀ {vs : List Value} {o : Nat} {w' : World}, Below B w w' → Below B w (w'.setCells B o vs)
 | [], _, _, h => h
 | v :: r, o, w', h => below_of_grown_setCells (vs := r) (o := o + 1) (h.setCell (p := ⟨B, o, none⟩) (Nat.le_refl _) v)
theorem splitc {w : World} {g : Nat} {e : TypeId} {cs : Array Value} (hb : Blk w g e cs) {l : List Link} {n : Nat} (hl : l.length = n) (hcs : ∀ k, k < n * 5 → cs[k]? = (l.flatMap Link.vals)[k]?) (at_ : Nat) (hat : at_ ≤ n) :
  ∀ j v, ((l.drop at_).flatMap Link.vals)[j]? = some v → w.cell? ((⟨g, at_ * 5, none⟩ : Addr).add j) = some v := by
 intro j v hv
 have hd : ((l.drop at_).flatMap Link.vals).length = (n - at_) * 5 := by rw [flat_len' vals5, List.length_drop, hl]
 have hj : j < (n - at_) * 5 := by rw [← hd]; exact (List.getElem?_eq_some_iff.1 hv).1
 rw [lit_add, hb.cell, hcs _ (by omega), ← hv, ← flat_drop vals5, List.getElem?_drop]

set_option maxRecDepth 100000 in
set_option maxHeartbeats 400000 in
/-- In the middle, where there is room. -/
theorem insert_room (base g n c at_ : Nat) (l : List Link) (vb : Nat) (x : Link) (w : World) (hO : Own w base 52 5 (some ⟨g, 0, none⟩) n c (l.flatMap Link.vals)) (hat : at_ < n) (hc : n + 1 ≤ c) (hx : Blk w vb 52 #[.int .i64 x.id, .int .i64 x.fr, .int .i64 x.to, .int .i64 x.steps, .int .i64 x.paces]) (hne : vb ≠ g) :
  Calls Tryz.prog 99 #[.slice (some ⟨g, 0, none⟩) n c, .int .i64 at_, .slice (some ⟨vb, 0, none⟩) 1 1] w fun e w' => e = .returned (.slice (some ⟨g, 0, none⟩) (n + 1) c) ∧ Own w' base 52 5 (some ⟨g, 0, none⟩) (n + 1) c ((l.take at_ ++ x :: l.drop at_).flatMap Link.vals) ∧ w.grownBy w' (some g) := by
 have hl : l.length = n := by have := hO.len; rw [flat_len' vals5] at this; omega
 have hcap := hO.cap_le
 have hmax : c ≤ 9223372036854775807 := by have := hcap.2; unfold maxLen at this; omega
 rcases hO.form with ⟨h, _⟩ | ⟨g', cur, h, hbg, hblk, _, _, hsz, htake, _⟩
 ·cases h
 ·cases h
  have hcs : ∀ k, k < n * 5 → cur[k]? = (l.flatMap Link.vals)[k]? := by
   intro k hk
   rw [← htake, List.getElem?_take, if_pos hk, Array.getElem?_toList]
  have hd : ((l.drop at_).flatMap Link.vals).length = (n - at_) * 5 := by rw [flat_len' vals5, List.length_drop, hl]
  have hz1 : ¬ ((at_ : Int) = (n : Int)) := by omega
  have hov : ∀ lb cb, (callFunc 125 #[.slice (some ⟨vb, 0, none⟩) 1 1, .slice (some ⟨g, (at_ + 1) * 5, none⟩) lb cb]).run Tryz.prog w = .ok (.value (.bool false)) w := fun lb cb => by
   rw [run_callFunc_extern (P := Tryz.prog) (f := 125) (fn := Tryz.f125) (by kernel_rfl) (by kernel_rfl) (by kernel_rfl) (by kernel_rfl) (e := Extern.SlicesOverlaps.overlaps #[23, 23] #[4]) (by kernel_rfl),
    Lib.run_overlaps_apart w 23 4 52 Tryz.underlying23 5 sizeof_link ⟨vb, 0, none⟩ ⟨g, (at_ + 1) * 5, none⟩ 1 1 lb cb hne 52 52 5 cur.size
     (by unfold World.shape?; rw [show w.heap[vb]? = _ from hx]; rfl) (by unfold World.shape?; rw [show w.heap[g]? = _ from hblk]) (by omega) (hx.frozen 0) (hx.frozen 5)]
   rfl
  have hcp1 : ∀ ty dc sc, (Builtin.copy_ #[23, 23] ty #[.slice (some ⟨g, (at_ + 1) * 5, none⟩) (n - at_) dc, .slice (some ⟨g, at_ * 5, none⟩) (n + 1 - at_) sc]).run Tryz.prog w.drew = .ok (goInt (Nat.min (n + 1 - at_) (n - at_))) (w.drew.setCells g ((at_ + 1) * 5) ((l.drop at_).flatMap Link.vals)) := fun ty dc sc =>
   run_copy_blk (Blk.drewN hblk 1) Tryz.underlying23 size_link _ _ dc ⟨g, at_ * 5, none⟩ _ sc _ (by rw [hd, show Nat.min (n + 1 - at_) (n - at_) = n - at_ from Nat.min_eq_right (by omega)]) (splitc hblk hl hcs at_ (by omega)) (by rw [hd, hsz]; omega) (links_one _)
  have hb1 := Blk.setCells ((l.drop at_).flatMap Link.vals) ((at_ + 1) * 5) (Blk.drewN hblk 1)
  have hx1 : Blk (w.drew.setCells g ((at_ + 1) * 5) ((l.drop at_).flatMap Link.vals)) vb 52 #[.int .i64 x.id, .int .i64 x.fr, .int .i64 x.to, .int .i64 x.steps, .int .i64 x.paces] := ((grown_setCells (g := g) ((l.drop at_).flatMap Link.vals) ((at_ + 1) * 5) (grown_drew (grown_refl w (some g)) 1) (.inl rfl)).block vb hx.lt (by simp [hne])).trans hx
  have hcp2 : ∀ ty dc, (Builtin.copy_ #[23, 23] ty #[.slice (some ⟨g, at_ * 5, none⟩) (n + 1 - at_) dc, .slice (some ⟨vb, 0, none⟩) 1 1]).run Tryz.prog (w.drew.setCells g ((at_ + 1) * 5) ((l.drop at_).flatMap Link.vals)) = .ok (goInt (Nat.min 1 (n + 1 - at_))) ((w.drew.setCells g ((at_ + 1) * 5) ((l.drop at_).flatMap Link.vals)).setCells g (at_ * 5) x.vals) := fun ty dc =>
   run_copy_blk hb1 Tryz.underlying23 size_link _ _ dc ⟨vb, 0, none⟩ _ 1 _ (by rw [show Nat.min 1 (n + 1 - at_) = 1 from Nat.min_eq_left (by omega)]; rfl) (by
    intro j v hv
    rw [lit_add, Nat.zero_add]
    refine (hx1.cell j).trans ?_
    rw [← hv]
    simp [Link.vals]) (by rw [wrt_size, hsz]; simp [Link.vals]; omega) (vals_one x)
  have hic := ins_cells (x := x) hl (show at_ ≤ n by omega) (cs := cur) (by omega) (fun k hk => hcs k (by omega)) false
  simp only [Bool.false_eq_true, if_false] at hic
  have hfin : Own ((w.drew.setCells g ((at_ + 1) * 5) ((l.drop at_).flatMap Link.vals)).setCells g (at_ * 5) x.vals) base 52 5 (some ⟨g, 0, none⟩) (n + 1) c ((l.take at_ ++ x :: l.drop at_).flatMap Link.vals) :=
   Own.mk_ hbg (Blk.setCells x.vals (at_ * 5) hb1) hc hcap.2 (by rw [wrt_size, wrt_size]; exact hsz) (by rw [flat_len' vals5]; simp; omega) hic
  have hgr : w.grownBy ((w.drew.setCells g ((at_ + 1) * 5) ((l.drop at_).flatMap Link.vals)).setCells g (at_ * 5) x.vals) (some g) := grown_setCells x.vals (at_ * 5) (grown_setCells _ _ (grown_drew (grown_refl w (some g)) 1) (.inl rfl)) (.inl rfl)
  have mixed : Tryz.prog.follows .mixedOrders = true := by kernel_rfl
  have k1 : ((at_ : Int) == (n : Int)) = false := by simp; omega
  have k2 : ¬ (c = at_ + 1) := by omega
  have k3 : ¬ (c = at_) := by omega
  have k4 : decide ((c : Int) < (n : Int) + 1) = false := by simp; omega
  have k5 : ((at_ : Int) + 1).toNat = at_ + 1 := by omega
  have k6 : ((n : Int) + 1).toNat = n + 1 := by omega
  have k7 : IntKind.i64.wrap ((at_ : Int) + 1) = (at_ : Int) + 1 := by rw [IntKind.wrap_i64]; omega
  have k8 : (0 : Int) ≤ (at_ : Int) + 1 := by omega
  have k9 : at_ ≤ n := by omega
  have k10 : (at_ : Int) ≤ (n : Int) + 1 := by omega
  have k11 : n + 1 - (at_ + 1) = n - at_ := by omega
  have HF := Lib.hid hfin
  have HG := Lib.hid hgr
  have H1 := Lib.hid hcp1
  have H2 := Lib.hid hcp2
  clear hcp1 hcp2
  clear hfin hgr hic hb1 hx1 hx hO hcs hd hsz htake hl hblk hcap
  go_enter Tryz.func99, Tryz.ntmps99
  go_wp2_with (simp only [hov])
  clear hov
  have hcp1 := H1.out
  go_region
  clear hcp1
  have hcp2 := H2.out
  go_wp2_with fail
  go_ret
  exact ⟨rfl, HF.out, HG.out⟩

theorem under_int_kind : Tryz.prog.underlying 3 = some (.int .i64) := Tryz.underlying3

set_option maxRecDepth 100000 in
set_option maxHeartbeats 1000000 in
/-- In the middle, where there is no room. -/
theorem insert_grow (base g n c at_ : Nat) (l : List Link) (vb : Nat) (x : Link) (w : World) (hO : Own w base 52 5 (some ⟨g, 0, none⟩) n c (l.flatMap Link.vals)) (hbase : base ≤ w.heap.size) (hat : at_ < n) (hn : n ≤ 100) (hc : c < n + 1) (hx : Blk w vb 52 #[.int .i64 x.id, .int .i64 x.fr, .int .i64 x.to, .int .i64 x.steps, .int .i64 x.paces]) :
  Calls Tryz.prog 99 #[.slice (some ⟨g, 0, none⟩) n c, .int .i64 at_, .slice (some ⟨vb, 0, none⟩) 1 1] w fun e w' => ∃ c', e = .returned (.slice (some ⟨w.heap.size, 0, none⟩) (n + 1) c') ∧ Own w' base 52 5 (some ⟨w.heap.size, 0, none⟩) (n + 1) c' ((l.take at_ ++ x :: l.drop at_).flatMap Link.vals) ∧ Below w.heap.size w w' := by
 have hl : l.length = n := by have := hO.len; rw [flat_len' vals5] at this; omega
 have hcap := hO.cap_le
 have hmax : c ≤ 9223372036854775807 := by have := hcap.2; unfold maxLen at this; omega
 obtain ⟨i0, hi, hz0, hz1, hz2⟩ := info_parts info_link
 rcases hO.form with ⟨h, _⟩ | ⟨g', cur, h, hbg, hblk, _, _, hsz, htake, _⟩
 ·cases h
 ·cases h
  have hcs : ∀ k, k < n * 5 → cur[k]? = (l.flatMap Link.vals)[k]? := by
   intro k hk
   rw [← htake, List.getElem?_take, if_pos hk, Array.getElem?_toList]
  have hd : ((l.drop at_).flatMap Link.vals).length = (n - at_) * 5 := by rw [flat_len' vals5, List.length_drop, hl]
  have htk : ((l.take at_).flatMap Link.vals).length = at_ * 5 := by rw [flat_len' vals5, List.length_take]; congr 1; omega
  have hgl := hblk.lt
  have hxl := hx.lt
  have hap : ∀ ty, (Builtin.append_ #[23, 3] ty #[.slice (some ⟨g, 0, none⟩) at_ c, .int .i64 ((n + 1 - at_ : Nat) : Int)]).run Tryz.prog w = _ := fun ty =>
   run_append_make hblk Tryz.underlying23 under_int_kind hi hz0 at_ c (n + 1 - at_) ((l.take at_).flatMap Link.vals) (by rw [hz1]; exact htk) (by
    intro k hk
    rw [hz1] at hk
    rw [hcs k (by omega), ← flat_take vals5, List.getElem?_take, if_pos hk]) (by omega) (by rw [hz1]; omega) (by omega) (by omega) (by rw [hz2]; omega)
  rw [show at_ + (n + 1 - at_) = n + 1 by omega] at hap
  have hge := grownCap_ge w (n + 1) c 52
  have hle := grownCap_le_maxLen w (n + 1) c 52 (by unfold maxLen; omega)
  generalize grownCap w (n + 1) c 52 = cap' at hap hge hle
  obtain ⟨news, hnews⟩ : ∃ news : Array Value, ((l.take at_).flatMap Link.vals).toArray ++ Builtin.zeroCells (Value.agg #[.int .i64 0, .int .i64 0, .int .i64 0, .int .i64 0, .int .i64 0]).cells (n + 1 - at_) ++ Builtin.zeroCells (Value.agg #[.int .i64 0, .int .i64 0, .int .i64 0, .int .i64 0, .int .i64 0]).cells (cap' - (n + 1)) = news := ⟨_, rfl⟩
  rw [hnews] at hap
  have hns : news.size = cap' * 5 := by
   rw [← hnews]
   simp only [Array.size_append, List.size_toArray, htk, Builtin.zeroCells, Array.size_map, Array.size_range, Value.cells]
   simp
   omega
  have hhead : ∀ k, k < at_ * 5 → news[k]? = (l.flatMap Link.vals)[k]? := by
   intro k hk
   rw [← hnews, Array.append_assoc, Array.getElem?_append_left (by simp [htk]; omega), List.getElem?_toArray, ← flat_take vals5, List.getElem?_take, if_pos hk]
  have hw1 : Blk (w.drew.alloc (.cells news 52)) w.heap.size 52 news := Blk.new w.drew _ _
  have hb1 : Below w.heap.size w (w.drew.alloc (.cells news 52)) := (Below.refl _ _).drew.alloc (Nat.le_refl _) _
  have hx1 := hx.below hb1 hxl
  obtain ⟨W1, hW1⟩ : ∃ W1, w.drew.alloc (.cells news 52) = W1 := ⟨_, rfl⟩
  rw [hW1] at hap hw1 hb1 hx1
  have hcp1 : ∀ ty dc, (Builtin.copy_ #[23, 23] ty #[.slice (some ⟨w.heap.size, at_ * 5, none⟩) (n + 1 - at_) dc, .slice (some ⟨vb, 0, none⟩) 1 1]).run Tryz.prog W1 = .ok (goInt (Nat.min 1 (n + 1 - at_))) (W1.setCells w.heap.size (at_ * 5) x.vals) := fun ty dc =>
   run_copy_blk hw1 Tryz.underlying23 size_link _ _ dc ⟨vb, 0, none⟩ _ 1 _ (by rw [show Nat.min 1 (n + 1 - at_) = 1 from Nat.min_eq_left (by omega)]; rfl) (by
    intro j v hv
    rw [lit_add, Nat.zero_add]
    refine (hx1.cell j).trans ?_
    rw [← hv]
    simp [Link.vals]) (by rw [hns]; simp [Link.vals]; omega) (vals_one x)
  have hw2 := Blk.drewN (Blk.setCells x.vals (at_ * 5) hw1) 1
  have hb2 : Below w.heap.size w (W1.setCells w.heap.size (at_ * 5) x.vals) := below_of_grown_setCells hb1
  obtain ⟨W2, hW2⟩ : ∃ W2, W1.setCells w.heap.size (at_ * 5) x.vals = W2 := ⟨_, rfl⟩
  rw [hW2] at hcp1 hw2 hb2
  have hcp2 : ∀ ty dc sc, (Builtin.copy_ #[23, 23] ty #[.slice (some ⟨w.heap.size, (at_ + 1) * 5, none⟩) (n - at_) dc, .slice (some ⟨g, at_ * 5, none⟩) (n - at_) sc]).run Tryz.prog W2.drew = .ok (goInt (Nat.min (n - at_) (n - at_))) (W2.drew.setCells w.heap.size ((at_ + 1) * 5) ((l.drop at_).flatMap Link.vals)) := fun ty dc sc =>
   run_copy_blk hw2 Tryz.underlying23 size_link _ _ dc ⟨g, at_ * 5, none⟩ _ sc _ (by rw [hd, show Nat.min (n - at_) (n - at_) = n - at_ from Nat.min_self _]) (splitc (Blk.drewN (hblk.below hb2 hgl) 1) hl hcs at_ (by omega)) (by rw [wrt_size, hd, hns]; omega) (links_one _)
  have hic := ins_cells (x := x) hl (show at_ ≤ n by omega) (cs := news) (by omega) hhead true
  simp only [if_true] at hic
  have hfin : Own (W2.drew.setCells w.heap.size ((at_ + 1) * 5) ((l.drop at_).flatMap Link.vals)) base 52 5 (some ⟨w.heap.size, 0, none⟩) (n + 1) cap' ((l.take at_ ++ x :: l.drop at_).flatMap Link.vals) :=
   Own.mk_ hbase (Blk.setCells ((l.drop at_).flatMap Link.vals) ((at_ + 1) * 5) hw2) (by omega) hle (by rw [wrt_size, wrt_size]; exact hns) (by rw [flat_len' vals5]; simp; omega) hic
  have hgr : Below w.heap.size w (W2.drew.setCells w.heap.size ((at_ + 1) * 5) ((l.drop at_).flatMap Link.vals)) := below_of_grown_setCells hb2.drew
  have mixed : Tryz.prog.follows .mixedOrders = true := by kernel_rfl
  have k1 : ((at_ : Int) == (n : Int)) = false := by simp; omega
  have k2 : ¬ (cap' = at_ + 1) := by omega
  have k3 : ¬ (cap' = at_) := by omega
  have k2' : ¬ (c = at_) := by omega
  have k4 : decide ((c : Int) < (n : Int) + 1) = true := by simp; omega
  have k5 : ((at_ : Int) + 1).toNat = at_ + 1 := by omega
  have k6 : ((n : Int) + 1).toNat = n + 1 := by omega
  have k7 : IntKind.i64.wrap ((at_ : Int) + 1) = (at_ : Int) + 1 := by rw [IntKind.wrap_i64]; omega
  have k8 : (0 : Int) ≤ (at_ : Int) + 1 := by omega
  have k9 : at_ ≤ n := by omega
  have k10 : (at_ : Int) ≤ (n : Int) + 1 := by omega
  have k11 : n + 1 - (at_ + 1) = n - at_ := by omega
  have k12 : (n : Int) + 1 - (at_ : Int) = ((n + 1 - at_ : Nat) : Int) := by omega
  have HF := Lib.hid hfin
  have HG := Lib.hid hgr
  rw [← k12] at hap
  have HA := Lib.hid hap
  clear hap k12
  have H1 := Lib.hid hcp1
  have H2 := Lib.hid hcp2
  clear hfin hgr hic hb1 hx1 hx hO hcs hd hsz htake hl hblk hcap hcp1 hcp2 hW1 hW2 hnews hns hhead hw1 hw2 hb2 hi hz0 hz1 hz2 htk
  go_enter Tryz.func99, Tryz.ntmps99
  have hcp1 := H1.out
  go_wp2_with (at_builtin; refine Lib.wpList_append_run _ rfl _ _ 23 3 rfl _ _ rfl rfl _ _ (HA.out _) ?_)
  clear hcp1
  have hcp2 := H2.out
  go_region
  clear hcp2
  go_wp2_with fail
  go_ret
  exact ⟨cap', rfl, HF.out, HG.out⟩

/-- slices.Insert of one link. -/
theorem insert_link (base : Nat) (A : Option Addr) (n c at_ : Nat) (l : List Link) (vb : Nat) (x : Link) (w : World) (hO : Own w base 52 5 A n c (l.flatMap Link.vals)) (hbase : base ≤ w.heap.size) (hat : at_ ≤ n) (hn : n ≤ 100) (hx : Blk w vb 52 #[.int .i64 x.id, .int .i64 x.fr, .int .i64 x.to, .int .i64 x.steps, .int .i64 x.paces]) (hne : ∀ a, A = some a → vb ≠ a.block) :
  Calls Tryz.prog 99 #[.slice A n c, .int .i64 at_, .slice (some ⟨vb, 0, none⟩) 1 1] w fun e w' => ∃ A' c', e = .returned (.slice A' (n + 1) c') ∧ Own w' base 52 5 A' (n + 1) c' ((l.take at_ ++ x :: l.drop at_).flatMap Link.vals) ∧ w.grownBy w' (A.map (·.block)) ∧ (A' = A ∨ A' = some ⟨w.heap.size, 0, none⟩) := by
 have hl : l.length = n := by have := hO.len; rw [flat_len' vals5] at this; omega
 rcases Nat.eq_or_lt_of_le hat with rfl | hlt
 ·refine (insert_end base A at_ c l vb _ x w hO hbase hn hx).mono ?_
  rintro e w' ⟨A', c', h1, h2, h3, h4⟩
  rw [List.take_of_length_le (by omega), List.drop_eq_nil_of_le (by omega)]
  exact ⟨A', c', h1, h2, h3, h4⟩
 ·obtain ⟨g, rfl⟩ : ∃ g, A = some ⟨g, 0, none⟩ := by
   rcases hO.form with ⟨_, h, _⟩ | ⟨g, cur, h, _⟩
   ·omega
   ·exact ⟨g, h⟩
  by_cases hc : n + 1 ≤ c
  ·refine (insert_room base g n c at_ l vb x w hO hlt hc hx (hne _ rfl)).mono ?_
   rintro e w' ⟨h1, h2, h3⟩
   exact ⟨_, _, h1, h2, h3, .inl rfl⟩
  ·refine (insert_grow base g n c at_ l vb x w hO hbase hlt hn (by omega) hx).mono ?_
   rintro e w' ⟨c', h1, h2, h3⟩
   exact ⟨_, _, h1, h2, grown_of_below h3 _, .inr rfl⟩
end Go.Proofs.YtahkjagjcogeiaaGreatDoor
/- climb.Open. -/
namespace Go.Proofs.YtahkjagjcogeiaaGreatDoor
open Go.RowKit

/-- Where things lie while Open works. -/
structure OpenGh where
 AP : Option Addr
 cP : Nat
 AK : Option Addr
 cK : Nat
 AI : Option Addr
 cI : Nat
 g : Nat

def openT (t : Town) (x : Link) : Town := ⟨t.places, t.links.take (lowB t.links x.id) ++ x :: t.links.drop (lowB t.links x.id)⟩
def openR (t : Town) (x : Link) : Town := if townB t && townB (openT t x) then openT t x else noTown
def openE (t : Town) (x : Link) : Int := if townB t then (if townB (openT t x) then 0 else 34) else 30

theorem linksB_pw {t : Town} : ∀ {l : List Link} {last : Int}, linksB t last l = true → (∀ x ∈ l, last < x.id) ∧ l.Pairwise fun x y => x.id < y.id
 | [], _, _ => ⟨by simp, List.Pairwise.nil⟩
 | x :: l, last, h => by
  simp only [linksB, Bool.and_eq_true] at h
  obtain ⟨h1, h2⟩ := linksB_pw h.2
  have h3 : last < x.id := by
   have := h.1
   unfold linkB at this
   simp only [Bool.and_eq_true] at this
   have := inB_iff.1 this.1.1.1.1
   omega
  refine ⟨fun y hy => ?_, List.Pairwise.cons h1 h2⟩
  rcases List.mem_cons.1 hy with rfl | hy
  ·exact h3
  ·have := h1 y hy; omega
theorem townB_links {t : Town} (h : townB t = true) : t.links.Pairwise fun x y => x.id < y.id := by
 unfold townB at h
 simp only [Bool.and_eq_true] at h
 exact (linksB_pw h.2).2
theorem townB_size {t : Town} (h : townB t = true) : t.places.length ≤ 9 ∧ t.links.length ≤ 20 := by
 unfold townB sizeB at h
 simp only [Bool.and_eq_true, decide_eq_true_eq] at h
 have := inB_iff.1 h.1.1.1
 exact ⟨by omega, h.1.1.2⟩

set_option maxRecDepth 100000 in
set_option maxHeartbeats 8000000 in
theorem open_any (A : Option Addr) (n c : Nat) (A' : Option Addr) (m d : Nat) (t : Town) (x : Link) (w : World) (hn : n ≤ 1000) (hm : m ≤ 1000) (ht : TownAt w w.heap.size A n A' m t) (hL : Laid w) :
  Calls Tryz.prog 45 #[.agg #[.slice A n c, .slice A' m d], .agg #[.int .i64 x.id, .int .i64 x.fr, .int .i64 x.to, .int .i64 x.steps, .int .i64 x.paces]] w fun e w' => TownErr w e w' (openR t x) (openE t x) := by
 have HT := Lib.hid ht
 have HL := Lib.hid hL
 have hl0 := hL.2.2.2
 have hn1 : n ≤ maxLen := by unfold maxLen; omega
 have hm1 : m ≤ maxLen := by unfold maxLen; omega
 have hn2 : n * 8 ≤ 140737488355328 := by omega
 have hm2 : m * 40 ≤ 140737488355328 := by omega
 clear ht hL
 go_enter Tryz.func45, Tryz.ntmps45
 go_wp2_with fail
 have X0 := ((Blk.new w 25 #[.slice A n c, .slice A' m d]).alloc (.cells #[.int .i64 x.id, .int .i64 x.fr, .int .i64 x.to, .int .i64 x.steps, .int .i64 x.paces] 52)).alloc (.cells #[.slice none 0 0, .slice none 0 0] 25)
 have Y0 := (Blk.new (w.alloc (.cells #[.slice A n c, .slice A' m d] 25)) 52 #[.int .i64 x.id, .int .i64 x.fr, .int .i64 x.to, .int .i64 x.steps, .int .i64 x.paces]).alloc (.cells #[.slice none 0 0, .slice none 0 0] 25)
 have Z0 := Blk.new ((w.alloc (.cells #[.slice A n c, .slice A' m d] 25)).alloc (.cells #[.int .i64 x.id, .int .i64 x.fr, .int .i64 x.to, .int .i64 x.steps, .int .i64 x.paces] 52)) 25 #[.slice none 0 0, .slice none 0 0]
 have B0 : Below w.heap.size w (((w.alloc (.cells #[.slice A n c, .slice A' m d] 25)).alloc (.cells #[.int .i64 x.id, .int .i64 x.fr, .int .i64 x.to, .int .i64 x.steps, .int .i64 x.paces] 52)).alloc (.cells #[.slice none 0 0, .slice none 0 0] 25)) := (((Below.refl _ _).alloc (Nat.le_refl _) _).alloc (by simp) _).alloc (by simp; omega) _
 rw [World.size_alloc] at Y0
 rw [World.size_alloc, World.size_alloc] at Z0
 generalize (((w.alloc (.cells #[.slice A n c, .slice A' m d] 25)).alloc (.cells #[.int .i64 x.id, .int .i64 x.fr, .int .i64 x.to, .int .i64 x.steps, .int .i64 x.paces] 52)).alloc (.cells #[.slice none 0 0, .slice none 0 0] 25)) = w0 at *
 with_reducible refine (check_any A n c A' m d t w0 hn1 hm1 ((HT.out.below B0).more B0.size) (HL.out.below B0 hl0)).mono ?_
 rintro e w1 ⟨rfl, hb1⟩
 replace X0 := X0.below hb1 X0.lt
 replace Y0 := Y0.below hb1 Y0.lt
 replace Z0 := Z0.below hb1 Z0.lt
 replace B0 := B0.trans (hb1.mono B0.size)
 have x0 := X0.cell 0
 have x1 := X0.cell 1
 have y0 := Y0.cell 0
 have z0 := Z0.cell 0
 have z1 := Z0.cell 1
 have q0 := Z0.frozen 0
 have q1 := Z0.frozen 1
 clear hb1
 cases htb : townB t with
 | false =>
  have hc : chk t = 30 := by unfold chk; rw [htb]; rfl
  have HC := Lib.hid htb
  clear htb
  go_wp2_with fail
  have e1 : openR t x = noTown := by unfold openR; rw [HC.out]; rfl
  have e2 : openE t x = 30 := by unfold openE; rw [HC.out]; rfl
  rw [e1, e2]
  exact bodyPost_ret (v := .tuple #[.agg #[.slice none 0 0, .slice none 0 0], .int .i64 30]) (by simp [results, Tryz.results45, go_sem, z0, z1]) rfl (TownErr.none_ ((B0.setCell (p := ⟨w.heap.size + 1 + 1, 0, none⟩) (by show w.heap.size ≤ w.heap.size + 1 + 1; omega) _).setCell (p := ⟨w.heap.size + 1 + 1, 1, none⟩) (by show w.heap.size ≤ w.heap.size + 1 + 1; omega) _))
 | true =>
  have hc : chk t = 0 := by unfold chk; rw [htb]; rfl
  have hsz := townB_size htb
  have hl1 := HT.out.links.len
  have hm3 : m ≤ 100 := by omega
  have hlow : lowB t.links x.id ≤ m := by rw [← hl1]; exact lowB_le _ _
  have HS := Lib.hid (townB_links htb)
  have HC := Lib.hid htb
  have Hl1 := Lib.hid hl1
  clear htb z0 z1 q0 q1 hsz hl1
  go_wp2_with fail
  with_reducible refine (search_link A' m d t.links x.id w1 ((HT.out.links.below B0).more B0.size) hm HS.out).mono ?_
  rintro e w2 ⟨⟨fb, rfl⟩, hb2⟩
  replace X0 := X0.below hb2 X0.lt
  replace Y0 := Y0.below hb2 Y0.lt
  replace Z0 := Z0.below hb2 Z0.lt
  replace B0 := B0.trans (hb2.mono B0.size)
  clear x0 x1 y0 hb2
  go_wp2_with fail
  refine wp_region_steps (by kernel_rfl) (by kernel_rfl) (fun σ : OpenGh × (Nat → Value) => { tmps := #[.agg #[.slice A n c, .slice A' m d], .agg #[.int .i64 x.id, .int .i64 x.fr, .int .i64 x.to, .int .i64 x.steps, .int .i64 x.paces], .pointer (some ⟨w.heap.size, 0, none⟩), .pointer (some ⟨w.heap.size + 1, 0, none⟩), .pointer (some ⟨w.heap.size + 1 + 1, 0, none⟩), .int .i64 0, .int .i64 0, .int .i64 (lowB t.links x.id), .bool fb, .agg #[.slice A n c, .slice A' m d], .int .i64 0, .int .i64 0, .bool false, undef, undef, .tuple #[.int .i64 (lowB t.links x.id), .bool fb], .pointer (some ⟨w.heap.size, 1, none⟩), .slice A' m d, .pointer (some ⟨w.heap.size + 1, 0, none⟩), .int .i64 x.id, .tuple #[.int .i64 (lowB t.links x.id), .bool fb], .int .i64 (lowB t.links x.id), .bool fb, σ.2 23, σ.2 24, σ.2 25, σ.2 26, σ.2 27, σ.2 28, σ.2 29, σ.2 30, σ.2 31, σ.2 32, σ.2 33, undef, undef, undef, undef, undef], defers := [] })
   (fun L σ W => (Below w.heap.size w W) ∧ (L 11 = false → Blk W w.heap.size 25 #[.slice A n c, .slice A' m d]) ∧ (L 11 = true → Blk W w.heap.size 25 #[.slice σ.1.AP n σ.1.cP, .slice σ.1.AI (m + 1) σ.1.cI]) ∧ (Blk W (w.heap.size + 1) 52 #[.int .i64 x.id, .int .i64 x.fr, .int .i64 x.to, .int .i64 x.steps, .int .i64 x.paces]) ∧ (Blk W (w.heap.size + 1 + 1) 25 #[.slice none 0 0, .slice none 0 0]) ∧ (L 2 = true → Own W w.heap.size 3 1 σ.1.AP n σ.1.cP (t.places.map (Value.int .i64)) ∧ Above (w.heap.size + 2) σ.1.AP) ∧ (L 5 = true → L 9 = false → Own W w.heap.size 52 5 σ.1.AK m σ.1.cK (t.links.flatMap Link.vals) ∧ Above (w.heap.size + 2) σ.1.AK) ∧ (L 8 = true → L 9 = false → Blk W σ.1.g 52 #[.int .i64 x.id, .int .i64 x.fr, .int .i64 x.to, .int .i64 x.steps, .int .i64 x.paces] ∧ w.heap.size + 2 < σ.1.g) ∧ (L 9 = true → Own W w.heap.size 52 5 σ.1.AI (m + 1) σ.1.cI ((t.links.take (lowB t.links x.id) ++ x :: t.links.drop (lowB t.links x.id)).flatMap Link.vals) ∧ Above (w.heap.size + 2) σ.1.AI) ∧ (L 2 = true → L 5 = true → L 9 = false → Apart σ.1.AP σ.1.AK) ∧ (L 2 = true → L 9 = true → Apart σ.1.AP σ.1.AI) ∧ (L 5 = true → L 8 = true → L 9 = false → ∀ a, σ.1.AK = some a → σ.1.g ≠ a.block) ∧ (L 0 = true → σ.2 23 = .pointer (some ⟨w.heap.size, 0, none⟩)) ∧ (L 1 = true → σ.2 24 = .slice A n c) ∧ (L 2 = true → σ.2 25 = .slice σ.1.AP n σ.1.cP) ∧ (L 3 = true → σ.2 26 = .pointer (some ⟨w.heap.size, 1, none⟩)) ∧ (L 4 = true → σ.2 27 = .slice A' m d) ∧ (L 5 = true → σ.2 28 = .slice σ.1.AK m σ.1.cK) ∧ (L 6 = true → σ.2 29 = .int .i64 (lowB t.links x.id)) ∧ (L 7 = true → σ.2 30 = .agg #[.int .i64 x.id, .int .i64 x.fr, .int .i64 x.to, .int .i64 x.steps, .int .i64 x.paces]) ∧ (L 8 = true → σ.2 31 = .slice (some ⟨σ.1.g, 0, none⟩) 1 1) ∧ (L 9 = true → σ.2 32 = .slice σ.1.AI (m + 1) σ.1.cI) ∧ (L 10 = true → σ.2 33 = .agg #[.slice σ.1.AP n σ.1.cP, .slice σ.1.AI (m + 1) σ.1.cI]))
   (⟨none, 0, none, 0, none, 0, 0⟩, fun k => undef) rfl ?_ ?_ ?_
  ·exact ⟨B0.drew, fun _ => X0.drew, (fun h => by cases h), Y0.drew, Z0.drew, (fun h => by cases h), (fun h => by cases h), (fun h => by cases h), (fun h => by cases h), (fun h => by cases h), (fun h => by cases h), (fun h => by cases h), (fun h => by cases h), (fun h => by cases h), (fun h => by cases h), (fun h => by cases h), (fun h => by cases h), (fun h => by cases h), (fun h => by cases h), (fun h => by cases h), (fun h => by cases h), (fun h => by cases h), (fun h => by cases h)⟩
  ·refine ⟨?_, ?_, ?_, ?_, ?_, ?_, ?_, ?_, ?_, ?_, ?_, ?_, trivial⟩
   ·rintro L ⟨gh, s⟩ W hu hd hdn ⟨g1, g2, g3, g4, g5, gP, gK, gB, gI, dPK, dPI, dKB, f0, f1, f2, f3, f4, f5, f6, f7, f8, f9, f10⟩ K Q hK
    have HF := Lib.hid (And.intro g1 (And.intro g2 (And.intro g3 (And.intro g4 (And.intro g5 (And.intro gP (And.intro gK (And.intro gB (And.intro gI (And.intro dPK (And.intro dPI (And.intro dKB (And.intro f0 (And.intro f1 (And.intro f2 (And.intro f3 (And.intro f4 (And.intro f5 (And.intro f6 (And.intro f7 (And.intro f8 (And.intro f9 f10))))))))))))))))))))))
    clear f10 f9 f8 f7 f6 f5 f4 f3 f2 f1 f0 dKB dPI dPK gI gB gK gP g5 g4 g3 g2 g1 hd
    simp only
    go_wp2_with fail
    obtain ⟨g1, g2, g3, g4, g5, gP, gK, gB, gI, dPK, dPI, dKB, f0, f1, f2, f3, f4, f5, f6, f7, f8, f9, f10⟩ := HF.out
    exact hK (gh, (upd s 23 (.pointer (some ⟨w.heap.size, 0, none⟩)))) _ ⟨g1, g2, g3, g4, g5, gP, gK, gB, gI, dPK, dPI, dKB, (fun _ => rfl), f1, f2, f3, f4, f5, f6, f7, f8, f9, f10⟩
   ·rintro L ⟨gh, s⟩ W hu hd hdn ⟨g1, g2, g3, g4, g5, gP, gK, gB, gI, dPK, dPI, dKB, f0, f1, f2, f3, f4, f5, f6, f7, f8, f9, f10⟩ K Q hK
    have e0 := f0 (hd.at_ 0 rfl)
    have h11 : L 11 = false := by
     cases hc : L 11 with
     | false => rfl
     | true => exact hdn.no 11 1 hc rfl hu
    have c0 : W.cell? ⟨w.heap.size, 0, none⟩ = some (.slice A n c) := (g2 h11).cell 0
    have HF := Lib.hid (And.intro g1 (And.intro g2 (And.intro g3 (And.intro g4 (And.intro g5 (And.intro gP (And.intro gK (And.intro gB (And.intro gI (And.intro dPK (And.intro dPI (And.intro dKB (And.intro f0 (And.intro f1 (And.intro f2 (And.intro f3 (And.intro f4 (And.intro f5 (And.intro f6 (And.intro f7 (And.intro f8 (And.intro f9 f10))))))))))))))))))))))
    clear f10 f9 f8 f7 f6 f5 f4 f3 f2 f1 f0 dKB dPI dPK gI gB gK gP g5 g4 g3 g2 g1 hd
    simp only at e0 ⊢
    go_wp2_with fail
    obtain ⟨g1, g2, g3, g4, g5, gP, gK, gB, gI, dPK, dPI, dKB, f0, f1, f2, f3, f4, f5, f6, f7, f8, f9, f10⟩ := HF.out
    exact hK (gh, (upd (upd s 23 (.pointer (some ⟨w.heap.size, 0, none⟩))) 24 (.slice A n c))) _ ⟨g1, g2, g3, g4, g5, gP, gK, gB, gI, dPK, dPI, dKB, (fun _ => rfl), (fun _ => rfl), f2, f3, f4, f5, f6, f7, f8, f9, f10⟩
   ·rintro L ⟨gh, s⟩ W hu hd hdn ⟨g1, g2, g3, g4, g5, gP, gK, gB, gI, dPK, dPI, dKB, f0, f1, f2, f3, f4, f5, f6, f7, f8, f9, f10⟩ K Q hK
    have e1 := f1 (hd.at_ 1 rfl)
    have HI := Lib.hid ((HT.out.places.below g1).more g1.size)
    have HG1 := Lib.hid g1
    have hW := g5.lt
    have HF := Lib.hid (And.intro g1 (And.intro g2 (And.intro g3 (And.intro g4 (And.intro g5 (And.intro gP (And.intro gK (And.intro gB (And.intro gI (And.intro dPK (And.intro dPI (And.intro dKB (And.intro f0 (And.intro f1 (And.intro f2 (And.intro f3 (And.intro f4 (And.intro f5 (And.intro f6 (And.intro f7 (And.intro f8 (And.intro f9 f10))))))))))))))))))))))
    clear f10 f9 f8 f7 f6 f5 f4 f3 f2 f1 f0 dKB dPI dPK gI gB gK gP g5 g4 g3 g2 g1 hd
    simp only at e1 ⊢
    go_wp2_with fail
    with_reducible refine (clone_int A n c t.places W HI.out hn1 hn2).mono ?_
    rintro e W1 ⟨AP, cP, rfl, hP, -, hb⟩
    go_wp2_with fail
    obtain ⟨g1, g2, g3, g4, g5, gP, gK, gB, gI, dPK, dPI, dKB, f0, f1, f2, f3, f4, f5, f6, f7, f8, f9, f10⟩ := HF.out
    have hA : Above (w.heap.size + 2) AP := fun a ha => Nat.lt_of_lt_of_le hW (hP.lt ha).1
    exact hK ({ gh with AP := AP, cP := cP }, (upd (upd s 24 (.slice A n c)) 25 (.slice AP n cP))) _ ⟨(g1.trans (hb.mono g1.size)), (fun h => (g2 h).below hb (g2 h).lt), (fun h => hdn.no 11 2 h rfl hu), (g4.below hb g4.lt), (g5.below hb g5.lt), (fun _ => ⟨hP.mono g1.size, hA⟩), (fun h h2 => ⟨(gK h h2).1.below hb (Nat.le_refl _), (gK h h2).2⟩), (fun h h2 => ⟨(gB h h2).1.below hb (gB h h2).1.lt, (gB h h2).2⟩), (fun h => ⟨(gI h).1.below hb (Nat.le_refl _), (gI h).2⟩), (fun _ h5 h9 => (apart_new (gK h5 h9).1 hP (Nat.le_refl _)).symm), (fun _ h9 => (apart_new (gI h9).1 hP (Nat.le_refl _)).symm), dKB, f0, (fun _ => rfl), (fun _ => rfl), f3, f4, f5, f6, f7, f8, f9, (fun h => hdn.no 10 2 h rfl hu)⟩
   ·rintro L ⟨gh, s⟩ W hu hd hdn ⟨g1, g2, g3, g4, g5, gP, gK, gB, gI, dPK, dPI, dKB, f0, f1, f2, f3, f4, f5, f6, f7, f8, f9, f10⟩ K Q hK
    have HF := Lib.hid (And.intro g1 (And.intro g2 (And.intro g3 (And.intro g4 (And.intro g5 (And.intro gP (And.intro gK (And.intro gB (And.intro gI (And.intro dPK (And.intro dPI (And.intro dKB (And.intro f0 (And.intro f1 (And.intro f2 (And.intro f3 (And.intro f4 (And.intro f5 (And.intro f6 (And.intro f7 (And.intro f8 (And.intro f9 f10))))))))))))))))))))))
    clear f10 f9 f8 f7 f6 f5 f4 f3 f2 f1 f0 dKB dPI dPK gI gB gK gP g5 g4 g3 g2 g1 hd
    simp only
    go_wp2_with fail
    obtain ⟨g1, g2, g3, g4, g5, gP, gK, gB, gI, dPK, dPI, dKB, f0, f1, f2, f3, f4, f5, f6, f7, f8, f9, f10⟩ := HF.out
    exact hK (gh, (upd s 26 (.pointer (some ⟨w.heap.size, 1, none⟩)))) _ ⟨g1, g2, g3, g4, g5, gP, gK, gB, gI, dPK, dPI, dKB, f0, f1, f2, (fun _ => rfl), f4, f5, f6, f7, f8, f9, f10⟩
   ·rintro L ⟨gh, s⟩ W hu hd hdn ⟨g1, g2, g3, g4, g5, gP, gK, gB, gI, dPK, dPI, dKB, f0, f1, f2, f3, f4, f5, f6, f7, f8, f9, f10⟩ K Q hK
    have e3 := f3 (hd.at_ 3 rfl)
    have h11 : L 11 = false := by
     cases hc : L 11 with
     | false => rfl
     | true => exact hdn.no 11 4 hc rfl hu
    have c0 : W.cell? ⟨w.heap.size, 1, none⟩ = some (.slice A' m d) := (g2 h11).cell 1
    have HF := Lib.hid (And.intro g1 (And.intro g2 (And.intro g3 (And.intro g4 (And.intro g5 (And.intro gP (And.intro gK (And.intro gB (And.intro gI (And.intro dPK (And.intro dPI (And.intro dKB (And.intro f0 (And.intro f1 (And.intro f2 (And.intro f3 (And.intro f4 (And.intro f5 (And.intro f6 (And.intro f7 (And.intro f8 (And.intro f9 f10))))))))))))))))))))))
    clear f10 f9 f8 f7 f6 f5 f4 f3 f2 f1 f0 dKB dPI dPK gI gB gK gP g5 g4 g3 g2 g1 hd
    simp only at e3 ⊢
    go_wp2_with fail
    obtain ⟨g1, g2, g3, g4, g5, gP, gK, gB, gI, dPK, dPI, dKB, f0, f1, f2, f3, f4, f5, f6, f7, f8, f9, f10⟩ := HF.out
    exact hK (gh, (upd (upd s 26 (.pointer (some ⟨w.heap.size, 1, none⟩))) 27 (.slice A' m d))) _ ⟨g1, g2, g3, g4, g5, gP, gK, gB, gI, dPK, dPI, dKB, f0, f1, f2, (fun _ => rfl), (fun _ => rfl), f5, f6, f7, f8, f9, f10⟩
   ·rintro L ⟨gh, s⟩ W hu hd hdn ⟨g1, g2, g3, g4, g5, gP, gK, gB, gI, dPK, dPI, dKB, f0, f1, f2, f3, f4, f5, f6, f7, f8, f9, f10⟩ K Q hK
    have e4 := f4 (hd.at_ 4 rfl)
    have HI := Lib.hid ((HT.out.links.below g1).more g1.size)
    have HG1 := Lib.hid g1
    have hW := g5.lt
    have HF := Lib.hid (And.intro g1 (And.intro g2 (And.intro g3 (And.intro g4 (And.intro g5 (And.intro gP (And.intro gK (And.intro gB (And.intro gI (And.intro dPK (And.intro dPI (And.intro dKB (And.intro f0 (And.intro f1 (And.intro f2 (And.intro f3 (And.intro f4 (And.intro f5 (And.intro f6 (And.intro f7 (And.intro f8 (And.intro f9 f10))))))))))))))))))))))
    clear f10 f9 f8 f7 f6 f5 f4 f3 f2 f1 f0 dKB dPI dPK gI gB gK gP g5 g4 g3 g2 g1 hd
    simp only at e4 ⊢
    go_wp2_with fail
    with_reducible refine (clone_link A' m d t.links W HI.out hm1 hm2).mono ?_
    rintro e W1 ⟨AK, cK, rfl, hK2, -, hb⟩
    go_wp2_with fail
    obtain ⟨g1, g2, g3, g4, g5, gP, gK, gB, gI, dPK, dPI, dKB, f0, f1, f2, f3, f4, f5, f6, f7, f8, f9, f10⟩ := HF.out
    have hA : Above (w.heap.size + 2) AK := fun a ha => Nat.lt_of_lt_of_le hW (hK2.lt ha).1
    exact hK ({ gh with AK := AK, cK := cK }, (upd (upd s 27 (.slice A' m d)) 28 (.slice AK m cK))) _ ⟨(g1.trans (hb.mono g1.size)), (fun h => (g2 h).below hb (g2 h).lt), (fun h => (g3 h).below hb (g3 h).lt), (g4.below hb g4.lt), (g5.below hb g5.lt), (fun h => ⟨(gP h).1.below hb (Nat.le_refl _), (gP h).2⟩), (fun _ _ => ⟨hK2.mono g1.size, hA⟩), (fun h h2 => ⟨(gB h h2).1.below hb (gB h h2).1.lt, (gB h h2).2⟩), (fun h => ⟨(gI h).1.below hb (Nat.le_refl _), (gI h).2⟩), (fun h2 _ _ => apart_new (gP h2).1 hK2 (Nat.le_refl _)), dPI, (fun _ h8 h9 a ha => fun (e : gh.g = a.block) => by have h1 := (gB h8 h9).1.lt; have h2 := (hK2.lt ha).1; omega), f0, f1, f2, f3, (fun _ => rfl), (fun _ => rfl), f6, f7, f8, (fun h => hdn.no 9 5 h rfl hu), f10⟩
   ·rintro L ⟨gh, s⟩ W hu hd hdn ⟨g1, g2, g3, g4, g5, gP, gK, gB, gI, dPK, dPI, dKB, f0, f1, f2, f3, f4, f5, f6, f7, f8, f9, f10⟩ K Q hK
    have HF := Lib.hid (And.intro g1 (And.intro g2 (And.intro g3 (And.intro g4 (And.intro g5 (And.intro gP (And.intro gK (And.intro gB (And.intro gI (And.intro dPK (And.intro dPI (And.intro dKB (And.intro f0 (And.intro f1 (And.intro f2 (And.intro f3 (And.intro f4 (And.intro f5 (And.intro f6 (And.intro f7 (And.intro f8 (And.intro f9 f10))))))))))))))))))))))
    clear f10 f9 f8 f7 f6 f5 f4 f3 f2 f1 f0 dKB dPI dPK gI gB gK gP g5 g4 g3 g2 g1 hd
    simp only
    go_wp2_with fail
    obtain ⟨g1, g2, g3, g4, g5, gP, gK, gB, gI, dPK, dPI, dKB, f0, f1, f2, f3, f4, f5, f6, f7, f8, f9, f10⟩ := HF.out
    exact hK (gh, (upd s 29 (.int .i64 (lowB t.links x.id)))) _ ⟨g1, g2, g3, g4, g5, gP, gK, gB, gI, dPK, dPI, dKB, f0, f1, f2, f3, f4, f5, (fun _ => rfl), f7, f8, f9, f10⟩
   ·rintro L ⟨gh, s⟩ W hu hd hdn ⟨g1, g2, g3, g4, g5, gP, gK, gB, gI, dPK, dPI, dKB, f0, f1, f2, f3, f4, f5, f6, f7, f8, f9, f10⟩ K Q hK
    have c0 : W.cell? ⟨w.heap.size + 1, 0, none⟩ = some (.int .i64 x.id) := g4.cell 0
    have c1 : W.cell? ⟨w.heap.size + 1, 1, none⟩ = some (.int .i64 x.fr) := g4.cell 1
    have c2 : W.cell? ⟨w.heap.size + 1, 2, none⟩ = some (.int .i64 x.to) := g4.cell 2
    have c3 : W.cell? ⟨w.heap.size + 1, 3, none⟩ = some (.int .i64 x.steps) := g4.cell 3
    have c4 : W.cell? ⟨w.heap.size + 1, 4, none⟩ = some (.int .i64 x.paces) := g4.cell 4
    have HF := Lib.hid (And.intro g1 (And.intro g2 (And.intro g3 (And.intro g4 (And.intro g5 (And.intro gP (And.intro gK (And.intro gB (And.intro gI (And.intro dPK (And.intro dPI (And.intro dKB (And.intro f0 (And.intro f1 (And.intro f2 (And.intro f3 (And.intro f4 (And.intro f5 (And.intro f6 (And.intro f7 (And.intro f8 (And.intro f9 f10))))))))))))))))))))))
    clear f10 f9 f8 f7 f6 f5 f4 f3 f2 f1 f0 dKB dPI dPK gI gB gK gP g5 g4 g3 g2 g1 hd
    simp only
    go_wp2_with fail
    obtain ⟨g1, g2, g3, g4, g5, gP, gK, gB, gI, dPK, dPI, dKB, f0, f1, f2, f3, f4, f5, f6, f7, f8, f9, f10⟩ := HF.out
    exact hK (gh, (upd s 30 (.agg #[.int .i64 x.id, .int .i64 x.fr, .int .i64 x.to, .int .i64 x.steps, .int .i64 x.paces]))) _ ⟨g1, g2, g3, g4, g5, gP, gK, gB, gI, dPK, dPI, dKB, f0, f1, f2, f3, f4, f5, f6, (fun _ => rfl), f8, f9, f10⟩
   ·rintro L ⟨gh, s⟩ W hu hd hdn ⟨g1, g2, g3, g4, g5, gP, gK, gB, gI, dPK, dPI, dKB, f0, f1, f2, f3, f4, f5, f6, f7, f8, f9, f10⟩ K Q hK
    have e7 := f7 (hd.at_ 7 rfl)
    have hW := g5.lt
    have HF := Lib.hid (And.intro g1 (And.intro g2 (And.intro g3 (And.intro g4 (And.intro g5 (And.intro gP (And.intro gK (And.intro gB (And.intro gI (And.intro dPK (And.intro dPI (And.intro dKB (And.intro f0 (And.intro f1 (And.intro f2 (And.intro f3 (And.intro f4 (And.intro f5 (And.intro f6 (And.intro f7 (And.intro f8 (And.intro f9 f10))))))))))))))))))))))
    clear f10 f9 f8 f7 f6 f5 f4 f3 f2 f1 f0 dKB dPI dPK gI gB gK gP g5 g4 g3 g2 g1 hd
    simp only at e7 ⊢
    go_wp2_with fail
    obtain ⟨g1, g2, g3, g4, g5, gP, gK, gB, gI, dPK, dPI, dKB, f0, f1, f2, f3, f4, f5, f6, f7, f8, f9, f10⟩ := HF.out
    have hb : Below W.heap.size W (W.alloc (.cells #[.int .i64 x.id, .int .i64 x.fr, .int .i64 x.to, .int .i64 x.steps, .int .i64 x.paces] 52)) := (Below.refl _ _).alloc (Nat.le_refl _) _
    exact hK ({ gh with g := W.heap.size }, (upd (upd s 30 (.agg #[.int .i64 x.id, .int .i64 x.fr, .int .i64 x.to, .int .i64 x.steps, .int .i64 x.paces])) 31 (.slice (some ⟨W.heap.size, 0, none⟩) 1 1))) _ ⟨(g1.trans (hb.mono g1.size)), (fun h => (g2 h).below hb (g2 h).lt), (fun h => (g3 h).below hb (g3 h).lt), (g4.below hb g4.lt), (g5.below hb g5.lt), (fun h => ⟨(gP h).1.below hb (Nat.le_refl _), (gP h).2⟩), (fun h h2 => ⟨(gK h h2).1.below hb (Nat.le_refl _), (gK h h2).2⟩), (fun _ _ => ⟨Blk.new W _ _, hW⟩), (fun h => ⟨(gI h).1.below hb (Nat.le_refl _), (gI h).2⟩), dPK, dPI, (fun h5 _ h9 a ha => fun (e : W.heap.size = a.block) => by have h2 := ((gK h5 h9).1.lt ha).2; omega), f0, f1, f2, f3, f4, f5, f6, (fun _ => rfl), (fun _ => rfl), f9, f10⟩
   ·rintro L ⟨gh, s⟩ W hu hd hdn ⟨g1, g2, g3, g4, g5, gP, gK, gB, gI, dPK, dPI, dKB, f0, f1, f2, f3, f4, f5, f6, f7, f8, f9, f10⟩ K Q hK
    have e5 := f5 (hd.at_ 5 rfl)
    have e6 := f6 (hd.at_ 6 rfl)
    have e8 := f8 (hd.at_ 8 rfl)
    have HK := Lib.hid (gK (hd.at_ 5 rfl) hu)
    have HB := Lib.hid (gB (hd.at_ 8 rfl) hu)
    have HD := Lib.hid (dKB (hd.at_ 5 rfl) (hd.at_ 8 rfl) hu)
    have HG1 := Lib.hid g1
    have h5 : L 5 = true := hd.at_ 5 rfl
    have hW := g5.lt
    have HF := Lib.hid (And.intro g1 (And.intro g2 (And.intro g3 (And.intro g4 (And.intro g5 (And.intro gP (And.intro gK (And.intro gB (And.intro gI (And.intro dPK (And.intro dPI (And.intro dKB (And.intro f0 (And.intro f1 (And.intro f2 (And.intro f3 (And.intro f4 (And.intro f5 (And.intro f6 (And.intro f7 (And.intro f8 (And.intro f9 f10))))))))))))))))))))))
    clear f10 f9 f8 f7 f6 f5 f4 f3 f2 f1 f0 dKB dPI dPK gI gB gK gP g5 g4 g3 g2 g1 hd
    simp only at e5 e6 e8 ⊢
    go_wp2_with fail
    with_reducible refine (insert_link w.heap.size gh.AK m gh.cK (lowB t.links x.id) t.links gh.g x W HK.out.1 HG1.out.size hlow hm3 HB.out.1 HD.out).mono ?_
    rintro e W1 ⟨AI, cI, rfl, hI, hg, hA⟩
    go_wp2_with fail
    obtain ⟨g1, g2, g3, g4, g5, gP, gK, gB, gI, dPK, dPI, dKB, f0, f1, f2, f3, f4, f5, f6, f7, f8, f9, f10⟩ := HF.out
    have hKr : ∀ k, k ≤ w.heap.size + 2 → some k ≠ gh.AK.map (·.block) := fun k hk => above_ne HK.out.2 hk
    have hAI : Above (w.heap.size + 2) AI := fun a ha => by
     rcases hA with h | h
     ·rw [h] at ha; exact HK.out.2 a ha
     ·rw [h] at ha; cases ha; exact hW
    have hdPI : L 2 = true → Apart gh.AP AI := fun h2 => by
     rcases hA with h | h
     ·rw [h]; exact dPK h2 h5 hu
     ·rw [h]; intro a b ha hb; cases hb; have := ((gP h2).1.lt ha).2; exact fun e => by simp at e; omega
    exact hK ({ gh with AI := AI, cI := cI }, (upd (upd (upd (upd s 28 (.slice gh.AK m gh.cK)) 29 (.int .i64 (lowB t.links x.id))) 31 (.slice (some ⟨gh.g, 0, none⟩) 1 1)) 32 (.slice AI (m + 1) cI))) _ ⟨(g1.grown hg g1.size (fun k hk => by have := above_row HK.out.2 hk; omega)), (fun h => (g2 h).grown hg (hKr _ (by omega))), (fun h => hdn.no 11 9 h rfl hu), (g4.grown hg (hKr _ (by omega))), (g5.grown hg (hKr _ (by omega))), (fun h => ⟨(gP h).1.grown hg (fun a ha => row_ne (dPK h h5 hu) ha), (gP h).2⟩), (fun _ h9 => by cases h9), (fun _ h9 => by cases h9), (fun _ => ⟨hI, hAI⟩), (fun _ _ h9 => by cases h9), (fun h2 _ => hdPI h2), (fun _ _ h9 => by cases h9), f0, f1, f2, f3, f4, (fun _ => rfl), (fun _ => rfl), f7, (fun _ => rfl), (fun _ => rfl), (fun h => hdn.no 10 9 h rfl hu)⟩
   ·rintro L ⟨gh, s⟩ W hu hd hdn ⟨g1, g2, g3, g4, g5, gP, gK, gB, gI, dPK, dPI, dKB, f0, f1, f2, f3, f4, f5, f6, f7, f8, f9, f10⟩ K Q hK
    have e2 := f2 (hd.at_ 2 rfl)
    have e9 := f9 (hd.at_ 9 rfl)
    have HF := Lib.hid (And.intro g1 (And.intro g2 (And.intro g3 (And.intro g4 (And.intro g5 (And.intro gP (And.intro gK (And.intro gB (And.intro gI (And.intro dPK (And.intro dPI (And.intro dKB (And.intro f0 (And.intro f1 (And.intro f2 (And.intro f3 (And.intro f4 (And.intro f5 (And.intro f6 (And.intro f7 (And.intro f8 (And.intro f9 f10))))))))))))))))))))))
    clear f10 f9 f8 f7 f6 f5 f4 f3 f2 f1 f0 dKB dPI dPK gI gB gK gP g5 g4 g3 g2 g1 hd
    simp only at e2 e9 ⊢
    go_wp2_with fail
    obtain ⟨g1, g2, g3, g4, g5, gP, gK, gB, gI, dPK, dPI, dKB, f0, f1, f2, f3, f4, f5, f6, f7, f8, f9, f10⟩ := HF.out
    exact hK (gh, (upd (upd (upd s 25 (.slice gh.AP n gh.cP)) 32 (.slice gh.AI (m + 1) gh.cI)) 33 (.agg #[.slice gh.AP n gh.cP, .slice gh.AI (m + 1) gh.cI]))) _ ⟨g1, g2, g3, g4, g5, gP, gK, gB, gI, dPK, dPI, dKB, f0, f1, (fun _ => rfl), f3, f4, f5, f6, f7, f8, (fun _ => rfl), (fun _ => rfl)⟩
   ·rintro L ⟨gh, s⟩ W hu hd hdn ⟨g1, g2, g3, g4, g5, gP, gK, gB, gI, dPK, dPI, dKB, f0, f1, f2, f3, f4, f5, f6, f7, f8, f9, f10⟩ K Q hK
    have e10 := f10 (hd.at_ 10 rfl)
    have h1 : L 1 = true := hd.at_ 1 rfl
    have h4 : L 4 = true := hd.at_ 4 rfl
    have G2 := g2 hu
    have c0 : W.cell? ⟨w.heap.size, 0, none⟩ = some (.slice A n c) := G2.cell 0
    have c1 : W.cell? ⟨w.heap.size, 1, none⟩ = some (.slice A' m d) := G2.cell 1
    have y0 : W.frozen? ⟨w.heap.size, 0, none⟩ = false := G2.frozen 0
    have y1 : W.frozen? ⟨w.heap.size, 1, none⟩ = false := G2.frozen 1
    have HG2 := Lib.hid G2
    clear G2
    have HF := Lib.hid (And.intro g1 (And.intro g2 (And.intro g3 (And.intro g4 (And.intro g5 (And.intro gP (And.intro gK (And.intro gB (And.intro gI (And.intro dPK (And.intro dPI (And.intro dKB (And.intro f0 (And.intro f1 (And.intro f2 (And.intro f3 (And.intro f4 (And.intro f5 (And.intro f6 (And.intro f7 (And.intro f8 (And.intro f9 f10))))))))))))))))))))))
    clear f10 f9 f8 f7 f6 f5 f4 f3 f2 f1 f0 dKB dPI dPK gI gB gK gP g5 g4 g3 g2 g1 hd
    simp only at e10 ⊢
    go_wp2_with fail
    obtain ⟨g1, g2, g3, g4, g5, gP, gK, gB, gI, dPK, dPI, dKB, f0, f1, f2, f3, f4, f5, f6, f7, f8, f9, f10⟩ := HF.out
    have hg : W.grownBy ((W.setCell ⟨w.heap.size, 0, none⟩ (.slice gh.AP n gh.cP)).setCell ⟨w.heap.size, 1, none⟩ (.slice gh.AI (m + 1) gh.cI)) (some w.heap.size) := grown_setCell (grown_setCell (grown_refl _ _) (p := ⟨w.heap.size, 0, none⟩) (.inl rfl) _) (p := ⟨w.heap.size, 1, none⟩) (.inl rfl) _
    exact hK (gh, (upd s 33 (.agg #[.slice gh.AP n gh.cP, .slice gh.AI (m + 1) gh.cI]))) _ ⟨((g1.setCell (p := ⟨w.heap.size, 0, none⟩) (Nat.le_refl _) _).setCell (p := ⟨w.heap.size, 1, none⟩) (Nat.le_refl _) _), (fun h => by cases h), (fun _ => (HG2.out.set_ 0 (.slice gh.AP n gh.cP)).set_ 1 (.slice gh.AI (m + 1) gh.cI)), (g4.grown hg (by intro e; have := Option.some.inj e; omega)), (g5.grown hg (by intro e; have := Option.some.inj e; omega)), (fun h => ⟨(gP h).1.grown hg (fun a ha => by have := (gP h).2 a ha; simp; omega), (gP h).2⟩), (fun h h9 => ⟨(gK h h9).1.grown hg (fun a ha => by have := (gK h h9).2 a ha; simp; omega), (gK h h9).2⟩), (fun h h9 => ⟨(gB h h9).1.grown hg (by have := (gB h h9).2; simp; omega), (gB h h9).2⟩), (fun h => ⟨(gI h).1.grown hg (fun a ha => by have := (gI h).2 a ha; simp; omega), (gI h).2⟩), dPK, dPI, dKB, f0, f1, f2, f3, f4, f5, f6, f7, f8, f9, (fun _ => rfl)⟩
  ·rintro L ⟨gh, s⟩ W hall ⟨g1, g2, g3, g4, g5, gP, gK, gB, gI, dPK, dPI, dKB, f0, f1, f2, f3, f4, f5, f6, f7, f8, f9, f10⟩
   have G3 := g3 (hall 11 (by decide))
   have GP := gP (hall 2 (by decide))
   have GI := gI (hall 9 (by decide))
   have DPI := Lib.hid (dPI (hall 2 (by decide)) (hall 9 (by decide)))
   have ht2 : TownAt W W.heap.size gh.AP n gh.AI (m + 1) (openT t x) := ⟨ints_of_own GP.1 (Nat.le_refl _), links_of_own GI.1 (Nat.le_refl _)⟩
   have HT2 := Lib.hid ht2
   have Hl3 : Hid (t.places.length = n) := HT.out.places.len
   have Hl2 : Hid ((openT t x).links.length = m + 1) := HT2.out.links.len
   have HGP := Lib.hid GP
   have HGI := Lib.hid GI
   have HG3 := Lib.hid G3
   have HG5 := Lib.hid g5
   have HG1 := Lib.hid g1
   have hm4 : m + 1 ≤ maxLen := by unfold maxLen; omega
   have x0 := G3.cell 0
   have x1 := G3.cell 1
   clear hall g1 g2 g3 g4 g5 gP gK gB gI dPK dPI dKB f0 f1 f2 f3 f4 f5 f6 f7 f8 f9 f10 G3 GP GI ht2
   simp only
   go_wp2_with fail
   with_reducible refine (check_any gh.AP n gh.cP gh.AI (m + 1) gh.cI (openT t x) W hn1 hm4 HT2.out (HL.out.below HG1.out hl0)).mono ?_
   rintro e W3 ⟨rfl, hb3⟩
   have Z3 := HG5.out.below hb3 HG5.out.lt
   have X3 := HG3.out.below hb3 HG3.out.lt
   have B3 := HG1.out.trans (hb3.mono HG1.out.size)
   have z0 := Z3.cell 0
   have z1 := Z3.cell 1
   have q0 := Z3.frozen 0
   have q1 := Z3.frozen 1
   cases hto : townB (openT t x) with
   | false =>
    have hc2 : chk (openT t x) = 30 := by unfold chk; rw [hto]; rfl
    have HC2 := Lib.hid hto
    clear hto x0 x1
    go_wp2_with fail
    have e1 : openR t x = noTown := by unfold openR; rw [HC2.out]; simp
    have e2 : openE t x = 34 := by unfold openE; rw [HC.out, HC2.out]; rfl
    rw [e1, e2]
    exact bodyPost_ret (v := .tuple #[.agg #[.slice none 0 0, .slice none 0 0], .int .i64 34]) (by simp [results, Tryz.results45, go_sem, z0, z1]) rfl (TownErr.none_ ((B3.setCell (p := ⟨w.heap.size + 1 + 1, 0, none⟩) (by show w.heap.size ≤ w.heap.size + 1 + 1; omega) _).setCell (p := ⟨w.heap.size + 1 + 1, 1, none⟩) (by show w.heap.size ≤ w.heap.size + 1 + 1; omega) _))
   | true =>
    have hc2 : chk (openT t x) = 0 := by unfold chk; rw [hto]; rfl
    have HC2 := Lib.hid hto
    have x2 := X3.cell 0
    have x3 := X3.cell 1
    clear hto x0 x1
    go_wp2_with fail
    have e1 : openR t x = openT t x := by unfold openR; rw [HC.out, HC2.out]; rfl
    have e2 : openE t x = 0 := by unfold openE; rw [HC.out, HC2.out]; rfl
    rw [e1, e2]
    refine bodyPost_ret (v := .tuple #[.agg #[.slice gh.AP n gh.cP, .slice gh.AI (m + 1) gh.cI], .int .i64 0]) (by simp [results, Tryz.results45, go_sem, z0, z1]) rfl ?_
    have hgr := grown_setCell (grown_setCell (grown_of_below hb3 (some (w.heap.size + 1 + 1))) (p := ⟨w.heap.size + 1 + 1, 0, none⟩) (.inl rfl) (.slice gh.AP n gh.cP)) (p := ⟨w.heap.size + 1 + 1, 1, none⟩) (.inl rfl) (.slice gh.AI (m + 1) gh.cI)
    have o1 := HGP.out.1.grown hgr (fun a ha => by have := HGP.out.2 a ha; simp; omega)
    have o2 := HGI.out.1.grown hgr (fun a ha => by have := HGI.out.2 a ha; simp; omega)
    refine ⟨gh.AP, gh.cP, gh.AI, gh.cI, ?_, ?_, ?_, DPI.out, (B3.setCell (p := ⟨w.heap.size + 1 + 1, 0, none⟩) (by show w.heap.size ≤ w.heap.size + 1 + 1; omega) _).setCell (p := ⟨w.heap.size + 1 + 1, 1, none⟩) (by show w.heap.size ≤ w.heap.size + 1 + 1; omega) _⟩
    ·rw [Hl2.out, show (openT t x).places.length = n from Hl3.out]
    ·rw [show (openT t x).places.length = n from Hl3.out]; exact o1
    ·rw [Hl2.out]; exact o2
end Go.Proofs.YtahkjagjcogeiaaGreatDoor
/- Towns with more links, and with less; donkeys: plain Lean. -/
namespace Go.Proofs.YtahkjagjcogeiaaGreatDoor

section
variable {t t' : Town} {u v : Int} {dk dk' : Bool} {l k : List Int} {g g' : Gone} {p : Price} {c d : Cost}
theorem walk_sub (h : ∀ x ∈ t.links, x ∈ t'.links) (hw : Walk t dk p u v c l) : Walk t' dk p u v c l := by
 induction hw with
 | nil v => exact .nil v
 | cons hx hl _ ih => exact .cons (h _ hx) hl ih
theorem walk_loose (hw : Walk t dk p u v c l) : Walk t false p u v c l := by
 induction hw with
 | nil v => exact .nil v
 | cons hx hl _ ih => exact .cons hx (leads_free hl) ih
theorem best_a (ht : Fine t) (h : best t dk freeP u v = some (c, l)) : c.a = 0 := by
 obtain ⟨g, _, _, _, h4⟩ := best_gone ht freeP_fair h
 rw [← h4]
 simp [Gone.cost, freeP]
/-- Wherever there is a walk here, there is one there: no more toil there. -/
theorem way_le (ht : Fine t) (ht' : Fine t') (ha : askE t [u, v] = 0) (ha' : askE t' [u, v] = 0) (hw : ∀ c l, Walk t dk freeP u v c l → Walk t' dk' freeP u v c l) (h0 : wayE t u v dk = 0) :
  wayE t' u v dk' = 0 ∧ lessP (wayT t u v dk).1 (wayT t u v dk).2 (wayT t' u v dk').1 (wayT t' u v dk').2 = false := by
 cases hb : best t dk freeP u v with
 | none =>
  have := (way_none ha hb).1
  omega
 | some r =>
  obtain ⟨c, l⟩ := r
  obtain ⟨d, k, hb', hle⟩ := walk_some ht' freeP_fair (hw _ _ (best_walk ht freeP_fair hb).1)
  have h1 := way_some ha hb
  have h2 := way_some ha' hb'
  refine ⟨h2.1, ?_⟩
  rw [h1.2.2, h2.2.2]
  have e1 := best_a ht hb
  have e2 := best_a ht' hb'
  have h3 := key_split hle
  simp only [lessP]
  rcases h3 with h3 | ⟨_, h3 | ⟨h3, h4 | ⟨h4, _⟩⟩⟩
  ·omega
  ·simp; constructor
   ·omega
   ·intro h; omega
  ·simp [h3]; omega
  ·simp [h3, h4]
theorem way_free (ht : Fine t) (ha : askE t [u, v] = 0) (h0 : wayE t u v true = 0) : wayE t u v false = 0 ∧ lessP (wayT t u v true).1 (wayT t u v true).2 (wayT t u v false).1 (wayT t u v false).2 = false :=
 way_le ht ht ha ha (fun _ _ h => walk_loose h) h0
theorem ask_places (hb : townB t' = true) (hp : t'.places = t.places) {l : List Int} (h : askE t l = 0) : askE t' l = 0 := by
 obtain ⟨_, h2⟩ := askE_zero h
 unfold askE
 rw [if_pos hb, if_pos (by unfold hasB at h2 ⊢; rw [hp]; exact h2)]
theorem openE_vals {x : Link} (hb : townB t = true) : openE t x = 0 ∨ openE t x = 34 := by
 unfold openE
 rw [if_pos hb]
 split <;> simp
theorem open_ok {x : Link} (hb : townB t = true) (h : openE t x = 0) : townB (openT t x) = true ∧ openR t x = openT t x := by
 unfold openE at h
 rw [if_pos hb] at h
 cases h1 : townB (openT t x) with
 | false => rw [h1] at h; simp at h
 | true => exact ⟨rfl, by unfold openR; rw [hb, h1]; rfl⟩
theorem open_sub {x : Link} : ∀ y ∈ t.links, y ∈ (openT t x).links := by
 intro y hy
 unfold openT
 simp only [List.mem_append, List.mem_cons]
 rw [← List.take_append_drop (lowB t.links x.id) t.links, List.mem_append] at hy
 rcases hy with hy | hy
 ·exact .inl hy
 ·exact .inr (.inr hy)
theorem way_open {x : Link} (hb : townB t = true) (h : openE t x = 0) (ha : askE t [u, v] = 0) (h0 : wayE t u v dk = 0) : wayE (openR t x) u v dk = 0 ∧ lessP (wayT t u v dk).1 (wayT t u v dk).2 (wayT (openR t x) u v dk).1 (wayT (openR t x) u v dk).2 = false := by
 obtain ⟨h1, h2⟩ := open_ok hb h
 rw [h2]
 exact way_le (goodT hb).fine (goodT h1).fine ha (ask_places (t := t) h1 rfl ha) (fun _ _ h => walk_sub open_sub h) h0
theorem mem_ids {x : Link} (hx : x ∈ t.links) : memI (idsOf t.links) x.id = true := by
 rw [memI_iff]
 unfold idsOf
 exact List.mem_map.2 ⟨x, hx, rfl⟩
theorem close_one {x : Link} (hb : townB t = true) (hx : x ∈ t.links) : closeE t [x.id] = 0 ∧ closeT t [x.id] = lessT t (fun y => memI [x.id] y.id) := by
 have h1 : closeB t 0 [x.id] = true := by
  unfold closeB
  have h2 : 0 < x.id := by
   have h3 := hb
   unfold townB at h3
   simp only [Bool.and_eq_true] at h3
   exact ((linksB_spec h3.2).1 x hx).1
  rw [mem_ids hx]
  simp [h2, closeB]
 unfold closeE closeT
 rw [hb, h1]
 exact ⟨rfl, rfl⟩
theorem less_sub {q : Link → Bool} : ∀ y ∈ (lessT t q).links, y ∈ t.links := by
 intro y hy
 unfold lessT at hy
 exact (List.mem_filter.1 hy).1
theorem way_less {q : Link → Bool} (hb : townB t = true) (ha : askE t [u, v] = 0) (h0 : wayE (lessT t q) u v dk = 0) : wayE t u v dk = 0 ∧ lessP (wayT (lessT t q) u v dk).1 (wayT (lessT t q) u v dk).2 (wayT t u v dk).1 (wayT t u v dk).2 = false :=
 way_le (goodT (townB_less hb)).fine (goodT hb).fine (askE_less ha) ha (fun _ _ h => walk_sub less_sub h) h0
end
end Go.Proofs.YtahkjagjcogeiaaGreatDoor
/- The law ClimbMore, walked. -/
namespace Go.Proofs.YtahkjagjcogeiaaGreatDoor
open Go.RowKit Go.Shelf

set_option maxRecDepth 100000 in
set_option maxHeartbeats 16000000 in
theorem zmore_walk_in (A : Option Addr) (n c : Nat) (A' : Option Addr) (m d : Nat) (t : Town) (fr : Nat) (to_ : Nat) (dk : Bool) (x : Link) (wh : Nat) (w : World) (hn : n ≤ maxLen) (hm : m ≤ maxLen) (hfr : fr ≤ 255) (hto_ : to_ ≤ 255) (hwh : wh ≤ 255) (ht : TownAt w w.heap.size A n A' m t)  (hL : Laid w) :
  CallsIn Fence.wide 9 Tryz.prog 11 #[.agg #[.slice A n c, .slice A' m d], .int .u8 fr, .int .u8 to_, .bool dk, .agg #[.int .i64 x.id, .int .i64 x.fr, .int .i64 x.to, .int .i64 x.steps, .int .i64 x.paces], .int .u8 wh] w fun e w' => e = .returned (.bool true) ∧ Below w.heap.size w w' := by
 have HT := Lib.hid ht
 have HL := Lib.hid hL
 have hl0 := hL.2.2.2
 have HLn := Lib.hid ht.places.len
 have HLm := Lib.hid ht.links.len
 clear ht hL
 unfold maxLen at hn hm
 refine callsIn_of_wp Tryz.func11 rfl trivial ?_ rfl
 simp only [Tryz.ntmps11, List.size_toArray, List.length_cons, List.length_nil, Nat.reduceAdd, Nat.reduceSub, Array.replicate_succ, Array.replicate_zero, List.push_toArray, List.append_toArray, List.nil_append, List.cons_append]
 gi_wp2
 have HLay := Lib.hid (Lay.two w 25 #[.slice A n c, .slice A' m d] 52 #[.int .i64 x.id, .int .i64 x.fr, .int .i64 x.to, .int .i64 x.steps, .int .i64 x.paces])
 generalize ((w.alloc (.cells #[.slice A n c, .slice A' m d] 25)).alloc (.cells #[.int .i64 x.id, .int .i64 x.fr, .int .i64 x.to, .int .i64 x.steps, .int .i64 x.paces] 52)) = w0 at *
 refine ⟨trivial, (callsIn_wide.2 (alive_any w0 (HL.out.below HLay.out.bel hl0))).mono ?_⟩
 rintro e W1 ⟨rfl, hb⟩
 replace HLay := Lib.hid (HLay.out.below hb)
 clear hb
 have x0_0 := (HLay.out.blk 0 rfl).cell 0
 have x0_1 := (HLay.out.blk 0 rfl).cell 1
 have l0_ := HLay.out.lt 0 rfl
 gi_wp2
 clear x0_0 x0_1 l0_
 refine ⟨trivial, (callsIn_wide.2 (ready_any A n c A' m d t W1 ((HT.out.below HLay.out.bel).more HLay.out.bel.size))).mono ?_⟩
 rintro e W2 ⟨rfl, hb⟩
 replace HLay := Lib.hid (HLay.out.below hb)
 clear hb
 cases hrd : readyB n m t with
 | false =>
  clear hrd
  gi_wp2
  exact bodyPost_ret (v := .bool true) (by simp [results, Tryz.results11, go_sem]) rfl ⟨rfl, HLay.out.bel⟩
 | true =>
 have htb : townB t = true := by unfold readyB at hrd; simp at hrd; exact hrd.2
 have HTB := Lib.hid htb
 have HG := Lib.hid (goodT htb)
 have hm20 : m ≤ 20 := by have := HG.out.links; have := HLm.out; omega
 have hn9 : n ≤ 9 := by have := HG.out.fine.size; have := HLn.out; omega
 have hn1 : 1 ≤ n := by have := townB_one htb; have := HLn.out; omega
 have HP1 : Hid (1 ≤ t.places.length) := Lib.hid (townB_one htb)
 clear hrd htb
 gi_wp2
 refine wpIn_flow_old [([true, true, false, true, true], 2), ([], 5)] [false, false, false, false, false, false, true, true] [] (by kernel_rfl) (by kernel_rfl) (by kernel_rfl) (below_drewN (Below.refl _ _) 1) ?_
 refine wpFlow_cons (A := ?AF1) rfl ?hq1 ?_
 case hq1 =>
  rintro σ hσ of hof hcl
  have HOF := Lib.hid hof
  have HCL := Lib.hid hcl
  clear hof hcl
  have c0_ : ∀ z, (of z).cell? ⟨w.heap.size, 0, none⟩ = some (.slice A n c) := fun z => ((HLay.out.below (HOF.out z)).blk 0 rfl).cell 0
  have c1_ : ∀ z, (of z).cell? ⟨w.heap.size, 1, none⟩ = some (.slice A' m d) := fun z => ((HLay.out.below (HOF.out z)).blk 0 rfl).cell 1
  have hfw : ∀ f, Fence.wide.fn f := fun _ => trivial
  simp only [pickB]
  repeat (gi_big_quiet_step (fail))
  refine wpQuietIn_nil ?_
  exact rfl
 intro W3 hW
 replace HLay := Lib.hid (HLay.out.below hW)
 clear hW
 have hlw := (HLay.out.blk 0 rfl).lt
 gi_wp2
 refine ⟨trivial, (callsIn_wide.2 (lplace_any A n c A' m d t fr W3 hn1 (by omega) hfr ((HT.out.places.below HLay.out.bel).more HLay.out.bel.size))).mono ?_⟩
 rintro e W4 ⟨rfl, hb⟩
 replace HLay := Lib.hid (HLay.out.below hb)
 obtain ⟨u, hu⟩ : ∃ u, plN t fr = u := ⟨_, rfl⟩
 rw [hu]
 have Hu := Lib.hid (show u ∈ t.places from hu ▸ plN_mem HP1.out fr)
 clear hu
 gi_wp2
 refine ⟨trivial, hb, ?_⟩
 clear hb
 clear hlw
 refine wpFlow_cons rfl Quietly.none ?_
 intro W5 hW
 replace HLay := Lib.hid (HLay.out.below hW)
 clear hW
 have hlw := (HLay.out.blk 0 rfl).lt
 gi_wp2
 refine ⟨trivial, (callsIn_wide.2 (lplace_any A n c A' m d t to_ W5 hn1 (by omega) hto_ ((HT.out.places.below HLay.out.bel).more HLay.out.bel.size))).mono ?_⟩
 rintro e W6 ⟨rfl, hb⟩
 replace HLay := Lib.hid (HLay.out.below hb)
 obtain ⟨v, hv⟩ : ∃ v, plN t to_ = v := ⟨_, rfl⟩
 rw [hv]
 have Hv := Lib.hid (show v ∈ t.places from hv ▸ plN_mem HP1.out to_)
 clear hv
 gi_wp2
 refine ⟨trivial, hb, ?_⟩
 clear hb
 clear hlw
 refine wpFlow_nil (A := ?AF2) ?hq2 ?_
 case hq2 =>
  rintro σ hσ of hof hcl
  have HOF := Lib.hid hof
  have HCL := Lib.hid hcl
  clear hof hcl
  have c0_ : ∀ z, (of z).cell? ⟨w.heap.size, 0, none⟩ = some (.slice A n c) := fun z => ((HLay.out.below (HOF.out z)).blk 0 rfl).cell 0
  have c1_ : ∀ z, (of z).cell? ⟨w.heap.size, 1, none⟩ = some (.slice A' m d) := fun z => ((HLay.out.below (HOF.out z)).blk 0 rfl).cell 1
  have hfw : ∀ f, Fence.wide.fn f := fun _ => trivial
  simp only [pickB]
  repeat (gi_big_quiet_step (fail))
  refine wpQuietIn_nil ?_
  exact rfl
 intro W7 hW
 replace HLay := Lib.hid (HLay.out.below hW)
 clear hW
 simp only [pickB]
 refine wpT_nil ?_
 have HA2 := Lib.hid (askE_two HTB.out Hu.out Hv.out)
 have x0_0 := (HLay.out.blk 0 rfl).cell 0
 have x0_1 := (HLay.out.blk 0 rfl).cell 1
 have l0_ := HLay.out.lt 0 rfl
 gi_wp2
 clear x0_0 x0_1 l0_
 refine ⟨trivial, (callsIn_wide.2 (toilw_any A n c A' m d t u v dk W7 (by omega) (by omega) ((HT.out.below HLay.out.bel).more HLay.out.bel.size) (HL.out.below HLay.out.bel hl0))).mono ?_⟩
 rintro e W8 ⟨rfl, hb⟩
 replace HLay := Lib.hid (HLay.out.below hb)
 clear hb
 obtain ⟨e1, he1⟩ : ∃ e, wayE t u v dk = e := ⟨_, rfl⟩
 obtain ⟨⟨a1, b1⟩, hq1⟩ : ∃ q, wayT t u v dk = q := ⟨_, rfl⟩
 rw [he1, hq1]
 have HE1 := Lib.hid he1
 have HQ1 := Lib.hid hq1
 clear he1 hq1
 gi_upto_region 6 with fail
 obtain ⟨V9, hV⟩ : ∃ V, (W8.alloc (.cells #[.int .i64 a1, .int .i64 b1] 34)) = V := ⟨_, rfl⟩
 rw [hV]
 have hb := fbox_bel hV
 have hnew := fbox_blk hV
 have hge := HLay.out.bel.size
 replace HLay := Lib.hid (HLay.out.below hb)
 replace HLay := Lib.hid (HLay.out.add hge hnew)
 clear hnew hge hb hV
 obtain ⟨G10, hG⟩ : ∃ g, W8.heap.size = g := ⟨_, rfl⟩
 rw [hG] at HLay ⊢
 clear hG
 have x0_0 := (HLay.out.blk 0 rfl).cell 0
 have x0_1 := (HLay.out.blk 0 rfl).cell 1
 have l0_ := HLay.out.lt 0 rfl
 gi_wp2
 clear x0_0 x0_1 l0_
 refine ⟨trivial, (callsIn_wide.2 (toilw_any A n c A' m d t u v true V9 (by omega) (by omega) ((HT.out.below HLay.out.bel).more HLay.out.bel.size) (HL.out.below HLay.out.bel hl0))).mono ?_⟩
 rintro e W11 ⟨rfl, hb⟩
 replace HLay := Lib.hid (HLay.out.below hb)
 clear hb
 obtain ⟨e2, he2⟩ : ∃ e, wayE t u v true = e := ⟨_, rfl⟩
 obtain ⟨⟨a2, b2⟩, hq2⟩ : ∃ q, wayT t u v true = q := ⟨_, rfl⟩
 rw [he2, hq2]
 have HE2 := Lib.hid he2
 have HQ2 := Lib.hid hq2
 clear he2 hq2
 gi_upto_region 7 with fail
 obtain ⟨V12, hV⟩ : ∃ V, (W11.alloc (.cells #[.int .i64 a2, .int .i64 b2] 34)) = V := ⟨_, rfl⟩
 rw [hV]
 have hb := fbox_bel hV
 have hnew := fbox_blk hV
 have hge := HLay.out.bel.size
 replace HLay := Lib.hid (HLay.out.below hb)
 replace HLay := Lib.hid (HLay.out.add hge hnew)
 clear hnew hge hb hV
 obtain ⟨G13, hG⟩ : ∃ g, W11.heap.size = g := ⟨_, rfl⟩
 rw [hG] at HLay ⊢
 clear hG
 have x0_0 := (HLay.out.blk 0 rfl).cell 0
 have x0_1 := (HLay.out.blk 0 rfl).cell 1
 have l0_ := HLay.out.lt 0 rfl
 gi_wp2
 clear x0_0 x0_1 l0_
 refine ⟨trivial, (callsIn_wide.2 (toilw_any A n c A' m d t u v false V12 (by omega) (by omega) ((HT.out.below HLay.out.bel).more HLay.out.bel.size) (HL.out.below HLay.out.bel hl0))).mono ?_⟩
 rintro e W14 ⟨rfl, hb⟩
 replace HLay := Lib.hid (HLay.out.below hb)
 clear hb
 obtain ⟨e3, he3⟩ : ∃ e, wayE t u v false = e := ⟨_, rfl⟩
 obtain ⟨⟨a3, b3⟩, hq3⟩ : ∃ q, wayT t u v false = q := ⟨_, rfl⟩
 rw [he3, hq3]
 have HE3 := Lib.hid he3
 have HQ3 := Lib.hid hq3
 clear he3 hq3
 gi_upto_region 8 with fail
 obtain ⟨V15, hV⟩ : ∃ V, (W14.alloc (.cells #[.int .i64 a3, .int .i64 b3] 34)) = V := ⟨_, rfl⟩
 rw [hV]
 have hb := fbox_bel hV
 have hnew := fbox_blk hV
 have hge := HLay.out.bel.size
 replace HLay := Lib.hid (HLay.out.below hb)
 replace HLay := Lib.hid (HLay.out.add hge hnew)
 clear hnew hge hb hV
 obtain ⟨G16, hG⟩ : ∃ g, W14.heap.size = g := ⟨_, rfl⟩
 rw [hG] at HLay ⊢
 clear hG
 gi_cut [77] from 67 (fun v77 wx => v77 = .bool false ∧ Hid (Below V15.heap.size V15 wx))
 case first =>
  have HB0 := Lib.hid (Below.refl V15.heap.size V15)
  by_cases h2 : e2 = 0
  ·have hw := way_free (u := u) (v := v) HG.out.fine HA2.out (HE2.out.trans h2)
   rw [HE3.out, HQ2.out, HQ3.out] at hw
   obtain ⟨h3, hl⟩ := hw
   have HLL := Lib.hid hl
   subst h2
   subst h3
   clear hl
   have x3_0 := (HLay.out.blk 3 rfl).cell 0
   have x3_1 := (HLay.out.blk 3 rfl).cell 1
   have l3_ := HLay.out.lt 3 rfl
   have x4_0 := (HLay.out.blk 4 rfl).cell 0
   have x4_1 := (HLay.out.blk 4 rfl).cell 1
   have l4_ := HLay.out.lt 4 rfl
   gi_wp2
   clear x3_0 x3_1 l3_ x4_0 x4_1 l4_
   refine ⟨trivial, (callsIn_wide.2 (lessToil_any a2 b2 a3 b3 V15)).mono ?_⟩
   rintro e W17 ⟨rfl, hb⟩
   replace HLay := Lib.hid (HLay.out.below hb)
   replace HB0 := Lib.hid (HB0.out.trans (hb.mono HB0.out.size))
   clear hb
   rw [show lessP a2 b2 a3 b3 = false from HLL.out]
   gi_wp2
   gi_meet
   exact ⟨rfl, HB0⟩
  ·have h2b : (e2 == 0) = false := by simpa using h2
   clear h2
   have x3_0 := (HLay.out.blk 3 rfl).cell 0
   have x3_1 := (HLay.out.blk 3 rfl).cell 1
   have l3_ := HLay.out.lt 3 rfl
   have x4_0 := (HLay.out.blk 4 rfl).cell 0
   have x4_1 := (HLay.out.blk 4 rfl).cell 1
   have l4_ := HLay.out.lt 4 rfl
   gi_wp2
   all_goals try (rename_i hA hB; exact undef_ne hA)
   clear x3_0 x3_1 l3_ x4_0 x4_1 l4_
   refine ⟨trivial, ?_⟩
   gi_wp2
   gi_meet
   exact ⟨rfl, HB0⟩
 case rest =>
  obtain ⟨rfl, hcb⟩ := hcut
  rename World => C18
  have hb := hcb.out
  clear hcb
  replace HLay := Lib.hid (HLay.out.below hb)
  clear hb
  have x0_0 := (HLay.out.blk 0 rfl).cell 0
  have x0_1 := (HLay.out.blk 0 rfl).cell 1
  have l0_ := HLay.out.lt 0 rfl
  have x1_0 := (HLay.out.blk 1 rfl).cell 0
  have x1_1 := (HLay.out.blk 1 rfl).cell 1
  have x1_2 := (HLay.out.blk 1 rfl).cell 2
  have x1_3 := (HLay.out.blk 1 rfl).cell 3
  have x1_4 := (HLay.out.blk 1 rfl).cell 4
  have l1_ := HLay.out.lt 1 rfl
  gi_wp2
  clear x0_0 x0_1 l0_ x1_0 x1_1 x1_2 x1_3 x1_4 l1_
  refine ⟨trivial, (callsIn_wide.2 (open_any A n c A' m d t x C18 (by omega) (by omega) ((HT.out.below HLay.out.bel).more HLay.out.bel.size) (HL.out.below HLay.out.bel hl0))).mono ?_⟩
  rintro e W19 ⟨AO, cO, AO2, cO2, rfl, hO1, hO2, _, hb⟩
  replace HLay := Lib.hid (HLay.out.below hb)
  clear hb
  have HO1 := Lib.hid hO1
  have HO2 := Lib.hid hO2
  clear hO1 hO2
  obtain ⟨eo, heo⟩ : ∃ e, openE t x = e := ⟨_, rfl⟩
  rw [heo]
  have HEO := Lib.hid heo
  clear heo
  gi_upto_region 11 with fail
  obtain ⟨V20, hV⟩ : ∃ V, (W19.alloc (.cells #[.slice AO (openR t x).places.length cO, .slice AO2 (openR t x).links.length cO2] 25)) = V := ⟨_, rfl⟩
  rw [hV]
  have hb := fbox_bel hV
  have hnew := fbox_blk hV
  have hge := HLay.out.bel.size
  replace HLay := Lib.hid (HLay.out.below hb)
  replace HO1 := Lib.hid (HO1.out.below hb (Nat.le_refl _))
  replace HO2 := Lib.hid (HO2.out.below hb (Nat.le_refl _))
  replace HLay := Lib.hid (HLay.out.add hge hnew)
  clear hnew hge hb hV
  obtain ⟨G21, hG⟩ : ∃ g, W19.heap.size = g := ⟨_, rfl⟩
  rw [hG] at HLay ⊢
  clear hG
  gi_upto_if 85 with fail
  gi_cut [] from 86 (fun wx => Hid (Below V20.heap.size V20 wx))
  case first =>
   have HB0 := Lib.hid (Below.refl V20.heap.size V20)
   by_cases h4 : eo = 0
   ·subst h4
    have HOK := Lib.hid (open_ok HTB.out HEO.out)
    have hno : (openR t x).places.length ≤ 1000 := by rw [HOK.out.2]; have := townB_size HOK.out.1; omega
    have hmo : (openR t x).links.length ≤ 1000 := by rw [HOK.out.2]; have := townB_size HOK.out.1; omega
    have x5_0 := (HLay.out.blk 5 rfl).cell 0
    have x5_1 := (HLay.out.blk 5 rfl).cell 1
    have l5_ := HLay.out.lt 5 rfl
    gi_wp2
    clear x5_0 x5_1 l5_
    refine ⟨trivial, (callsIn_wide.2 (toilw_any AO (openR t x).places.length cO AO2 (openR t x).links.length cO2 (openR t x) u v dk V20 hno hmo ⟨ints_of_own HO1.out (Nat.le_refl _), links_of_own HO2.out (Nat.le_refl _)⟩ (HL.out.below HLay.out.bel hl0))).mono ?_⟩
    rintro e W22 ⟨rfl, hb⟩
    replace HLay := Lib.hid (HLay.out.below hb)
    replace HO1 := Lib.hid (HO1.out.below hb (Nat.le_refl _))
    replace HO2 := Lib.hid (HO2.out.below hb (Nat.le_refl _))
    replace HB0 := Lib.hid (HB0.out.trans (hb.mono HB0.out.size))
    clear hb
    obtain ⟨e4, he4⟩ : ∃ e, wayE (openR t x) u v dk = e := ⟨_, rfl⟩
    obtain ⟨⟨a4, b4⟩, hq4⟩ : ∃ q, wayT (openR t x) u v dk = q := ⟨_, rfl⟩
    rw [he4, hq4]
    have HE4 := Lib.hid he4
    have HQ4 := Lib.hid hq4
    clear he4 hq4
    gi_upto_region 13 with fail
    obtain ⟨V23, hV⟩ : ∃ V, (W22.alloc (.cells #[.int .i64 a4, .int .i64 b4] 34)) = V := ⟨_, rfl⟩
    rw [hV]
    have hb := fbox_bel hV
    have hnew := fbox_blk hV
    have hge := HLay.out.bel.size
    replace HLay := Lib.hid (HLay.out.below hb)
    replace HO1 := Lib.hid (HO1.out.below hb (Nat.le_refl _))
    replace HO2 := Lib.hid (HO2.out.below hb (Nat.le_refl _))
    replace HB0 := Lib.hid (HB0.out.trans (hb.mono HB0.out.size))
    replace HLay := Lib.hid (HLay.out.add hge hnew)
    clear hnew hge hb hV
    obtain ⟨G24, hG⟩ : ∃ g, W22.heap.size = g := ⟨_, rfl⟩
    rw [hG] at HLay ⊢
    clear hG
    by_cases h1 : e1 = 0
    ·have hw := way_open (u := u) (v := v) (dk := dk) HTB.out HEO.out HA2.out (HE1.out.trans h1)
     rw [HE4.out, HQ1.out, HQ4.out] at hw
     obtain ⟨h3, hl⟩ := hw
     have HLL := Lib.hid hl
     subst h1
     subst h3
     clear hl
     have x2_0 := (HLay.out.blk 2 rfl).cell 0
     have x2_1 := (HLay.out.blk 2 rfl).cell 1
     have l2_ := HLay.out.lt 2 rfl
     have x6_0 := (HLay.out.blk 6 rfl).cell 0
     have x6_1 := (HLay.out.blk 6 rfl).cell 1
     have l6_ := HLay.out.lt 6 rfl
     gi_wp2
     clear x2_0 x2_1 l2_ x6_0 x6_1 l6_
     refine ⟨trivial, (callsIn_wide.2 (lessToil_any a1 b1 a4 b4 V23)).mono ?_⟩
     rintro e W25 ⟨rfl, hb⟩
     replace HLay := Lib.hid (HLay.out.below hb)
     replace HO1 := Lib.hid (HO1.out.below hb (Nat.le_refl _))
     replace HO2 := Lib.hid (HO2.out.below hb (Nat.le_refl _))
     replace HB0 := Lib.hid (HB0.out.trans (hb.mono HB0.out.size))
     clear hb
     rw [show lessP a1 b1 a4 b4 = false from HLL.out]
     gi_wp2
     gi_meet
     exact HB0
    ·have h1b : (e1 == 0) = false := by simpa using h1
     clear h1
     have x2_0 := (HLay.out.blk 2 rfl).cell 0
     have x2_1 := (HLay.out.blk 2 rfl).cell 1
     have l2_ := HLay.out.lt 2 rfl
     have x6_0 := (HLay.out.blk 6 rfl).cell 0
     have x6_1 := (HLay.out.blk 6 rfl).cell 1
     have l6_ := HLay.out.lt 6 rfl
     gi_wp2
     all_goals try (rename_i hA hB; exact undef_ne hA)
     clear x2_0 x2_1 l2_ x6_0 x6_1 l6_
     refine ⟨trivial, ?_⟩
     gi_wp2
     gi_meet
     exact HB0
   ·obtain rfl : eo = 34 := by have := openE_vals (x := x) HTB.out; have := HEO.out; omega
    clear h4
    gi_wp2
    gi_meet
    exact HB0
  case rest =>
   rename World => C26
   have hb := hcut.out
   clear hcut
   replace HLay := Lib.hid (HLay.out.below hb)
   replace HO1 := Lib.hid (HO1.out.below hb (Nat.le_refl _))
   replace HO2 := Lib.hid (HO2.out.below hb (Nat.le_refl _))
   clear hb
   clear HO1 HO2
   by_cases hm0 : m = 0
   ·have hm0b : (((m : Nat) : Int) == 0) = true := by simp; omega
    have x0_0 := (HLay.out.blk 0 rfl).cell 0
    have x0_1 := (HLay.out.blk 0 rfl).cell 1
    have l0_ := HLay.out.lt 0 rfl
    gi_wp2
    clear x0_0 x0_1 l0_
    exact bodyPost_ret (v := .bool true) (by simp [results, Tryz.results11, go_sem]) rfl ⟨rfl, HLay.out.bel⟩
   have hm0b : (((m : Nat) : Int) == 0) = false := by simp; omega
   have hm1 : 0 < m := by omega
   have x0_0 := (HLay.out.blk 0 rfl).cell 0
   have x0_1 := (HLay.out.blk 0 rfl).cell 1
   have l0_ := HLay.out.lt 0 rfl
   gi_upto_region 19 with fail
   clear x0_0 x0_1 l0_
   have hrm : wh % m < m := Nat.mod_lt _ hm1
   have HM : Hid (Int.tmod (wh : Int) (m : Int) = ((wh % m : Nat) : Int)) := Lib.hid (by rw [Int.tmod_eq_emod_of_nonneg (by omega)]; push_cast; rfl)
   obtain ⟨r, hrq⟩ : ∃ r, wh % m = r := ⟨_, rfl⟩
   rw [hrq] at HM hrm
   obtain ⟨bq, oq, y, rfl, hbq, hy, h0, _, _, _, _⟩ := (HT.out.links.below HLay.out.bel).cell hrm
   have HYM := Lib.hid (List.mem_of_getElem? hy)
   have HC0 := Lib.hid h0
   have hbl2 : bq < C26.heap.size := Nat.lt_of_lt_of_le hbq HLay.out.bel.size
   have HCL := Lib.hid (close_one HTB.out HYM.out)
   have r0 : (0 : Int) ≤ (r : Int) := by omega
   have rm : (r : Int) < (m : Int) := by omega
   have hmn : ¬ m = 0 := by omega
   have hmn2 : (m == 0) = false := by simp; omega
   have hmz : (((m : Nat) : Int) == 0) = false := by simp; omega
   have wx : IntKind.i64.wrap (wh : Int) = (wh : Int) := IntWalk.i64_in _ (by omega)
   have htm := HM.out
   clear hy h0 hrq hbq
   have HLay0 := Lib.hid HLay.out
   refine wpIn_flow_new [([true, true, true, true, true, true, true, true, true, true, true, true], 12), ([], 13)] [false, false, false, false, false, false, false, false, false, false, false, false, false, false, true, true, true, false, false, true] [false, false, false, false, false, false, false, false, false, false, false, false, false, false, false, false, false, false, true] 17 (fun b => .pointer (some ⟨b, 0, none⟩)) 25 #[.slice none 0 0, .slice none 0 0] (by kernel_rfl) (by kernel_rfl) (by kernel_rfl) (below_drewN (Below.refl _ _) 1) rfl rfl rfl (fun _ _ => rfl) (fun _ _ => rfl) ?_
   refine wpFlow_cons (A := ?AF3) rfl ?hq3 ?_
   case hq3 =>
    rintro σ hσ of hof hcl
    have HOF := Lib.hid hof
    have HCL := Lib.hid hcl
    clear hof hcl
    have c0_ : ∀ z, (of z).cell? ⟨w.heap.size, 0, none⟩ = some (.slice A n c) := fun z => ((HLay.out.below (HOF.out z)).blk 0 rfl).cell 0
    have c1_ : ∀ z, (of z).cell? ⟨w.heap.size, 1, none⟩ = some (.slice (some ⟨bq, oq, none⟩) m d) := fun z => ((HLay.out.below (HOF.out z)).blk 0 rfl).cell 1
    have hfw : ∀ f, Fence.wide.fn f := fun _ => trivial
    have hcl : ∀ z, (of z).cell? ⟨bq, oq + r * 5, none⟩ = some (.int .i64 y.id) := fun z => ((HOF.out z).cell (p := ⟨bq, oq + r * 5, none⟩) hbl2).trans HC0.out
    simp only [pickB]
    repeat (gi_big_quiet_step (fail))
    refine wpQuietIn_nil ?_
    exact rfl
   intro W27 hW
   replace HLay := Lib.hid (HLay.out.below hW)
   clear hW
   gi_wp2
   refine ⟨trivial, (Below.refl _ _).alloc (Nat.le_refl _) _, ?_⟩
   have hb : Below W27.heap.size W27 (W27.alloc (.cells #[.int .i64 y.id] 3)) := (Below.refl _ _).alloc (Nat.le_refl _) _
   replace HLay := Lib.hid (HLay.out.below hb)
   have HPl := Lib.hid (show IntsAt (W27.alloc (.cells #[.int .i64 y.id] 3)) (W27.alloc (.cells #[.int .i64 y.id] 3)).heap.size (some ⟨W27.heap.size, 0, none⟩) 1 [y.id] from IntsAt.new W27 3 [y.id] _ (by simp))
   obtain ⟨P29, hP⟩ : ∃ P, W27.heap.size = P := ⟨_, rfl⟩
   rw [hP] at HPl ⊢
   generalize (W27.alloc (.cells #[.int .i64 y.id] 3)) = V28 at *
   clear hb hP
   clear r0 rm hmn hmn2 hmz wx htm
   refine wpFlow_cons rfl Quietly.none ?_
   intro W30 hW
   replace HLay := Lib.hid (HLay.out.below hW)
   replace HPl := Lib.hid ((HPl.out.below hW).more hW.size)
   clear hW
   have hlw := (HLay.out.blk 0 rfl).lt
   gi_wp2
   refine ⟨trivial, (callsIn_wide.2 (close_any A n c (some ⟨bq, oq, none⟩) m d t (some ⟨P29, 0, none⟩) 1 1 [y.id] W30 (by omega) (by omega) (by omega) ((HT.out.below HLay.out.bel).more HLay.out.bel.size) HPl.out (HL.out.below HLay.out.bel hl0))).mono ?_⟩
   rintro e W31 ⟨AZ, cZ, AY, cY, rfl, hZ1, hZ2, _, hb⟩
   replace HLay := Lib.hid (HLay.out.below hb)
   replace HPl := Lib.hid ((HPl.out.below hb).more hb.size)
   rw [HCL.out.1, HCL.out.2]
   rw [HCL.out.2] at hZ1 hZ2
   have HZ1 := Lib.hid hZ1
   have HZ2 := Lib.hid hZ2
   clear hZ1 hZ2
   obtain ⟨tl, htl⟩ : ∃ x, lessT t (fun y' => memI [y.id] y'.id) = x := ⟨_, rfl⟩
   rw [htl] at HZ1 HZ2 ⊢
   have HTL := Lib.hid htl
   clear htl
   gi_wp2
   refine ⟨trivial, hb, ?_⟩
   clear hb
   clear HPl
   clear hlw
   refine wpFlow_nil (A := ?AF4) ?hq4 ?_
   case hq4 =>
    rintro σ hσ of hof hcl
    have HOF := Lib.hid hof
    have HCL := Lib.hid hcl
    clear hof hcl
    have c0_ : ∀ z, (of z).cell? ⟨w.heap.size, 0, none⟩ = some (.slice A n c) := fun z => ((HLay.out.below (HOF.out z)).blk 0 rfl).cell 0
    have c1_ : ∀ z, (of z).cell? ⟨w.heap.size, 1, none⟩ = some (.slice (some ⟨bq, oq, none⟩) m d) := fun z => ((HLay.out.below (HOF.out z)).blk 0 rfl).cell 1
    have hfw : ∀ f, Fence.wide.fn f := fun _ => trivial
    simp only [pickB]
    repeat (gi_big_quiet_step (fail))
    refine wpQuietIn_nil ?_
    exact rfl
   intro G9 W32 hW hbg hbb hbi
   replace HLay := Lib.hid (HLay.out.below hW)
   replace HZ1 := Lib.hid (HZ1.out.below hW (Nat.le_refl _))
   replace HZ2 := Lib.hid (HZ2.out.below hW (Nat.le_refl _))
   have c0 := hbb.cell 0
   have z0 := hbb.frozen 0
   have c1 := hbb.cell 1
   have z1 := hbb.frozen 1
   have hbl := hbb.lt
   have hbw : w.heap.size ≤ G9 := Nat.le_trans HLay0.out.1.size hbg
   simp only [pickB]
   refine wpT_cons ?_
   gi_wp2
   refine wpT_nil ?_
   have R2 := ret2' hbb (Below.refl G9 W32) (Nat.le_refl _) (.slice AZ tl.places.length cZ) (.slice AY tl.links.length cY)
   replace HZ1 := Lib.hid (own_off HZ1.out R2.2.2 hbb (by decide))
   replace HZ2 := Lib.hid (own_off HZ2.out R2.2.2 hbb (by decide))
   replace HLay := Lib.hid (Lay.add (w := w) (bs := [(w.heap.size, 25, #[.slice A n c, .slice (some ⟨bq, oq, none⟩) m d]), (w.heap.size + 1, 52, #[.int .i64 x.id, .int .i64 x.fr, .int .i64 x.to, .int .i64 x.steps, .int .i64 x.paces]), (G10, 34, #[.int .i64 a1, .int .i64 b1]), (G13, 34, #[.int .i64 a2, .int .i64 b2]), (G16, 34, #[.int .i64 a3, .int .i64 b3]), (G21, 25, #[.slice AO (openR t x).places.length cO, .slice AO2 (openR t x).links.length cO2])]) ⟨HLay.out.1.trans (R2.2.1.mono hbw), fun p hp => ⟨(HLay.out.2 p hp).1, (HLay.out.2 p hp).2.below R2.2.1 (by have := (HLay0.out.2 p hp).2.lt; omega)⟩⟩ hbw R2.1)
   generalize ((W32.setCell ⟨G9, 0, none⟩ (.slice AZ tl.places.length cZ)).setCell ⟨G9, 1, none⟩ (.slice AY tl.links.length cY)) = W33 at *
   clear c0 z0 c1 z1 hbl hbb hW hbg R2 hbw hbi HLay0
   have hnl : tl.places.length ≤ 1000 := by rw [← HTL.out]; exact less_n HLn.out (by omega)
   have hml : tl.links.length ≤ 1000 := by rw [← HTL.out]; exact less_m HLm.out (by omega)
   have x6_0 := (HLay.out.blk 6 rfl).cell 0
   have x6_1 := (HLay.out.blk 6 rfl).cell 1
   have l6_ := HLay.out.lt 6 rfl
   gi_wp2
   clear x6_0 x6_1 l6_
   refine ⟨trivial, (callsIn_wide.2 (toilw_any AZ tl.places.length cZ AY tl.links.length cY tl u v dk W33 hnl hml ⟨ints_of_own HZ1.out (Nat.le_refl _), links_of_own HZ2.out (Nat.le_refl _)⟩ (HL.out.below HLay.out.bel hl0))).mono ?_⟩
   rintro e W34 ⟨rfl, hb⟩
   replace HLay := Lib.hid (HLay.out.below hb)
   replace HZ1 := Lib.hid (HZ1.out.below hb (Nat.le_refl _))
   replace HZ2 := Lib.hid (HZ2.out.below hb (Nat.le_refl _))
   clear hb
   obtain ⟨e5, he5⟩ : ∃ e, wayE tl u v dk = e := ⟨_, rfl⟩
   obtain ⟨⟨a5, b5⟩, hq5⟩ : ∃ q, wayT tl u v dk = q := ⟨_, rfl⟩
   rw [he5, hq5]
   have HE5 := Lib.hid he5
   have HQ5 := Lib.hid hq5
   clear he5 hq5
   gi_upto_region 21 with fail
   obtain ⟨V35, hV⟩ : ∃ V, (W34.alloc (.cells #[.int .i64 a5, .int .i64 b5] 34)) = V := ⟨_, rfl⟩
   rw [hV]
   have hb := fbox_bel hV
   have hnew := fbox_blk hV
   have hge := HLay.out.bel.size
   replace HLay := Lib.hid (HLay.out.below hb)
   replace HZ1 := Lib.hid (HZ1.out.below hb (Nat.le_refl _))
   replace HZ2 := Lib.hid (HZ2.out.below hb (Nat.le_refl _))
   replace HLay := Lib.hid (HLay.out.add hge hnew)
   clear hnew hge hb hV
   obtain ⟨G36, hG⟩ : ∃ g, W34.heap.size = g := ⟨_, rfl⟩
   rw [hG] at HLay ⊢
   clear hG
   by_cases h5 : e5 = 0
   ·have hw := way_less (q := fun y' => memI [y.id] y'.id) (u := u) (v := v) (dk := dk) HTB.out HA2.out (by rw [HTL.out]; exact HE5.out.trans h5)
    rw [HTL.out, HE1.out, HQ1.out, HQ5.out] at hw
    obtain ⟨h3, hl⟩ := hw
    have HLL := Lib.hid hl
    subst h5
    subst h3
    clear hl
    have x2_0 := (HLay.out.blk 2 rfl).cell 0
    have x2_1 := (HLay.out.blk 2 rfl).cell 1
    have l2_ := HLay.out.lt 2 rfl
    have x7_0 := (HLay.out.blk 7 rfl).cell 0
    have x7_1 := (HLay.out.blk 7 rfl).cell 1
    have l7_ := HLay.out.lt 7 rfl
    gi_wp2
    clear x2_0 x2_1 l2_ x7_0 x7_1 l7_
    refine ⟨trivial, (callsIn_wide.2 (lessToil_any a5 b5 a1 b1 V35)).mono ?_⟩
    rintro e W37 ⟨rfl, hb⟩
    replace HLay := Lib.hid (HLay.out.below hb)
    replace HZ1 := Lib.hid (HZ1.out.below hb (Nat.le_refl _))
    replace HZ2 := Lib.hid (HZ2.out.below hb (Nat.le_refl _))
    clear hb
    rw [show lessP a5 b5 a1 b1 = false from HLL.out]
    gi_wp2
    exact bodyPost_ret (v := .bool true) (by simp [results, Tryz.results11, go_sem]) rfl ⟨rfl, HLay.out.bel⟩
   ·have h5b : (e5 != 0) = true := by simpa using h5
    clear h5
    have x2_0 := (HLay.out.blk 2 rfl).cell 0
    have x2_1 := (HLay.out.blk 2 rfl).cell 1
    have l2_ := HLay.out.lt 2 rfl
    have x7_0 := (HLay.out.blk 7 rfl).cell 0
    have x7_1 := (HLay.out.blk 7 rfl).cell 1
    have l7_ := HLay.out.lt 7 rfl
    gi_wp2
    all_goals try (rename_i hA hB; exact undef_ne hA)
    clear x2_0 x2_1 l2_ x7_0 x7_1 l7_
    refine ⟨trivial, ?_⟩
    gi_wp2
    exact bodyPost_ret (v := .bool true) (by simp [results, Tryz.results11, go_sem]) rfl ⟨rfl, HLay.out.bel⟩
theorem zmore_walk (A : Option Addr) (n c : Nat) (A' : Option Addr) (m d : Nat) (t : Town) (fr : Nat) (to_ : Nat) (dk : Bool) (x : Link) (wh : Nat) (w : World) (hn : n ≤ maxLen) (hm : m ≤ maxLen) (hfr : fr ≤ 255) (hto_ : to_ ≤ 255) (hwh : wh ≤ 255) (ht : TownAt w w.heap.size A n A' m t)  (hL : Laid w) :
  Calls Tryz.prog 11 #[.agg #[.slice A n c, .slice A' m d], .int .u8 fr, .int .u8 to_, .bool dk, .agg #[.int .i64 x.id, .int .i64 x.fr, .int .i64 x.to, .int .i64 x.steps, .int .i64 x.paces], .int .u8 wh] w fun e w' => e = .returned (.bool true) ∧ Below w.heap.size w w' :=
 callsIn_wide.1 (zmore_walk_in A n c A' m d t fr to_ dk x wh w hn hm hfr hto_ hwh ht  hL)
end Go.Proofs.YtahkjagjcogeiaaGreatDoor
/- The table of checks as the row lists it: its three cells. The door's own heap meets the condition. -/
namespace Go.Proofs.YtahkjagjcogeiaaGreatDoor
open Go.ChangeShapes Go.WideShapes Go.ChangeAt Go.RowKit
set_option maxRecDepth 100000

def laidL : List (String × DataW Unit) := [("aguador/climb.checks", Rows.laid_aguador_climb_checks)]
theorem gChecks : Tryz.prog.globalNamed "aguador/climb.checks" = some 0 := by kernel_rfl
theorem tChecks : (Tryz.prog.globals[0]?).map (·.type) = some 163 := by kernel_rfl
theorem cellsCheck : Tryz.prog.cellsOf 162 = 1 := by kernel_rfl
theorem cellsFuncB : Tryz.prog.cellsOf 28 = 1 := by kernel_rfl
theorem checkUnd : ∃ f, Tryz.prog.underlying 162 = some (.struct #[f]) ∧ f.type = 28 ∧ f.offset = 0 := ⟨_, Tryz.underlying162, rfl, rfl⟩

/-- The door's own heap meets the condition. -/
theorem door_met (os : Os) (args : Array Value) : laidMetH Tryz.prog laidL ((World.doorLaid Tryz.prog 800 os).forCall (fun _ _ => 0) ⟨#[], args, []⟩).memory :=
 laidMetH_of_parts3 (fuel := 8) (laidMet_of_run' 8 (by kernel_rfl) (by kernel_rfl)) (by kernel_rfl) (by kernel_rfl)

theorem check_cell {W : World} {fuel : Nat} {cs : List Value} {b : UInt8} {r : List UInt8} {q : List MemPlace} {f0 : FuncId} (h : DataW.trod (funcToken Tryz.prog) Tryz.prog W 0 (fun _ => true) true fuel 162 cs = some (.agg [.held (b :: r)], q))
  (hone : ((List.range Tryz.prog.funcs.size).filter fun f => (Tryz.prog.funcs[f]?).any (·.name.toUTF8.data.toList == b :: r)) = [f0]) : cs = [.func (.func f0) #[] #[]] := by
 obtain ⟨f, hu, ht, ho⟩ := checkUnd
 obtain ⟨y0, n, hx, hl, h0⟩ := trod_struct1 hu h
 rw [cellsCheck] at hl
 match cs, hl with
 | [c], _ =>
  have h1 : DataW.trod (funcToken Tryz.prog) Tryz.prog W 0 (fun _ => true) true n 28 [c] = some y0 := by simpa [ht, ho, cellsFuncB] using h0
  simp only [Prod.mk.injEq, DataW.agg.injEq, List.cons.injEq, and_true] at hx
  obtain ⟨z, p⟩ := y0
  obtain ⟨e1, e2⟩ := hx
  simp only at e1
  subst e1
  rw [func_of_trod Tryz.underlying28 hone h1]

theorem of_laid {W : World} (h : laidMetH Tryz.prog laidL W) : Laid W := by
 obtain ⟨g, t, cs, fuel, p, hg, ht, hv, hd⟩ := h.funcs (List.mem_singleton.2 rfl)
 obtain rfl := Option.some.inj (gChecks.symm.trans hg)
 obtain rfl := Option.some.inj (tChecks.symm.trans ht)
 obtain ⟨xs, m, _, hx, hlen, hn, hel⟩ := DataW.trod_array Tryz.underlying163 hd
 rw [cellsCheck] at hel
 match xs, hn with
 | [x0, x1, x2], _ =>
  have h0 := hel 0 (by decide)
  have h1 := hel 1 (by decide)
  have h2 := hel 2 (by decide)
  simp only [Prod.mk.injEq] at hx
  have hx1 := hx.1
  simp only [DataW.funcsOut, DataW.funcsOutAll, List.map_cons, List.map_nil, DataW.agg.injEq, List.cons.injEq, and_true] at hx1
  obtain ⟨e0, e1, e2⟩ := hx1
  obtain ⟨x0, p0⟩ := x0
  obtain ⟨x1, p1⟩ := x1
  obtain ⟨x2, p2⟩ := x2
  simp only at e0 e1 e2
  subst e0 e1 e2
  have k0 := check_cell (f0 := 174) h0 (by kernel_rfl)
  have k1 := check_cell (f0 := 175) h1 (by kernel_rfl)
  have k2 := check_cell (f0 := 176) h2 (by kernel_rfl)
  have at_ : ∀ i, W.cell? ⟨0, i, none⟩ = cs[i]? := fun i => by simpa using World.var?_cell hg hv i
  obtain ⟨l⟩ := cs
  have c0 : W.cell? ⟨0, 0, none⟩ = some (.func (.func 174) #[] #[]) := by
   rw [at_]
   have := congrArg (·[0]?) k0
   simpa [List.getElem?_take, List.getElem?_drop] using this
  have c1 : W.cell? ⟨0, 1, none⟩ = some (.func (.func 175) #[] #[]) := by
   rw [at_]
   have := congrArg (·[0]?) k1
   simpa [List.getElem?_take, List.getElem?_drop] using this
  have c2 : W.cell? ⟨0, 2, none⟩ = some (.func (.func 176) #[] #[]) := by
   rw [at_]
   have := congrArg (·[0]?) k2
   simpa [List.getElem?_take, List.getElem?_drop] using this
  exact ⟨c0, c1, c2, World.block_lt_of_cell? W _ c0⟩

end Go.Proofs.YtahkjagjcogeiaaGreatDoor
/- The laws' arguments, opened: lists of whole numbers, lists of links, towns, a link; the table of checks. -/
namespace Go.Proofs.YtahkjagjcogeiaaGreatDoor
open Go.ChangeShapes Go.WideShapes Go.RowKit Go.Deep Go.Joins
set_option maxRecDepth 100000

section
variable {H : Type} {enc : TypeId × Value → H} {P : Program} {w : World} {base : Nat} {spare : Nat → Bool} {held : Bool}
end

section
variable {H : Type} {enc : TypeId × Value → H} {w : World}

theorem linkUnd : ∃ f0 f1 f2 f3 f4, Tryz.prog.underlying 52 = some (.struct #[f0, f1, f2, f3, f4]) ∧ oneCellFields Tryz.prog #[f0, f1, f2, f3, f4] = true ∧ f0.type = 3 ∧ f1.type = 3 ∧ f2.type = 3 ∧ f3.type = 3 ∧ f4.type = 3 ∧ f0.offset = 0 ∧ f1.offset = 1 ∧ f2.offset = 2 ∧ f3.offset = 3 ∧ f4.offset = 4 :=
 ⟨_, _, _, _, _, Tryz.underlying52, by kernel_rfl, rfl, rfl, rfl, rfl, rfl, rfl, rfl, rfl, rfl, rfl⟩
theorem cellsLink : Tryz.prog.cellsOf 52 = 5 := by kernel_rfl
theorem cellsInt1 : Tryz.prog.cellsOf 3 = 1 := by kernel_rfl
theorem cellsTown2 : Tryz.prog.cellsOf 25 = 2 := by kernel_rfl

/-- A list of whole numbers. -/
theorem ints_open {v : Value} {fuel : Nat} {x : DataW H × List MemPlace} (h : DataW.trod enc Tryz.prog w 0 (fun _ => true) true fuel 22 [v] = some x) :
  ∃ A n c l, v = .slice A n c ∧ n ≤ c ∧ n ≤ maxLen ∧ c ≤ maxLen ∧ IntsAt w w.heap.size A n l := by
 rcases open_slice1 Tryz.underlying22 cellsInt1 h with ⟨e, _⟩ | ⟨a, len, cap, m, k, V, D, Pl, e, _, hl, hm, hmm, _, hx⟩
 ·simp only [List.cons.injEq, and_true] at e
  exact ⟨none, 0, 0, [], e, Nat.le_refl _, Nat.zero_le _, Nat.zero_le _, Reads.none_⟩
 ·simp only [List.cons.injEq, and_true] at e
  have hmc : m = cap := by simpa using hmm
  subst hmc
  have hn : ∀ i, i < m → ∃ z : Int, V i = .int .i64 z := fun i hi => by
   obtain ⟨z, f0, _, _⟩ := DataW.trod_int Tryz.underlying3 (hx i hi).2
   simp only [List.cons.injEq, and_true] at f0
   exact ⟨z, f0⟩
  obtain ⟨Z, hZ⟩ := choose_lt hn
  refine ⟨some a, len, m, (List.range len).map Z, e, hl, by omega, hm, by simp, fun h0 => ⟨a, rfl, ?_, fun j u hu => ?_⟩⟩
  ·have := World.block_lt_of_cell? w _ (hx 0 (by omega)).1
   rwa [block_of_add] at this
  ·simp only [List.getElem?_map, Option.map_map] at hu
   have hj : j < len := by
    rcases Nat.lt_or_ge j len with h' | h'
    ·exact h'
    ·rw [List.getElem?_eq_none (by simpa using h')] at hu; cases hu
   rw [List.getElem?_range hj] at hu
   simp only [Option.map_some, Option.some.injEq, Function.comp] at hu
   rw [(hx j (by omega)).1, hZ j (by omega), ← hu]

/-- A link's five cells. -/
theorem link_cells {fuel : Nat} {cs : List Value} {x : DataW H × List MemPlace} (h : DataW.trod enc Tryz.prog w 0 (fun _ => true) true fuel 52 cs = some x) (hl : cs.length = 5) : ∃ l : Link, cs = l.vals := by
 obtain ⟨f0, f1, f2, f3, f4, hu, hone, t0, t1, t2, t3, t4, z0, z1, z2, z3, z4⟩ := linkUnd
 obtain ⟨xs, n, _, _, _, hlen, hg⟩ := DataW.trod_struct hu h
 match cs, hl, xs, hlen with
 | [c0, c1, c2, c3, c4], _, [y0, y1, y2, y3, y4], _ =>
  have h0 : DataW.trod enc Tryz.prog w 0 (fun _ => true) true n 3 [c0] = some y0 := by simpa [t0, z0, cellsInt1] using hg 0 f0 rfl
  have h1 : DataW.trod enc Tryz.prog w 0 (fun _ => true) true n 3 [c1] = some y1 := by simpa [t1, z1, cellsInt1] using hg 1 f1 rfl
  have h2 : DataW.trod enc Tryz.prog w 0 (fun _ => true) true n 3 [c2] = some y2 := by simpa [t2, z2, cellsInt1] using hg 2 f2 rfl
  have h3 : DataW.trod enc Tryz.prog w 0 (fun _ => true) true n 3 [c3] = some y3 := by simpa [t3, z3, cellsInt1] using hg 3 f3 rfl
  have h4 : DataW.trod enc Tryz.prog w 0 (fun _ => true) true n 3 [c4] = some y4 := by simpa [t4, z4, cellsInt1] using hg 4 f4 rfl
  obtain ⟨n0, e0, _, _⟩ := DataW.trod_int Tryz.underlying3 h0
  obtain ⟨n1, e1, _, _⟩ := DataW.trod_int Tryz.underlying3 h1
  obtain ⟨n2, e2, _, _⟩ := DataW.trod_int Tryz.underlying3 h2
  obtain ⟨n3, e3, _, _⟩ := DataW.trod_int Tryz.underlying3 h3
  obtain ⟨n4, e4, _, _⟩ := DataW.trod_int Tryz.underlying3 h4
  simp only [List.cons.injEq, and_true] at e0 e1 e2 e3 e4
  subst e0 e1 e2 e3 e4
  exact ⟨⟨n0, n1, n2, n3, n4⟩, rfl⟩

/-- A list of links. -/
theorem links_open {v : Value} {fuel : Nat} {x : DataW H × List MemPlace} (h : DataW.trod enc Tryz.prog w 0 (fun _ => true) true fuel 23 [v] = some x) :
  ∃ A n c l, v = .slice A n c ∧ n ≤ c ∧ n ≤ maxLen ∧ c ≤ maxLen ∧ LinksAt w w.heap.size A n l := by
 rcases open_slice Tryz.underlying23 h with ⟨e, _⟩ | ⟨a, len, cap, m, k, D, Pl, e, _, hl, hm, hmm, _, hx⟩
 ·simp only [List.cons.injEq, and_true] at e
  exact ⟨none, 0, 0, [], e, Nat.le_refl _, Nat.zero_le _, Nat.zero_le _, Reads.none_⟩
 ·simp only [List.cons.injEq, and_true] at e
  have hmc : m = cap := by simpa using hmm
  subst hmc
  have hn : ∀ i, i < m → ∃ z : Link, ∀ j, j < 5 → w.cell? (a.add (i * 5 + j)) = z.vals[j]? := fun i hi => by
   obtain ⟨cs', h1, h2⟩ := hx i hi
   rw [cellsLink] at h1
   obtain ⟨_, hcl, hat⟩ := World.cells?_some h1
   obtain ⟨z, rfl⟩ := link_cells h2 hcl
   exact ⟨z, fun j hj => by rw [← Go.Deep.add_add, hat j hj]⟩
  letI : Inhabited Link := ⟨⟨0, 0, 0, 0, 0⟩⟩
  obtain ⟨Z, hZ⟩ := choose_lt hn
  refine ⟨some a, len, m, (List.range len).map Z, e, hl, by omega, hm, by rw [flat_len]; simp, fun h0 => ⟨a, rfl, ?_, fun j u hu => ?_⟩⟩
  ·have := World.block_lt_of_cell? w _ (hZ 0 (by omega) 0 (by omega))
   rwa [block_of_add] at this
  ·have hj : j < len * 5 := by
    rcases Nat.lt_or_ge j (len * 5) with h' | h'
    ·exact h'
    ·rw [List.getElem?_eq_none (by rw [flat_len]; simpa using h')] at hu; cases hu
   have hz := hZ (j / 5) (by omega) (j % 5) (by omega)
   have ha : ((List.range len).map Z)[j / 5]? = some (Z (j / 5)) := by rw [List.getElem?_map, List.getElem?_range (by omega)]; rfl
   have hf := flat_at ha (show j % 5 < 5 by omega)
   rw [show j / 5 * 5 + j % 5 = j by omega] at hf hz
   rw [hz, ← hf, hu]

/-- A link, by value. -/
theorem linkArg_open {r : Reach} {b0 : Nat} {v : Value} {d : DataW H} {p : List MemPlace} (hv : Value.okWide Tryz.prog w r b0 52 v) (h : DataW.Trod enc Tryz.prog w 0 (fun _ => true) true 52 v d p) :
  ∃ l : Link, v = .agg l.vals.toArray := by
 obtain ⟨f0, f1, f2, f3, f4, hu, hone, t0, t1, t2, t3, t4, z0, z1, z2, z3, z4⟩ := linkUnd
 obtain ⟨cs, rfl, hsz⟩ := okWide_struct hu hv
 obtain ⟨fuel, hf⟩ := h
 obtain ⟨l, e⟩ := link_cells (cs := cs.toList) hf (by simpa [cellsLink] using hsz)
 exact ⟨l, by rw [← e]⟩

/-- A town, by value. -/
theorem town_open {r : Reach} {b0 : Nat} {v : Value} {d : DataW H} {p : List MemPlace} (hv : Value.okWide Tryz.prog w r b0 25 v) (h : DataW.Trod enc Tryz.prog w 0 (fun _ => true) true 25 v d p) :
  ∃ A n c A' m d' t, v = .agg #[.slice A n c, .slice A' m d'] ∧ n ≤ maxLen ∧ m ≤ maxLen ∧ n ≤ c ∧ m ≤ d' ∧ TownAt w w.heap.size A n A' m t := by
 obtain ⟨v0, v1, y0, y1, k, rfl, _, _, h0, h1⟩ := open_agg2 Tryz.underlying25 (by kernel_rfl) cellsTown2 hv h
 obtain ⟨A, n, c, l, rfl, hn, hx, _, hr⟩ := ints_open h0
 obtain ⟨A', m, d', l', rfl, hm, hx', _, hr'⟩ := links_open h1
 exact ⟨A, n, c, A', m, d', ⟨l, l'⟩, rfl, hx, hx', hn, hm, ⟨hr, hr'⟩⟩
end

end Go.Proofs.YtahkjagjcogeiaaGreatDoor
/- The laws' arguments, opened: skins and gaits. What every row's proof wants. -/
namespace Go.Proofs.YtahkjagjcogeiaaGreatDoor
open Go.ChangeShapes Go.WideShapes Go.RowKit Go.Deep Go.Joins
set_option maxRecDepth 100000
theorem ownT' : ownKnob Tryz.prog.godebug = none := by kernel_rfl
theorem laidOutT' : laidOutB Tryz.prog = true := by kernel_rfl
section
variable {H : Type} {enc : TypeId × Value → H} {w : World}
end
end Go.Proofs.YtahkjagjcogeiaaGreatDoor
/- A law's arguments opened: bytes, and lists of bytes. -/
namespace Go.Proofs.YtahkjagjcogeiaaGreatDoor
open Go.ChangeShapes Go.WideShapes Go.RowKit Go.Deep Go.Joins
set_option maxRecDepth 100000
section
variable {H : Type} {enc : TypeId × Value → H} {w : World}
theorem u8_wf {z : Int} (h : (Lit.int .u8 z).wf = true) : 0 ≤ z ∧ z ≤ 255 := by
 simp [Lit.wf] at h
 have h1 : IntKind.u8.min = 0 := rfl
 have h2 : IntKind.u8.max = 255 := rfl
 omega
theorem u8_open {v : Value} {d : DataW H} {p : List MemPlace} (h : DataW.Trod enc Tryz.prog w 0 (fun _ => true) true 5 v d p) (hv : ∃ z : Int, v = .int .u8 z) : ∃ x : Nat, v = .int .u8 (x : Nat) ∧ x ≤ 255 := by
 obtain ⟨z, rfl⟩ := hv
 obtain ⟨fuel, hf⟩ := h
 obtain ⟨n, e, _, hw⟩ := DataW.trod_int Tryz.underlying5 hf
 have e' : n = z := by simpa [Value.cells] using e.symm
 subst e'
 have hb := u8_wf hw
 obtain ⟨k, rfl⟩ := Int.eq_ofNat_of_zero_le hb.1
 exact ⟨k, rfl, by omega⟩
end
end Go.Proofs.YtahkjagjcogeiaaGreatDoor
/- ClimbMore: whatever the arguments, the law answers true. The row, and the card. -/
namespace Go.Proofs.YtahkjagjcogeiaaGreatDoor
open Go.ChangeShapes Go.WideShapes Go.ChangeAt Go.RowKit Go.Joins

set_option maxRecDepth 100000 in
theorem zmore_lifted (os : Os) (started : os.Started) (H : Type) (enc : TypeId × Value → H) :
  ReturnsInHanded {} Tryz.checked os 11 .any (fun w args => (Rows.climbMoreSpec.pre enc Tryz.prog Tryz.f11 [] false w args ∧ laidMetH Tryz.prog laidL w) ∧ sizedMet enc Tryz.prog Tryz.f11 (OpenSpec.ofChange Rows.climbMoreSpec) false w args)
   (Rows.climbMoreSpec.post enc Tryz.prog Tryz.f11 false true false false) := by
 refine returnsInHanded_of_change_and (C := Tryz.checked) (X := fun w _ => laidMetH Tryz.prog laidL w) (fun _ _ _ hh h => h.of_heap hh) ownT' started (by kernel_rfl) Tryz.func11
  (ChangeSpec.witness_shaped (enc := enc) (C := Tryz.checked) (os := os) (X := fun w _ => laidMetH Tryz.prog laidL w) false (World.doorLaid Tryz.prog 800 os) #[.agg #[.slice none 0 0, .slice none 0 0], .int .u8 0, .int .u8 0, .bool false, .agg #[.int .i64 0, .int .i64 0, .int .i64 0, .int .i64 0, .int .i64 0], .int .u8 0] 8 rfl (World.shaped_of_RefB (by kernel_rfl) (by kernel_rfl)) (by kernel_rfl) (by kernel_rfl) (by kernel_rfl) (door_met os _)) ?_
 intro W base args ds gs before hval0 hW _ _ hL _
 have hval : ∀ (j : Nat) t v, Tryz.f11.params[j]? = some t → args[j]? = some v → Value.okWide Tryz.prog W .any base t v := hval0
 have hW' := hW
 obtain ⟨p, q, hA0, hV, rfl, hfz, hnd⟩ := hW
 have hA : DataW.TrodAll enc Tryz.prog W 0 (fun _ => true) true Tryz.f11.params.toList args.toList ds p := hA0
 rw [Tryz.params11] at hA hval
 obtain ⟨v0, vs0, d0, ds0, p0, q0, hargs, rfl, rfl, h0, r0⟩ := trodAll_cons hA
 obtain ⟨v1, vs1, d1, ds1, p1, q1, rfl, rfl, rfl, h1, r1⟩ := trodAll_cons r0
 obtain ⟨v2, vs2, d2, ds2, p2, q2, rfl, rfl, rfl, h2, r2⟩ := trodAll_cons r1
 obtain ⟨v3, vs3, d3, ds3, p3, q3, rfl, rfl, rfl, h3, r3⟩ := trodAll_cons r2
 obtain ⟨v4, vs4, d4, ds4, p4, q4, rfl, rfl, rfl, h4, r4⟩ := trodAll_cons r3
 obtain ⟨v5, vs5, d5, ds5, p5, q5, rfl, rfl, rfl, h5, r5⟩ := trodAll_cons r4
 obtain ⟨rfl, rfl, rfl⟩ := trodAll_nil r5
 obtain rfl : args = #[v0, v1, v2, v3, v4, v5] := by cases args; simp_all
 obtain ⟨rfl, rfl⟩ := trodVars_none hV
 have lt0 : ∀ x ∈ p0, x.block < W.heap.size := by obtain ⟨m, hm⟩ := h0; exact DataW.trod_lt m _ _ _ hm
 have lt1 : ∀ x ∈ p1, x.block < W.heap.size := by obtain ⟨m, hm⟩ := h1; exact DataW.trod_lt m _ _ _ hm
 have lt2 : ∀ x ∈ p2, x.block < W.heap.size := by obtain ⟨m, hm⟩ := h2; exact DataW.trod_lt m _ _ _ hm
 have lt3 : ∀ x ∈ p3, x.block < W.heap.size := by obtain ⟨m, hm⟩ := h3; exact DataW.trod_lt m _ _ _ hm
 have lt4 : ∀ x ∈ p4, x.block < W.heap.size := by obtain ⟨m, hm⟩ := h4; exact DataW.trod_lt m _ _ _ hm
 have lt5 : ∀ x ∈ p5, x.block < W.heap.size := by obtain ⟨m, hm⟩ := h5; exact DataW.trod_lt m _ _ _ hm
 have hl := of_laid hL
 obtain ⟨A, n, c, A', m, d, t, e0, hn, hm, hnc, hmd, ht⟩ := town_open (hval 0 25 v0 rfl rfl) h0
 obtain ⟨s1, e1, hb1⟩ := u8_open h1 (okWide_int Tryz.underlying5 (hval 1 5 v1 rfl rfl))
 obtain ⟨s2, e2, hb2⟩ := u8_open h2 (okWide_int Tryz.underlying5 (hval 2 5 v2 rfl rfl))
 obtain ⟨s3, e3⟩ := okWide_bool Tryz.underlying4 (hval 3 4 v3 rfl rfl)
 obtain ⟨s4, e4⟩ := linkArg_open (hval 4 52 v4 rfl rfl) h4
 obtain ⟨s5, e5, hb5⟩ := u8_open h5 (okWide_int Tryz.underlying5 (hval 5 5 v5 rfl rfl))
 clear hA0 hval0 hval
 subst e0 e1 e2 e3 e4 e5
 refine (zmore_walk A n c A' m d t s1 s2 s3 s4 s5 W hn hm hb1 hb2 hb5 ht hl).mono fun e W' ⟨he, bel⟩ => ?_
 subst he
 exact ⟨_, rfl, _, _, _, [], _, [], hW', trodAll_mk1 (shut_bool Tryz.underlying4 _), (trodAll_cons_mk (Below.trod laidOutT' (by kernel_rfl) (of_decide_eq_true (by kernel_rfl)) h0 bel lt0) (trodAll_cons_mk (Below.trod laidOutT' (by kernel_rfl) (of_decide_eq_true (by kernel_rfl)) h1 bel lt1) (trodAll_cons_mk (Below.trod laidOutT' (by kernel_rfl) (of_decide_eq_true (by kernel_rfl)) h2 bel lt2) (trodAll_cons_mk (Below.trod laidOutT' (by kernel_rfl) (of_decide_eq_true (by kernel_rfl)) h3 bel lt3) (trodAll_cons_mk (Below.trod laidOutT' (by kernel_rfl) (of_decide_eq_true (by kernel_rfl)) h4 bel lt4) (trodAll_cons_mk (Below.trod laidOutT' (by kernel_rfl) (of_decide_eq_true (by kernel_rfl)) h5 bel lt5) trodAll_mk0)))))), rfl, bel.frame _, fun h => by cases h⟩

theorem zmore_holds : Rows.ClimbMoreSaid :=
 OpenClaim.holds_of_wide 11 Tryz.f11 rfl rfl rfl rfl rfl rfl rfl ⟨rfl, rfl, rfl, rfl, rfl⟩ rfl rfl rfl rfl rfl (by kernel_rfl) Tryz.func11 (by kernel_rfl)
  (of_decide_eq_true (by kernel_rfl)) (by unfold Func.isWrapper; first | (rw [if_pos (by decide +kernel)]; kernel_rfl) | (rw [if_neg (by decide +kernel)]; exact ⟨rfl, rfl⟩))
  (fun os started H enc _ => zmore_lifted os started H enc)

theorem zmore_card : Rows.ClimbMoreCardSaid :=
 Claim7.holds_tied_plain_at .later [] [.funcs] true (true, "67de833af213194507c31c05b7184ea255bc0890cd487a2a5aea99d39e4477e7") false
  zmore_holds (fun _ h => by cases h) (by kernel_rfl) (fun _ h => by cases h) climbMore_row_tie rfl ⟨rfl, rfl⟩ (by kernel_rfl) rfl
  (fun f fn hf hfn => by
   obtain rfl : f = 11 := Option.some.inj ((show Tryz.prog.funcNamed "aguador/aguadorlaw03.ClimbMore" = some 11 by kernel_rfl).symm.trans hf) |>.symm
   obtain rfl : fn = Tryz.f11 := (Option.some.inj (Tryz.func11.symm.trans hfn)).symm
   exact ⟨by kernel_rfl, fun j t ht => by
    rw [Tryz.params11] at ht
    have hm : t ∈ [25, 5, 5, 4, 52, 5] := by simpa using Array.mem_of_getElem? ht
    have hall : ([25, 5, 5, 4, 52, 5].all fun u => !Tryz.prog.wantsStandIn u) = true := by kernel_rfl
    exact (show Tryz.prog.wantsStandIn t = false by simpa using List.all_eq_true.1 hall t hm)⟩)
  (by kernel_rfl)
#print axioms zmore_card
end Go.Proofs.YtahkjagjcogeiaaGreatDoor
