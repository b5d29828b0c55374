/- Part 6 of the texts of this claim, joined. -/
import Derived.Sort.WalkA
import Derived.Sort.OwnSortedInts
import Derived.RangeFuncNested
import Derived.RangeFuncBound
import Derived.RangeFuncLeaves
import Derived.Shelf.Abstract
import Derived.OwnWalkIn
import Derived.TacticsInMore
import Derived.LoopNIn
import Derived.LoopIn
import Derived.Deep.RegionLaw
import Derived.Sort.CutIn
import Derived.Test.YtahkjagjcogeiaaGreatDoorZxExamples5
set_option linter.unusedVariables false
/- climb.way: the way between two places. -/
namespace Go.Proofs.YtahkjagjcogeiaaGreatDoor
section
open Go.RowKit Go.Shelf
def wayE (t : Town) (u v : Int) (dk : Bool) : Int := if askE t [u, v] = 0 then (if (best t dk freeP u v).isSome then 0 else 6) else askE t [u, v]
def wayR (t : Town) (u v : Int) (dk : Bool) : Option (Cost × List Int) := if askE t [u, v] = 0 then best t dk freeP u v else none
def WayOut (w : World) (v : Int) (r : Option (Cost × List Int)) (e : Int) (x : Ending) (w' : World) : Prop :=
 ∃ (to : Int) (co : Cost) (A : Option Addr) (n c : Nat), x = .returned (.tuple #[.agg #[.int .i64 to, .int .i64 co.a, .int .i64 co.b, .int .i64 co.c, .int .i64 co.d, .slice A n c], .int .i64 e]) ∧ (r = none → to = 0 ∧ co = zeroC ∧ A = none ∧ n = 0 ∧ c = 0) ∧
  (∀ q, r = some q → co = q.1 ∧ IntsAt w' w'.heap.size A n q.2 ∧ n ≤ 9 ∧ to = v) ∧ (∀ a, A = some a → n ≤ c ∧ ∃ cs, Blk w' a.block 3 cs) ∧ Below w.heap.size w w'
set_option maxRecDepth 100000 in
set_option maxHeartbeats 16000000 in
theorem way_in (A : Option Addr) (n c : Nat) (A' : Option Addr) (m d : Nat) (t : Town) (u v : Int) (dk : Bool) (w : World)
  (hn : n ≤ 1000) (hm : m ≤ 1000) (ht : TownAt w w.heap.size A n A' m t) (hL : Laid w) :
  CallsIn Fence.wide 9 Tryz.prog 55 #[.agg #[.slice A n c, .slice A' m d], .int .i64 u, .int .i64 v, .bool dk] w (WayOut w v (wayR t u v dk) (wayE t u v dk)) := by
 have HT := lh ht
 have HL := lh hL
 have hl0 := hL.2.2.2
 clear ht hL
 refine callsIn_of_wp Tryz.func55 rfl trivial ?_ rfl
 simp only [Tryz.ntmps55, List.size_toArray, List.length_cons, List.length_nil, Nat.reduceAdd, Nat.reduceSub, Array.replicate_succ, Array.replicate_zero, List.push_toArray, List.append_toArray, List.nil_append, List.cons_append]
 gi_wp2
 have Ly := lh (Lay.three w 25 #[.slice A n c, .slice A' m d] 99 #[.int .i64 0, .int .i64 0, .int .i64 0, .int .i64 0, .int .i64 0, .slice none 0 0] 3 #[.int .i64 u, .int .i64 v])
 generalize (((w.alloc (.cells #[.slice A n c, .slice A' m d] 25)).alloc (.cells #[.int .i64 0, .int .i64 0, .int .i64 0, .int .i64 0, .int .i64 0, .slice none 0 0] 99)).alloc (.cells #[.int .i64 u, .int .i64 v] 3)) = w0 at *
 have HUV0 := lh (show IntsAt w0 w0.heap.size (some ⟨w.heap.size + 1 + 1, 0, none⟩) 2 [u, v] from two_ints (Ly.out.blk 2 rfl))
 refine ⟨trivial, (callsIn_wide.2 (asked_any A n c A' m d t (some ⟨w.heap.size + 1 + 1, 0, none⟩) 2 2 [u, v] w0 (by unfold maxLen; omega) (by unfold maxLen; omega) (by decide) ((HT.out.below Ly.out.1).more Ly.out.1.size) HUV0.out (HL.out.below Ly.out.1 hl0))).mono ?_⟩
 rintro e W1 ⟨rfl, hb⟩
 replace Ly := lyb Ly hb
 clear hb
 obtain ⟨ee, hee⟩ : ∃ ee, askE t [u, v] = ee := ⟨_, rfl⟩
 rw [hee]
 have HEE := lh hee
 clear hee
 obtain ⟨x0_0, x0_1⟩ := lyc2 Ly 0 rfl
 have l0_ := Ly.out.lt 0 rfl
 have x1_0 := lyc Ly 1 rfl 0
 have z1_0 := lyf Ly 1 rfl 0
 have x1_1 := lyc Ly 1 rfl 1
 have z1_1 := lyf Ly 1 rfl 1
 have x1_2 := lyc Ly 1 rfl 2
 have z1_2 := lyf Ly 1 rfl 2
 have x1_3 := lyc Ly 1 rfl 3
 have z1_3 := lyf Ly 1 rfl 3
 have x1_4 := lyc Ly 1 rfl 4
 have z1_4 := lyf Ly 1 rfl 4
 have x1_5 := lyc Ly 1 rfl 5
 have z1_5 := lyf Ly 1 rfl 5
 have l1_ := Ly.out.lt 1 rfl
 by_cases h0 : ee = 0
 ·subst h0
  obtain ⟨htb, hhas⟩ := askE_zero HEE.out
  have HG := lh (goodT htb)
  have HUV := lh (hasB_mem hhas)
  have hm20 : m ≤ 20 := by have := HG.out.links; have := HT.out.links.len; omega
  clear htb hhas
  gi_wp2
  refine ⟨trivial, (callsIn_wide.2 (callsIn_wide.1 (all_in A n c A' m d dk _ _ freeP t u W1 hm20 ((HT.out.links.below Ly.out.1).more Ly.out.1.size) (free_price W1) HG.out.fine freeP_fair (HUV.out u (by simp)) HG.out.ids))).mono ?_⟩
  rintro e W2 ⟨r, ms, rfl, hms, hrr, hoks, hfn, hb⟩
  replace Ly := lyb Ly hb
  clear hb
  have HMS := lh hms
  have HOKS := lh hoks
  have HFN := lh hfn
  clear hms hrr hoks hfn
  clear x0_0 x0_1 l0_ x1_0 z1_0 x1_1 z1_1 x1_2 z1_2 x1_3 z1_3 x1_4 z1_4 x1_5 z1_5 l1_
  have HOV := lh (show okI v from okI_of (by have := HG.out.ids v (HUV.out v (by simp)); omega) (by have := HG.out.ids v (HUV.out v (by simp)); omega))
  have hlook := HMS.out.lookup wkTy HOV.out true
  obtain ⟨x0_0, x0_1⟩ := lyc2 Ly 0 rfl
  have l0_ := Ly.out.lt 0 rfl
  have x1_0 := lyc Ly 1 rfl 0
  have z1_0 := lyf Ly 1 rfl 0
  have x1_1 := lyc Ly 1 rfl 1
  have z1_1 := lyf Ly 1 rfl 1
  have x1_2 := lyc Ly 1 rfl 2
  have z1_2 := lyf Ly 1 rfl 2
  have x1_3 := lyc Ly 1 rfl 3
  have z1_3 := lyf Ly 1 rfl 3
  have x1_4 := lyc Ly 1 rfl 4
  have z1_4 := lyf Ly 1 rfl 4
  have x1_5 := lyc Ly 1 rfl 5
  have z1_5 := lyf Ly 1 rfl 5
  have l1_ := Ly.out.lt 1 rfl
  cases hlk : look ms v with
  | none =>
   rw [hlk] at hlook
   simp only [if_true] at hlook
   have HLK := lh hlk
   clear hlk
   have HBE : Hid (best t dk freeP u v = none) := lh (by rw [← HFN.out v]; unfold fnOf; rw [HLK.out]; rfl)
   gi_wp2
   have R1 := ret6' (Ly.out.blk 1 rfl) Ly.out.1 (by omega) (.int .i64 0) (.int .i64 0) (.int .i64 0) (.int .i64 0) (.int .i64 0) (.slice none 0 0)
   have R2 := R1.1.alloc (.cells #[.int .i64 0, .int .i64 0, .int .i64 0, .int .i64 0, .int .i64 0, .slice none 0 0] 99)
   have y0 := R2.cell 0
   have y1 := R2.cell 1
   have y2 := R2.cell 2
   have y3 := R2.cell 3
   have y4 := R2.cell 4
   have y5 := R2.cell 5
   refine bodyPost_ret (v := .tuple #[.agg #[.int .i64 0, .int .i64 0, .int .i64 0, .int .i64 0, .int .i64 0, .slice none 0 0], .int .i64 6]) (by simp [results, Tryz.results55, go_sem, y0, y1, y2, y3, y4, y5]) rfl ?_
   have he : wayE t u v dk = 6 := by unfold wayE; rw [if_pos HEE.out, HBE.out]; rfl
   have hr : wayR t u v dk = none := by unfold wayR; rw [if_pos HEE.out, HBE.out]
   rw [he, hr]
   exact ⟨0, zeroC, none, 0, 0, rfl, fun _ => ⟨rfl, rfl, rfl, rfl, rfl⟩, (fun q hq => by cases hq), (fun a ha => by cases ha), R1.2.1.alloc R1.2.1.size _⟩
  | some x =>
   rw [hlk] at hlook
   simp only [if_true] at hlook
   have HLK := lh hlk
   clear hlk
   have HBE : Hid (best t dk freeP u v = some (x.cost, x.links)) := lh (by rw [← HFN.out v]; unfold fnOf; rw [HLK.out]; rfl)
   have HXO := lh (HOKS.out _ (look_mem HLK.out))
   gi_wp2
   have R1 := ret6' (Ly.out.blk 1 rfl) Ly.out.1 (by omega) (.int .i64 x.to) (.int .i64 x.cost.a) (.int .i64 x.cost.b) (.int .i64 x.cost.c) (.int .i64 x.cost.d) (.slice x.A x.n x.cap)
   have R2 := R1.1.alloc (.cells #[.int .i64 x.to, .int .i64 x.cost.a, .int .i64 x.cost.b, .int .i64 x.cost.c, .int .i64 x.cost.d, .slice x.A x.n x.cap] 99)
   have HX2 := HXO.out.grownBox R1.2.2 (Ly.out.blk 1 rfl)
   have HX3 := HX2.below ((Below.refl _ _).alloc (Nat.le_refl _) (.cells #[.int .i64 x.to, .int .i64 x.cost.a, .int .i64 x.cost.b, .int .i64 x.cost.c, .int .i64 x.cost.d, .slice x.A x.n x.cap] 99))
   have y0 := R2.cell 0
   have y1 := R2.cell 1
   have y2 := R2.cell 2
   have y3 := R2.cell 3
   have y4 := R2.cell 4
   have y5 := R2.cell 5
   refine bodyPost_ret (v := .tuple #[.agg #[.int .i64 x.to, .int .i64 x.cost.a, .int .i64 x.cost.b, .int .i64 x.cost.c, .int .i64 x.cost.d, .slice x.A x.n x.cap], .int .i64 0]) (by simp [results, Tryz.results55, go_sem, y0, y1, y2, y3, y4, y5]) rfl ?_
   have he : wayE t u v dk = 0 := by unfold wayE; rw [if_pos HEE.out, HBE.out]; rfl
   have hr : wayR t u v dk = some (x.cost, x.links) := by unfold wayR; rw [if_pos HEE.out, HBE.out]
   rw [he, hr]
   exact ⟨x.to, x.cost, x.A, x.n, x.cap, rfl, (fun h => by cases h), (fun q hq => by cases hq; exact ⟨rfl, HX3.at_, HX3.short, HX3.to⟩), (fun a ha => ⟨HX3.cap, HX3.typ a ha⟩), R1.2.1.alloc R1.2.1.size _⟩
 ·have h1 : (ee != 0) = true := by simpa using h0
  have HE0 := lh h0
  clear h0
  gi_wp2
  have R1 := ret6' (Ly.out.blk 1 rfl) Ly.out.1 (by omega) (.int .i64 0) (.int .i64 0) (.int .i64 0) (.int .i64 0) (.int .i64 0) (.slice none 0 0)
  have y0 := R1.1.cell 0
  have y1 := R1.1.cell 1
  have y2 := R1.1.cell 2
  have y3 := R1.1.cell 3
  have y4 := R1.1.cell 4
  have y5 := R1.1.cell 5
  refine bodyPost_ret (v := .tuple #[.agg #[.int .i64 0, .int .i64 0, .int .i64 0, .int .i64 0, .int .i64 0, .slice none 0 0], .int .i64 (ee)]) (by simp [results, Tryz.results55, go_sem, y0, y1, y2, y3, y4, y5]) rfl ?_
  have he : wayE t u v dk = ee := by unfold wayE; rw [HEE.out, if_neg HE0.out]
  have hr : wayR t u v dk = none := by unfold wayR; rw [HEE.out, if_neg HE0.out]
  rw [he, hr]
  exact ⟨0, zeroC, none, 0, 0, rfl, fun _ => ⟨rfl, rfl, rfl, rfl, rfl⟩, (fun q hq => by cases hq), (fun a ha => by cases ha), R1.2.1⟩
theorem way_any (A : Option Addr) (n c : Nat) (A' : Option Addr) (m d : Nat) (t : Town) (u v : Int) (dk : Bool) (w : World)
  (hn : n ≤ 1000) (hm : m ≤ 1000) (ht : TownAt w w.heap.size A n A' m t) (hL : Laid w) :
  Calls Tryz.prog 55 #[.agg #[.slice A n c, .slice A' m d], .int .i64 u, .int .i64 v, .bool dk] w (WayOut w v (wayR t u v dk) (wayE t u v dk)) :=
 callsIn_wide.1 (way_in A n c A' m d t u v dk w hn hm ht hL)
end
section
open Go.RowKit Go.Shelf
def wayL (t : Town) (u v : Int) (dk : Bool) : List Int := match wayR t u v dk with
 | some q => q.2
 | none => []
def wayT (t : Town) (u v : Int) (dk : Bool) : Int × Int := match wayR t u v dk with
 | some q => (q.1.b, q.1.c)
 | none => (0, 0)
theorem way_some {t : Town} {u v : Int} {dk : Bool} {c : Cost} {l : List Int} (h : askE t [u, v] = 0) (hb : best t dk freeP u v = some (c, l)) : wayE t u v dk = 0 ∧ wayL t u v dk = l ∧ wayT t u v dk = (c.b, c.c) := by
 unfold wayL wayT wayE wayR
 rw [if_pos h, if_pos h, hb]
 exact ⟨rfl, rfl, rfl⟩
def ListOut (w : World) (l : List Int) (e : Int) (x : Ending) (w' : World) : Prop := ∃ (A : Option Addr) (n c : Nat), x = .returned (.tuple #[.slice A n c, .int .i64 e]) ∧ IntsAt w' w'.heap.size A n l ∧ Below w.heap.size w w'
def ListOutC (w : World) (l : List Int) (e : Int) (x : Ending) (w' : World) : Prop := ∃ (A : Option Addr) (n c : Nat), x = .returned (.tuple #[.slice A n c, .int .i64 e]) ∧ IntsAt w' w'.heap.size A n l ∧ Below w.heap.size w w' ∧ n ≤ c
def ToilOut (w : World) (q : Int × Int) (e : Int) (x : Ending) (w' : World) : Prop := x = .returned (.tuple #[.agg #[.int .i64 q.1, .int .i64 q.2], .int .i64 e]) ∧ Below w.heap.size w w'
set_option maxRecDepth 100000 in
set_option maxHeartbeats 16000000 in
theorem waylc_in (A : Option Addr) (n c : Nat) (A' : Option Addr) (m d : Nat) (t : Town) (u v : Int) (dk : Bool) (w : World)
  (hn : n ≤ 1000) (hm : m ≤ 1000) (ht : TownAt w w.heap.size A n A' m t) (hL : Laid w) :
  CallsIn Fence.wide 9 Tryz.prog 16 #[.agg #[.slice A n c, .slice A' m d], .int .i64 u, .int .i64 v, .bool dk] w (ListOutC w (wayL t u v dk) (wayE t u v dk)) := by
 have HT := lh ht
 have HL := lh hL
 have hl0 := hL.2.2.2
 clear ht hL
 refine callsIn_of_wp Tryz.func16 rfl trivial ?_ rfl
 simp only [Tryz.ntmps16, List.size_toArray, List.length_cons, List.length_nil, Nat.reduceAdd, Nat.reduceSub, Array.replicate_succ, Array.replicate_zero, List.push_toArray, List.append_toArray, List.nil_append, List.cons_append]
 gi_wp2
 have Ly := lh (Lay.one w 25 #[.slice A n c, .slice A' m d])
 generalize (w.alloc (.cells #[.slice A n c, .slice A' m d] 25)) = w0 at *
 refine ⟨trivial, (callsIn_wide.2 (way_any A n c A' m d t u v dk w0 hn hm ((HT.out.below Ly.out.1).more Ly.out.1.size) (HL.out.below Ly.out.1 hl0))).mono ?_⟩
 rintro e W1 ⟨to, co, AW, nW, cW, rfl, hno, hq, hty, hb⟩
 replace Ly := lyb Ly hb
 clear hb
 have HQ := lh hq
 have HNO := lh hno
 have hcap : nW ≤ cW := by
  rcases Nat.eq_zero_or_pos nW with h0 | h0
  ·omega
  ·cases hr : wayR t u v dk with
   | none => obtain ⟨_, _, _, h1, _⟩ := hno hr; omega
   | some q => obtain ⟨ad, h1, _⟩ := (hq q hr).2.1.2 h0; exact (hty ad h1).1
 clear hty hno hq
 gi_wp2
 refine bodyPost_ret (v := .tuple #[.slice AW nW cW, .int .i64 (wayE t u v dk)]) (by simp [results, Tryz.results16, go_sem]) rfl ?_
 have hb := (Below.refl W1.heap.size W1).alloc (Nat.le_refl _) (.cells #[.int .i64 to, .int .i64 co.a, .int .i64 co.b, .int .i64 co.c, .int .i64 co.d, .slice AW nW cW] 99)
 have hin : IntsAt W1 W1.heap.size AW nW (wayL t u v dk) := by
  unfold wayL
  cases hr : wayR t u v dk with
  | none => obtain ⟨_, _, rfl, rfl, rfl⟩ := HNO.out hr; exact Reads.none_
  | some q => exact (HQ.out q hr).2.1
 exact ⟨AW, nW, cW, rfl, (hin.below hb).more hb.size, Ly.out.1.alloc Ly.out.1.size _, hcap⟩
theorem wayl_any (A : Option Addr) (n c : Nat) (A' : Option Addr) (m d : Nat) (t : Town) (u v : Int) (dk : Bool) (w : World)
  (hn : n ≤ 1000) (hm : m ≤ 1000) (ht : TownAt w w.heap.size A n A' m t) (hL : Laid w) :
  Calls Tryz.prog 16 #[.agg #[.slice A n c, .slice A' m d], .int .i64 u, .int .i64 v, .bool dk] w (ListOut w (wayL t u v dk) (wayE t u v dk)) :=
 (callsIn_wide.1 (waylc_in A n c A' m d t u v dk w hn hm ht hL)).mono fun e w' ⟨A, n, c, h1, h2, h3, _⟩ => ⟨A, n, c, h1, h2, h3⟩
end
section
open Go.RowKit Go.Sort
theorem less_int (x y : Int) (w : World) : Calls Tryz.prog 137 #[.int .i64 x, .int .i64 y] w fun e w' => e = .returned (.bool (Sort.ltInt x y)) ∧ w' = w := by
 go_enter Tryz.func137, Tryz.ntmps137
 go_wp2_with (go_at_call 124; refine (isNaN_int _ _).mono ?_; rintro e w' ⟨rfl, rfl⟩)
 go_ret
 exact ⟨rfl, rfl⟩
set_option maxHeartbeats 4000000 in
theorem insertion_int (blk off cap a b : Nat) (d : Array Int) (w : World) (hH : Holds (Value.int .i64) w blk off d) (hab : a ≤ b) (hb : b ≤ d.size) (hsz : d.size < 4611686018427387904) :
  Calls Tryz.prog 131 #[.slice (some ⟨blk, off, none⟩) d.size cap, .int .i64 a, .int .i64 b] w fun e w' =>
   e = .returned (.tuple #[]) ∧ ∃ n, w' = putRow (Value.int .i64) (Sort.ahead w n) blk off (Sort.insertionSort ltInt d a b) := by
 go_enter Tryz.func131, Tryz.ntmps131
 go_wp2
 go_loopw [6] (fun vi wr => ∃ (i n : Nat) (dk : Array Int), vi = .int .i64 i ∧ a < i ∧ i ≤ b + 1 ∧ dk.size = d.size ∧ wr = putRow (Value.int .i64) (Sort.ahead w n) blk off dk ∧
   insOuter ltInt a b i dk = insOuter ltInt a b (a + 1) d) (fun vi _ => b + 1 - (intOf vi).toNat)
 case atStart => exact ⟨a + 1, 0, d, by go_num, by omega, by omega, rfl, (putRow_self _ _ _ _ _ hH).symm, rfl⟩
 case round =>
  obtain ⟨i, n, dk, rfl, hai, hib, hsk, hwr, hO⟩ := hrel
  have HO : Hid (insOuter ltInt a b i dk = insOuter ltInt a b (a + 1) d) := hO
  clear hO
  go_wp2
  ·go_loopw [7] (fun vj wr2 => ∃ (j m : Nat) (dj : Array Int), vj = .int .i64 j ∧ a ≤ j ∧ j ≤ i ∧ dj.size = d.size ∧ wr2 = putRow (Value.int .i64) (Sort.ahead w m) blk off dj ∧
     insInner ltInt a j dj = insInner ltInt a i dk) (fun vj _ => (intOf vj).toNat)
   case atStart => exact ⟨i, n, dk, rfl, by omega, Nat.le_refl _, hsk, rfl, rfl⟩
   case round =>
    obtain ⟨j, m, dj, rfl, haj, hji, hsj, hw2, hI⟩ := hrel
    have hlt : i < b := by assumption
    obtain ⟨G, hG⟩ : ∃ G : Nat → Int, ∀ t, G t = dj[t]! := ⟨fun t => dj[t]!, fun _ => rfl⟩
    have hcw : ∀ t, t < d.size → wr.cell? ⟨blk, off + t, none⟩ = some (.int .i64 (G t)) := fun t ht => by
     rw [hw2, hG]; exact cell?_putRow _ _ _ _ d dj (holds_ahead _ _ _ _ _ _ hH) hsj t (by omega)
    have hfw : ∀ t, t < d.size → wr.frozen? ⟨blk, off + t, none⟩ = false := fun t ht => by
     rw [hw2, frozen?_putRow]; exact ((holds_ahead _ _ m _ _ _ hH) t ht).2
    have HW : Hid (wr = putRow (Value.int .i64) (Sort.ahead w m) blk off dj) := hw2
    have HG : Hid (∀ t, G t = dj[t]!) := hG
    have HI : Hid (insInner ltInt a j dj = insInner ltInt a i dk) := hI
    clear hw2 hG hI hH
    have out : (j ≤ a ∨ ltInt dj[j]! dj[j - 1]! = false) → ∀ q, ∃ i' n' dk', Value.int .i64 ((i : Int) + 1) = .int .i64 (i' : Nat) ∧ a < i' ∧ i' ≤ b + 1 ∧ dk'.size = d.size ∧
      wr.drewN q = putRow (Value.int .i64) (Sort.ahead w n') blk off dk' ∧ insOuter ltInt a b i' dk' = insOuter ltInt a b (a + 1) d := fun hs q =>
     ⟨i + 1, m + q, dj, by go_num, by omega, by omega, hsj, by rw [HW.out]; exact putRow_drewN _ _ _ _ _ _ _,
      by rw [← HO.out, insOuter_go _ _ _ _ _ hlt, ← HI.out, insInner_stop _ _ _ _ hs]⟩
    have OUT : Hid _ := out
    clear out
    go_wp2
    by_cases hja : a < j
    ·go_quiet (first | (go_at_call 137; refine Calls.quiet_of_same (less_int _ _ _)))
     go_wp2
     ·have hl : ltInt (G j) (G (j - 1)) = true := by assumption
      go_region
      all_goals go_wp2
      go_roundw
      case rel =>
       refine ⟨j - 1, m + (nq + 1), swp dj j (j - 1), by congr 1; omega, by omega, by omega, by rw [size_swp]; exact hsj, ?_, ?_⟩
       ·rw [HW.out, HG.out, HG.out]
        exact swap_worldA _ w m (nq + 1) blk off dj j (j - 1) (by omega) (by omega)
       ·rw [← HI.out, insInner_go ltInt a j dj hja (by rw [← HG.out, ← HG.out]; exact hl)]
      case measure => simp [intOf]; omega
     ·have hl : ltInt (G j) (G (j - 1)) = false := by assumption
      go_roundw
      case rel => exact OUT.out (Or.inr (by rw [← HG.out, ← HG.out]; exact hl)) nq
      case measure => simp [intOf]; omega
    ·go_quiet (first | (go_at_call 137; refine Calls.quiet_of_same (less_int _ _ _)))
     go_wp2
     go_roundw
     case rel => exact OUT.out (Or.inl (by omega)) nq
     case measure => simp [intOf]; omega
  ·have hge : ¬ i < b := by assumption
   go_end0
   exact ⟨rfl, n, by unfold Sort.insertionSort; rw [← HO.out, insOuter_stop _ _ _ _ _ hge]⟩
theorem insertion_nil (p : Option Addr) (cap : Nat) (w : World) :
  Calls Tryz.prog 131 #[.slice p 0 cap, .int .i64 0, .int .i64 0] w fun e w' => e = .returned (.tuple #[]) ∧ w' = w := by
 go_enter Tryz.func131, Tryz.ntmps131
 go_wp2
 refine wp_loop_rounds 1 ?_
 rw [rounds_succ]
 go_wp2
 go_end0
 exact ⟨rfl, rfl⟩
set_option maxRecDepth 1000000 in
theorem len64_small (x : Int) (h0 : 0 ≤ x) (hx : x ≤ 12) (w : World) : Calls Tryz.prog 141 #[.int .u64 x] w fun e w' => (∃ k, e = .returned (.int .i64 k)) ∧ w' = w := by
 have h : x = 0 ∨ x = 1 ∨ x = 2 ∨ x = 3 ∨ x = 4 ∨ x = 5 ∨ x = 6 ∨ x = 7 ∨ x = 8 ∨ x = 9 ∨ x = 10 ∨ x = 11 ∨ x = 12 := by omega
 clear h0 hx
 rcases h with rfl | rfl | rfl | rfl | rfl | rfl | rfl | rfl | rfl | rfl | rfl | rfl | rfl
 all_goals
  go_enter Tryz.func141, Tryz.ntmps141
  go_wp2
  go_ret
  exact ⟨⟨_, rfl⟩, rfl⟩
theorem len_small (x : Int) (h0 : 0 ≤ x) (hx : x ≤ 12) (w : World) : Calls Tryz.prog 108 #[.int .u64 x] w fun e w' => (∃ k, e = .returned (.int .i64 k)) ∧ w' = w := by
 go_enter Tryz.func108, Tryz.ntmps108
 go_wp2_with (go_at_call 141; refine (len64_small _ h0 hx _).mono ?_; rintro e w' ⟨⟨k, rfl⟩, rfl⟩)
 go_ret
 exact ⟨⟨k, rfl⟩, rfl⟩
set_option maxHeartbeats 2000000 in
set_option maxRecDepth 100000 in
theorem pdq_small (R : Ending → World → Prop) (p : Option Addr) (n cap : Nat) (k : Int) (w : World) (hn : n ≤ 12) (h : Calls Tryz.prog 131 #[.slice p n cap, .int .i64 0, .int .i64 n] w R) (hR : ∀ e w', R e w' → e = .returned (.tuple #[])) :
  Calls Tryz.prog 107 #[.slice p n cap, .int .i64 0, .int .i64 n, .int .i64 k] w R := by
 go_enter Tryz.func107, Tryz.ntmps107
 go_wp2
 refine wp_loop_rounds 1 ?_
 rw [rounds_succ]
 have hn' : (n : Int) ≤ 12 := by omega
 go_wp2_with (first | (go_at_call 131; refine h.mono ?_; rintro e w' hr; obtain rfl := hR _ _ hr))
 refine bodyPost_ret (results_none rfl _ _ _) rfl ?_
 exact hr
set_option maxHeartbeats 2000000 in
theorem sort1 (R : Ending → World → Prop) (p : Option Addr) (n cap : Nat) (w : World) (hn : n ≤ 12) (h : Calls Tryz.prog 131 #[.slice p n cap, .int .i64 0, .int .i64 n] w R) (hR : ∀ e w', R e w' → e = .returned (.tuple #[])) :
  Calls Tryz.prog 60 #[.slice p n cap] w R := by
 go_enter Tryz.func60, Tryz.ntmps60
 go_wp2_with (first
  | (go_at_call 108; refine (len_small _ (by omega) (by omega) _).mono ?_; rintro e w' ⟨⟨k, rfl⟩, rfl⟩)
  | (go_at_call 107; refine (pdq_small R p n cap _ _ hn h hR).mono ?_; rintro e w' hr; obtain rfl := hR _ _ hr))
 go_end0
 exact hr
abbrev upI (l : List Int) : List Int := l.mergeSort fun x y => decide (x ≤ y)
theorem upI_perm (l : List Int) : (upI l).Perm l := List.mergeSort_perm _ _
theorem upI_sorted (l : List Int) : (upI l).Pairwise (· ≤ ·) := by
 have h := List.pairwise_mergeSort (le := fun x y : Int => decide (x ≤ y)) (fun a b c h1 h2 => by simp at h1 h2 ⊢; omega) (fun a b => by simp; omega) l
 exact h.imp fun h => by simpa using h
theorem insertion_up (l : List Int) : (Sort.insertionSort ltInt l.toArray 0 l.length) = (upI l).toArray := by
 obtain ⟨hP, hSo⟩ := insertionSort_holds (lt := ltInt) swo_ltInt l.toArray 0 l.length (Nat.zero_le _) (by simp)
 have h := sorted_unique_holds swo_ltInt (fun x y h1 h2 => by simp only [ltInt, decide_eq_false_iff_not] at h1 h2; omega) l.toArray _ (by simpa using hP) (by simpa using hSo)
 have e : (fun x y : Int => !ltInt y x) = fun x y => decide (x ≤ y) := by
  funext x y
  simp only [ltInt]
  by_cases hxy : y < x <;> simp [hxy] <;> omega
 rw [e] at h
 apply Array.ext'
 simpa using h
theorem sort_int (base : Nat) (A : Option Addr) (n c : Nat) (l : List Int) (w : World) (hO : Own w base 3 1 A n c (l.map (Value.int .i64))) (hn : n ≤ 12) :
  Calls Tryz.prog 60 #[.slice A n c] w fun e w' => e = .returned (.tuple #[]) ∧ Own w' base 3 1 A n c ((upI l).map (Value.int .i64)) ∧ w.grownBy w' (A.map (·.block)) := by
 have hl : l.length = n := by have := hO.len; simpa using this
 rcases hO.form with ⟨rfl, rfl, rfl, hxs⟩ | ⟨g, cur, rfl, hbg, hblk, hnc, hcm, hsz, htake, _⟩
 ·obtain rfl : l = [] := List.length_eq_zero_iff.1 hl
  refine (sort1 (fun e w' => e = .returned (.tuple #[]) ∧ w' = w) none 0 0 w (by omega) (insertion_nil none 0 w) (fun e w' h => h.1)).mono ?_
  rintro e w' ⟨rfl, rfl⟩
  exact ⟨rfl, by simpa [upI] using Own.none_ _ _ _ _, grown_refl _ _⟩
 ·have hat : ∀ j, j < l.length → cur[j]? = some (.int .i64 l[j]!) := by
   intro j hj
   have h1 : (cur.toList.take (n * 1))[j]? = (l.map (Value.int .i64))[j]? := by rw [htake]
   rw [List.getElem?_take_of_lt (by omega), Array.getElem?_toList] at h1
   rw [h1]
   simp [hj]
  have hH : Holds (Value.int .i64) w g 0 l.toArray := by
   intro j hj
   have hj' : j < l.length := by simpa using hj
   refine ⟨?_, hblk.frozen _⟩
   rw [Nat.zero_add, hblk.cell, hat j hj']
   simp [hj']
  have hw := insertion_int g 0 c 0 l.length l.toArray w hH (Nat.zero_le _) (by simp) (by simp; omega)
  have hs : l.toArray.size = n := by simpa using hl
  rw [insertion_up, hs, hl] at hw
  refine (sort1 _ (some ⟨g, 0, none⟩) n c w hn hw (fun e w' h => h.1)).mono ?_
  rintro e w' ⟨rfl, q, rfl⟩
  have hlu : (upI l).length = n := by rw [(upI_perm l).length_eq]; exact hl
  have hb2 : Blk (putRow (Value.int .i64) (Sort.ahead w q) g 0 (upI l).toArray) g 3 (putCells (Value.int .i64) 0 (upI l).toArray cur) := by
   have h0 : w.heap[g]? = some (.cells cur 3 (0, 0)) := hblk
   show (putRow (Value.int .i64) (Sort.ahead w q) g 0 (upI l).toArray).heap[g]? = _
   simp [putRow, mapBlock, Sort.ahead, Array.getElem?_modify, h0, onCells]
  refine ⟨rfl, Own.mk_ hbg hb2 hnc hcm (by simpa [putCells] using hsz) (by simpa using hlu) ?_, ⟨rfl, rfl, rfl, by simp [putRow, mapBlock, Sort.ahead], fun k hk hne => ?_⟩⟩
  ·intro k hk
   have h1 := take_putCellsI cur (upI l) (by rw [hlu]; omega)
   have h2 : ((putCells (Value.int .i64) 0 (upI l).toArray cur).toList.take (upI l).length)[k]? = ((upI l).map (Value.int .i64))[k]? := by rw [h1]
   rwa [List.getElem?_take_of_lt (by omega), Array.getElem?_toList] at h2
  ·have : g ≠ k := fun e => hne (by rw [← e]; rfl)
   simp [putRow, mapBlock, Sort.ahead, Array.getElem?_modify, this]
end
section
open Go.RowKit Go.Shelf
def reachL (t : Town) (u : Int) (dk : Bool) : List Int := t.places.filter fun v => (best t dk freeP u v).isSome
def reachR (t : Town) (u : Int) (dk : Bool) : List Int := if askE t [u] = 0 then reachL t u dk else []
theorem reach_keys {t : Town} {dk : Bool} {u : Int} {ms : List (Int × Wk)} (hg : GoodT t) (hu : u ∈ t.places) (hn : (ms.map Prod.fst).Nodup) (hf : ∀ v, fnOf ms v = best t dk freeP u v) : (ms.map Prod.fst).Perm (reachL t u dk) := by
 unfold reachL
 rw [List.perm_ext_iff_of_nodup hn (hg.nodup.filter _)]
 intro v
 rw [List.mem_filter]
 constructor
 ·intro hv
  obtain ⟨⟨k, x⟩, hm, rfl⟩ := List.mem_map.1 hv
  have h3 := fnOf_mem hn hm
  have h4 := hf k
  rw [h3] at h4
  have hF := best_first hg.fine freeP_fair dk u k
  rw [← h4] at hF
  refine ⟨?_, by simp only; rw [← h4]; rfl⟩
  rcases hF.1.ends hg.fine with ⟨h5, _⟩ | ⟨_, h5⟩
  ·simp only; rw [← h5]; exact hu
  ·exact h5
 ·rintro ⟨_, h3⟩
  obtain ⟨⟨c, l⟩, h4⟩ := Option.isSome_iff_exists.1 h3
  obtain ⟨x, hx, _⟩ := fnOf_some ((hf v).trans h4)
  exact List.mem_map.2 ⟨(v, x), hx, rfl⟩
theorem reach_up {t : Town} {dk : Bool} {u : Int} {ms pre : List (Int × Wk)} (hg : GoodT t) (hu : u ∈ t.places) (hn : (ms.map Prod.fst).Nodup) (hf : ∀ v, fnOf ms v = best t dk freeP u v) (hp : pre.Perm ms) : upI (pre.map Prod.fst) = reachL t u dk := by
 have h1 : (upI (pre.map Prod.fst)).Perm (ms.map Prod.fst) := (upI_perm _).trans (hp.map _)
 refine (h1.trans (reach_keys hg hu hn hf)).eq_of_pairwise (le := (· ≤ ·)) (fun a b _ _ h h' => by omega) (upI_sorted _) ?_
 exact (hg.up.filter _).imp (fun h => by omega)
theorem reach_len {t : Town} {dk : Bool} {u : Int} {ms pre : List (Int × Wk)} (hg : GoodT t) (hu : u ∈ t.places) (hn : (ms.map Prod.fst).Nodup) (hf : ∀ v, fnOf ms v = best t dk freeP u v) (hp : pre.Perm ms) : pre.length ≤ 9 := by
 have h1 := ((hp.map Prod.fst).trans (reach_keys hg hu hn hf)).length_eq
 have h2 : (reachL t u dk).length ≤ t.places.length := List.length_filter_le _ _
 have h3 := hg.fine.size
 simp only [List.length_map] at h1
 omega
theorem own_ne_map {w : World} {base size n c it r : Nat} {e : TypeId} {B : Option Addr} {xs : List Value} {ms left : List (Int × Wk)} (hO : Own w base e size B n c xs) (hI : IterIs (Value.int .i64) Wk.val okI w it r ms left) : some r ≠ B.map (·.block) ∧ some it ≠ B.map (·.block) := by
 rcases hO.form with ⟨rfl, _⟩ | ⟨g, cur, rfl, _, hb, _⟩
 ·exact ⟨by simp, by simp⟩
 ·obtain ⟨es, clock, since, seen, c0, h1, _, _, _, h5, _⟩ := hI
  have h2 : w.heap[g]? = some (.cells cur e (0, 0)) := hb
  constructor
  ·intro h
   simp at h
   subst h
   rw [h1] at h2
   cases h2
  ·intro h
   simp at h
   subst h
   rw [h5] at h2
   cases h2
set_option maxRecDepth 100000 in
set_option maxHeartbeats 16000000 in
theorem reach_in (A : Option Addr) (n c : Nat) (A' : Option Addr) (m d : Nat) (t : Town) (u : Int) (dk : Bool) (w : World)
  (hn : n ≤ 1000) (hm : m ≤ 1000) (ht : TownAt w w.heap.size A n A' m t) (hL : Laid w) :
  CallsIn Fence.wide 9 Tryz.prog 18 #[.agg #[.slice A n c, .slice A' m d], .int .i64 u, .bool dk] w (ListOut w (reachR t u dk) (askE t [u])) := by
 have HT := lh ht
 have HL := lh hL
 have hl0 := hL.2.2.2
 clear ht hL
 refine callsIn_of_wp Tryz.func18 rfl trivial ?_ rfl
 simp only [Tryz.ntmps18, List.size_toArray, List.length_cons, List.length_nil, Nat.reduceAdd, Nat.reduceSub, Array.replicate_succ, Array.replicate_zero, List.push_toArray, List.append_toArray, List.nil_append, List.cons_append]
 gi_wp2
 have Ly := lh (Lay.two w 25 #[.slice A n c, .slice A' m d] 3 #[.int .i64 u])
 generalize ((w.alloc (.cells #[.slice A n c, .slice A' m d] 25)).alloc (.cells #[.int .i64 u] 3)) = w0 at *
 have HUV0 := lh (show IntsAt w0 w0.heap.size (some ⟨w.heap.size + 1, 0, none⟩) 1 [u] from one_int (Ly.out.blk 1 rfl).lt (lyc Ly 1 rfl 0))
 refine ⟨trivial, (callsIn_wide.2 (asked_any A n c A' m d t (some ⟨w.heap.size + 1, 0, none⟩) 1 1 [u] w0 (by unfold maxLen; omega) (by unfold maxLen; omega) (by decide) ((HT.out.below Ly.out.1).more Ly.out.1.size) HUV0.out (HL.out.below Ly.out.1 hl0))).mono ?_⟩
 rintro e W1 ⟨rfl, hb⟩
 replace Ly := lyb Ly hb
 clear hb
 obtain ⟨ee, hee⟩ : ∃ ee, askE t [u] = ee := ⟨_, rfl⟩
 rw [hee]
 have HEE := lh hee
 clear hee
 obtain ⟨x0_0, x0_1⟩ := lyc2 Ly 0 rfl
 have l0_ := Ly.out.lt 0 rfl
 by_cases h0 : ee = 0
 ·subst h0
  obtain ⟨htb, hhas⟩ := askE_zero HEE.out
  have HG := lh (goodT htb)
  have HUV := lh (hasB_mem hhas u (by simp))
  have hm20 : m ≤ 20 := by have := HG.out.links; have := HT.out.links.len; omega
  clear htb hhas
  gi_wp2
  clear x0_0 x0_1 l0_
  refine ⟨trivial, (callsIn_wide.2 (callsIn_wide.1 (all_in A n c A' m d dk _ _ freeP t u W1 hm20 ((HT.out.links.below Ly.out.1).more Ly.out.1.size) (free_price W1) HG.out.fine freeP_fair HUV.out HG.out.ids))).mono ?_⟩
  rintro e W2 ⟨r, ms, rfl, hms, hrr, hoks, hfn, hb⟩
  replace Ly := lyb Ly hb
  clear hb
  have HMS := lh hms
  have HND := lh (MapIs.nodup wkTy hms)
  have HFN := lh hfn
  clear hms hrr hoks hfn
  obtain ⟨w1, hr1, hi1, hg1, hs1⟩ := MapIs.range (P := Tryz.prog) (t := 104) Tryz.underlying104 HMS.out
  have HI := lh hi1
  have HB1 := lh (Ly.out.1.grown hg1 Ly.out.1.size (fun j hj => by cases hj))
  have HML := lh (reach_len HG.out HUV.out HND.out HFN.out (List.Perm.refl ms))
  clear hi1 hg1 hs1
  gi_wp2
  clear hr1
  gi_loopw [9] (fun v9 wr => ∃ (left pre : List (Int × Wk)) (B : Option Addr) (q : Nat), v9 = .slice B pre.length q ∧ Hid (IterIs (Value.int .i64) Wk.val okI wr W2.heap.size r ms left ∧ (pre ++ left).Perm ms ∧ (∀ p ∈ left, p ∈ ms) ∧ Own wr w.heap.size 3 1 B pre.length q ((pre.map Prod.fst).map (Value.int .i64)) ∧ Below w.heap.size w wr))
   (fun _ wr => iterLeft wr W2.heap.size)
  case atStart => exact ⟨ms, [], none, 0, rfl, lh ⟨HI.out, by simp, fun p hp => hp, Own.none_ _ _ _ _, HB1.out⟩⟩
  case round =>
   obtain ⟨left, pre, B, q, rfl, HS⟩ := hrel
   rcases HS.out.1.next (P := Tryz.prog) 0 with ⟨hl, hr⟩ | ⟨i, p, w', hp, hr, hi2, hg2, hs2, he2⟩
   ·gi_wp2
    clear hr
    subst hl
    have HPP := lh (show pre.Perm ms by simpa using HS.out.2.1)
    have hpl : pre.length ≤ 9 := reach_len HG.out HUV.out HND.out HFN.out HPP.out
    refine ⟨trivial, (callsIn_wide.2 (sort_int w.heap.size B pre.length q (pre.map Prod.fst) _ HS.out.2.2.2.1 (by omega))).mono ?_⟩
    rintro e w2 ⟨rfl, hO2, hg2⟩
    have HO2 := lh hO2
    have HB2 := lh (HS.out.2.2.2.2.grown hg2 HS.out.2.2.2.2.size (fun j hj => own_row HS.out.2.2.2.1 hj))
    clear hO2 hg2
    gi_wp2
    refine bodyPost_ret (v := .tuple #[.slice B pre.length q, .int .i64 0]) (by simp [results, Tryz.results18, go_sem]) rfl ?_
    have hr : reachR t u dk = upI (pre.map Prod.fst) := by unfold reachR; rw [if_pos HEE.out, reach_up HG.out HUV.out HND.out HFN.out HPP.out]
    rw [hr, HEE.out]
    exact ⟨B, pre.length, q, rfl, ints_of_own HO2.out (Nat.le_refl _), HB2.out⟩
   ·obtain ⟨kk, x⟩ := p
    have HP := lh hp
    have hne := own_ne_map HS.out.2.2.2.1 HS.out.1
    have hlen : pre.length + left.length ≤ 9 := by have h1 := HS.out.2.1.length_eq; have h2 := HML.out; simp at h1; omega
    have hpos : 0 < left.length := by have := (List.getElem?_eq_some_iff.1 hp).1; omega
    have HB2 := lh (HS.out.2.2.2.2.grown hg2 HS.out.2.2.2.2.size (fun j hj => by cases hj; exact (Ly.out.1.size)))
    have HOW := lh ((HS.out.2.2.2.1.grown hg2 (fun a ha e => hne.2 (by rw [ha]; exact e.symm))).alloc (.cells #[.int .i64 kk] 3))
    have HOB : Hid (Blk (w'.alloc (.cells #[.int .i64 kk] 3)) w'.heap.size 3 #[.int .i64 kk]) := lh (Blk.new _ _ _)
    have HI2 := lh (hi2.below ((Below.refl _ _).alloc (Nat.le_refl _) (.cells #[.int .i64 kk] 3)) hi2.map.lt hi2.lt)
    have HB3 := lh (HB2.out.alloc HB2.out.size (.cells #[.int .i64 kk] 3))
    clear hi2 hg2 hs2 hp hne
    gi_wp2_with (first | (gi_at_builtin; refine wpListIn_append_any rfl (.tmp 28) (.tmp 30) (by rfl) elem_int rfl HOW.out rfl (one_int (x := kk) HOB.out.lt (HOB.out.cell 0)) (ints_one _) (by unfold maxLen; omega) (by omega) HB3.out.size ?_) | fail)
    rintro A8 c8 W8 hown hgr hA8
    have hne2 := own_ne_map HOW.out HI2.out
    have HI3 := lh (HI2.out.grown hgr hne2.1 hne2.2)
    have HB4 := lh (HB3.out.grown hgr HB3.out.size (fun j hj => own_row HOW.out hj))
    have HO8 := lh hown
    clear hown hgr hA8 hne2 hr he2
    gi_wp2
    go_roundw
    case rel =>
     refine ⟨left.eraseIdx i, pre ++ [(kk, x)], A8, c8, by simp, lh ⟨HI3.out, ?_, fun p hp => HS.out.2.2.1 p (List.mem_of_mem_eraseIdx hp), ?_, HB4.out⟩⟩
     ·rw [List.append_assoc]
      exact ((perm_erase HP.out).append_left _).trans HS.out.2.1
     ·have h := HO8.out
      simpa using h
    case measure =>
     have h2 := (List.getElem?_eq_some_iff.1 HP.out).1
     rw [HI3.out.left_eq, HS.out.1.left_eq, List.length_eraseIdx_of_lt h2]
     omega
 ·have h1 : (ee != 0) = true := by simpa using h0
  have HE0 := lh h0
  clear h0
  gi_wp2
  clear x0_0 x0_1 l0_
  refine bodyPost_ret (v := .tuple #[.slice none 0 0, .int .i64 (ee)]) (by simp [results, Tryz.results18, go_sem]) rfl ?_
  have hr : reachR t u dk = [] := by unfold reachR; rw [if_neg (by rw [HEE.out]; exact HE0.out)]
  rw [hr, HEE.out]
  exact ⟨none, 0, 0, rfl, Reads.none_, Ly.out.1⟩
theorem reach_any (A : Option Addr) (n c : Nat) (A' : Option Addr) (m d : Nat) (t : Town) (u : Int) (dk : Bool) (w : World)
  (hn : n ≤ 1000) (hm : m ≤ 1000) (ht : TownAt w w.heap.size A n A' m t) (hL : Laid w) :
  Calls Tryz.prog 18 #[.agg #[.slice A n c, .slice A' m d], .int .i64 u, .bool dk] w (ListOut w (reachR t u dk) (askE t [u])) :=
 callsIn_wide.1 (reach_in A n c A' m d t u dk w hn hm ht hL)
end
section
open Go.RowKit Go.Shelf Go.Sort
attribute [local go_sem] Oper.semAt_some
theorem keepsFrom_grown {B : Nat} {W W' : World} {row : Option Nat} (hg : W.grownBy W' row) (hr : ∀ r, row = some r → ∃ t cs, Blk W r t cs) : KeepsFrom B W W' :=
 ⟨hg.size, fun k o _ hk hc => (hg.block k (Array.getElem?_eq_some_iff.1 hk).1 (fun e => by
  obtain ⟨t, cs, hb⟩ := hr k e.symm
  unfold Blk at hb
  rw [hb] at hk
  cases hk
  cases hc)).trans hk⟩
theorem own_setCell {w : World} {base n cap size : Nat} {e : TypeId} {A : Option Addr} {xs : List Value} (h : Own w base e size A n cap xs) {p : Addr} (hp : p.block < base) (u : Value) : Own (w.setCell p u) base e size A n cap xs := by
 refine ⟨h.1, ?_⟩
 rcases h.2 with h' | ⟨g, cap', cur, hv, hb, hg, hr⟩
 ·exact .inl h'
 ·exact .inr ⟨g, cap', cur, hv, hb, (Below.heap_setCell w p u g (by omega)).trans hg, hr⟩
theorem take_snocI {l : List Int} {j : Nat} {x : Int} (h : l[j]? = some x) : l.take j ++ [x] = l.take (j + 1) := by
 obtain ⟨hk, rfl⟩ := List.getElem?_eq_some_iff.1 h
 rw [List.take_succ_eq_append_getElem hk]
theorem own_blk {w : World} {base n cap size : Nat} {e : TypeId} {A : Option Addr} {xs : List Value} (h : Own w base e size A n cap xs) : ∀ r, A.map (·.block) = some r → ∃ t cs, Blk w r t cs := by
 intro r hr
 rcases h.form with ⟨rfl, _⟩ | ⟨g, cur, rfl, _, hb, _⟩
 ·cases hr
 ·cases hr; exact ⟨_, _, hb⟩
set_option maxRecDepth 100000 in
set_option maxHeartbeats 2000000 in
theorem values1_stops (n g n₀ : Nat) (A : Option Addr) (k c : Nat) (l : List Int) (w : World) (hk : k ≤ maxLen) (hkb : k * 8 ≤ 140737488351232) (hg : Blk w g 22 #[.slice A k c]) (hr : IntsAt w n₀ A k l) (hn : n₀ ≤ w.heap.size) :
  SeqStopsK Fence.wide n Tryz.prog 118 #[.pointer (some ⟨g, 0, none⟩)] (fun x : Int => #[Value.int .i64 x]) (Below n₀) (fun ys => ys = l) (fun pre => pre <+: l) k w := by
 intro l' J Jx W hW _ _ hY h0
 have hl := hr.len
 have hB := hg.below hW hg.lt
 have hR := lh (hr.below (hW.mono hn))
 have q0 := hB.cell 0
 have q1 := hB.lt
 have HY := lh hY
 have H0 := lh h0
 clear hY h0 hg hr hB
 refine callsIn_of_wp Tryz.func118 rfl trivial ?_ rfl
 simp only [Tryz.ntmps118, List.size_toArray, List.length_cons, List.length_nil, Nat.reduceAdd, Nat.reduceSub, Array.replicate_succ, Array.replicate_zero, List.push_toArray, List.append_toArray, List.nil_append, List.cons_append]
 gi_wp2
 gi_loopw [7] (fun i wr => ∃ j : Nat, j ≤ k ∧ i = .int .i64 j ∧ Hid (J (l.take j) wr) ∧ Below n₀ W wr) (fun i _ => k - (intOf i).toNat)
 case atStart => exact ⟨0, Nat.zero_le _, rfl, H0, Below.refl _ _⟩
 case round =>
  obtain ⟨j, hj, rfl, hJ, hb⟩ := hrel
  by_cases hlt : j < k
  ·obtain ⟨b, off, x, e, hbn, hx, hc⟩ := (hR.out.below hb).cell hlt
   subst e
   obtain ⟨fn, tmps, assign, body, hy, hRd⟩ := HY.out _ x wr hJ.out (by rw [List.length_take]; omega)
   have HX := lh hx
   have hcc : wr.cell? ⟨b, off + j, none⟩ = some (.int .i64 x) := hc
   clear hx hc
   gi_wp2
   refine ⟨fun h => (by cases h), hRd.mono ?_⟩
   rintro e W3 (⟨rfl, hJ3, hk3⟩ | ⟨rfl, hJx3⟩)
   ·gi_wp2
    go_roundw
    case rel =>
     refine ⟨j + 1, by omega, by simp, lh ?_, hb.trans hk3⟩
     have := hJ3
     rwa [take_snocI HX.out] at this
    case measure => simp [intOf]; omega
   ·gi_wp2
    refine bodyPost_ret (results_none rfl _ _ _) rfl ?_
    refine ⟨⟨_, rfl⟩, .inr ⟨_, ?_, hJx3⟩⟩
    rw [take_snocI HX.out]
    exact List.take_prefix _ _
  ·obtain rfl : j = k := by omega
   gi_wp2
   go_end0
   exact ⟨⟨_, rfl⟩, .inl ⟨_, by rw [← hl, List.take_length], hJ.out⟩⟩
theorem values_any (A : Option Addr) (k c : Nat) (w : World) :
  Calls Tryz.prog 82 #[.slice A k c] w fun e w' => e = .returned (.func (.func 118) #[] #[.pointer (some ⟨w.heap.size, 0, none⟩)]) ∧ w' = w.alloc (.cells #[.slice A k c] 22) := by
 go_enter Tryz.func82, Tryz.ntmps82
 go_wp2
 go_ret
 exact ⟨rfl, rfl⟩
set_option maxRecDepth 100000 in
set_option maxHeartbeats 4000000 in
theorem appendSeq_in (g : Nat) (A : Option Addr) (k c : Nat) (l : List Int) (w : World) (hk : k ≤ 1000) (hg : Blk w g 22 #[.slice A k c]) (hr : IntsAt w w.heap.size A k l) :
  CallsIn Fence.wide 9 Tryz.prog 144 #[.slice none 0 0, .func (.func 118) #[] #[.pointer (some ⟨g, 0, none⟩)]] w fun e w' =>
   ∃ B q, e = .returned (.slice B l.length q) ∧ Own w' w.heap.size 3 1 B l.length q (l.map (Value.int .i64)) ∧ Below w.heap.size w w' := by
 have HG := lh hg
 have HR := lh hr
 have hl := hr.len
 clear hg hr
 refine callsIn_of_wp_marks Tryz.func144 rfl trivial ?_ rfl
 simp only [Tryz.ntmps144, List.size_toArray, List.length_cons, List.length_nil, Nat.reduceAdd, Nat.reduceSub, Array.replicate_succ, Array.replicate_zero, List.push_toArray, List.append_toArray, List.nil_append, List.cons_append]
 gi_wp2
 have B0 := Blk.new w 22 #[.slice none 0 0]
 have b0 : Below w.heap.size w (w.alloc (.cells #[.slice none 0 0] 22)) := (Below.refl _ _).alloc (Nat.le_refl _) _
 have z0 : (w.alloc (.cells #[.slice none 0 0] 22)).heap.size = w.heap.size + 1 := by simp
 generalize (w.alloc (.cells #[.slice none 0 0] 22)) = w0 at *
 refine wpIn_rangeFunc_ownH rfl (by omega) (gf := 118) (lb := #[.pointer (some ⟨g, 0, none⟩)]) rfl trivial (enters_of Tryz.func118 (by kernel_rfl) rfl)
  (values1_stops 8 g w.heap.size A k c l w0 (by unfold maxLen; omega) (by omega) (HG.out.below b0 HG.out.lt) (HR.out.below b0) b0.size) belowK_t (belowK_b (by omega)) (Below.refl _ _) (fun _ => rfl)
  (fun pre Wr => ∃ B q, Blk Wr w.heap.size 22 #[.slice B pre.length q] ∧ Own Wr (w.heap.size + 1) 3 1 B pre.length q (pre.map (Value.int .i64)) ∧ Below w.heap.size w Wr ∧ w0.heap.size ≤ Wr.heap.size)
  (fun cd pre Wr => False)
  (ownFrom_shut (fun s Wr h => by obtain ⟨B, q, _, _, _, h⟩ := h; exact h) (fun s Wr Wr' h hs => by
   obtain ⟨B, q, h1, h2, h3, h4⟩ := h
   refine ⟨B, q, hs.blk h1, ?_, h3.trans (hs.below.mono (by omega)), Nat.le_trans h4 hs.below.size⟩
   refine ⟨h2.1, ?_⟩
   rcases h2.2 with h' | ⟨g, cap', cur, hv, hb, hg, hr⟩
   ·exact .inl h'
   ·exact .inr ⟨g, cap', cur, hv, hb, hs.cells _ _ _ _ hg, hr⟩))
  (fun cd => ownFrom_shut (fun s Wr h => h.elim) (fun s Wr Wr' h hs => h))
  ⟨none, 0, B0, Own.none_ _ _ _ _, b0, Nat.le_refl _⟩
  (fun y a' Wr => a' = { tmps := #[.slice none 0 0, .func (.func 118) #[] #[.pointer (some ⟨g, 0, none⟩)], .pointer (some ⟨w.heap.size, 0, none⟩), undef, .slice none 0 0, .int .i64 y, .func (.func 118) #[] #[.pointer (some ⟨g, 0, none⟩)], .int .i64 y, undef, undef, undef, undef, undef], defers := [] })
  (fun y a' => ownFrom_pure _ _) ?assign ?body ?done ?stop
 case assign =>
  intro l' pre x W K hI hK
  gi_wp2
  exact hK _ _ (KeepsFrom.refl _ _) (Below.refl _ _) hI rfl
 case body =>
  rintro l' pre x a' W hl' ⟨rr, hrr⟩ ⟨B, q, h1, h2, h3, h4⟩ rfl hlen
  have c0 := h1.cell 0
  have c1 := h1.frozen 0
  have H1 := lh h1
  have HOW := lh (h2.alloc (.cells #[.int .i64 x] 3))
  have HOB : Hid (Blk (W.alloc (.cells #[.int .i64 x] 3)) W.heap.size 3 #[.int .i64 x]) := lh (Blk.new _ _ _)
  have H3 := lh h3
  have hs1 := h1.lt
  clear h1 h2 h3 hrr
  gi_wp2_with (first | (gi_at_builtin; refine wpListIn_append_any rfl (.tmp 8) (.tmp 10) (by rfl) elem_int rfl HOW.out rfl (one_int (x := x) HOB.out.lt (HOB.out.cell 0)) (ints_one _) (by unfold maxLen; omega) (by omega) (by simp; omega) ?_) | fail)
  rintro A8 c8 W8 hown hgr hA8
  have hal : Below W.heap.size W (W.alloc (.cells #[.int .i64 x] 3)) := (Below.refl _ _).alloc (Nat.le_refl _) _
  have hne : some w.heap.size ≠ B.map (·.block) := by
   intro e
   cases B with
   | none => cases e
   | some a =>
    have h5 := (HOW.out.lt rfl).1
    simp at e
    omega
  have HB8 := lh ((H1.out.alloc (.cells #[.int .i64 x] 3)).grown hgr hne)
  have HO8 := lh hown
  have HK8 := lh (show KeepsFrom w0.heap.size W W8 from (keepsFrom_below hal).trans (keepsFrom_grown hgr (own_blk HOW.out)))
  have HL8 := lh (show Below w.heap.size W W8 from (hal.mono (by omega)).grown hgr (by simp; omega) (fun j hj => by have := own_row HOW.out hj; omega))
  have d0 := HB8.out.cell 0
  have d1 := HB8.out.frozen 0
  clear hown hgr hA8 hal hne
  gi_wp2
  have hk9 := HK8.out.trans (keepsFrom_setCell w0.heap.size W8 ⟨w.heap.size, 0, none⟩ (.slice A8 (pre.length + 1) c8))
  have hb9 : Below w.heap.size W (W8.setCell ⟨w.heap.size, 0, none⟩ (.slice A8 (pre.length + 1) c8)) := HL8.out.setCell (p := ⟨w.heap.size, 0, none⟩) (Nat.le_refl _) _
  refine ⟨hk9, hb9, A8, c8, ?_, ?_, H3.out.trans hb9, Nat.le_trans h4 hk9.size⟩
  ·have := HB8.out.set_ 0 (.slice A8 (pre.length + 1) c8)
   simpa using this
  ·have := HO8.out
   rw [List.length_append, List.map_append]
   exact own_setCell this (Nat.lt_succ_self _) _
 case done =>
  rintro D ys Wr hD rfl ⟨B, q, h1, h2, h3, h4⟩ hK
  have c0 := h1.cell 0
  have hs1 := h1.lt
  have hmk : Marks w.heap.size Wr [{ target := .collected D, args := #[] }] := ⟨⟨D, by omega, rfl, hK, by simp⟩, trivial⟩
  have H2 := lh h2
  have H3 := lh h3
  clear h1 h2 h3 hK
  gi_wp2
  refine leaves_marksD _ _ hmk ?_
  intro w' hs
  refine ⟨_, by simp [results, Tryz.results144, go_sem, hl], B, q, rfl, (hs.own H2.out).mono (by omega), H3.out.trans hs.below⟩
 case stop =>
  rintro D cd pre Wr _ _ h _
  exact h.elim
theorem collect_in (g : Nat) (A : Option Addr) (k c : Nat) (l : List Int) (w : World) (hk : k ≤ 1000) (hg : Blk w g 22 #[.slice A k c]) (hr : IntsAt w w.heap.size A k l) :
  Calls Tryz.prog 117 #[.func (.func 118) #[] #[.pointer (some ⟨g, 0, none⟩)]] w fun e w' =>
   ∃ B q, e = .returned (.slice B l.length q) ∧ Own w' w.heap.size 3 1 B l.length q (l.map (Value.int .i64)) ∧ Below w.heap.size w w' := by
 have h := callsIn_wide.1 (appendSeq_in g A k c l w hk hg hr)
 go_enter Tryz.func117, Tryz.ntmps117
 go_wp2_with (go_at_call 144; refine h.mono ?_; rintro e w' ⟨B, q, rfl, hO, hb⟩)
 go_ret
 exact ⟨B, q, rfl, hO, hb⟩
set_option maxHeartbeats 4000000 in
set_option maxRecDepth 100000 in
theorem sorted_any (g : Nat) (A : Option Addr) (k c : Nat) (l : List Int) (w : World) (hk : k ≤ 12) (hg : Blk w g 22 #[.slice A k c]) (hr : IntsAt w w.heap.size A k l) :
  Calls Tryz.prog 81 #[.func (.func 118) #[] #[.pointer (some ⟨g, 0, none⟩)]] w fun e w' =>
   ∃ B q, e = .returned (.slice B l.length q) ∧ Own w' w.heap.size 3 1 B l.length q ((upI l).map (Value.int .i64)) ∧ Below w.heap.size w w' := by
 have hl := hr.len
 have h := collect_in g A k c l w (by omega) hg hr
 go_enter Tryz.func81, Tryz.ntmps81
 go_wp2_with fail
 refine h.mono ?_
 rintro e w' ⟨B, q, rfl, hO, hb⟩
 have HO := lh hO
 have HB := lh hb
 have HS := lh (sort_int w.heap.size B l.length q l w' hO (by omega))
 clear hO hb h hl hr hg
 go_wp2_with fail
 refine HS.out.mono ?_
 rintro e w2 ⟨rfl, hO2, hg2⟩
 have HO2 := lh hO2
 have HG2 := lh hg2
 clear hO2 hg2
 go_wp2_with fail
 go_ret
 exact ⟨B, q, rfl, HO2.out, HB.out.grown HG2.out HB.out.size (fun j hj => own_row HO.out hj)⟩
end
section
open Go.RowKit
theorem zero_int (w : World) : (zeroValue 3).run Tryz.prog w = .ok (.int .i64 0) w := by kernel_rfl
structure PredI (w : World) (K : Nat) (F : FuncId) (C : Array Value) (p : Int → Bool) : Prop where
 enters : ∀ args W, (callFunc F args).run Tryz.prog W = .ok (.enter F args) W
 calls : ∀ x W, Below K w W → Calls Tryz.prog F (#[.int .i64 x] ++ C) W fun e w' => e = .returned (.bool (p x)) ∧ Below W.heap.size W w'
theorem PredI.below {w w' : World} {K : Nat} {F : FuncId} {C : Array Value} {p : Int → Bool} (h : PredI w K F C p) (hb : Below K w w') : PredI w' K F C p :=
 ⟨h.enters, fun x W hW => h.calls x W (hb.trans hW)⟩
structure DelI (g : Nat) (e : TypeId) (sz : Nat) (l : List Int) (p : Int → Bool) (i j : Nat) (wr : World) (cur : Array Value) : Prop where
 blk : Blk wr g e cur
 size : cur.size = sz
 num : ((l.take j).filter fun x => !p x).length = i
 kept : ∀ (k : Nat) x, ((l.take j).filter fun x => !p x)[k]? = some x → cur[k]? = some (.int .i64 x)
 left : ∀ (k : Nat) x, j ≤ k → l[k]? = some x → cur[k]? = some (.int .i64 x)
theorem DelI.later {g : Nat} {e : TypeId} {sz : Nat} {l : List Int} {p : Int → Bool} {i j : Nat} {wr w' : World} {cur : Array Value} (h : DelI g e sz l p i j wr cur) (hb : Blk w' g e cur) : DelI g e sz l p i j w' cur := ⟨hb, h.size, h.num, h.kept, h.left⟩
theorem DelI.skip {g : Nat} {e : TypeId} {sz : Nat} {l : List Int} {p : Int → Bool} {i j : Nat} {wr : World} {cur : Array Value} {x : Int} (h : DelI g e sz l p i j wr cur) (hx : l[j]? = some x) (hp : p x = true) : DelI g e sz l p i (j + 1) wr cur := by
 obtain ⟨hj, rfl⟩ := List.getElem?_eq_some_iff.1 hx
 have e1 : ((l.take (j + 1)).filter fun x => !p x) = (l.take j).filter fun x => !p x := by
  rw [List.take_succ_eq_append_getElem hj, List.filter_append]; simp [hp]
 exact ⟨h.blk, h.size, by rw [e1]; exact h.num, by rw [e1]; exact h.kept, fun k y hk hy => h.left k y (by omega) hy⟩
theorem DelI.keep {g : Nat} {e : TypeId} {sz : Nat} {l : List Int} {p : Int → Bool} {i j : Nat} {wr w' : World} {cur : Array Value} {x : Int} (h : DelI g e sz l p i j wr cur) (hx : l[j]? = some x) (hp : p x = false) (hij : i ≤ j) (hs : l.length ≤ sz)
  (hb : Blk w' g e (cur.setIfInBounds i (.int .i64 x))) : DelI g e sz l p (i + 1) (j + 1) w' (cur.setIfInBounds i (.int .i64 x)) := by
 obtain ⟨hj, rfl⟩ := List.getElem?_eq_some_iff.1 hx
 have e1 : ((l.take (j + 1)).filter fun x => !p x) = ((l.take j).filter fun x => !p x) ++ [l[j]] := by
  rw [List.take_succ_eq_append_getElem hj, List.filter_append]; simp [hp]
 have hsz := h.size
 refine ⟨hb, by simpa using h.size, by rw [e1, List.length_append, h.num]; rfl, ?_, ?_⟩
 ·intro k y hy
  rw [e1] at hy
  have hn := h.num
  by_cases hk : k < i
  ·rw [List.getElem?_append_left (by omega)] at hy
   rw [Array.getElem?_setIfInBounds_ne (by omega)]
   exact h.kept k y hy
  ·rw [List.getElem?_append_right (by omega), hn] at hy
   have hk0 : k - i = 0 := by
    rcases Nat.eq_zero_or_pos (k - i) with h0 | h0
    ·exact h0
    ·rw [List.getElem?_eq_none (by simp; omega)] at hy; cases hy
   rw [hk0] at hy
   simp at hy
   subst hy
   obtain rfl : k = i := by omega
   rw [Array.getElem?_setIfInBounds_self_of_lt (by omega)]
 ·intro k y hk hy
  rw [Array.getElem?_setIfInBounds_ne (by omega)]
  exact h.left k y (by omega) hy
set_option maxRecDepth 100000 in
set_option maxHeartbeats 4000000 in
theorem deleteFunc_int (base K : Nat) (F : FuncId) (C : Array Value) (p : Int → Bool) (A : Option Addr) (n c : Nat) (l : List Int) (w : World) (hO : Own w base 3 1 A n c (l.map (Value.int .i64))) (hK : K ≤ base) (hKw : K ≤ w.heap.size) (hp : PredI w K F C p) :
  Calls Tryz.prog 65 #[.slice A n c, .func (.func F) #[] C] w fun e w' => e = .returned (.slice A (l.filter fun x => !p x).length c) ∧ Own w' base 3 1 A (l.filter fun x => !p x).length c ((l.filter fun x => !p x).map (Value.int .i64)) ∧ w.grownBy w' (A.map (·.block)) := by
 have hl : l.length = n := by have := hO.len; simpa using this
 have hcap := hO.cap_le
 have hmax : c ≤ 9223372036854775807 := by have := hcap.2; unfold maxLen at this; omega
 have hcn := hcap.1
 have HI := lh (indexFunc_int F C p A n c l w (hO.reads (Nat.le_refl _)) (by omega) hp.enters (fun x _ W hW => hp.calls x W (hW.mono hKw)))
 have hE := hp.enters
 have HF := lh hp
 clear hp
 by_cases hany : ∀ y ∈ l, p y = false
 ·have hi : idx p l = -1 := idx_none hany
  have hfil : (l.filter fun x => !p x) = l := List.filter_eq_self.2 fun y hy => by rw [hany y hy]; rfl
  have HO := lh hO
  have HX := lh hfil
  rw [hi] at HI
  clear hany hi hO hfil
  go_enter Tryz.func65, Tryz.ntmps65
  go_wp2_with fail
  refine HI.out.mono ?_
  rintro e w1 ⟨rfl, hb⟩
  go_wp2_with fail
  go_ret
  rw [HX.out, hl]
  exact ⟨rfl, HO.out.below hb (Nat.le_refl _), grown_of_below hb _⟩
 ·obtain ⟨k0, x0, hx0, hp0, hno⟩ : ∃ (k : Nat) (x : Int), l[k]? = some x ∧ p x = true ∧ ∀ y ∈ l.take k, p y = false := by
   have h1 : l.any p = true := by
    rw [List.any_eq_true]
    refine Classical.byContradiction fun hc => hany fun y hy => ?_
    cases hpy : p y with
    | false => rfl
    | true => exact absurd ⟨y, hy, hpy⟩ hc
   have h2 := List.findIdx_lt_length_of_exists (List.any_eq_true.1 h1)
   refine ⟨l.findIdx p, l[l.findIdx p], List.getElem?_eq_getElem h2, List.findIdx_getElem, fun y hy => ?_⟩
   rw [List.mem_take_iff_getElem] at hy
   obtain ⟨j, hj, rfl⟩ := hy
   have := List.not_of_lt_findIdx (xs := l) (p := p) (i := j) (by omega)
   simpa using this
  have hi : idx p l = (k0 : Int) := idx_some hx0 hp0 hno
  have hk0 : k0 < n := by rw [← hl]; exact (List.getElem?_eq_some_iff.1 hx0).1
  rw [hi] at HI
  rcases hO.form with ⟨rfl, rfl, rfl, _⟩ | ⟨g, cur, rfl, hbg, hblk, _, _, hsz, htake, _⟩
  ·omega
  have hcells : ∀ (k : Nat) x, l[k]? = some x → cur[k]? = some (.int .i64 x) := by
   intro k x hx
   have hk : k < l.length := (List.getElem?_eq_some_iff.1 hx).1
   have h1 : (cur.toList.take (n * 1))[k]? = (l.map (Value.int .i64))[k]? := by rw [htake]
   rw [List.getElem?_take_of_lt (by omega), Array.getElem?_toList] at h1
   rw [h1, List.getElem?_map, hx]
   rfl
  have hsz' : cur.size = c := by omega
  have hfil : ((l.take k0).filter fun x => !p x) = l.take k0 := List.filter_eq_self.2 fun y hy => by rw [hno y hy]; rfl
  have D0 : DelI g 3 c l p k0 k0 w cur := ⟨hblk, hsz', by rw [hfil, List.length_take]; omega, fun k x h => hcells k x (by
   rw [hfil, List.getElem?_take] at h
   split at h
   ·exact h
   ·cases h), fun k x _ h => hcells k x h⟩
  have D1 := lh (D0.skip hx0 hp0)
  have HB := lh hblk
  have HN := lh hl
  have hlg := hblk.lt
  have hne : ((k0 : Int) == -1) = false := by simp
  clear hany hi hO hno hp0 hx0 hcells hfil htake hsz hsz' D0 hl hblk
  go_enter Tryz.func65, Tryz.ntmps65
  go_wp2_with fail
  refine HI.out.mono ?_
  rintro e w1 ⟨rfl, hb⟩
  go_wp2_with fail
  go_loopw [5, 6] (fun vi vj wr => ∃ (i j : Nat) (cur : Array Value), vi = .int .i64 i ∧ vj = .int .i64 j ∧ i < j ∧ j ≤ n ∧ DelI g 3 c l p i j wr cur ∧ w.grownBy wr (some g))
   (fun _ vj _ => n - (intOf vj).toNat)
  case atStart => exact ⟨k0, k0 + 1, cur, rfl, by go_num, by omega, by omega, D1.out.later (HB.out.below hb hlg), grown_of_below hb _⟩
  case round =>
   obtain ⟨i, j, cur1, rfl, rfl, hij, hjn, hD, hg⟩ := hrel
   by_cases hlt : j < n
   ·have hxj : l[j]? = some (l[j]'(by have := HN.out; omega)) := List.getElem?_eq_getElem _
    generalize (l[j]'(by have := HN.out; omega)) = x at hxj
    have c0 : wr.cell? ⟨g, j, none⟩ = some (.int .i64 x) := (hD.blk.cell _).trans (hD.left j x (Nat.le_refl _) hxj)
    have HX := lh hxj
    have HD := lh hD
    have hgs := hg.size
    have HG := lh hg
    clear hxj hD hg
    go_wp2_with fail
    have hgl := HD.out.blk.lt
    have hKg : ∀ k, some g = some k → K ≤ k := fun k hk => by cases hk; omega
    refine (HF.out.calls x _ (below_of_grown HG.out hKg (by omega))).mono ?_
    rintro e w2 ⟨rfl, hb2⟩
    have G2 := HD.out.blk.below hb2 hgl
    have hG2 := lh (grown_below HG.out hb2)
    have hsz2 := hb2.size
    have D2 := lh (HD.out.later G2)
    clear HG HD c0 hb2
    cases hp : p x with
    | true =>
     have HP := lh hp
     clear hp G2
     go_wp2_with fail
     go_roundw
     case rel => exact ⟨i, j + 1, cur1, rfl, by go_num, by omega, by omega, D2.out.skip HX.out HP.out, hG2.out⟩
     case measure => simp [intOf]; omega
    | false =>
     have HP := lh hp
     have hsz := D2.out.size
     have f0 : w2.frozen? ⟨g, i, none⟩ = false := G2.frozen _
     obtain ⟨u0, g0⟩ : ∃ u, w2.cell? ⟨g, i, none⟩ = some u := ⟨_, by rw [G2.cell]; exact Array.getElem?_eq_getElem (by omega)⟩
     have HGB := lh G2
     clear hp hsz G2
     go_wp2_with fail
     go_roundw
     case rel =>
      exact ⟨i + 1, j + 1, cur1.setIfInBounds i (.int .i64 x), by go_num, by go_num, by omega, by omega, D2.out.keep HX.out HP.out (by omega) (by have := HN.out; omega) (HGB.out.set_ i _), grown_setCell hG2.out (p := ⟨g, i, none⟩) (.inl rfl) _⟩
     case measure => simp [intOf]; omega
   ·obtain rfl : j = n := by omega
    have hfin : ((l.take j).filter fun x => !p x) = l.filter fun x => !p x := by rw [List.take_of_length_le (by have := HN.out; omega)]
    have hsz := hD.size
    obtain ⟨vs, hvs, hclr⟩ := run_clear_row (P := Tryz.prog) (w := wr) (g := g) (t := 22) (ty := 0) hD.blk Tryz.underlying22 zero_int (by intro u hu; simp [Value.cells] at hu; subst hu; rfl) i (j - i) (c - i) (by simp [Value.cells]; omega)
    have hnum := hD.num
    rw [hfin] at hnum
    have HFin := lh hfin
    have HNum := lh hnum
    have HVs := lh hvs
    have HD := lh hD
    have HG := lh hg
    have HSz := lh hsz
    clear hfin hnum hvs hD hg hsz
    go_wp2_with fail
    go_ret
    refine ⟨?_, Own.mk_ hbg (Blk.setCells vs i HD.out.blk) (by rw [HNum.out]; omega) hcap.2 (by rw [wrt_size, HSz.out]; omega) (by simp) ?_, grown_setCells vs i HG.out (.inl rfl)⟩
    ·rw [HNum.out]; rfl
    ·intro k hk
     rw [HNum.out] at hk
     rw [wrt_out _ _ _ _ (.inl (by omega))]
     have hk' := HD.out.kept
     rw [HFin.out] at hk'
     have hkl : k < (l.filter fun x => !p x).length := by rw [HNum.out]; omega
     rw [hk' k _ (List.getElem?_eq_getElem hkl), List.getElem?_map, List.getElem?_eq_getElem hkl]
     rfl
end
section
open Go.RowKit
theorem infoI : (Tryz.prog.info? 3).map (fun i => (i.zero, i.size, i.bytes)) = some (some (.int .i64 0), 1, 8) := by kernel_rfl
def movedI (l : List Int) (i : Nat) : List Value := (l.drop (i + 1)).map (Value.int .i64)
theorem own_cells {w : World} {base g n c : Nat} {l : List Int} (hO : Own w base 3 1 (some ⟨g, 0, none⟩) n c (l.map (Value.int .i64))) : ∃ cur, base ≤ g ∧ Blk w g 3 cur ∧ n ≤ c ∧ c ≤ maxLen ∧ cur.size = c ∧ l.length = n ∧ ∀ (k : Nat) x, l[k]? = some x → cur[k]? = some (.int .i64 x) := by
 have hl : l.length = n := by have := hO.len; simpa using this
 rcases hO.form with ⟨h, _⟩ | ⟨g', cur, h, hbg, hblk, h1, h2, hsz, htake, _⟩
 ·cases h
 ·cases h
  refine ⟨cur, hbg, hblk, h1, h2, by omega, hl, fun k x hx => ?_⟩
  have hk : k < l.length := (List.getElem?_eq_some_iff.1 hx).1
  have h3 : (cur.toList.take (n * 1))[k]? = (l.map (Value.int .i64))[k]? := by rw [htake]
  rw [List.getElem?_take_of_lt (by omega), Array.getElem?_toList] at h3
  rw [h3, List.getElem?_map, hx]
  rfl
set_option maxRecDepth 1000000 in
set_option maxHeartbeats 4000000 in
theorem delete_one (base g n c i : Nat) (l : List Int) (w : World) (hO : Own w base 3 1 (some ⟨g, 0, none⟩) n c (l.map (Value.int .i64))) (hi : i < n) :
  Calls Tryz.prog 80 #[.slice (some ⟨g, 0, none⟩) n c, .int .i64 i, .int .i64 ((i : Int) + 1)] w fun e w' => e = .returned (.slice (some ⟨g, 0, none⟩) (n - 1) c) ∧ Own w' base 3 1 (some ⟨g, 0, none⟩) (n - 1) c ((l.eraseIdx i).map (Value.int .i64)) ∧ w.grownBy w' (some g) := by
 obtain ⟨cur, hbg, hblk, hnc, hcm, hsz, hl, hcells⟩ := own_cells hO
 obtain ⟨i0, hi0, hz0, hz1, hz2⟩ := info_parts infoI
 have hml : (movedI l i).length = n - (i + 1) := by simp [movedI, hl]
 have hmg : ∀ j, j < n - (i + 1) → (movedI l i)[j]? = cur[i + 1 + j]? := by
  intro j hj
  have hx : l[i + 1 + j]? = some l[i + 1 + j] := List.getElem?_eq_getElem (by omega)
  rw [hcells _ _ hx]
  simp [movedI, hx]
 obtain ⟨A, hA, hnews⟩ : ∃ A : Addr, (if c = i + 1 then some (⟨g, 0, none⟩ : Addr) else some ⟨g, i + 1, none⟩) = some A ∧ Hid (∀ j u, (movedI l i)[j]? = some u → w.drew.cell? (A.add j) = some u) := by
  by_cases h : c = i + 1
  ·refine ⟨⟨g, 0, none⟩, by simp [h], fun j u hu => ?_⟩
   have h0 : (movedI l i).length = 0 := by omega
   rw [List.length_eq_zero_iff.1 h0] at hu
   simp at hu
  ·refine ⟨⟨g, i + 1, none⟩, by simp [h], fun j u hu => ?_⟩
   have hj : j < n - (i + 1) := by rw [← hml]; exact (List.getElem?_eq_some_iff.1 hu).1
   rw [hmg j hj] at hu
   rw [Addr.add_lit]
   show w.cell? _ = _
   rw [hblk.cell]
   exact hu
 have s1 : Hid ((movedI l i).length = (n - (i + 1)) * 1) := by rw [Nat.mul_one]; exact hml
 have s2 : Hid (∀ u ∈ movedI l i, u.oneCell' = true) := by
  intro u hu
  obtain ⟨x, _, rfl⟩ := List.mem_map.1 hu
  rfl
 have s3 : Hid (∀ j, j < (movedI l i).length → (w.drew.cell? ⟨g, 0 + i * 1 + j, none⟩).isSome = true ∧ w.drew.frozen? ⟨g, 0 + i * 1 + j, none⟩ = false) := by
  intro j hj
  refine ⟨?_, hblk.frozen _⟩
  show (w.cell? _).isSome = true
  rw [hblk.cell, Array.getElem?_eq_getElem (by omega)]
  rfl
 have hic : i ≤ c := by omega
 have hmax : c ≤ 9223372036854775807 := by unfold maxLen at hcm; omega
 have hwr : IntKind.i64.wrap ((i : Int) + 1) = (i : Int) + 1 := by rw [IntKind.wrap_i64]; omega
 have hp0 : (0 : Int) ≤ (i : Int) + 1 := by omega
 have hp1 : (i : Int) + 1 ≤ (n : Int) := by omega
 have hp2 : ((i : Int) + 1).toNat = i + 1 := by omega
 have hne : ((i : Int) == (i : Int) + 1) = false := by simp; omega
 have HB1 := lh (Blk.setCells (movedI l i) i (Blk.drew hblk))
 have HC := lh hcells
 have HM := lh hmg
 have hlen : i + (n - (i + 1)) = n - 1 := by omega
 obtain ⟨vs, hvs, hclr⟩ := run_clear_row (P := Tryz.prog) (w := w.drew.setCells g i (movedI l i)) (g := g) (t := 22) (ty := 0) HB1.out Tryz.underlying22 zero_int (by intro u hu; simp [Value.cells] at hu; subst hu; rfl) (n - 1) (n - (n - 1)) (c - (n - 1)) (by simp [Value.cells, wrt_size]; omega)
 have HV := lh hvs
 have hcl : ¬ c = n - 1 := by omega
 clear hcells hmg hblk hvs hO
 go_enter Tryz.func80, Tryz.ntmps80
 go_wp2_with fail
 go_region_law (refine step_append_room rfl (.tmp 22) (.tmp 25) 22 rfl 3 i0 1 Tryz.underlying22 hi0 hz1 g 0 i c (by simp [Act.eval, Act.put]) A (n - (i + 1)) (c - (i + 1)) (movedI l i) (by simp [Act.eval, Act.put]) s1.out hnews.out s2.out (by omega) s3.out ?_)
 go_wp2_with fail
 go_ret
 have hmv := hml
 refine ⟨rfl, Own.mk_ hbg (Blk.setCells vs (n - 1) HB1.out) (by omega) hcm (by rw [wrt_size, wrt_size]; omega) (by rw [List.length_map, List.length_eraseIdx_of_lt (by omega)]; omega) ?_, grown_setCells vs (n - 1) (grown_setCells (movedI l i) i (grown_drew (grown_refl w (some g)) 1) (.inl rfl)) (.inl rfl)⟩
 intro k hk
 rw [wrt_out _ _ _ _ (.inl (by omega)), List.getElem?_map, List.getElem?_eraseIdx]
 by_cases hki : k < i
 ·rw [wrt_out _ _ _ _ (.inl hki), if_pos hki]
  have hx : l[k]? = some l[k] := List.getElem?_eq_getElem (by omega)
  rw [HC.out _ _ hx, hx]
  rfl
 ·rw [if_neg hki]
  obtain ⟨j, rfl⟩ : ∃ j, k = i + j := ⟨k - i, by omega⟩
  rw [wrt_in _ _ _ _ (by omega) (by omega), HM.out j (by omega)]
  have hx : l[i + j + 1]? = some l[i + j + 1] := List.getElem?_eq_getElem (by omega)
  rw [hx, show i + 1 + j = i + j + 1 by omega, HC.out _ _ hx]
  rfl
end
section
open Go.RowKit
def StepsN (l : List Int) (k : Nat) : Prop := ∀ j, 1 ≤ j → j < k → l[j]? ≠ l[j - 1]?
set_option maxRecDepth 1000000 in
set_option maxHeartbeats 4000000 in
theorem compact_len (base : Nat) (A : Option Addr) (n c : Nat) (l : List Int) (w : World) (hO : Own w base 3 1 A n c (l.map (Value.int .i64))) :
  Calls Tryz.prog 116 #[.slice A n c] w fun e w' => ∃ m, e = .returned (.slice A m c) ∧ m ≤ n ∧ (m = n ↔ StepsN l n) ∧ w.grownBy w' (A.map (·.block)) := by
 by_cases hn : n < 2
 ·clear hO
  go_enter Tryz.func116, Tryz.ntmps116
  go_wp2_with fail
  go_ret
  exact ⟨n, rfl, Nat.le_refl _, ⟨fun _ j h1 h2 => by omega, fun _ => rfl⟩, grown_refl _ _⟩
 ·obtain ⟨g, rfl⟩ : ∃ g, A = some ⟨g, 0, none⟩ := by
   rcases hO.form with ⟨_, h, _⟩ | ⟨g, _, h, _⟩
   ·omega
   ·exact ⟨g, h⟩
  obtain ⟨cur, hbg, hblk, hnc, hcm, hsz, hl, hcells⟩ := own_cells hO
  obtain ⟨G, hG⟩ : ∃ G : Nat → Int, ∀ t, t < n → l[t]? = some (G t) := ⟨fun t => l[t]!, fun t ht => by rw [List.getElem?_eq_getElem (by omega)]; simp [show t < l.length by omega]⟩
  have hmax : c ≤ 9223372036854775807 := by unfold maxLen at hcm; omega
  have hcw : ∀ t, t < n → w.cell? ⟨g, t, none⟩ = some (.int .i64 (G t)) := fun t ht => by rw [hblk.cell]; exact hcells _ _ (hG t ht)
  have HG := lh hG
  have HC := lh hcw
  have HB := lh hblk
  clear hO hcells hG hcw hblk
  go_enter Tryz.func116, Tryz.ntmps116
  go_wp2_with fail
  go_loopw [3] (fun v3 wr => ∃ k q : Nat, v3 = .int .i64 k ∧ 1 ≤ k ∧ k ≤ n ∧ wr = w.drewN q ∧ Hid (∀ j, 1 ≤ j → j < k → G j ≠ G (j - 1))) (fun v3 _ => n - (intOf v3).toNat)
  case atStart => exact ⟨1, 0, rfl, Nat.le_refl _, by omega, rfl, lh (fun j h1 h2 => by omega)⟩
  case round =>
   obtain ⟨k, q, rfl, hk1, hkn, rfl, hA⟩ := hrel
   by_cases hlt : k < n
   ·have c1 : w.cell? ⟨g, k, none⟩ = some (.int .i64 (G k)) := HC.out k hlt
    have c2 : w.cell? ⟨g, k - 1, none⟩ = some (.int .i64 (G (k - 1))) := HC.out (k - 1) (by omega)
    have hk' : ((k : Int) - 1).toNat = k - 1 := by omega
    go_wp2_with fail
    go_region
    by_cases hd : G k = G (k - 1)
    ·have hd' : (G k == G (k - 1)) = true := by simpa using hd
     have HD := lh hd
     clear hd
     have hck : ¬ c = k := by omega
     go_wp2_with fail
     go_loopw [3, 5] (fun v3 v5 wr => ∃ (k1 k2 : Nat) (cu : Array Value), v3 = .int .i64 k1 ∧ v5 = .int .i64 k2 ∧ 1 ≤ k2 ∧ k2 ≤ n - k ∧ k ≤ k1 ∧ k1 + 1 ≤ k + k2 ∧ Hid (Blk wr g 3 cu ∧ cu.size = c ∧ (∀ t, t < n → ∃ x : Int, cu[t]? = some (.int .i64 x)) ∧ w.grownBy wr (some g)))
      (fun _ v5 _ => n - (intOf v5).toNat)
     case atStart => exact ⟨k, 1, cur, rfl, rfl, Nat.le_refl _, by omega, Nat.le_refl _, Nat.le_refl _, lh ⟨HB.out, hsz, fun t ht => ⟨G t, by have := HC.out t ht; rwa [HB.out.cell] at this⟩, grown_drew (grown_refl _ _) _⟩⟩
     case round =>
      obtain ⟨k1, k2, cu, rfl, rfl, h21, h2n, hkk, hk12, HS⟩ := hrel
      by_cases hlt2 : k2 < n - k
      ·obtain ⟨x, hx⟩ := HS.out.2.2.1 (k + k2) (by omega)
       obtain ⟨y, hy⟩ := HS.out.2.2.1 (k + (k2 - 1)) (by omega)
       obtain ⟨z, hz⟩ := HS.out.2.2.1 k1 (by omega)
       have d1 : wr.cell? ⟨g, k + k2, none⟩ = some (.int .i64 x) := by rw [HS.out.1.cell]; exact hx
       have d2 : wr.cell? ⟨g, k + (k2 - 1), none⟩ = some (.int .i64 y) := by rw [HS.out.1.cell]; exact hy
       have d3 : wr.cell? ⟨g, k1, none⟩ = some (.int .i64 z) := by rw [HS.out.1.cell]; exact hz
       have d4 : wr.frozen? ⟨g, k1, none⟩ = false := HS.out.1.frozen _
       have hk2' : ((k2 : Int) - 1).toNat = k2 - 1 := by omega
       have hg2 : (k2 : Int) < ((n - k : Nat) : Int) := by omega
       have hk1n : k1 < n := by omega
       clear hx hy hz
       go_wp2_with fail
       go_region
       by_cases hxy : x = y
       ·have hxy' : (x != y) = false := by simpa using hxy
        clear hxy
        go_wp2_with fail
        go_roundw
        case rel => exact ⟨k1, k2 + 1, cu, rfl, by go_num, by omega, by omega, by omega, by omega, lh ⟨HS.out.1, HS.out.2.1, HS.out.2.2.1, grown_drew HS.out.2.2.2 1⟩⟩
        case measure => simp [intOf]; omega
       ·have hxy' : (x != y) = true := by simpa using hxy
        clear hxy
        go_wp2_with fail
        go_roundw
        case rel =>
         refine ⟨k1 + 1, k2 + 1, cu.setIfInBounds k1 (.int .i64 x), by go_num, by go_num, by omega, by omega, by omega, by omega, lh ⟨HS.out.1.set_ k1 _, by simpa using HS.out.2.1, fun t ht => ?_, grown_setCell (grown_drew HS.out.2.2.2 1) (p := ⟨g, k1, none⟩) (.inl rfl) _⟩⟩
         by_cases ht1 : t = k1
         ·subst ht1
          exact ⟨x, by rw [Array.getElem?_setIfInBounds_self_of_lt (by have := HS.out.2.1; omega)]⟩
         ·rw [Array.getElem?_setIfInBounds_ne (by omega)]
          exact HS.out.2.2.1 t ht
        case measure => simp [intOf]; omega
      ·have hk2 : k2 = n - k := by omega
       have hge : ¬ (k2 : Int) < ((n - k : Nat) : Int) := by omega
       have hk1n : k1 < n := by omega
       have hc1 : ¬ c = k1 := by omega
       obtain ⟨vs, hvs, hclr⟩ := run_clear_row (P := Tryz.prog) (w := wr) (g := g) (t := 22) (ty := 0) HS.out.1 Tryz.underlying22 zero_int (by intro u hu; simp [Value.cells] at hu; subst hu; rfl) k1 (n - k1) (c - k1) (by have := HS.out.2.1; simp [Value.cells]; omega)
       have HV := lh hvs
       clear hvs
       go_wp2_with fail
       go_ret
       refine ⟨k1, rfl, by omega, ⟨fun h => by omega, fun h => ?_⟩, grown_setCells vs k1 HS.out.2.2.2 (.inl rfl)⟩
       have h1 := h k hk1 hlt
       rw [HG.out k hlt, HG.out (k - 1) (by omega), HD.out] at h1
       exact absurd rfl h1
    ·have hd' : (G k == G (k - 1)) = false := by simpa using hd
     have HD := lh hd
     clear hd
     go_wp2_with fail
     go_roundw
     case rel =>
      refine ⟨k + 1, q + 1, by go_num, by omega, by omega, rfl, lh (fun j h1 h2 => ?_)⟩
      by_cases hj : j = k
      ·subst hj; exact HD.out
      ·exact hA.out j h1 (by omega)
     case measure => simp [intOf]; omega
   ·obtain rfl : k = n := by omega
    go_wp2_with fail
    go_ret
    refine ⟨k, rfl, Nat.le_refl _, ⟨fun _ j h1 h2 => ?_, fun _ => rfl⟩, grown_drew (grown_refl _ _) _⟩
    rw [HG.out j h2, HG.out (j - 1) (by omega)]
    intro e
    exact hA.out j h1 h2 (Option.some.inj e)
end
section
open Go.RowKit Go.Shelf
def legF (t : Town) (dk : Bool) (a b : Int) : Option Leg := (best t dk freeP a b).map fun q => (q.1.b, q.1.c)
def roundE (t : Town) (base : Int) (stops : List Int) : Int :=
 if askE t [base] = 0 then (if stops.length ≤ 6 ∧ hasB t stops = true ∧ base ∉ stops ∧ stops.Nodup then 0 else 33) else askE t [base]
structure LegsAt (w : World) (r : Nat) (t : Town) (dk : Bool) (D : List Int) (lm : List (P2 × Leg)) : Prop where
 map : LgMap w r lm
 look : ∀ a b, look lm (a, b) = if a ∈ D then legF t dk a b else none
def RoundedOut (w : World) (t : Town) (base : Int) (stops : List Int) (dk : Bool) (e : Ending) (w' : World) : Prop :=
 Below w.heap.size w w' ∧ ((roundE t base stops ≠ 0 ∧ e = .returned (.tuple #[.map none, .int .i64 (roundE t base stops)])) ∨
  (roundE t base stops = 0 ∧ ∃ r lm, e = .returned (.tuple #[.map (some r), .int .i64 0]) ∧ LegsAt w' r t dk (base :: stops) lm))
theorem apart_nodup : ∀ {l : List Int}, l.Pairwise (· ≤ ·) → (StepsN l l.length ↔ l.Nodup)
 | [], _ => ⟨fun _ => List.nodup_nil, fun _ j h1 h2 => by simp at h2⟩
 | x :: l, h => by
  rw [List.pairwise_cons] at h
  have ih := apart_nodup h.2
  rw [List.nodup_cons]
  constructor
  ·intro ha
   have h2 : StepsN l l.length := fun j h1 h2 e => ha (j + 1) (by omega) (by simp; omega) (by
    obtain ⟨j, rfl⟩ : ∃ i, j = i + 1 := ⟨j - 1, by omega⟩
    simpa using e)
   refine ⟨fun hx => ?_, ih.1 h2⟩
   cases l with
   | nil => cases hx
   | cons y l =>
    have hxy : x ≠ y := fun e => ha 1 (Nat.le_refl _) (by simp) (by simp [e])
    rcases List.mem_cons.1 hx with rfl | hx
    ·exact hxy rfl
    ·have h3 := h.1 y (by simp)
     have h4 := (List.pairwise_cons.1 h.2).1 x hx
     omega
  ·rintro ⟨h1, h2⟩ j hj1 hj2 e
   obtain ⟨j, rfl⟩ : ∃ i, j = i + 1 := ⟨j - 1, by omega⟩
   have hjl : j < l.length := by simp at hj2; omega
   cases j with
   | zero =>
    simp at e
    apply h1
    rw [List.getElem?_eq_getElem hjl] at e
    cases e
    exact List.getElem_mem _
   | succ j =>
    refine ih.2 h2 (j + 1) (by omega) hjl ?_
    simpa using e
theorem lg_form {w : World} {r : Nat} {m : List (P2 × Leg)} (h : LgMap w r m) : ∃ es cl, w.heap[r]? = some (.map es cl) := by
 obtain ⟨es, cl, h, _⟩ := h
 exact ⟨es, cl, h⟩
theorem Lay.grownMap {w W W' : World} {bs : List (Nat × TypeId × Array Value)} {r : Nat} (h : Lay w W bs) (hg : W.grownBy W' (some r)) (hr : ∃ es cl, W.heap[r]? = some (.map es cl)) (hw : w.heap.size ≤ r) : Lay w W' bs :=
 ⟨h.1.grown hg h.1.size (fun k e => by cases e; exact hw), fun b hb => ⟨(h.2 b hb).1, (h.2 b hb).2.grownMap hg hr⟩⟩
theorem own_grownMap {w w' : World} {base n cap size r : Nat} {e : TypeId} {A : Option Addr} {xs : List Value} (h : Own w base e size A n cap xs) (hg : w.grownBy w' (some r)) (hr : r < base) : Own w' base e size A n cap xs :=
 h.grown hg (fun a ha e => by have := (h.lt ha).1; cases e; omega)
theorem legF_of {t : Town} {dk : Bool} {a v : Int} {ms : List (Int × Wk)} {x : Wk} (hn : (ms.map Prod.fst).Nodup) (hf : ∀ v, fnOf ms v = best t dk freeP a v) (hx : (v, x) ∈ ms) : legF t dk a v = some (x.cost.b, x.cost.c) := by
 unfold legF
 rw [← hf, fnOf_mem hn hx]
 rfl
theorem legF_none {t : Town} {dk : Bool} {a v : Int} {ms : List (Int × Wk)} (hf : ∀ v, fnOf ms v = best t dk freeP a v) (hx : v ∉ ms.map Prod.fst) : legF t dk a v = none := by
 unfold legF
 rw [← hf]
 unfold fnOf
 rw [look_none.2 (fun p hp e => hx (List.mem_map.2 ⟨p, hp, e⟩))]
 rfl
theorem own_one (w : World) (x : Int) : Own (w.alloc (.cells #[.int .i64 x] 3)) w.heap.size 3 1 (some ⟨w.heap.size, 0, none⟩) 1 1 [.int .i64 x] := by
 refine Own.mk_ (Nat.le_refl _) (Blk.new w 3 #[.int .i64 x]) (Nat.le_refl _) (by unfold maxLen; omega) rfl rfl ?_
 intro k hk
 have : k = 0 := by omega
 subst this
 rfl
theorem upI_nodup (l : List Int) : StepsN (upI l) l.length ↔ l.Nodup := by
 have h := apart_nodup (upI_sorted l)
 rw [(upI_perm l).length_eq] at h
 rw [h]
 exact (upI_perm l).nodup_iff
set_option maxRecDepth 100000 in
set_option maxHeartbeats 16000000 in
theorem rounded_in (A : Option Addr) (n c : Nat) (A' : Option Addr) (m d : Nat) (t : Town) (u : Int) (A2 : Option Addr) (n2 c2 : Nat) (st : List Int) (dk : Bool) (w : World)
  (hn : n ≤ 1000) (hm : m ≤ 1000) (hn2 : n2 ≤ 1000) (ht : TownAt w w.heap.size A n A' m t) (hr : IntsAt w w.heap.size A2 n2 st) (hL : Laid w) :
  CallsIn Fence.wide 9 Tryz.prog 75 #[.agg #[.slice A n c, .slice A' m d], .int .i64 u, .slice A2 n2 c2, .bool dk] w (RoundedOut w t u st dk) := by
 have HT := lh ht
 have HL := lh hL
 have HR := lh hr
 have HRL := lh hr.len
 have hl0 := hL.2.2.2
 clear ht hL hr
 refine callsIn_of_wp Tryz.func75 rfl trivial ?_ rfl
 simp only [Tryz.ntmps75, List.size_toArray, List.length_cons, List.length_nil, Nat.reduceAdd, Nat.reduceSub, Array.replicate_succ, Array.replicate_zero, List.push_toArray, List.append_toArray, List.nil_append, List.cons_append]
 gi_wp2
 have Ly := lh (Lay.two w 25 #[.slice A n c, .slice A' m d] 3 #[.int .i64 u])
 generalize ((w.alloc (.cells #[.slice A n c, .slice A' m d] 25)).alloc (.cells #[.int .i64 u] 3)) = w0 at *
 have HUV0 := lh (show IntsAt w0 w0.heap.size (some ⟨w.heap.size + 1, 0, none⟩) 1 [u] from one_int (Ly.out.blk 1 rfl).lt (lyc Ly 1 rfl 0))
 refine ⟨trivial, (callsIn_wide.2 (asked_any A n c A' m d t (some ⟨w.heap.size + 1, 0, none⟩) 1 1 [u] w0 (by unfold maxLen; omega) (by unfold maxLen; omega) (by decide) ((HT.out.below Ly.out.1).more Ly.out.1.size) HUV0.out (HL.out.below Ly.out.1 hl0))).mono ?_⟩
 rintro e W1 ⟨rfl, hb⟩
 replace Ly := lyb Ly hb
 clear hb
 obtain ⟨ee, hee⟩ : ∃ ee, askE t [u] = ee := ⟨_, rfl⟩
 rw [hee]
 have HEE := lh hee
 clear hee
 obtain ⟨x0_0, x0_1⟩ := lyc2 Ly 0 rfl
 have l0_ := Ly.out.lt 0 rfl
 have bad33 : ∀ W : World, Below w.heap.size w W → ¬ (st.length ≤ 6 ∧ hasB t st = true ∧ u ∉ st ∧ st.Nodup) → ee = 0 → RoundedOut w t u st dk (.returned (.tuple #[.map none, .int .i64 33])) W := by
  intro W hW hno he0
  have hE : roundE t u st = 33 := by unfold roundE; rw [if_pos (HEE.out.trans he0), if_neg hno]
  exact ⟨hW, .inl ⟨by rw [hE]; decide, by rw [hE]⟩⟩
 have BAD := lh bad33
 clear bad33
 by_cases h0 : ee = 0
 ·subst h0
  obtain ⟨htb, hhas⟩ := askE_zero HEE.out
  have HG := lh (goodT htb)
  have HUV := lh (hasB_mem hhas u (by simp))
  have hm20 : m ≤ 20 := by have := HG.out.links; have := HT.out.links.len; omega
  clear htb hhas
  by_cases h6 : 6 < n2
  ·have h6' : (6 : Int) < (n2 : Int) := by omega
   gi_wp2
   refine ⟨trivial, ?_⟩
   gi_wp2
   refine ⟨trivial, ?_⟩
   gi_wp2
   exact bodyPost_ret (v := .tuple #[.map none, .int .i64 33]) (by simp [results, Tryz.results75, go_sem]) rfl (BAD.out _ Ly.out.1 (fun h => by have := HRL.out; omega) trivial)
  ·have h6' : ¬ (6 : Int) < (n2 : Int) := by omega
   gi_wp2
   refine ⟨trivial, (callsIn_wide.2 (has_any A n c A' m d t A2 n2 c2 st W1 (by unfold maxLen; omega) (by unfold maxLen; omega) ((HT.out.below Ly.out.1).more Ly.out.1.size) ((HR.out.below Ly.out.1).more Ly.out.1.size))).mono ?_⟩
   rintro e W2 ⟨rfl, hb⟩
   replace Ly := lyb Ly hb
   clear hb x0_0 x0_1 l0_
   obtain ⟨hs, hhs⟩ : ∃ hs, hasB t st = hs := ⟨_, rfl⟩
   rw [hhs]
   have HHS := lh hhs
   clear hhs
   cases hs
   ·gi_wp2
    refine ⟨trivial, ?_⟩
    gi_wp2
    exact bodyPost_ret (v := .tuple #[.map none, .int .i64 33]) (by simp [results, Tryz.results75, go_sem]) rfl (BAD.out _ Ly.out.1 (fun h => by have := h.2.1; rw [HHS.out] at this; cases this) trivial)
   ·gi_wp2
    refine ⟨trivial, (callsIn_wide.2 (contains_int A2 n2 c2 st u W2 ((HR.out.below Ly.out.1).more Ly.out.1.size) (by unfold maxLen; omega))).mono ?_⟩
    rintro e W3 ⟨rfl, hb⟩
    replace Ly := lyb Ly hb
    clear hb
    obtain ⟨hc, hhc⟩ : ∃ hc, memI st u = hc := ⟨_, rfl⟩
    rw [hhc]
    have HHC := lh hhc
    clear hhc
    cases hc
    ·gi_wp2
     refine ⟨trivial, (callsIn_wide.2 (values_any A2 n2 c2 W3)).mono ?_⟩
     rintro e W4 ⟨rfl, rfl⟩
     have hb : Below W3.heap.size W3 (W3.alloc (.cells #[.slice A2 n2 c2] 22)) := (Below.refl _ _).alloc (Nat.le_refl _) _
     replace Ly := lyb Ly hb
     have HBX := lh (Blk.new W3 22 #[.slice A2 n2 c2])
     clear hb
     generalize hG : W3.heap.size = G3 at *
     generalize (W3.alloc (.cells #[.slice A2 n2 c2] 22)) = W4 at *
     clear hG
     gi_wp2
     refine ⟨trivial, (callsIn_wide.2 (sorted_any G3 A2 n2 c2 st W4 (by omega) HBX.out ((HR.out.below Ly.out.1).more Ly.out.1.size))).mono ?_⟩
     rintro e W5 ⟨B, q, rfl, hO, hb⟩
     have HB5 := lh hb
     have HO := lh hO
     clear hb hO
     gi_wp2
     refine ⟨trivial, (callsIn_wide.2 (compact_len _ B st.length q (upI st) W5 HO.out)).mono ?_⟩
     rintro e W6 ⟨k6, rfl, hk6, hiff, hg6⟩
     have HK6 := lh (hiff.trans (upI_nodup st))
     replace Ly := lh (Ly.out.below (HB5.out.grown hg6 HB5.out.size (fun j hj => own_row HO.out hj)))
     clear hiff hg6 HB5 HO HBX
     obtain ⟨nl, hnl⟩ : ∃ nl, st.length = nl := ⟨_, rfl⟩
     rw [hnl] at hk6 HK6
     have HNL := lh hnl
     clear hnl
     have hnn : nl = n2 := HNL.out.symm.trans HRL.out
     subst hnn
     by_cases hlt : k6 < nl
     ·have hlt' : (k6 : Int) < (nl : Int) := by omega
      gi_wp2
      exact bodyPost_ret (v := .tuple #[.map none, .int .i64 33]) (by simp [results, Tryz.results75, go_sem]) rfl (BAD.out _ Ly.out.1 (fun h => by have := HK6.out.2 h.2.2.2; omega) trivial)
     obtain rfl : k6 = nl := by omega
     have hE0 : Hid (roundE t u st = 0) := lh (by unfold roundE; rw [if_pos HEE.out, if_pos ⟨by rw [HNL.out]; omega, HHS.out, (fun h => by have := memI_iff.2 h; rw [HHC.out] at this; cases this), HK6.out.1 rfl⟩])
     have HPL := lh (show ∀ v ∈ u :: st, v ∈ t.places from fun v hv => by
      rcases List.mem_cons.1 hv with rfl | hv
      ·exact HUV.out
      ·exact hasB_mem HHS.out v hv)
     clear hlt hk6 h6 h6' BAD HK6 HHC HHS
     obtain ⟨x0_0, x0_1⟩ := lyc2 Ly 0 rfl
     have l0_ := Ly.out.lt 0 rfl
     have hmm := @run_makeMap Tryz.prog
     gi_upto_region 10 with fail
     clear x0_0 x0_1 l0_
     have HM := lh (show LgMap ((W6.alloc (.map #[] 0)).alloc (.cells #[.slice A n c, .slice A' m d, .bool dk, .func (.func 58) #[] #[]] 107)) W6.heap.size [] from (MapIs.made (β := Leg) (encK := P2.key) (encV := Leg.val) (okK := okP) W6).alloc _)
     have hrg := Ly.out.1.size
     replace Ly := lh ((Ly.out.below ((Below.refl W6.heap.size W6).alloc (Nat.le_refl _) (.map #[] 0))).alloc 107 #[.slice A n c, .slice A' m d, .bool dk, .func (.func 58) #[] #[]])
     rw [World.size_alloc] at Ly
     generalize ((W6.alloc (.map #[] 0)).alloc (.cells #[.slice A n c, .slice A' m d, .bool dk, .func (.func 58) #[] #[]] 107)) = W8 at *
     generalize W6.heap.size = r at *
     have hb8 : Below W8.heap.size W8 (W8.alloc (.cells #[.int .i64 u] 3)) := (Below.refl _ _).alloc (Nat.le_refl _) _
     have HO8 : Hid (Own (W8.alloc (.cells #[.int .i64 u] 3)) W8.heap.size 3 1 (some ⟨W8.heap.size, 0, none⟩) 1 1 [.int .i64 u]) := lh (own_one W8 u)
     have hrlt : r < W8.heap.size := HM.out.lt
     have hbw8 := Ly.out.1.trans (hb8.mono Ly.out.1.size)
     have HR2 := lh ((HR.out.below hbw8).more hbw8.size)
     gi_wp2_with (first | (gi_at_builtin; refine wpListIn_append_any rfl (.tmp 51) (.tmp 52) (by rfl) elem_int rfl HO8.out rfl HR2.out (ints_one _) (by unfold maxLen; omega) (by omega) (by simp) ?_) | fail)
     rintro A8 c8 W9 hown hgr hA8
     have hb9 : Below W8.heap.size W8 W9 := hb8.grown hgr hb8.size (fun j hj => own_row HO8.out hj)
     replace Ly := lyb Ly hb9
     replace HM := lh (HM.out.below hb9 hrlt)
     have HO9 := lh (show Own W9 W8.heap.size 3 1 A8 (k6 + 1) c8 ((u :: st).map (Value.int .i64)) from (by have h := hown; rw [Nat.add_comm 1 k6] at h; exact h))
     have HUL := lh (show (u :: st).length = k6 + 1 from by have := HNL.out; simp; omega)
     rw [Nat.add_comm 1 k6]
     clear hown hgr hA8 hb9 hb8 hbw8 hmm HR2 HO8
     generalize W8.heap.size = G8 at *
     gi_wp2
     gi_loopw [55] (fun v55 wr => ∃ (k : Nat) (lm : List (P2 × Leg)), v55 = .int .i64 k ∧ k ≤ k6 + 1 ∧ Hid (Lay w wr [(w.heap.size, 25, #[.slice A n c, .slice A' m d]), (w.heap.size + 1, 3, #[.int .i64 u]), (r + 1, 107, #[.slice A n c, .slice A' m d, .bool dk, .func (.func 58) #[] #[]])] ∧ LgMap wr r lm ∧ Own wr G8 3 1 A8 (k6 + 1) c8 ((u :: st).map (Value.int .i64)) ∧ (∀ a b, look lm (a, b) = if a ∈ (u :: st).take k then legF t dk a b else none)))
      (fun v55 _ => k6 + 1 - (intOf v55).toNat)
     case atStart => exact ⟨0, [], rfl, by omega, lh ⟨Ly.out, HM.out, HO9.out, fun a b => by simp [look]⟩⟩
     case round =>
      obtain ⟨k, lm, rfl, hk, HS⟩ := hrel
      by_cases hlt : k < k6 + 1
      ·obtain ⟨b, off, x, hA8, hbk, hx, hc⟩ := (ints_of_own HS.out.2.2.1 (Nat.le_refl _)).cell hlt
       subst hA8
       have HX := lh hx
       have hcc : wr.cell? ⟨b, off + k, none⟩ = some (.int .i64 x) := hc
       have y0 := (HS.out.1.blk 2 rfl).cell 0
       have y1 := (HS.out.1.blk 2 rfl).cell 1
       have y2 := (HS.out.1.blk 2 rfl).cell 2
       have y3 := (HS.out.1.blk 2 rfl).cell 3
       have ly := HS.out.1.lt 2 rfl
       clear hx hc
       gi_wp2
       refine ⟨trivial, (callsIn_wide.2 (callsIn_wide.1 (all_in A n c A' m d dk _ _ freeP t x wr hm20 ((HT.out.links.below HS.out.1.1).more HS.out.1.1.size) (free_price wr) HG.out.fine freeP_fair (HPL.out x (List.mem_of_getElem? HX.out)) HG.out.ids))).mono ?_⟩
       rintro e W2 ⟨r2, ms, rfl, hms, hrr, hoks, hfn, hb⟩
       have HMS := lh hms
       have HND := lh (MapIs.nodup wkTy hms)
       have HFN := lh hfn
       have HLa := HS.out.1.below hb
       have HMa := HS.out.2.1.below hb HS.out.2.1.lt
       have HOa := HS.out.2.2.1.below hb (Nat.le_refl _)
       have hrr2 : r < r2 := Nat.lt_of_lt_of_le HS.out.2.1.lt hrr
       clear hms hfn hoks hrr hb y0 y1 y2 y3 ly hcc
       obtain ⟨w1, hr1, hi1, hg1, hs1⟩ := MapIs.range (P := Tryz.prog) (t := 104) Tryz.underlying104 HMS.out
       have hb1 : Below W2.heap.size W2 w1 := (Below.refl _ _).grown hg1 (Nat.le_refl _) (fun k e => by cases e)
       have HI := lh hi1
       have HL1 := lh (HLa.below hb1)
       have HM1 := lh (HMa.below hb1 HMa.lt)
       have HO1 := lh (HOa.below hb1 (Nat.le_refl _))
       have hit : r < W2.heap.size := HMa.lt
       have hlk := HS.out.2.2.2
       have HLK := lh hlk
       clear hi1 hg1 hs1 HLa HMa HOa hb1 hlk
       gi_wp2
       clear hr1
       gi_loopw [] (fun wr2 => ∃ (left pre : List (Int × Wk)) (lm2 : List (P2 × Leg)), Hid (IterIs (Value.int .i64) Wk.val okI wr2 W2.heap.size r2 ms left ∧ (pre ++ left).Perm ms ∧ (∀ p ∈ left, p ∈ ms) ∧ Lay w wr2 [(w.heap.size, 25, #[.slice A n c, .slice A' m d]), (w.heap.size + 1, 3, #[.int .i64 u]), (r + 1, 107, #[.slice A n c, .slice A' m d, .bool dk, .func (.func 58) #[] #[]])] ∧ LgMap wr2 r lm2 ∧ Own wr2 G8 3 1 (some ⟨b, off, none⟩) (k6 + 1) c8 ((u :: st).map (Value.int .i64)) ∧ (∀ a v, look lm2 (a, v) = if (a = x ∧ v ∈ pre.map Prod.fst) ∨ a ∈ (u :: st).take k then legF t dk a v else none)))
        (fun wr2 => iterLeft wr2 W2.heap.size)
       case atStart => exact ⟨ms, [], lm, lh ⟨HI.out, by simp, fun p hp => hp, HL1.out, HM1.out, HO1.out, fun a v => by rw [HLK.out]; simp⟩⟩
       case round =>
        obtain ⟨left, pre, lm2, HS2⟩ := hrel
        rcases HS2.out.1.next (P := Tryz.prog) 0 with ⟨hl, hr⟩ | ⟨i, p, w', hp, hr, hi2, hg2, hs2, he2⟩
        ·gi_wp2
         clear hr
         subst hl
         go_roundw
         case rel =>
          refine ⟨k + 1, lm2, by go_num, by omega, lh ⟨HS2.out.2.2.2.1, HS2.out.2.2.2.2.1, HS2.out.2.2.2.2.2.1, fun a v => ?_⟩⟩
          rw [HS2.out.2.2.2.2.2.2, ← take_snocI HX.out]
          have hpm : (pre.map Prod.fst).Perm (ms.map Prod.fst) := (by have h := HS2.out.2.1; rw [List.append_nil] at h; exact h : pre.Perm ms).map _
          by_cases ha : a = x
          ·subst ha
           by_cases hv : v ∈ pre.map Prod.fst
           ·rw [if_pos (.inl ⟨rfl, hv⟩), if_pos (by simp)]
           ·have hn0 : legF t dk a v = none := legF_none HFN.out (fun h => hv (hpm.mem_iff.2 h))
            rw [hn0]
            simp
          ·simp [ha]
         case measure => simp [intOf]; omega
        ·obtain ⟨kk, y⟩ := p
         have HP := lh hp
         have hmem : (kk, y) ∈ ms := HS2.out.2.2.1 _ (List.mem_of_getElem? hp)
         have HMEM := lh hmem
         have hokk : okP (x, kk) := ⟨okI_of (by have := HG.out.ids x (HPL.out x (List.mem_of_getElem? HX.out)); omega) (by have := HG.out.ids x (HPL.out x (List.mem_of_getElem? HX.out)); omega), HMS.out.ok _ hmem⟩
         have HOKK := lh hokk
         have hitne : (W2.heap.size : Nat) ≠ r := by omega
         have hLb : Lay w w' _ := ⟨HS2.out.2.2.2.1.1.grown hg2 HS2.out.2.2.2.1.1.size (fun j hj => by cases hj; exact Nat.le_trans hrg (Nat.le_of_lt hit)), fun b hb => ⟨(HS2.out.2.2.2.1.2 b hb).1, (HS2.out.2.2.2.1.2 b hb).2.grown hg2 (fun e => by
          have h1 := (HS2.out.2.2.2.1.2 b hb).2
          obtain ⟨o, ho, hw⟩ := HS2.out.1.iter_walk
          unfold Blk at h1
          rw [Option.some.inj e, ho] at h1
          cases h1
          cases hw)⟩⟩
         have hMb : LgMap w' r lm2 := HS2.out.2.2.2.2.1.grown hg2 (fun e => hitne (Option.some.inj e).symm)
         have hOb : Own w' G8 _ 1 (some ⟨b, off, none⟩) (k6 + 1) c8 ((u :: st).map (Value.int .i64)) := HS2.out.2.2.2.2.2.1.grown hg2 (fun a ha e => by
          have h1 := own_blk HS2.out.2.2.2.2.2.1 a.block (by rw [ha]; rfl)
          obtain ⟨t1, cs1, h1⟩ := h1
          obtain ⟨o, ho, hw⟩ := HS2.out.1.iter_walk
          unfold Blk at h1
          rw [Option.some.inj e, ho] at h1
          cases h1
          cases hw)
         have hbx : Below w'.heap.size w' (w'.alloc (.cells #[.int .i64 y.to, .int .i64 y.cost.a, .int .i64 y.cost.b, .int .i64 y.cost.c, .int .i64 y.cost.d, .slice y.A y.n y.cap] 99)) := (Below.refl _ _).alloc (Nat.le_refl _) _
         have HLx := lh (hLb.below hbx)
         have HMx := lh (hMb.below hbx hMb.lt)
         have HOx := lh (hOb.below hbx (Nat.le_refl _))
         have HIx := lh (hi2.below hbx hi2.map.lt hi2.lt)
         have HBX := lh (Blk.new w' 99 #[.int .i64 y.to, .int .i64 y.cost.a, .int .i64 y.cost.b, .int .i64 y.cost.c, .int .i64 y.cost.d, .slice y.A y.n y.cap])
         clear hp hmem hokk hLb hMb hOb hbx hi2 hg2 hs2
         gi_upto_region 16 with fail
         clear hr he2
         generalize hG9 : w'.heap.size = G9 at *
         generalize (w'.alloc (.cells #[.int .i64 y.to, .int .i64 y.cost.a, .int .i64 y.cost.b, .int .i64 y.cost.c, .int .i64 y.cost.d, .slice y.A y.n y.cap] 99)) = W9x at *
         clear hG9
         have v1 := HBX.out.cell 1
         have v2 := HBX.out.cell 2
         have v3 := HBX.out.cell 3
         have v4 := HBX.out.cell 4
         have vl := HBX.out.lt
         gi_wp2
         refine ⟨trivial, (callsIn_wide.2 (toil_any y.cost W9x)).mono ?_⟩
         rintro e W10 ⟨rfl, hb10⟩
         have hL10 := HLx.out.below hb10
         have hM10 := HMx.out.below hb10 HMx.out.lt
         have hO10 := HOx.out.below hb10 (Nat.le_refl _)
         have hI10 := HIx.out.below hb10 HIx.out.map.lt HIx.out.lt
         obtain ⟨w11, hup, hm11, hg11, hs11⟩ := MapIs.update (P := Tryz.prog) lgTy hM10 HOKK.out (y.cost.b, y.cost.c)
         have hup' : (Instr.mapUpdate 127 (.map (some r)) (.agg #[.int .i64 x, .int .i64 kk]) (.agg #[.int .i64 y.cost.b, .int .i64 y.cost.c])).run Tryz.prog W10 = .ok () w11 := hup
         have HM11 := lh hm11
         have HL11 := lh (hL10.grownMap hg11 (lg_form hM10) hrg)
         have HO11 := lh (own_grownMap hO10 hg11 hrlt)
         have HI11 := lh (hI10.grown hg11 (fun e => by cases e; omega) (fun e => by cases e; omega))
         clear hb10 hL10 hM10 hO10 hI10 hup hm11 hg11 hs11 v1 v2 v3 v4 vl
         gi_wp2
         go_roundw
         case rel =>
          refine ⟨left.eraseIdx i, pre ++ [(kk, y)], _, lh ⟨HI11.out, ?_, fun p hp => HS2.out.2.2.1 p (List.mem_of_mem_eraseIdx hp), HL11.out, HM11.out, HO11.out, fun a v => ?_⟩⟩
          ·rw [List.append_assoc]
           exact ((perm_erase HP.out).append_left _).trans HS2.out.2.1
          ·rw [look_put, HS2.out.2.2.2.2.2.2]
           by_cases h1 : a = x ∧ v = kk
           ·obtain ⟨rfl, rfl⟩ := h1
            rw [if_pos rfl, if_pos (.inl ⟨rfl, by simp⟩), legF_of HND.out HFN.out HMEM.out]
           ·rw [if_neg (fun e => h1 (by simpa using e))]
            have e2 : ((a = x ∧ v ∈ (pre ++ [(kk, y)]).map Prod.fst) ∨ a ∈ (u :: st).take k) = ((a = x ∧ v ∈ pre.map Prod.fst) ∨ a ∈ (u :: st).take k) := by
             apply propext
             constructor
             ·rintro (⟨h2, h3⟩ | h2)
              ·rw [List.map_append, List.mem_append] at h3
               rcases h3 with h3 | h3
               ·exact .inl ⟨h2, h3⟩
               ·exact absurd ⟨h2, by simpa using h3⟩ h1
              ·exact .inr h2
             ·rintro (⟨h2, h3⟩ | h2)
              ·exact .inl ⟨h2, by rw [List.map_append, List.mem_append]; exact .inl h3⟩
              ·exact .inr h2
            simp only [e2]
         case measure =>
          have h2 := (List.getElem?_eq_some_iff.1 HP.out).1
          rw [HI11.out.left_eq, HS2.out.1.left_eq, List.length_eraseIdx_of_lt h2]
          omega
      ·obtain rfl : k = k6 + 1 := by omega
       gi_wp2
       refine bodyPost_ret (v := .tuple #[.map (some r), .int .i64 0]) (by simp [results, Tryz.results75, go_sem]) rfl ⟨HS.out.1.1, .inr ⟨hE0.out, r, lm, rfl, HS.out.2.1, ?_⟩⟩
       have h := HS.out.2.2.2
       rwa [List.take_of_length_le (by rw [HUL.out]; exact Nat.le_refl _)] at h
    ·gi_wp2
     exact bodyPost_ret (v := .tuple #[.map none, .int .i64 33]) (by simp [results, Tryz.results75, go_sem]) rfl (BAD.out _ Ly.out.1 (fun h => h.2.2.1 (memI_iff.1 HHC.out)) trivial)
 ·have h1 : (ee != 0) = true := by simpa using h0
  have HE0 := lh h0
  clear h0
  gi_wp2
  have hE : roundE t u st = ee := by unfold roundE; rw [HEE.out, if_neg HE0.out]
  exact bodyPost_ret (v := .tuple #[.map none, .int .i64 (ee)]) (by simp [results, Tryz.results75, go_sem]) rfl ⟨Ly.out.1, .inl ⟨by rw [hE]; exact HE0.out, by rw [hE]⟩⟩
theorem rounded_any (A : Option Addr) (n c : Nat) (A' : Option Addr) (m d : Nat) (t : Town) (u : Int) (A2 : Option Addr) (n2 c2 : Nat) (st : List Int) (dk : Bool) (w : World)
  (hn : n ≤ 1000) (hm : m ≤ 1000) (hn2 : n2 ≤ 1000) (ht : TownAt w w.heap.size A n A' m t) (hr : IntsAt w w.heap.size A2 n2 st) (hL : Laid w) :
  Calls Tryz.prog 75 #[.agg #[.slice A n c, .slice A' m d], .int .i64 u, .slice A2 n2 c2, .bool dk] w (RoundedOut w t u st dk) :=
 callsIn_wide.1 (rounded_in A n c A' m d t u A2 n2 c2 st dk w hn hm hn2 ht hr hL)
end
section
open Go.RowKit Go.Shelf
theorem legF_small {t : Town} {dk : Bool} {a b : Int} {s : Leg} (hg : GoodT t) (h : legF t dk a b = some s) : (0 ≤ s.1 ∧ s.1 ≤ 16000) ∧ 0 ≤ s.2 ∧ s.2 ≤ 16000 := by
 unfold legF at h
 have hF := best_first hg.fine freeP_fair dk a b
 cases hb : best t dk freeP a b with
 | none => rw [hb] at h; cases h
 | some q =>
  obtain ⟨c, l⟩ := q
  rw [hb] at h hF
  cases h
  have h1 := hF.short hg.fine freeP_fair
  have h2 := hF.1.bound hg.fine freeP_fair
  dsimp only
  omega
theorem legs_small {w : World} {r : Nat} {t : Town} {dk : Bool} {D : List Int} {lm : List (P2 × Leg)} (hg : GoodT t) (h : LegsAt w r t dk D lm) : ∀ p ∈ lm, (0 ≤ p.2.1 ∧ p.2.1 ≤ 16000) ∧ 0 ≤ p.2.2 ∧ p.2.2 ≤ 16000 := by
 rintro ⟨⟨a, b⟩, s⟩ hp
 have h1 := look_of_mem (MapIs.nodup lgTy h.map) hp
 rw [h.look] at h1
 split at h1
 ·exact legF_small hg h1
 ·cases h1
theorem LegsAt.lg {w : World} {r : Nat} {t : Town} {dk : Bool} {D : List Int} {lm : List (P2 × Leg)} (h : LegsAt w r t dk D lm) {a : Int} (ha : a ∈ D) (b : Int) : legD lm a b = (legF t dk a b).getD (0, 0) ∧ legB lm a b = (legF t dk a b).isSome := by
 unfold legD legB
 rw [h.look, if_pos ha]
 exact ⟨rfl, rfl⟩
theorem roundE_zero {t : Town} {u : Int} {st : List Int} (h : roundE t u st = 0) : GoodT t ∧ st.length ≤ 6 ∧ (∀ v ∈ u :: st, v ∈ t.places) ∧ u ∉ st ∧ st.Nodup := by
 unfold roundE at h
 split at h
 ·rename_i h0
  obtain ⟨htb, hhas⟩ := askE_zero h0
  split at h
  ·rename_i h1
   refine ⟨goodT htb, h1.1, fun v hv => ?_, h1.2.2.1, h1.2.2.2⟩
   rcases List.mem_cons.1 hv with rfl | hv
   ·exact hasB_mem hhas v (by simp)
   ·exact hasB_mem h1.2.1 v hv
  ·cases h
 ·rename_i h0; exact absurd h h0
def orderR (t : Town) (u : Int) (st : List Int) (dk : Bool) : Option Leg := if roundE t u st = 0 then ordG (legF t dk) u u (0, 0) st else none
def orderE (t : Town) (u : Int) (st : List Int) (dk : Bool) : Int := if roundE t u st = 0 then (if (orderR t u st dk).isSome then 0 else 6) else roundE t u st
set_option maxRecDepth 100000 in
set_option maxHeartbeats 16000000 in
theorem order_in (A : Option Addr) (n c : Nat) (A' : Option Addr) (m d : Nat) (t : Town) (u : Int) (A2 : Option Addr) (n2 c2 : Nat) (st : List Int) (dk : Bool) (w : World)
  (hn : n ≤ 1000) (hm : m ≤ 1000) (hn2 : n2 ≤ 1000) (ht : TownAt w w.heap.size A n A' m t) (hr : IntsAt w w.heap.size A2 n2 st) (hL : Laid w) :
  CallsIn Fence.wide 9 Tryz.prog 32 #[.agg #[.slice A n c, .slice A' m d], .int .i64 u, .slice A2 n2 c2, .bool dk] w (ToilOut w ((orderR t u st dk).getD (0, 0)) (orderE t u st dk)) := by
 have HT := lh ht
 have HL := lh hL
 have HR := lh hr
 have HRL := lh hr.len
 have hl0 := hL.2.2.2
 clear ht hL hr
 refine callsIn_of_wp Tryz.func32 rfl trivial ?_ rfl
 simp only [Tryz.ntmps32, List.size_toArray, List.length_cons, List.length_nil, Nat.reduceAdd, Nat.reduceSub, Array.replicate_succ, Array.replicate_zero, List.push_toArray, List.append_toArray, List.nil_append, List.cons_append]
 gi_wp2
 have Ly := lh (Lay.two w 25 #[.slice A n c, .slice A' m d] 34 #[.int .i64 0, .int .i64 0])
 generalize ((w.alloc (.cells #[.slice A n c, .slice A' m d] 25)).alloc (.cells #[.int .i64 0, .int .i64 0] 34)) = w0 at *
 refine ⟨trivial, (callsIn_wide.2 (rounded_any A n c A' m d t u A2 n2 c2 st dk w0 hn hm hn2 ((HT.out.below Ly.out.1).more Ly.out.1.size) ((HR.out.below Ly.out.1).more Ly.out.1.size) (HL.out.below Ly.out.1 hl0))).mono ?_⟩
 rintro e W1 ⟨hb, (⟨hne, rfl⟩ | ⟨he0, r, lm, rfl, hlg⟩)⟩
 ·replace Ly := lyb Ly hb
  clear hb
  obtain ⟨ee, hee⟩ : ∃ ee, roundE t u st = ee := ⟨_, rfl⟩
  rw [hee] at hne ⊢
  have HEE := lh hee
  have h1 : (ee != 0) = true := by simpa using hne
  have HNE := lh hne
  clear hee hne
  have x1_0 := lyc Ly 1 rfl 0
  have z1_0 := lyf Ly 1 rfl 0
  have x1_1 := lyc Ly 1 rfl 1
  have z1_1 := lyf Ly 1 rfl 1
  have l1_ := Ly.out.lt 1 rfl
  gi_wp2
  have R1 := ret2 (Ly.out.blk 1 rfl) Ly.out.1 (by omega) (.int .i64 0) (.int .i64 0)
  have y0 := R1.1.cell 0
  have y1 := R1.1.cell 1
  have h2 : orderR t u st dk = none := by unfold orderR; rw [HEE.out, if_neg HNE.out]
  have h3 : orderE t u st dk = ee := by unfold orderE; rw [HEE.out, if_neg HNE.out]
  exact bodyPost_ret (v := .tuple #[.agg #[.int .i64 0, .int .i64 0], .int .i64 ee]) (by simp [results, Tryz.results32, go_sem, y0, y1]) rfl ⟨by rw [h2, h3]; rfl, R1.2⟩
 ·replace Ly := lyb Ly hb
  clear hb
  obtain ⟨hgt, hl6, hpl, _, _⟩ := roundE_zero he0
  have HE0 := lh he0
  have HG := lh hgt
  have HPL := lh hpl
  have HLG := lh hlg
  have hn6 : n2 ≤ 6 := by have := HRL.out; omega
  clear he0 hgt hl6 hpl hlg
  gi_upto_region 5 with fail
  have HG0 : Hid (r < W1.heap.size) := lh HLG.out.map.lt
  have hbA : Below W1.heap.size W1 (W1.alloc (.cells #[.int .i64 0, .int .i64 0] 34)) := (Below.refl _ _).alloc (Nat.le_refl _) _
  have hG1 := Ly.out.lt 1 rfl
  replace Ly := lh (Ly.out.alloc 34 #[.int .i64 0, .int .i64 0])
  have HM := lh (HLG.out.map.below hbA HG0.out)
  have HLK := lh HLG.out.look
  have HSM := lh (legs_small HG.out HLG.out)
  have hwG := HLG.out.map.lt
  have hw0 : w.heap.size ≤ W1.heap.size := by have := Ly.out.ge 2 rfl; omega
  clear hbA HLG
  generalize (W1.alloc (.cells #[.int .i64 0, .int .i64 0] 34)) = W2 at *
  generalize W1.heap.size = G at *
  gi_wp2
  gi_loopw [12, 34] (fun v12 v34 wr => ∃ (i : Nat) (p : Int) (s1 s2 : Int), v12 = .int .i64 p ∧ v34 = .int .i64 i ∧ i ≤ n2 + 1 ∧ (0 ≤ s1 ∧ s1 ≤ 16000 * i) ∧ (0 ≤ s2 ∧ s2 ≤ 16000 * i) ∧ Hid (p ∈ u :: st ∧ (i ≤ n2 → ordG (legF t dk) u p (s1, s2) (st.drop i) = ordG (legF t dk) u u (0, 0) st) ∧ (i = n2 + 1 → ordG (legF t dk) u u (0, 0) st = some (s1, s2)) ∧ Lay w wr [(w.heap.size, 25, #[.slice A n c, .slice A' m d]), (w.heap.size + 1, 34, #[.int .i64 0, .int .i64 0]), (G, 34, #[.int .i64 s1, .int .i64 s2])] ∧ LgMap wr r lm))
   (fun _ v34 _ => n2 + 1 - (intOf v34).toNat)
  case atStart => exact ⟨0, u, 0, 0, rfl, rfl, by omega, by omega, by omega, lh ⟨by simp, fun _ => by simp, fun h => by omega, Ly.out, HM.out⟩⟩
  case round =>
   obtain ⟨i, p, s1, s2, rfl, rfl, hi, hs1, hs2, HS⟩ := hrel
   have x2_0 := (HS.out.2.2.2.1.blk 2 rfl).cell 0
   have x2_1 := (HS.out.2.2.2.1.blk 2 rfl).cell 1
   have z2_0 := (HS.out.2.2.2.1.blk 2 rfl).frozen 0
   have z2_1 := (HS.out.2.2.2.1.blk 2 rfl).frozen 1
   have l2_ := HS.out.2.2.2.1.lt 2 rfl
   have x1_0 := (HS.out.2.2.2.1.blk 1 rfl).cell 0
   have z1_0 := (HS.out.2.2.2.1.blk 1 rfl).frozen 0
   have x1_1 := (HS.out.2.2.2.1.blk 1 rfl).cell 1
   have z1_1 := (HS.out.2.2.2.1.blk 1 rfl).frozen 1
   have l1_ := HS.out.2.2.2.1.lt 1 rfl
   by_cases hlt : i < n2 + 1
   ·-- where it goes next
    obtain ⟨nx, hnx⟩ : ∃ nx, (i < n2 → st[i]? = some nx) ∧ (i = n2 → nx = u) := by
     by_cases h : i < n2
     ·exact ⟨st[i]'(by have := HRL.out; omega), fun _ => List.getElem?_eq_getElem _, fun h' => by omega⟩
     ·exact ⟨u, fun h' => absurd h' h, fun _ => rfl⟩
    by_cases hi2 : i < n2
    ·have hsx := hnx.1 hi2
     have HNM := lh (show nx ∈ u :: st from List.mem_cons_of_mem _ (List.mem_of_getElem? hsx))
     have HNX := lh hnx
     obtain ⟨b, off, x, hA2, hbb, hx, hc⟩ := ((HR.out.below HS.out.2.2.2.1.1).more HS.out.2.2.2.1.1.size).cell hi2
     obtain rfl : x = nx := Option.some.inj (hx.symm.trans hsx)
     subst hA2
     have hcc : wr.cell? ⟨b, off + i, none⟩ = some (.int .i64 x) := hc
     clear hsx hx hc hnx
     have HAD := lh (add_any r lm (s1, s2) p x wr HS.out.2.2.2.2 (okI_of (by have := HG.out.ids p (HPL.out p HS.out.1); omega) (by have := HG.out.ids p (HPL.out p HS.out.1); omega)) (okI_of (by have := HG.out.ids x (HPL.out x HNM.out); omega) (by have := HG.out.ids x (HPL.out x HNM.out); omega)) ⟨hs1.1, by simp only; omega⟩ ⟨hs2.1, by simp only; omega⟩ (fun q hq => by have := HSM.out q hq; omega))
     gi_wp2
     refine ⟨trivial, (callsIn_wide.2 HAD.out).mono ?_⟩
     unfold AddOut
     rintro e W3 ⟨rfl, hb3⟩
     have hlg := HLK.out p x
     rw [if_pos HS.out.1] at hlg
     obtain ⟨dd, hdd⟩ : ∃ dd, legD lm p x = dd := ⟨_, rfl⟩
     obtain ⟨ff, hff⟩ : ∃ ff, legB lm p x = ff := ⟨_, rfl⟩
     have hcase : (ff = true ∧ legF t dk p x = some dd) ∨ (ff = false ∧ legF t dk p x = none) := by
      rw [← hdd, ← hff, ← hlg]
      unfold legD legB
      cases look lm (p, x) with
      | none => exact .inr ⟨rfl, rfl⟩
      | some v => exact .inl ⟨rfl, rfl⟩
     rw [hdd, hff]
     obtain ⟨d1, d2⟩ := dd
     dsimp only
     have HC := lh hcase
     have HL3 := lh (HS.out.2.2.2.1.below hb3)
     have HM3 := lh (HS.out.2.2.2.2.below hb3 HS.out.2.2.2.2.lt)
     clear hlg hdd hff hcase hb3 x2_0 x2_1 z2_0 z2_1 l2_ x1_0 x1_1 z1_0 z1_1 l1_ HAD
     have x2_0 := (HL3.out.blk 2 rfl).cell 0
     have x2_1 := (HL3.out.blk 2 rfl).cell 1
     have z2_0 := (HL3.out.blk 2 rfl).frozen 0
     have z2_1 := (HL3.out.blk 2 rfl).frozen 1
     have l2_ := HL3.out.lt 2 rfl
     have x1_0 := (HL3.out.blk 1 rfl).cell 0
     have z1_0 := (HL3.out.blk 1 rfl).frozen 0
     have x1_1 := (HL3.out.blk 1 rfl).cell 1
     have z1_1 := (HL3.out.blk 1 rfl).frozen 1
     have l1_ := HL3.out.lt 1 rfl
     rcases HC.out with ⟨rfl, hdl⟩ | ⟨rfl, hdl⟩
     ·have HDL := lh hdl
      have hdb := legF_small HG.out hdl
      dsimp only at hdb
      clear hdl
      gi_wp2
      have R1 := ret2' (HL3.out.blk 2 rfl) HL3.out.1 hw0 (.int .i64 (s1 + d1)) (.int .i64 (s2 + d2))
      go_roundw
      case rel =>
       refine ⟨i + 1, x, s1 + d1, s2 + d2, rfl, by go_num, by omega, by omega, by omega, lh ⟨HNM.out, ?_, ?_, ⟨R1.2.1, fun b hb => ?_⟩, HM3.out.grown R1.2.2 (fun e => by cases e; omega)⟩⟩
       ·intro _
        have hxx := HNX.out.1 (by first | omega | trivial)
        rw [← HS.out.2.1 (by omega)]
        have hlx := (List.getElem?_eq_some_iff.1 hxx).1
        rw [List.drop_eq_getElem_cons hlx, (List.getElem?_eq_some_iff.1 hxx).2]
        simp only [ordG, HDL.out]
        rfl
       ·intro hi'
        omega
       ·simp only [List.mem_cons, List.not_mem_nil, or_false] at hb
        rcases hb with rfl | rfl | rfl
        ·exact ⟨(HL3.out.2 _ (by simp)).1, (HL3.out.blk 0 rfl).grown R1.2.2 (fun e => by have := Option.some.inj e; omega)⟩
        ·exact ⟨(HL3.out.2 _ (by simp)).1, (HL3.out.blk 1 rfl).grown R1.2.2 (fun e => by have := Option.some.inj e; omega)⟩
        ·exact ⟨hw0, R1.1⟩
      case measure => simp [intOf]; omega
     ·have HDL := lh hdl
      clear hdl
      gi_wp2
      have hno : ordG (legF t dk) u u (0, 0) st = none := by
       have hxx := HNX.out.1 (by first | omega | trivial)
       rw [← HS.out.2.1 (by omega)]
       have hlx := (List.getElem?_eq_some_iff.1 hxx).1
       rw [List.drop_eq_getElem_cons hlx, (List.getElem?_eq_some_iff.1 hxx).2]
       simp only [ordG, HDL.out]
      have Ra := ret2' (HL3.out.blk 2 rfl) HL3.out.1 hw0 (.int .i64 (s1 + d1)) (.int .i64 (s2 + d2))
      have R1 := ret2 ((HL3.out.blk 1 rfl).grown Ra.2.2 (fun e => by have := Option.some.inj e; omega)) Ra.2.1 (by omega) (.int .i64 0) (.int .i64 0)
      have y0 := R1.1.cell 0
      have y1 := R1.1.cell 1
      have h2 : orderR t u st dk = none := by unfold orderR; rw [if_pos HE0.out, hno]
      have h3 : orderE t u st dk = 6 := by unfold orderE; rw [if_pos HE0.out, h2]; rfl
      exact bodyPost_ret (v := .tuple #[.agg #[.int .i64 0, .int .i64 0], .int .i64 6]) (by simp [results, Tryz.results32, go_sem, y0, y1]) rfl ⟨by rw [h2, h3]; rfl, R1.2⟩
    ·obtain rfl : i = n2 := by omega
     obtain rfl : nx = u := hnx.2 rfl
     have HNM := lh (show nx ∈ nx :: st from List.mem_cons_self)
     have HNX := lh hnx
     clear hnx
     have HAD := lh (add_any r lm (s1, s2) p nx wr HS.out.2.2.2.2 (okI_of (by have := HG.out.ids p (HPL.out p HS.out.1); omega) (by have := HG.out.ids p (HPL.out p HS.out.1); omega)) (okI_of (by have := HG.out.ids nx (HPL.out nx HNM.out); omega) (by have := HG.out.ids nx (HPL.out nx HNM.out); omega)) ⟨hs1.1, by simp only; omega⟩ ⟨hs2.1, by simp only; omega⟩ (fun q hq => by have := HSM.out q hq; omega))
     gi_wp2
     refine ⟨trivial, (callsIn_wide.2 HAD.out).mono ?_⟩
     unfold AddOut
     rintro e W3 ⟨rfl, hb3⟩
     have hlg := HLK.out p nx
     rw [if_pos HS.out.1] at hlg
     obtain ⟨dd, hdd⟩ : ∃ dd, legD lm p nx = dd := ⟨_, rfl⟩
     obtain ⟨ff, hff⟩ : ∃ ff, legB lm p nx = ff := ⟨_, rfl⟩
     have hcase : (ff = true ∧ legF t dk p nx = some dd) ∨ (ff = false ∧ legF t dk p nx = none) := by
      rw [← hdd, ← hff, ← hlg]
      unfold legD legB
      cases look lm (p, nx) with
      | none => exact .inr ⟨rfl, rfl⟩
      | some v => exact .inl ⟨rfl, rfl⟩
     rw [hdd, hff]
     obtain ⟨d1, d2⟩ := dd
     dsimp only
     have HC := lh hcase
     have HL3 := lh (HS.out.2.2.2.1.below hb3)
     have HM3 := lh (HS.out.2.2.2.2.below hb3 HS.out.2.2.2.2.lt)
     clear hlg hdd hff hcase hb3 x2_0 x2_1 z2_0 z2_1 l2_ x1_0 x1_1 z1_0 z1_1 l1_ HAD
     have x2_0 := (HL3.out.blk 2 rfl).cell 0
     have x2_1 := (HL3.out.blk 2 rfl).cell 1
     have z2_0 := (HL3.out.blk 2 rfl).frozen 0
     have z2_1 := (HL3.out.blk 2 rfl).frozen 1
     have l2_ := HL3.out.lt 2 rfl
     have x1_0 := (HL3.out.blk 1 rfl).cell 0
     have z1_0 := (HL3.out.blk 1 rfl).frozen 0
     have x1_1 := (HL3.out.blk 1 rfl).cell 1
     have z1_1 := (HL3.out.blk 1 rfl).frozen 1
     have l1_ := HL3.out.lt 1 rfl
     rcases HC.out with ⟨rfl, hdl⟩ | ⟨rfl, hdl⟩
     ·have HDL := lh hdl
      have hdb := legF_small HG.out hdl
      dsimp only at hdb
      clear hdl
      gi_wp2
      have R1 := ret2' (HL3.out.blk 2 rfl) HL3.out.1 hw0 (.int .i64 (s1 + d1)) (.int .i64 (s2 + d2))
      go_roundw
      case rel =>
       refine ⟨i + 1, nx, s1 + d1, s2 + d2, rfl, by go_num, by omega, by omega, by omega, lh ⟨HNM.out, ?_, ?_, ⟨R1.2.1, fun b hb => ?_⟩, HM3.out.grown R1.2.2 (fun e => by cases e; omega)⟩⟩
       ·intro hi'
        omega
       ·intro _
        rw [← HS.out.2.1 (by first | omega | trivial), List.drop_of_length_le (by have := HRL.out; omega)]
        simp only [ordG, HDL.out]
        try rfl
       ·simp only [List.mem_cons, List.not_mem_nil, or_false] at hb
        rcases hb with rfl | rfl | rfl
        ·exact ⟨(HL3.out.2 _ (by simp)).1, (HL3.out.blk 0 rfl).grown R1.2.2 (fun e => by have := Option.some.inj e; omega)⟩
        ·exact ⟨(HL3.out.2 _ (by simp)).1, (HL3.out.blk 1 rfl).grown R1.2.2 (fun e => by have := Option.some.inj e; omega)⟩
        ·exact ⟨hw0, R1.1⟩
      case measure => simp [intOf] <;> omega
     ·have HDL := lh hdl
      clear hdl
      gi_wp2
      have hno : ordG (legF t dk) nx nx (0, 0) st = none := by
       rw [← HS.out.2.1 (by first | omega | trivial), List.drop_of_length_le (by have := HRL.out; omega)]
       simp only [ordG, HDL.out]
       try rfl
      have Ra := ret2' (HL3.out.blk 2 rfl) HL3.out.1 hw0 (.int .i64 (s1 + d1)) (.int .i64 (s2 + d2))
      have R1 := ret2 ((HL3.out.blk 1 rfl).grown Ra.2.2 (fun e => by have := Option.some.inj e; omega)) Ra.2.1 (by omega) (.int .i64 0) (.int .i64 0)
      have y0 := R1.1.cell 0
      have y1 := R1.1.cell 1
      have h2 : orderR t nx st dk = none := by unfold orderR; rw [if_pos HE0.out, hno]
      have h3 : orderE t nx st dk = 6 := by unfold orderE; rw [if_pos HE0.out, h2]; rfl
      exact bodyPost_ret (v := .tuple #[.agg #[.int .i64 0, .int .i64 0], .int .i64 6]) (by simp [results, Tryz.results32, go_sem, y0, y1]) rfl ⟨by rw [h2, h3]; rfl, R1.2⟩
   ·obtain rfl : i = n2 + 1 := by omega
    gi_wp2
    have R1 := ret2 (HS.out.2.2.2.1.blk 1 rfl) HS.out.2.2.2.1.1 (by omega) (.int .i64 s1) (.int .i64 s2)
    have y0 := R1.1.cell 0
    have y1 := R1.1.cell 1
    have h2 : orderR t u st dk = some (s1, s2) := by unfold orderR; rw [if_pos HE0.out, HS.out.2.2.1 trivial]
    have h3 : orderE t u st dk = 0 := by unfold orderE; rw [if_pos HE0.out, h2]; rfl
    exact bodyPost_ret (v := .tuple #[.agg #[.int .i64 s1, .int .i64 s2], .int .i64 0]) (by simp [results, Tryz.results32, go_sem, y0, y1]) rfl ⟨by rw [h2, h3]; rfl, R1.2⟩
theorem order_any (A : Option Addr) (n c : Nat) (A' : Option Addr) (m d : Nat) (t : Town) (u : Int) (A2 : Option Addr) (n2 c2 : Nat) (st : List Int) (dk : Bool) (w : World)
  (hn : n ≤ 1000) (hm : m ≤ 1000) (hn2 : n2 ≤ 1000) (ht : TownAt w w.heap.size A n A' m t) (hr : IntsAt w w.heap.size A2 n2 st) (hL : Laid w) :
  Calls Tryz.prog 32 #[.agg #[.slice A n c, .slice A' m d], .int .i64 u, .slice A2 n2 c2, .bool dk] w (ToilOut w ((orderR t u st dk).getD (0, 0)) (orderE t u st dk)) :=
 callsIn_wide.1 (order_in A n c A' m d t u A2 n2 c2 st dk w hn hm hn2 ht hr hL)
end
end Go.Proofs.YtahkjagjcogeiaaGreatDoor
