/- Part 12 of the texts of this claim, joined. -/
import Derived.Sort.LoopGhostIn
import Derived.ChangeKeysEq
import Derived.Test.YtahkjagjcogeiaaGreatDoorRows
import Derived.ProofKit
import Derived.LaidMore
import Derived.LaidHandle
import Derived.Stop.Joined
import Derived.ChangeSame
import Derived.OpenShut
import Derived.Test.YtahkjagjcogeiaaGreatDoorZxNeed11
set_option linter.unusedVariables false
/- The answer's costs: Bellman and Ford. -/
namespace Go.Proofs.YtahkjagjcogeiaaGreatDoor
section
open Go.RowKit Go.Shelf
theorem wpListIn_make_all {F : Fence} {nn : Nat} {P : Program} {w : World} {ops : Array Oper} {rest : List Oper} {o : Oper} {a : Act} {Q : Exit → Act → World → Prop} (hgd : o.guard = none) (l c : Operand) (t : TypeId) (ho : o.op = .makeSlice t l c)
  (e : TypeId) (i : TypeInfo) (z : Value) (h1 : P.underlying t = some (.slice e)) (h2 : P.info? e = some i) (h3 : i.zero = some z) (n : Nat) (hl : a.eval l = .int .i64 n) (hc : a.eval c = .int .i64 n) (hb : i.bytes * n ≤ 140737488355328) (hn : n ≤ maxLen)
  (h : wpListIn F nn P ops Q rest (a.put o.dst (.slice (some ⟨w.heap.size, 0, none⟩) n n)) (w.alloc (.cells (madeCells z.cells (n * i.size)) e))) :
  wpListIn F nn P ops Q (o :: rest) a w := by
 have h63' : (n : Int) ≤ 9223372036854775807 := by
  have h := hn
  simp [maxLen] at h
  omega
 have hb' : (i.bytes : Int) * (n : Int) ≤ 281474976710656 := by
  rw [← Int.natCast_mul]
  omega
 refine wpListIn_plain hgd fun K hK => ?_
 have hr := run_make (P := P) w t e i z h1 h2 h3 .i64 .i64 n n (by omega) (Int.le_refl _) hb' h63'
 simp only [Int.toNat_natCast] at hr
 unfold Oper.wpIn
 refine ⟨?_, ?_⟩
 ·simp [Oper.about, ho]
 ·rw [Oper.semAt_plain F _ _ (by rw [ho]; intro c hc'; cases hc')]
  simp [execOp, ho, hl, hc, hr, Result.andThen]
  exact hK _ _ h
theorem info_rcost : (Tryz.prog.info? 118).map (fun i => (i.zero, i.size, i.bytes)) = some (some (.agg #[.int .i64 0, .int .i64 0, .int .i64 0, .int .i64 0]), 4, 32) := by kernel_rfl
structure RCSt (w : World) (T : Array Value) (p : Price) (E : List (Option Cost)) (W : World) : Prop where
 bel : Below w.heap.size w W
 tb : Blk W w.heap.size 25 T
 pb : Blk W (w.heap.size + 1) 122 #[.int .i64 p.pace, .int .i64 p.up, .int .i64 p.step]
 eb : Blk W (w.heap.size + 1 + 1) 118 (eVals E).toArray
section
variable {w W W' : World} {T : Array Value} {p : Price} {E : List (Option Cost)}
theorem RCSt.below (h : RCSt w T p E W) (hb : Below W.heap.size W W') : RCSt w T p E W' :=
 ⟨h.bel.trans (hb.mono h.bel.size), h.tb.below hb h.tb.lt, h.pb.below hb h.pb.lt, h.eb.below hb h.eb.lt⟩
theorem RCSt.cell (h : RCSt w T p E W) {k : Nat} {r : Option Cost} (hk : E[k]? = some r) : W.cell? ⟨w.heap.size + 1 + 1, k * 4, none⟩ = some (.int .i64 (entC r).a) ∧ W.cell? ⟨w.heap.size + 1 + 1, k * 4 + 1, none⟩ = some (.int .i64 (entC r).b) ∧
  W.cell? ⟨w.heap.size + 1 + 1, k * 4 + 2, none⟩ = some (.int .i64 (entC r).c) ∧ W.cell? ⟨w.heap.size + 1 + 1, k * 4 + 3, none⟩ = some (.int .i64 (entC r).d) := by
 refine ⟨?_, ?_, ?_, ?_⟩
 ·rw [h.eb.cell, List.getElem?_toArray]; exact eVals_at (j := 0) hk (by omega)
 ·rw [h.eb.cell, List.getElem?_toArray]; exact eVals_at (j := 1) hk (by omega)
 ·rw [h.eb.cell, List.getElem?_toArray]; exact eVals_at (j := 2) hk (by omega)
 ·rw [h.eb.cell, List.getElem?_toArray]; exact eVals_at (j := 3) hk (by omega)
theorem RCSt.put (h : RCSt w T p E W) {k : Nat} (hk : k < E.length) (d : Cost) :
  RCSt w T p (E.set k (some d)) ((((W.setCell ⟨w.heap.size + 1 + 1, k * 4, none⟩ (.int .i64 d.a)).setCell ⟨w.heap.size + 1 + 1, k * 4 + 1, none⟩ (.int .i64 d.b)).setCell ⟨w.heap.size + 1 + 1, k * 4 + 2, none⟩ (.int .i64 d.c)).setCell ⟨w.heap.size + 1 + 1, k * 4 + 3, none⟩ (.int .i64 d.d)) := by
 have b := fun {B : Nat} {V : World} (L : Below B V W) (hB : B ≤ w.heap.size + 1 + 1) => (((L.setCell (p := ⟨w.heap.size + 1 + 1, k * 4, none⟩) hB (.int .i64 d.a)).setCell (p := ⟨w.heap.size + 1 + 1, k * 4 + 1, none⟩) hB (.int .i64 d.b)).setCell (p := ⟨w.heap.size + 1 + 1, k * 4 + 2, none⟩) hB (.int .i64 d.c)).setCell (p := ⟨w.heap.size + 1 + 1, k * 4 + 3, none⟩) hB (.int .i64 d.d)
 have l := b (Below.refl (w.heap.size + 1 + 1) W) (Nat.le_refl _)
 refine ⟨b h.bel (by omega), h.tb.below l (by omega), h.pb.below l (by omega), ?_⟩
 have e := (((h.eb.set_ (k * 4) (.int .i64 d.a)).set_ (k * 4 + 1) (.int .i64 d.b)).set_ (k * 4 + 2) (.int .i64 d.c)).set_ (k * 4 + 3) (.int .i64 d.d)
 rw [← eVals_set hk]
 simpa [entC] using e
theorem RCSt.inf (h : RCSt w T p E W) {k : Nat} (hk : E[k]? = some (some zeroC)) : RCSt w T p (E.set k none) (W.setCell ⟨w.heap.size + 1 + 1, k * 4, none⟩ (.int .i64 1000000000)) := by
 have l := (Below.refl (w.heap.size + 1 + 1) W).setCell (p := ⟨w.heap.size + 1 + 1, k * 4, none⟩) (Nat.le_refl _) (.int .i64 1000000000)
 refine ⟨h.bel.setCell (by simp; omega) _, h.tb.below l (by omega), h.pb.below l (by omega), ?_⟩
 have e := h.eb.set_ (k * 4) (.int .i64 1000000000)
 rw [← eVals_inf hk]
 simpa using e
end
theorem dleads_none {W : World} {n : Nat} (x : Link) (v : Int) (dk : Bool) (p : Price) (hr : leads dk p x v = none) (hx : Fit x) (hp : Cheap p) {σ : Type} {of : σ → World} (h1 : ∀ z, Below W.heap.size W (of z)) (h2 : ∀ z W', Below (of z).heap.size (of z) W' → Cls of W') (z : σ) :
  CallsIn Fence.wide n Tryz.prog 112 #[.agg #[.int .i64 x.id, .int .i64 x.fr, .int .i64 x.to, .int .i64 x.steps, .int .i64 x.paces], .int .i64 v, .bool dk, .agg #[.int .i64 p.pace, .int .i64 p.up, .int .i64 p.step]] (of z) fun e w'' => e = .returned (.tuple #[.int .i64 0, .agg #[.int .i64 0, .int .i64 0, .int .i64 0, .int .i64 0], .bool false]) ∧ Cls of w'' :=
 (callsIn_wide.2 (leads_any x v dk p (of z) hx hp)).mono fun e w'' ⟨he, hb⟩ => ⟨by rw [he, hr]; rfl, h2 z _ hb⟩
theorem dleads_some {W : World} {n : Nat} (x : Link) (v : Int) (dk : Bool) (p : Price) (v' : Int) (cx : Cost) (hr : leads dk p x v = some (v', cx)) (hx : Fit x) (hp : Cheap p) {σ : Type} {of : σ → World} (h1 : ∀ z, Below W.heap.size W (of z)) (h2 : ∀ z W', Below (of z).heap.size (of z) W' → Cls of W') (z : σ) :
  CallsIn Fence.wide n Tryz.prog 112 #[.agg #[.int .i64 x.id, .int .i64 x.fr, .int .i64 x.to, .int .i64 x.steps, .int .i64 x.paces], .int .i64 v, .bool dk, .agg #[.int .i64 p.pace, .int .i64 p.up, .int .i64 p.step]] (of z) fun e w'' => e = .returned (.tuple #[.int .i64 v', .agg #[.int .i64 cx.a, .int .i64 cx.b, .int .i64 cx.c, .int .i64 cx.d], .bool true]) ∧ Cls of w'' :=
 (callsIn_wide.2 (leads_any x v dk p (of z) hx hp)).mono fun e w'' ⟨he, hb⟩ => ⟨by rw [he, hr]; rfl, h2 z _ hb⟩
theorem placeI_at {l : List Int} {v : Int} (h : v ∈ l) : ∃ i : Nat, placeI l v = i ∧ l[i]? = some v ∧ i < l.length := by
 have hany : l.any (fun y => y == v) = true := List.any_eq_true.2 ⟨v, h, by simp⟩
 unfold placeI idx
 rw [if_pos hany]
 have hlt : l.findIdx (fun y => y == v) < l.length := List.findIdx_lt_length.2 (by simpa using hany)
 have e : l[l.findIdx (fun y => y == v)] = v := by simpa using List.findIdx_getElem (w := hlt)
 exact ⟨_, rfl, by rw [List.getElem?_eq_getElem hlt, e], hlt⟩
theorem place_cls {W : World} {n' : Nat} (A : Option Addr) (n c : Nat) (A' : Option Addr) (m d : Nat) (t : Town) (id : Int) (i : Nat) (hi : placeI t.places id = i) (hn : n ≤ maxLen) (B : Nat) (hB : B ≤ W.heap.size) (ht : IntsAt W B A n t.places) {σ : Type} {of : σ → World} (h1 : ∀ z, Below W.heap.size W (of z)) (h2 : ∀ z W', Below (of z).heap.size (of z) W' → Cls of W') (z : σ) :
  CallsIn Fence.wide n' Tryz.prog 86 #[.agg #[.slice A n c, .slice A' m d], .int .i64 id] (of z) fun e w'' => e = .returned (.int .i64 (i : Int)) ∧ Cls of w'' :=
 (callsIn_wide.2 (place_any A n c A' m d t id (of z) hn (((ht.more hB).below (h1 z)).more (h1 z).size))).mono fun e w'' ⟨he, hb⟩ => ⟨by rw [he, hi], h2 z _ hb⟩
theorem rplus_cls {W : World} {n : Nat} (x y : Cost) (hx : Small x) (hy : Small y) {σ : Type} {of : σ → World} (h1 : ∀ z, Below W.heap.size W (of z)) (h2 : ∀ z W', Below (of z).heap.size (of z) W' → Cls of W') (z : σ) :
  CallsIn Fence.wide n Tryz.prog 113 #[.agg #[.int .i64 x.a, .int .i64 x.b, .int .i64 x.c, .int .i64 x.d], .agg #[.int .i64 y.a, .int .i64 y.b, .int .i64 y.c, .int .i64 y.d]] (of z) fun e w'' => e = .returned (.agg #[.int .i64 (addC x y).a, .int .i64 (addC x y).b, .int .i64 (addC x y).c, .int .i64 (addC x y).d]) ∧ Cls of w'' :=
 (callsIn_wide.2 (rplus_any x y (of z) hx hy)).mono fun e w'' ⟨he, hb⟩ => ⟨he, h2 z _ hb⟩
theorem rless_cls {W : World} {n : Nat} (x y : Cost) (b : Bool) (hl : lessC x y = b) {σ : Type} {of : σ → World} (h1 : ∀ z, Below W.heap.size W (of z)) (h2 : ∀ z W', Below (of z).heap.size (of z) W' → Cls of W') (z : σ) :
  CallsIn Fence.wide n Tryz.prog 142 #[.agg #[.int .i64 x.a, .int .i64 x.b, .int .i64 x.c, .int .i64 x.d], .agg #[.int .i64 y.a, .int .i64 y.b, .int .i64 y.c, .int .i64 y.d]] (of z) fun e w'' => e = .returned (.bool b) ∧ Cls of w'' :=
 (callsIn_wide.2 (rless_any x y (of z))).mono fun e w'' ⟨he, hb⟩ => ⟨by rw [he, hl], h2 z _ hb⟩
theorem Small.ent {r : Option Cost} (h : ∀ d, r = some d → Little d) : Small (entC r) := by
 cases r with
 | none => exact ⟨by simp [entC, infC], by simp [entC, infC], by simp [entC, infC], by simp [entC, infC]⟩
 | some d =>
  obtain ⟨h1, h2, h3, h4⟩ := h d rfl
  exact ⟨by simp only [entC, Option.getD_some]; omega, by simp only [entC, Option.getD_some]; omega, by simp only [entC, Option.getD_some]; omega, by simp only [entC, Option.getD_some]; omega⟩
def RCostsOut (w : World) (t : Town) (dk : Bool) (p : Price) (to : Int) (n : Nat) (e : Ending) (w' : World) : Prop :=
 ∃ (A : Option Addr) (E : List (Option Cost)), e = .returned (.slice A n n) ∧ EAt w' w'.heap.size A n E ∧ Costs t dk p to E ∧ (∀ (i : Nat) d, E[i]? = some (some d) → Little d) ∧ Below w.heap.size w w'
set_option maxRecDepth 100000 in
set_option maxHeartbeats 16000000 in
theorem rcosts_in (A : Option Addr) (n c : Nat) (A' : Option Addr) (m d : Nat) (p : Price) (t : Town) (dk : Bool) (to : Int) (w : World)
  (hm : m ≤ 20) (ha : IntsAt w w.heap.size A n t.places) (ht : LinksAt w w.heap.size A' m t.links) (hp : Cheap p) (hfine : Fine t) (hfair : Fair p) (hnd : t.places.Nodup) :
  CallsIn Fence.wide 9 Tryz.prog 111 #[.agg #[.slice A n c, .slice A' m d], .int .i64 to, .bool dk, .agg #[.int .i64 p.pace, .int .i64 p.up, .int .i64 p.step]] w (RCostsOut w t dk p to n) := by
 have HT := lh ht
 have HP := lh hp
 have HA := lh ha
 have HFI := lh hfine
 have HFA := lh hfair
 have HND := lh hnd
 have HLm := lh ht.len
 have HLn := lh ha.len
 have hn9 : n ≤ 9 := by have := hfine.size; have := ha.len; omega
 obtain ⟨i0, hi, hz0, hz1, hz2⟩ := info_parts info_rcost
 clear ha ht hp hfine hfair hnd
 refine callsIn_of_wp Tryz.func111 rfl trivial ?_ rfl
 simp only [Tryz.ntmps111, List.size_toArray, List.length_cons, List.length_nil, Nat.reduceAdd, Nat.reduceSub, Array.replicate_succ, Array.replicate_zero, List.push_toArray, List.append_toArray, List.nil_append, List.cons_append]
 gi_wp2_with (first | (gi_at_make; refine wpListIn_make_all rfl _ _ 177 rfl 118 i0 _ rfl hi hz0 n rfl rfl (by rw [hz2]; omega) (by unfold maxLen; omega) ?_) | fail)
 have S0 : RCSt w #[.slice A n c, .slice A' m d] p (List.replicate n (some zeroC)) (((w.alloc (.cells #[.slice A n c, .slice A' m d] 25)).alloc (.cells #[.int .i64 p.pace, .int .i64 p.up, .int .i64 p.step] 122)).alloc (.cells (madeCells #[.int .i64 0, .int .i64 0, .int .i64 0, .int .i64 0] (n * 4)) 118)) := by
  have b := (((Below.refl w.heap.size w).alloc (Nat.le_refl _) (.cells #[.slice A n c, .slice A' m d] 25)).alloc (by simp) (.cells #[.int .i64 p.pace, .int .i64 p.up, .int .i64 p.step] 122)).alloc (by simp; omega) (.cells (madeCells #[.int .i64 0, .int .i64 0, .int .i64 0, .int .i64 0] (n * 4)) 118)
  have X := ((Blk.new w 25 #[.slice A n c, .slice A' m d]).alloc (.cells #[.int .i64 p.pace, .int .i64 p.up, .int .i64 p.step] 122)).alloc (.cells (madeCells #[.int .i64 0, .int .i64 0, .int .i64 0, .int .i64 0] (n * 4)) 118)
  have Y := (Blk.new (w.alloc (.cells #[.slice A n c, .slice A' m d] 25)) 122 #[.int .i64 p.pace, .int .i64 p.up, .int .i64 p.step]).alloc (.cells (madeCells #[.int .i64 0, .int .i64 0, .int .i64 0, .int .i64 0] (n * 4)) 118)
  have U := Blk.new ((w.alloc (.cells #[.slice A n c, .slice A' m d] 25)).alloc (.cells #[.int .i64 p.pace, .int .i64 p.up, .int .i64 p.step] 122)) 118 (madeCells #[.int .i64 0, .int .i64 0, .int .i64 0, .int .i64 0] (n * 4))
  rw [World.size_alloc] at Y
  rw [World.size_alloc, World.size_alloc, made_zero] at U
  rw [made_zero] at b X Y ⊢
  exact ⟨b, X, Y, U⟩
 have HS0 := lh S0
 clear S0
 generalize (((w.alloc (.cells #[.slice A n c, .slice A' m d] 25)).alloc (.cells #[.int .i64 p.pace, .int .i64 p.up, .int .i64 p.step] 122)).alloc (.cells (madeCells #[.int .i64 0, .int .i64 0, .int .i64 0, .int .i64 0] (n * 4)) 118)) = w0 at *
 gi_loopw [10] (fun vi wr => ∃ (k : Nat) (E : List (Option Cost)), k ≤ n ∧ vi = .int .i64 k ∧ Hid (RCSt w #[.slice A n c, .slice A' m d] p E wr ∧ E.length = n ∧ ∀ (i : Nat) v, t.places[i]? = some v → E[i]? = some (if i < k ∧ v ≠ to then none else some zeroC))) (fun vi _ => n - (intOf vi).toNat)
 case atStart =>
  refine ⟨0, _, Nat.zero_le _, rfl, lh ⟨HS0.out, List.length_replicate, fun i v hv => ?_⟩⟩
  rw [if_neg (by omega), List.getElem?_replicate, if_pos (by have := (List.getElem?_eq_some_iff.1 hv).1; have := HLn.out; omega)]
 case round =>
  obtain ⟨k, E, hk, rfl, HS⟩ := hrel
  have t0 := HS.out.1.tb.cell 0
  have t1 := HS.out.1.tb.cell 1
  by_cases hlt : k < n
  ·obtain ⟨b, off, x, rfl, hb, hx, hcell⟩ := (HA.out.below HS.out.1.bel).cell hlt
   have hbl : b < wr.heap.size := Nat.lt_of_lt_of_le hb HS.out.1.bel.size
   have HX := lh hx
   have HE : Hid (E[k]? = some (some zeroC)) := lh (by rw [HS.out.2.2 k x hx, if_neg (by omega)])
   have e1 : ((k + 1 : Nat) : Int) = (k : Int) + 1 := by omega
   clear hx hb
   have c0 := (HS.out.1.cell HE.out).1
   have f0 := HS.out.1.eb.frozen (k * 4)
   by_cases hne : x = to
   ·have HNE := lh hne
    subst hne
    gi_wp2
    refine ⟨⟨k + 1, E, by omega, by rw [e1], lh ⟨HS.out.1, HS.out.2.1, fun i v hv => ?_⟩⟩, by simp [intOf]; omega⟩
    rw [HS.out.2.2 i v hv]
    by_cases hik : i = k
    ·subst hik
     rw [HX.out] at hv
     cases hv
     rw [if_neg (by omega), if_neg (fun h => h.2 rfl)]
    ·by_cases hik2 : i < k
     ·simp [hik2, show i < k + 1 by omega]
     ·simp [hik2, show ¬ i < k + 1 by omega]
   ·have HNE := lh hne
    have HSP := lh (HS.out.1.inf HE.out)
    gi_wp2
    refine ⟨⟨k + 1, E.set k none, by omega, by rw [e1], lh ⟨HSP.out, by rw [List.length_set]; exact HS.out.2.1, fun i v hv => ?_⟩⟩, by simp [intOf]; omega⟩
    by_cases hik : i = k
    ·subst hik
     rw [HX.out] at hv
     cases hv
     rw [if_pos ⟨by omega, HNE.out⟩, List.getElem?_set_self (by rw [HS.out.2.1]; exact hlt)]
    ·rw [List.getElem?_set_ne (Ne.symm hik), HS.out.2.2 i v hv]
     by_cases hik2 : i < k
     ·simp [hik2, show i < k + 1 by omega]
     ·simp [hik2, show ¬ i < k + 1 by omega]
  ·obtain rfl : k = n := by omega
   have HE : Hid (BSt t dk p to 0 0 0 0 E) := lh (BSt.start (by rw [HS.out.2.1, HLn.out]) fun i v hv => by
    have hi' : i < k := by rw [← HLn.out]; exact (List.getElem?_eq_some_iff.1 hv).1
    rw [HS.out.2.2 i v hv]
    by_cases e : v = to
    ·rw [if_neg (fun h => h.2 e), if_pos e]
    ·rw [if_pos ⟨hi', e⟩, if_neg e])
   have HS1 := lh HS.out.1
   clear HS
   gi_wp2
   gi_loopg [11] 9 (fun g vc wr => ∃ (ch : Bool) (q M : Nat) (E : List (Option Cost)), vc = .bool ch ∧ (g = if ch then 9 - q else 0) ∧ (ch = true → q ≤ 8) ∧ Hid (RCSt w #[.slice A k c, .slice A' m d] p E wr ∧ BSt t dk p to q 0 0 M E ∧ M ≤ q * 180 ∧ q ≤ 9 ∧ (ch = false → Stable t dk p E k 0)))
   case atStart => exact ⟨true, 0, 0, E, rfl, rfl, fun _ => Nat.zero_le _, lh ⟨HS1.out, HE.out, Nat.zero_le _, Nat.zero_le _, fun h => by cases h⟩⟩
   case round =>
    obtain ⟨ch, q, M, E1, rfl, hg, hq8, HV⟩ := hrel
    clear HS1 HE
    cases ch with
    | false =>
     gi_wp2
     refine bodyPost_ret (v := .slice (some ⟨w.heap.size + 1 + 1, 0, none⟩) k k) (by simp [results, Tryz.results111, go_sem]) rfl ?_
     have hB := HV.out.2.1
     have hlen : E1.length = k := by rw [hB.len, HLn.out]
     refine ⟨_, E1, rfl, ⟨by rw [eVals_len, hlen], fun h0 => ⟨_, rfl, HV.out.1.eb.lt, fun j u hu => ?_⟩⟩, hB.costs (by rw [HLn.out]; exact HV.out.2.2.2.2 trivial) HFI.out, fun i d hd => hB.little HFI.out HFA.out (by have := HV.out.2.2.1; have := HV.out.2.2.2.1; omega) hd, HV.out.1.bel⟩
     have ha : ((⟨w.heap.size + 1 + 1, 0, none⟩ : Addr).add j) = ⟨w.heap.size + 1 + 1, j, none⟩ := by
      unfold Addr.add
      by_cases hj : j = 0
      ·simp [hj]
      ·simp [hj]
     rw [ha, HV.out.1.eb.cell, List.getElem?_toArray]
     exact hu
    | true =>
     have hq : q ≤ 8 := hq8 rfl
     have hg' : gk = 9 - q := by simpa using hg
     clear hg hq8
     gi_wp2
     gi_loopw [11, 12] (fun vc vi wr => ∃ (ch : Bool) (i M : Nat) (E : List (Option Cost)), vc = .bool ch ∧ vi = .int .i64 i ∧ i ≤ k ∧ Hid (RCSt w #[.slice A k c, .slice A' m d] p E wr ∧ BSt t dk p to q i 0 M E ∧ M ≤ q * 180 + i * 20 ∧ (ch = false → Stable t dk p E i 0) ∧ (ch = true → q ≤ 7))) (fun _ vi _ => k - (intOf vi).toNat)
     case atStart => exact ⟨false, 0, M, E1, rfl, rfl, Nat.zero_le _, lh ⟨HV.out.1, HV.out.2.1, by have := HV.out.2.2.1; omega, fun _ i' v hv j' x hx hor => by omega, fun h => by cases h⟩⟩
     case round =>
      obtain ⟨ch, i, M2, E2, rfl, rfl, hik, HW⟩ := hrel
      clear HV
      have t0 := HW.out.1.tb.cell 0
      have t1 := HW.out.1.tb.cell 1
      by_cases hlt : i < k
      ·gi_wp2
       gi_loopw [11, 50] (fun vc vj wr => ∃ (ch : Bool) (j M : Nat) (E : List (Option Cost)), vc = .bool ch ∧ vj = .int .i64 j ∧ j ≤ m ∧ Hid (RCSt w #[.slice A k c, .slice A' m d] p E wr ∧ BSt t dk p to q i j M E ∧ M ≤ q * 180 + i * 20 + j ∧ (ch = false → Stable t dk p E i j) ∧ (ch = true → q ≤ 7))) (fun _ vj _ => m - (intOf vj).toNat)
       case atStart => exact ⟨ch, 0, M2, E2, rfl, rfl, Nat.zero_le _, HW⟩
       case round =>
        obtain ⟨ch, j, M3, E3, rfl, rfl, hjm, HU⟩ := hrel
        clear HW
        by_cases hjl : j < m
        ·obtain ⟨b, off, x, rfl, hb, hx, l0, l1, l2, l3, l4⟩ := (HT.out.below HU.out.1.bel).cell hjl
         have hbl : b < wr.heap.size := Nat.lt_of_lt_of_le hb HU.out.1.bel.size
         have HX := lh hx
         clear hx hb t0 t1
         gi_wp2
         have HS1 : Hid (RCSt w #[.slice A k c, .slice (some ⟨b, off, none⟩) m d] p E3 (wr.alloc (.cells #[.int .i64 x.id, .int .i64 x.fr, .int .i64 x.to, .int .i64 x.steps, .int .i64 x.paces] 52))) := lh (HU.out.1.below ((Below.refl _ _).alloc (Nat.le_refl _) _))
         have HLB : Hid (Blk (wr.alloc (.cells #[.int .i64 x.id, .int .i64 x.fr, .int .i64 x.to, .int .i64 x.steps, .int .i64 x.paces] 52)) wr.heap.size 52 #[.int .i64 x.id, .int .i64 x.fr, .int .i64 x.to, .int .i64 x.steps, .int .i64 x.paces]) := lh (Blk.new _ _ _)
         clear l0 l1 l2 l3 l4
         generalize (wr.alloc (.cells #[.int .i64 x.id, .int .i64 x.fr, .int .i64 x.to, .int .i64 x.steps, .int .i64 x.paces] 52)) = w1 at *
         have HXM : Hid (x ∈ t.links) := lh (List.mem_of_getElem? HX.out)
         have HFit : Hid (Fit x) := lh ⟨HFI.out.steps x HXM.out, HFI.out.paces x HXM.out⟩
         obtain ⟨b3, off3, v, rfl, hb3, hv3, _⟩ := (HA.out.below HS1.out.bel).cell hlt
         have HV3 := lh hv3
         have hb3l : b3 < w1.heap.size := Nat.lt_of_lt_of_le hb3 HS1.out.bel.size
         have hlbl : wr.heap.size < w1.heap.size := HLB.out.lt
         have htl : w.heap.size < w1.heap.size := HS1.out.tb.lt
         have hpl : w.heap.size + 1 < w1.heap.size := HS1.out.pb.lt
         have hel : w.heap.size + 1 + 1 < w1.heap.size := HS1.out.eb.lt
         have HPC : Hid (∀ W, Below w1.heap.size w1 W → W.cell? ⟨b3, off3 + i, none⟩ = some (.int .i64 v)) := lh (fun W hb => by
          obtain ⟨b4, o4, y, e, _, hy, h⟩ := ((HA.out.below HS1.out.bel).more HS1.out.bel.size |>.below hb).cell hlt
          cases e
          obtain rfl : y = v := Option.some.inj (hy.symm.trans HV3.out)
          exact h)
         have hiI : (0 : Int) ≤ (i : Int) ∧ (i : Int) < (k : Int) := by omega
         clear hb3 hv3
         rcases hld : leads dk p x v with _ | ⟨v', cx⟩
         ·have HLD := lh hld
          clear hld
          refine wpIn_region_new (AF := ?AF1) (fun b => .pointer (some ⟨b, 0, none⟩)) 118 #[.int .i64 0, .int .i64 0, .int .i64 0, .int .i64 0] [0, 1, 2, 3, 4, 5, 6, 7, 8, 9, 10, 11, 12, 14, 16] [15] 13 [true, true, true, true, true, true, true, true, true, true, true, true, true, false, true, false, true] [false, false, false, false, false, false, false, false, false, false, false, false, false, false, false, true, false] (by kernel_rfl) (by kernel_rfl) (by kernel_rfl) (by kernel_rfl) (by kernel_rfl) (below_drewN (Below.refl _ _) 1) rfl rfl rfl ?hq1 ?hf1 ?ht1
          case hq1 =>
           rintro σ hσ of hof hcl
           have HOF := lh hof
           have HCL := lh hcl
           clear hof hcl
           have l0 : ∀ z, (of z).cell? ⟨wr.heap.size, 0, none⟩ = some (.int .i64 x.id) := fun z => (HLB.out.below (HOF.out z) HLB.out.lt).cell 0
           have l1 : ∀ z, (of z).cell? ⟨wr.heap.size, 1, none⟩ = some (.int .i64 x.fr) := fun z => (HLB.out.below (HOF.out z) HLB.out.lt).cell 1
           have l2 : ∀ z, (of z).cell? ⟨wr.heap.size, 2, none⟩ = some (.int .i64 x.to) := fun z => (HLB.out.below (HOF.out z) HLB.out.lt).cell 2
           have l3 : ∀ z, (of z).cell? ⟨wr.heap.size, 3, none⟩ = some (.int .i64 x.steps) := fun z => (HLB.out.below (HOF.out z) HLB.out.lt).cell 3
           have l4 : ∀ z, (of z).cell? ⟨wr.heap.size, 4, none⟩ = some (.int .i64 x.paces) := fun z => (HLB.out.below (HOF.out z) HLB.out.lt).cell 4
           have t0 : ∀ z, (of z).cell? ⟨w.heap.size, 0, none⟩ = some (.slice (some ⟨b3, off3, none⟩) k c) := fun z => (HS1.out.tb.below (HOF.out z) HS1.out.tb.lt).cell 0
           have t1 : ∀ z, (of z).cell? ⟨w.heap.size, 1, none⟩ = some (.slice (some ⟨b, off, none⟩) m d) := fun z => (HS1.out.tb.below (HOF.out z) HS1.out.tb.lt).cell 1
           have p0 : ∀ z, (of z).cell? ⟨w.heap.size + 1, 0, none⟩ = some (.int .i64 p.pace) := fun z => (HS1.out.pb.below (HOF.out z) HS1.out.pb.lt).cell 0
           have p1 : ∀ z, (of z).cell? ⟨w.heap.size + 1, 1, none⟩ = some (.int .i64 p.up) := fun z => (HS1.out.pb.below (HOF.out z) HS1.out.pb.lt).cell 1
           have p2 : ∀ z, (of z).cell? ⟨w.heap.size + 1, 2, none⟩ = some (.int .i64 p.step) := fun z => (HS1.out.pb.below (HOF.out z) HS1.out.pb.lt).cell 2
           have v0 : ∀ z, (of z).cell? ⟨b3, off3 + i, none⟩ = some (.int .i64 v) := fun z => HPC.out _ (HOF.out z)
           have hfw := hfT
           simp only [pickB]
           repeat (gi_big_quiet_step (exact dleads_none x v dk p HLD.out HFit.out HP.out HOF.out HCL.out _))
           refine wpQuietIn_nil ?_
           exact rfl
          case hf1 =>
           intro W hb
           exact ⟨fun f hf => trivial, rfl⟩
          case ht1 =>
           intro cb W hb hbb hR
           have HB := lh hb
           have HBB := lh hbb
           have HR4 := lh hR
           have hbl1 := hR.lt
           have c0 := hR.cell 0
           have c1 := hR.cell 1
           have c2 := hR.cell 2
           have c3 := hR.cell 3
           have d0 := hR.frozen 0
           have d1 := hR.frozen 1
           have d2 := hR.frozen 2
           have d3 := hR.frozen 3
           clear hb hbb hR
           simp only [pickB]
           refine wpE_cons ?_
           gi_wp2
           have R5 := lh (ret4 HR4.out HB.out HBB.out (.int .i64 0) (.int .i64 0) (.int .i64 0) (.int .i64 0))
           refine ⟨R5.out.2, wpE_nil ?_⟩
           have HW5 := lh (HS1.out.below R5.out.2)
           generalize (((W.setCell ⟨cb, 0, none⟩ (.int .i64 0)).setCell ⟨cb, 1, none⟩ (.int .i64 0)).setCell ⟨cb, 2, none⟩ (.int .i64 0)).setCell ⟨cb, 3, none⟩ (.int .i64 0) = W5 at *
           clear c0 c1 c2 c3 d0 d1 d2 d3
           have hbl5 := R5.out.1.lt
           gi_wp2
           have e1 : ((j + 1 : Nat) : Int) = (j : Int) + 1 := by omega
           have hno : ∀ n cx, leads dk p x v = some (n, cx) → ∀ (i2 : Nat) d, t.places[i2]? = some n → E3[i2]? = some (some d) → leE E3 i (addC cx d) := fun n cx h => by
            rw [HLD.out] at h
            cases h
           exact ⟨⟨ch, j + 1, M3, E3, rfl, by rw [e1], by omega, lh ⟨HW5.out, HU.out.2.1.skip HX.out HV3.out hno HFI.out, by have := HU.out.2.2.1; omega, fun h => (HU.out.2.2.2.1 h).step HX.out HV3.out hno, HU.out.2.2.2.2⟩⟩, by simp [intOf]; omega⟩
         ·have HLD := lh hld
          clear hld
          refine wpIn_region_new (AF := ?AF2) (fun b => .pointer (some ⟨b, 0, none⟩)) 118 #[.int .i64 0, .int .i64 0, .int .i64 0, .int .i64 0] [0, 1, 2, 3, 4, 5, 6, 7, 8, 9, 10, 11, 12, 14, 16] [15] 13 [true, true, true, true, true, true, true, true, true, true, true, true, true, false, true, false, true] [false, false, false, false, false, false, false, false, false, false, false, false, false, false, false, true, false] (by kernel_rfl) (by kernel_rfl) (by kernel_rfl) (by kernel_rfl) (by kernel_rfl) (below_drewN (Below.refl _ _) 1) rfl rfl rfl ?hq2 ?hf2 ?ht2
          case hq2 =>
           rintro σ hσ of hof hcl
           have HOF := lh hof
           have HCL := lh hcl
           clear hof hcl
           have l0 : ∀ z, (of z).cell? ⟨wr.heap.size, 0, none⟩ = some (.int .i64 x.id) := fun z => (HLB.out.below (HOF.out z) HLB.out.lt).cell 0
           have l1 : ∀ z, (of z).cell? ⟨wr.heap.size, 1, none⟩ = some (.int .i64 x.fr) := fun z => (HLB.out.below (HOF.out z) HLB.out.lt).cell 1
           have l2 : ∀ z, (of z).cell? ⟨wr.heap.size, 2, none⟩ = some (.int .i64 x.to) := fun z => (HLB.out.below (HOF.out z) HLB.out.lt).cell 2
           have l3 : ∀ z, (of z).cell? ⟨wr.heap.size, 3, none⟩ = some (.int .i64 x.steps) := fun z => (HLB.out.below (HOF.out z) HLB.out.lt).cell 3
           have l4 : ∀ z, (of z).cell? ⟨wr.heap.size, 4, none⟩ = some (.int .i64 x.paces) := fun z => (HLB.out.below (HOF.out z) HLB.out.lt).cell 4
           have t0 : ∀ z, (of z).cell? ⟨w.heap.size, 0, none⟩ = some (.slice (some ⟨b3, off3, none⟩) k c) := fun z => (HS1.out.tb.below (HOF.out z) HS1.out.tb.lt).cell 0
           have t1 : ∀ z, (of z).cell? ⟨w.heap.size, 1, none⟩ = some (.slice (some ⟨b, off, none⟩) m d) := fun z => (HS1.out.tb.below (HOF.out z) HS1.out.tb.lt).cell 1
           have p0 : ∀ z, (of z).cell? ⟨w.heap.size + 1, 0, none⟩ = some (.int .i64 p.pace) := fun z => (HS1.out.pb.below (HOF.out z) HS1.out.pb.lt).cell 0
           have p1 : ∀ z, (of z).cell? ⟨w.heap.size + 1, 1, none⟩ = some (.int .i64 p.up) := fun z => (HS1.out.pb.below (HOF.out z) HS1.out.pb.lt).cell 1
           have p2 : ∀ z, (of z).cell? ⟨w.heap.size + 1, 2, none⟩ = some (.int .i64 p.step) := fun z => (HS1.out.pb.below (HOF.out z) HS1.out.pb.lt).cell 2
           have v0 : ∀ z, (of z).cell? ⟨b3, off3 + i, none⟩ = some (.int .i64 v) := fun z => HPC.out _ (HOF.out z)
           have hfw := hfT
           simp only [pickB]
           repeat (gi_big_quiet_step (exact dleads_some x v dk p v' cx HLD.out HFit.out HP.out HOF.out HCL.out _))
           refine wpQuietIn_nil ?_
           exact rfl
          case hf2 =>
           intro W hb
           exact ⟨fun f hf => trivial, rfl⟩
          case ht2 =>
           intro cb W hb hbb hR
           have HB := lh hb
           have HBB := lh hbb
           have HR4 := lh hR
           have hbl1 := hR.lt
           have c0 := hR.cell 0
           have c1 := hR.cell 1
           have c2 := hR.cell 2
           have c3 := hR.cell 3
           have d0 := hR.frozen 0
           have d1 := hR.frozen 1
           have d2 := hR.frozen 2
           have d3 := hR.frozen 3
           clear hb hbb hR
           simp only [pickB]
           refine wpE_cons ?_
           gi_wp2
           have R5 := lh (ret4 HR4.out HB.out HBB.out (.int .i64 cx.a) (.int .i64 cx.b) (.int .i64 cx.c) (.int .i64 cx.d))
           refine ⟨R5.out.2, wpE_nil ?_⟩
           have HW5 := lh (HS1.out.below R5.out.2)
           generalize (((W.setCell ⟨cb, 0, none⟩ (.int .i64 cx.a)).setCell ⟨cb, 1, none⟩ (.int .i64 cx.b)).setCell ⟨cb, 2, none⟩ (.int .i64 cx.c)).setCell ⟨cb, 3, none⟩ (.int .i64 cx.d) = W5 at *
           clear c0 c1 c2 c3 d0 d1 d2 d3
           have hbl5 := R5.out.1.lt
           obtain ⟨i2, hpi, hi2, hi2l⟩ := placeI_at (leads_ends HXM.out HFI.out HLD.out).2
           have HPI := lh hpi
           have HI2 := lh hi2
           have hi2k : i2 < k := by have := HLn.out; omega
           obtain ⟨r, hr⟩ : ∃ r, E3[i2]? = some r := ⟨_, List.getElem?_eq_getElem (by rw [HU.out.2.1.len]; exact hi2l)⟩
           have HR := lh hr
           have HCX := lh (leads_cost HXM.out HFI.out HFA.out HLD.out)
           have HLT : Hid (∀ (q : Nat) d, E3[q]? = some (some d) → Little d) := lh (fun q d hd => HU.out.2.1.little HFI.out HFA.out (by have := HU.out.2.2.1; omega) hd)
           have HSM : Hid (Small cx ∧ Small (entC r)) := lh ⟨by
            have h1 := HCX.out
            exact ⟨by omega, by omega, by omega, by omega⟩, Small.ent fun d hd => HLT.out i2 d (by rw [HR.out, hd])⟩
           have hi2I : (0 : Int) ≤ (i2 : Int) ∧ (i2 : Int) < (k : Int) := by omega
           clear hpi hi2 hi2l hr
           gi_wp2
           have hcb5 : cb < W5.heap.size := hbl5
           have htl5 : w.heap.size < W5.heap.size := HW5.out.tb.lt
           have hpl5 : w.heap.size + 1 < W5.heap.size := HW5.out.pb.lt
           have hel5 : w.heap.size + 1 + 1 < W5.heap.size := HW5.out.eb.lt
           refine wpIn_region_new (AF := ?AF3) (fun b => .pointer (some ⟨b, 0, none⟩)) 118 #[.int .i64 0, .int .i64 0, .int .i64 0, .int .i64 0] [0, 1, 2, 3, 4, 5, 6, 7] [9] 8 [true, true, true, true, true, true, true, true, false, false] [false, false, false, false, false, false, false, false, false, true] (by kernel_rfl) (by kernel_rfl) (by kernel_rfl) (by kernel_rfl) (by kernel_rfl) (below_drewN (Below.refl _ _) 1) rfl rfl rfl ?hq3 ?hf3 ?ht3
           case hq3 =>
            rintro σ hσ of hof hcl
            have HOF := lh hof
            have HCL := lh hcl
            clear hof hcl
            have q0 : ∀ z, (of z).cell? ⟨cb, 0, none⟩ = some (.int .i64 cx.a) := fun z => (R5.out.1.below (HOF.out z) hbl5).cell 0
            have q1 : ∀ z, (of z).cell? ⟨cb, 1, none⟩ = some (.int .i64 cx.b) := fun z => (R5.out.1.below (HOF.out z) hbl5).cell 1
            have q2 : ∀ z, (of z).cell? ⟨cb, 2, none⟩ = some (.int .i64 cx.c) := fun z => (R5.out.1.below (HOF.out z) hbl5).cell 2
            have q3 : ∀ z, (of z).cell? ⟨cb, 3, none⟩ = some (.int .i64 cx.d) := fun z => (R5.out.1.below (HOF.out z) hbl5).cell 3
            have t0 : ∀ z, (of z).cell? ⟨w.heap.size, 0, none⟩ = some (.slice (some ⟨b3, off3, none⟩) k c) := fun z => (HW5.out.tb.below (HOF.out z) HW5.out.tb.lt).cell 0
            have t1 : ∀ z, (of z).cell? ⟨w.heap.size, 1, none⟩ = some (.slice (some ⟨b, off, none⟩) m d) := fun z => (HW5.out.tb.below (HOF.out z) HW5.out.tb.lt).cell 1
            have v0 : ∀ z, (of z).cell? ⟨w.heap.size + 1 + 1, i2 * 4, none⟩ = some (.int .i64 (entC r).a) := fun z => ((HW5.out.below (HOF.out z)).cell HR.out).1
            have v1 : ∀ z, (of z).cell? ⟨w.heap.size + 1 + 1, i2 * 4 + 1, none⟩ = some (.int .i64 (entC r).b) := fun z => ((HW5.out.below (HOF.out z)).cell HR.out).2.1
            have v2 : ∀ z, (of z).cell? ⟨w.heap.size + 1 + 1, i2 * 4 + 2, none⟩ = some (.int .i64 (entC r).c) := fun z => ((HW5.out.below (HOF.out z)).cell HR.out).2.2.1
            have v3 : ∀ z, (of z).cell? ⟨w.heap.size + 1 + 1, i2 * 4 + 3, none⟩ = some (.int .i64 (entC r).d) := fun z => ((HW5.out.below (HOF.out z)).cell HR.out).2.2.2
            have hfw := hfT
            simp only [pickB]
            repeat (gi_big_quiet_step (first | exact place_cls (some ⟨b3, off3, none⟩) k c (some ⟨b, off, none⟩) m d t v' i2 HPI.out (by unfold maxLen; omega) w.heap.size HW5.out.bel.size (HA.out.below HW5.out.bel) HOF.out HCL.out _ | exact rplus_cls cx (entC r) HSM.out.1 HSM.out.2 HOF.out HCL.out _))
            refine wpQuietIn_nil ?_
            exact rfl
           case hf3 =>
            intro W hb
            exact ⟨fun f hf => trivial, rfl⟩
           case ht3 =>
            intro sb W hb hbb hR
            have HB3 := lh hb
            have HBB3 := lh hbb
            have HR43 := lh hR
            have hbl1 := hR.lt
            have c0 := hR.cell 0
            have c1 := hR.cell 1
            have c2 := hR.cell 2
            have c3 := hR.cell 3
            have d0 := hR.frozen 0
            have d1 := hR.frozen 1
            have d2 := hR.frozen 2
            have d3 := hR.frozen 3
            clear hb hbb hR
            simp only [pickB]
            refine wpE_cons ?_
            gi_wp2
            have R6 := lh (ret4 HR43.out HB3.out HBB3.out (.int .i64 (addC cx (entC r)).a) (.int .i64 (addC cx (entC r)).b) (.int .i64 (addC cx (entC r)).c) (.int .i64 (addC cx (entC r)).d))
            refine ⟨R6.out.2, wpE_nil ?_⟩
            have HW6 := lh (HW5.out.below R6.out.2)
            generalize (((W.setCell ⟨sb, 0, none⟩ (.int .i64 (addC cx (entC r)).a)).setCell ⟨sb, 1, none⟩ (.int .i64 (addC cx (entC r)).b)).setCell ⟨sb, 2, none⟩ (.int .i64 (addC cx (entC r)).c)).setCell ⟨sb, 3, none⟩ (.int .i64 (addC cx (entC r)).d) = W6 at *
            clear c0 c1 c2 c3 d0 d1 d2 d3
            have hbl6 := R6.out.1.lt
            obtain ⟨s, hs⟩ : ∃ s, addC cx (entC r) = s := ⟨_, rfl⟩
            rw [hs] at R6 ⊢
            have HSS := lh hs
            clear hs
            have e1 : ((j + 1 : Nat) : Int) = (j : Int) + 1 := by omega
            obtain ⟨r2, hr2⟩ : ∃ r2, E3[i]? = some r2 := ⟨_, List.getElem?_eq_getElem (by rw [HU.out.2.1.len, HLn.out]; exact hlt)⟩
            have HR2 := lh hr2
            clear hr2
            have HUQ : Hid (∀ (i' : Nat), t.places[i']? = some v' → i' = i2) := lh (fun i' h => by
             have hl := (List.getElem?_eq_some_iff.1 h).1
             exact (List.getElem?_inj hl HND.out).1 (h.trans HI2.out.symm))
            have hsbl : sb < W6.heap.size := hbl6
            have hel6 : w.heap.size + 1 + 1 < W6.heap.size := HW6.out.eb.lt
            cases r with
            | none =>
             have hsa : decide (s.a < 1000000000) = false := by
              have h1 := HCX.out
              have h2 : s.a = cx.a + 1000000000 := by rw [← HSS.out]; rfl
              simp
              omega
             have HNO : Hid (∀ n cx, leads dk p x v = some (n, cx) → ∀ (i2 : Nat) d, t.places[i2]? = some n → E3[i2]? = some (some d) → leE E3 i (addC cx d)) := lh (fun n' cx' h i' d' hp' he' => by
              rw [HLD.out] at h
              cases h
              obtain rfl := HUQ.out i' hp'
              rw [HR.out] at he'
              cases he')
             gi_wp2
             refine wpIn_region_old (AF := ?AF4) [0, 1, 2, 3, 4, 5, 6, 7, 8, 9, 10] [] [true, true, true, true, true, true, true, true, true, true, true] [false, false, false, false, false, false, false, false, false, false, false] (by kernel_rfl) (by kernel_rfl) (by kernel_rfl) (by kernel_rfl) (by kernel_rfl) (below_drewN (Below.refl _ _) 1) ?hq4 ?ht4
             case hq4 =>
              rintro σ hσ of hof hcl
              have HOF := lh hof
              have HCL := lh hcl
              clear hof hcl
              have q0 : ∀ z, (of z).cell? ⟨sb, 0, none⟩ = some (.int .i64 s.a) := fun z => (R6.out.1.below (HOF.out z) hbl6).cell 0
              have hfw := hfT
              simp only [pickB]
              repeat (gi_big_quiet_step (fail))
              refine wpQuietIn_nil ?_
              exact rfl
             case ht4 =>
              intro W hb
              have HW7 := lh (HW6.out.below hb)
              have HS7 := lh (R6.out.1.below hb hbl6)
              have hbl7 : sb < W.heap.size := HS7.out.lt
              clear hb
              simp only [pickB]
              refine wpE_nil ?_
              gi_wp2
              exact ⟨⟨ch, j + 1, M3, E3, rfl, by rw [e1], by omega, lh ⟨HW7.out, HU.out.2.1.skip HX.out HV3.out HNO.out HFI.out, by have := HU.out.2.2.1; omega, fun h => (HU.out.2.2.2.1 h).step HX.out HV3.out HNO.out, HU.out.2.2.2.2⟩⟩, by simp [intOf]; omega⟩
            | some d1 =>
             have hsb : s.a < 1000000000 := by
              have h1 := HCX.out
              have h2 : s.a = cx.a + d1.a := by rw [← HSS.out]; rfl
              have h3 := (HLT.out i2 d1 HR.out).a
              omega
             have hsa : decide (s.a < 1000000000) = true := by simpa using hsb
             have HSB := lh hsb
             clear hsb
             cases hls : lessC s (entC r2) with
             | false =>
              have HLS := lh hls
              clear hls
              have HNO : Hid (∀ n cx, leads dk p x v = some (n, cx) → ∀ (i2 : Nat) d, t.places[i2]? = some n → E3[i2]? = some (some d) → leE E3 i (addC cx d)) := lh (fun n' cx' h i' d' hp' he' => by
               rw [HLD.out] at h
               cases h
               obtain rfl := HUQ.out i' hp'
               rw [HR.out] at he'
               cases he'
               have h1 := HLS.out
               rw [lessC_cmp] at h1
               have h2 := of_decide_eq_false h1
               have hss : addC cx d1 = s := HSS.out
               rw [hss]
               cases hr2 : r2 with
               | none =>
                rw [hr2] at h2
                have h3 := HSB.out
                simp [entC, infC, cmpL, Cost.list, h3] at h2
               | some e2 =>
                rw [hr2] at h2
                refine ⟨e2, by rw [HR2.out, hr2], ?_⟩
                have h3 := cmpL_swap s.list e2.list
                simp only [entC, Option.getD_some] at h2
                omega)
              gi_wp2
              refine wpIn_region_old (AF := ?AF5) [0, 1, 2, 3, 4, 5, 6, 7, 8, 9, 10] [] [true, true, true, true, true, true, true, true, true, true, true] [false, false, false, false, false, false, false, false, false, false, false] (by kernel_rfl) (by kernel_rfl) (by kernel_rfl) (by kernel_rfl) (by kernel_rfl) (below_drewN (Below.refl _ _) 1) ?hq5 ?ht5
              case hq5 =>
               rintro σ hσ of hof hcl
               have HOF := lh hof
               have HCL := lh hcl
               clear hof hcl
               have q0 : ∀ z, (of z).cell? ⟨sb, 0, none⟩ = some (.int .i64 s.a) := fun z => (R6.out.1.below (HOF.out z) hbl6).cell 0
               have q1 : ∀ z, (of z).cell? ⟨sb, 1, none⟩ = some (.int .i64 s.b) := fun z => (R6.out.1.below (HOF.out z) hbl6).cell 1
               have q2 : ∀ z, (of z).cell? ⟨sb, 2, none⟩ = some (.int .i64 s.c) := fun z => (R6.out.1.below (HOF.out z) hbl6).cell 2
               have q3 : ∀ z, (of z).cell? ⟨sb, 3, none⟩ = some (.int .i64 s.d) := fun z => (R6.out.1.below (HOF.out z) hbl6).cell 3
               have v0 : ∀ z, (of z).cell? ⟨w.heap.size + 1 + 1, i * 4, none⟩ = some (.int .i64 (entC r2).a) := fun z => ((HW6.out.below (HOF.out z)).cell HR2.out).1
               have v1 : ∀ z, (of z).cell? ⟨w.heap.size + 1 + 1, i * 4 + 1, none⟩ = some (.int .i64 (entC r2).b) := fun z => ((HW6.out.below (HOF.out z)).cell HR2.out).2.1
               have v2 : ∀ z, (of z).cell? ⟨w.heap.size + 1 + 1, i * 4 + 2, none⟩ = some (.int .i64 (entC r2).c) := fun z => ((HW6.out.below (HOF.out z)).cell HR2.out).2.2.1
               have v3 : ∀ z, (of z).cell? ⟨w.heap.size + 1 + 1, i * 4 + 3, none⟩ = some (.int .i64 (entC r2).d) := fun z => ((HW6.out.below (HOF.out z)).cell HR2.out).2.2.2
               have hfw := hfT
               simp only [pickB]
               repeat (gi_big_quiet_step (exact rless_cls s (entC r2) _ HLS.out HOF.out HCL.out _))
               refine wpQuietIn_nil ?_
               exact rfl
              case ht5 =>
               intro W hb
               have HW7 := lh (HW6.out.below hb)
               have HS7 := lh (R6.out.1.below hb hbl6)
               have hbl7 : sb < W.heap.size := HS7.out.lt
               clear hb
               simp only [pickB]
               refine wpE_nil ?_
               gi_wp2
               exact ⟨⟨ch, j + 1, M3, E3, rfl, by rw [e1], by omega, lh ⟨HW7.out, HU.out.2.1.skip HX.out HV3.out HNO.out HFI.out, by have := HU.out.2.2.1; omega, fun h => (HU.out.2.2.2.1 h).step HX.out HV3.out HNO.out, HU.out.2.2.2.2⟩⟩, by simp [intOf]; omega⟩
             | true =>
              have HLS := lh hls
              clear hls
              have HLE : Hid (∀ e2, r2 = some e2 → cmpL s.list e2.list < 0) := lh (fun e2 he => by
               have h1 := HLS.out
               rw [lessC_cmp, he] at h1
               exact of_decide_eq_true h1)
              have HTK : Hid (BSt t dk p to q i (j + 1) (M3 + 1) (E3.set i (some s))) := lh (by
               have h := HU.out.2.1.take HX.out HV3.out HLD.out HI2.out HR.out (fun e he => by
                rw [HR2.out] at he
                have h1 := HLE.out e (Option.some.inj he)
                have hss : addC cx d1 = s := HSS.out
                rw [hss]
                omega) HND.out
               have hss : addC cx d1 = s := HSS.out
               rw [hss] at h
               exact h)
              have HQ7 : Hid (q ≤ 7) := lh (by
               apply Decidable.byContradiction
               intro hc
               obtain ⟨l, hw, _⟩ := HU.out.2.1.sound i2 v' d1 HI2.out HR.out
               have hw2 : Walk t dk p v to s (x.id :: l) := by
                have hss : addC cx d1 = s := HSS.out
                rw [← hss]
                exact .cons HXM.out HLD.out hw
               obtain ⟨e2, h1, h2⟩ := HU.out.2.1.settled (by omega) HFI.out HFA.out HV3.out hw2
               rw [HR2.out] at h1
               have h3 := HLE.out e2 (Option.some.inj h1)
               have h4 := cmpL_swap s.list e2.list
               omega)
              gi_wp2
              refine wpIn_region_old (AF := ?AF6) [0, 1, 2, 3, 4, 5, 6, 7, 8, 9, 10] [] [true, true, true, true, true, true, true, true, true, true, true] [false, false, false, false, false, false, false, false, false, false, false] (by kernel_rfl) (by kernel_rfl) (by kernel_rfl) (by kernel_rfl) (by kernel_rfl) (below_drewN (Below.refl _ _) 1) ?hq6 ?ht6
              case hq6 =>
               rintro σ hσ of hof hcl
               have HOF := lh hof
               have HCL := lh hcl
               clear hof hcl
               have q0 : ∀ z, (of z).cell? ⟨sb, 0, none⟩ = some (.int .i64 s.a) := fun z => (R6.out.1.below (HOF.out z) hbl6).cell 0
               have q1 : ∀ z, (of z).cell? ⟨sb, 1, none⟩ = some (.int .i64 s.b) := fun z => (R6.out.1.below (HOF.out z) hbl6).cell 1
               have q2 : ∀ z, (of z).cell? ⟨sb, 2, none⟩ = some (.int .i64 s.c) := fun z => (R6.out.1.below (HOF.out z) hbl6).cell 2
               have q3 : ∀ z, (of z).cell? ⟨sb, 3, none⟩ = some (.int .i64 s.d) := fun z => (R6.out.1.below (HOF.out z) hbl6).cell 3
               have v0 : ∀ z, (of z).cell? ⟨w.heap.size + 1 + 1, i * 4, none⟩ = some (.int .i64 (entC r2).a) := fun z => ((HW6.out.below (HOF.out z)).cell HR2.out).1
               have v1 : ∀ z, (of z).cell? ⟨w.heap.size + 1 + 1, i * 4 + 1, none⟩ = some (.int .i64 (entC r2).b) := fun z => ((HW6.out.below (HOF.out z)).cell HR2.out).2.1
               have v2 : ∀ z, (of z).cell? ⟨w.heap.size + 1 + 1, i * 4 + 2, none⟩ = some (.int .i64 (entC r2).c) := fun z => ((HW6.out.below (HOF.out z)).cell HR2.out).2.2.1
               have v3 : ∀ z, (of z).cell? ⟨w.heap.size + 1 + 1, i * 4 + 3, none⟩ = some (.int .i64 (entC r2).d) := fun z => ((HW6.out.below (HOF.out z)).cell HR2.out).2.2.2
               have hfw := hfT
               simp only [pickB]
               repeat (gi_big_quiet_step (exact rless_cls s (entC r2) _ HLS.out HOF.out HCL.out _))
               refine wpQuietIn_nil ?_
               exact rfl
              case ht6 =>
               intro W hb
               have HW7 := lh (HW6.out.below hb)
               have HS7 := lh (R6.out.1.below hb hbl6)
               have hbl7 : sb < W.heap.size := HS7.out.lt
               clear hb
               simp only [pickB]
               refine wpE_nil ?_
               have c0 := HS7.out.cell 0
               have c1 := HS7.out.cell 1
               have c2 := HS7.out.cell 2
               have c3 := HS7.out.cell 3
               have f0 := HW7.out.eb.frozen (i * 4)
               have f1 := HW7.out.eb.frozen (i * 4 + 1)
               have f2 := HW7.out.eb.frozen (i * 4 + 2)
               have f3 := HW7.out.eb.frozen (i * 4 + 3)
               have o0 := (HW7.out.cell HR2.out).1
               have o1 := (HW7.out.cell HR2.out).2.1
               have o2 := (HW7.out.cell HR2.out).2.2.1
               have o3 := (HW7.out.cell HR2.out).2.2.2
               have HP8 := lh (HW7.out.put (k := i) (by rw [HU.out.2.1.len, HLn.out]; exact hlt) s)
               gi_wp2
               exact ⟨⟨true, j + 1, M3 + 1, E3.set i (some s), rfl, by rw [e1], by omega, lh ⟨HP8.out, HTK.out, by have := HU.out.2.2.1; omega, fun h => (by cases h), fun _ => HQ7.out⟩⟩, by simp [intOf]; omega⟩
        ·obtain rfl : j = m := by omega
         have e1 : ((i + 1 : Nat) : Int) = (i : Int) + 1 := by omega
         gi_wp2
         refine ⟨⟨ch, i + 1, M3, E3, rfl, by rw [e1], by omega, lh ⟨HU.out.1, HU.out.2.1.next (by rw [HLm.out]; exact Nat.le_refl _), by have := HU.out.2.2.1; omega, fun h => (HU.out.2.2.2.1 h).keep (by rw [HLm.out]; exact Nat.le_refl _), HU.out.2.2.2.2⟩⟩, by simp [intOf]; omega⟩
      ·obtain rfl : i = k := by omega
       gi_wp2
       gi_roundg (if ch then 8 - q else 0)
       case rel => exact ⟨ch, q + 1, M2, E2, rfl, by cases ch <;> simp <;> omega, fun h => by have := HW.out.2.2.2.2 h; omega, lh ⟨HW.out.1, HW.out.2.1.round (by rw [HLn.out]; exact Nat.le_refl _), by have := HW.out.2.2.1; omega, by omega, fun h => HW.out.2.2.2.1 h⟩⟩
       case measure => rw [hg']; split <;> omega
theorem rcosts_any (A : Option Addr) (n c : Nat) (A' : Option Addr) (m d : Nat) (p : Price) (t : Town) (dk : Bool) (to : Int) (w : World)
  (hm : m ≤ 20) (ha : IntsAt w w.heap.size A n t.places) (ht : LinksAt w w.heap.size A' m t.links) (hp : Cheap p) (hfine : Fine t) (hfair : Fair p) (hnd : t.places.Nodup) :
  Calls Tryz.prog 111 #[.agg #[.slice A n c, .slice A' m d], .int .i64 to, .bool dk, .agg #[.int .i64 p.pace, .int .i64 p.up, .int .i64 p.step]] w (RCostsOut w t dk p to n) :=
 callsIn_wide.1 (rcosts_in A n c A' m d p t dk to w hm ha ht hp hfine hfair hnd)
end
section
open Go.RowKit Go.Shelf
theorem eql_cost (x y : Cost) (W : World) : (binOp .eql 118 (.agg #[.int .i64 x.a, .int .i64 x.b, .int .i64 x.c, .int .i64 x.d]) (.agg #[.int .i64 y.a, .int .i64 y.b, .int .i64 y.c, .int .i64 y.d])).run Tryz.prog W = .ok (.bool (decide (x = y))) W := by
 obtain ⟨i0, hi, hz0, hz1, hz2⟩ := info_parts info_int
 have hc : Tryz.prog.cellsOf 3 = 1 := by simp [Program.cellsOf, hi, hz1]
 rw [run_eql_struct, show (10000 : Nat) = 9998 + 1 + 1 from rfl, run_equalIn_array W (9998 + 1) (n := 4) (e := 3) _ _ Tryz.underlying118 hi, hc]
 have hp : ∀ (k : Nat) (a : Array Value) (z : Int), a[k]? = some (.int .i64 z) → (part 3 a k).run Tryz.prog W = .ok (.int .i64 z) W := by
  intro k a z h
  simp [part, go_sem]
  rw [h]
  rfl
 have he : ∀ (a b : Int), (Op.equalIn (9998 + 1) 3 (.int .i64 a) (.int .i64 b)).run Tryz.prog W = .ok (a == b) W := fun a b => run_equalIn_int W 9998 3 .i64 .i64 a b Tryz.underlying3
 simp only [List.range, List.range.loop, Op.eqItems, Sem.run_bind, Nat.mul_one]
 rw [hp 0 _ x.a rfl, Result.andThen_ok, hp 0 _ y.a rfl, Result.andThen_ok, he, Result.andThen_ok]
 have hxy : x = y ↔ x.a = y.a ∧ x.b = y.b ∧ x.c = y.c ∧ x.d = y.d := by
  cases x; cases y; simp
 by_cases h1 : x.a = y.a
 ·rw [if_neg (by simp [h1]), Sem.run_bind, hp 1 _ x.b rfl, Result.andThen_ok, Sem.run_bind, hp 1 _ y.b rfl, Result.andThen_ok, Sem.run_bind, he, Result.andThen_ok]
  by_cases h2 : x.b = y.b
  ·rw [if_neg (by simp [h2]), Sem.run_bind, hp 2 _ x.c rfl, Result.andThen_ok, Sem.run_bind, hp 2 _ y.c rfl, Result.andThen_ok, Sem.run_bind, he, Result.andThen_ok]
   by_cases h3 : x.c = y.c
   ·rw [if_neg (by simp [h3]), Sem.run_bind, hp 3 _ x.d rfl, Result.andThen_ok, Sem.run_bind, hp 3 _ y.d rfl, Result.andThen_ok, Sem.run_bind, he, Result.andThen_ok]
    by_cases h4 : x.d = y.d
    ·rw [if_neg (by simp [h4])]
     simp [hxy, h1, h2, h3, h4, Result.andThen]
    ·rw [if_pos (by simp [h4])]
     simp [hxy, h4, Result.andThen]
   ·rw [if_pos (by simp [h3])]
    simp [hxy, h3, Result.andThen]
  ·rw [if_pos (by simp [h2])]
   simp [hxy, h2, Result.andThen]
 ·rw [if_pos (by simp [h1])]
  simp [hxy, h1, Result.andThen]
end
section
open Go.RowKit Go.Shelf
theorem EAt.cell {w : World} {B : Nat} {A : Option Addr} {n : Nat} {E : List (Option Cost)} (h : EAt w B A n E) {k : Nat} {r : Option Cost} (hk : E[k]? = some r) : ∃ b off, A = some ⟨b, off, none⟩ ∧ b < B ∧
  w.cell? ⟨b, off + k * 4, none⟩ = some (.int .i64 (entC r).a) ∧ w.cell? ⟨b, off + k * 4 + 1, none⟩ = some (.int .i64 (entC r).b) ∧ w.cell? ⟨b, off + k * 4 + 2, none⟩ = some (.int .i64 (entC r).c) ∧ w.cell? ⟨b, off + k * 4 + 3, none⟩ = some (.int .i64 (entC r).d) := by
 have hk' := (List.getElem?_eq_some_iff.1 hk).1
 obtain ⟨b, off, e, hb, hc⟩ := Reads.plain h (by rw [eVals_len]; omega)
 exact ⟨b, off, e, hb, hc (k * 4) _ (eVals_at (j := 0) hk (by omega)), hc (k * 4 + 1) _ (eVals_at (j := 1) hk (by omega)), hc (k * 4 + 2) _ (eVals_at (j := 2) hk (by omega)), hc (k * 4 + 3) _ (eVals_at (j := 3) hk (by omega))⟩
def RFirstOut (w : World) (r : Option (Cost × List Int)) (e : Ending) (w' : World) : Prop :=
 ∃ (A : Option Addr) (n cap : Nat) (co : Cost), e = .returned (.tuple #[.slice A n cap, costV co, .bool r.isSome]) ∧ (r = none → A = none ∧ n = 0 ∧ cap = 0 ∧ co = zeroC) ∧ (∀ q, r = some q → q.1 = co ∧ IntsAt w' w'.heap.size A n q.2) ∧ (∀ a, A = some a → w.heap.size ≤ a.block ∧ a.block < w'.heap.size) ∧ Below w.heap.size w w'
structure RFSt (w : World) (T : Array Value) (p : Price) (A : Option Addr) (n : Nat) (E : List (Option Cost)) (B : Nat) (c0 : Cost) (W : World) : Prop where
 bel : Below w.heap.size w W
 tb : Blk W w.heap.size 25 T
 pb : Blk W (w.heap.size + 1) 122 #[.int .i64 p.pace, .int .i64 p.up, .int .i64 p.step]
 rb : Blk W (w.heap.size + 1 + 1) 118 #[.int .i64 0, .int .i64 0, .int .i64 0, .int .i64 0]
 ea : EAt W B A n E
 eb : w.heap.size + 1 + 1 < B
 fb : Blk W B 118 #[.int .i64 c0.a, .int .i64 c0.b, .int .i64 c0.c, .int .i64 c0.d]
theorem RFSt.below {w W W' : World} {T : Array Value} {p : Price} {A : Option Addr} {n B : Nat} {E : List (Option Cost)} {c0 : Cost} (h : RFSt w T p A n E B c0 W) (hb : Below W.heap.size W W') : RFSt w T p A n E B c0 W' :=
 ⟨h.bel.trans (hb.mono h.bel.size), h.tb.below hb h.tb.lt, h.pb.below hb h.pb.lt, h.rb.below hb h.rb.lt, h.ea.below (hb.mono (Nat.le_of_lt h.fb.lt)), h.eb, h.fb.below hb h.fb.lt⟩
theorem RFSt.low {w W W' : World} {T : Array Value} {p : Price} {A : Option Addr} {n B : Nat} {E : List (Option Cost)} {c0 : Cost} (h : RFSt w T p A n E B c0 W) (hb : Below (B + 1) W W') : RFSt w T p A n E B c0 W' := by
 have h1 := h.eb
 have h2 := h.fb.lt
 exact ⟨h.bel.trans (hb.mono (by omega)), h.tb.below hb (by omega), h.pb.below hb (by omega), h.rb.below hb (by omega), h.ea.below (hb.mono (by omega)), h.eb, h.fb.below hb (by omega)⟩
theorem RFSt.entry {w W : World} {T : Array Value} {p : Price} {be oe n B : Nat} {E : List (Option Cost)} {c0 : Cost} (h : RFSt w T p (some ⟨be, oe, none⟩) n E B c0 W) {k : Nat} {r : Option Cost} (hk : E[k]? = some r) :
  W.cell? ⟨be, oe + k * 4, none⟩ = some (.int .i64 (entC r).a) ∧ W.cell? ⟨be, oe + k * 4 + 1, none⟩ = some (.int .i64 (entC r).b) ∧ W.cell? ⟨be, oe + k * 4 + 2, none⟩ = some (.int .i64 (entC r).c) ∧ W.cell? ⟨be, oe + k * 4 + 3, none⟩ = some (.int .i64 (entC r).d) := by
 obtain ⟨b, off, e, _, h1, h2, h3, h4⟩ := h.ea.cell hk
 cases e
 exact ⟨h1, h2, h3, h4⟩
theorem rplus_cls' {W : World} {n : Nat} (x y s : Cost) (hs : addC x y = s) (hx : Small x) (hy : Small y) {σ : Type} {of : σ → World} (h1 : ∀ z, Below W.heap.size W (of z)) (h2 : ∀ z W', Below (of z).heap.size (of z) W' → Cls of W') (z : σ) :
  CallsIn Fence.wide n Tryz.prog 113 #[.agg #[.int .i64 x.a, .int .i64 x.b, .int .i64 x.c, .int .i64 x.d], .agg #[.int .i64 y.a, .int .i64 y.b, .int .i64 y.c, .int .i64 y.d]] (of z) fun e w'' => e = .returned (.agg #[.int .i64 s.a, .int .i64 s.b, .int .i64 s.c, .int .i64 s.d]) ∧ Cls of w'' := by
 subst hs
 exact rplus_cls x y hx hy h1 h2 z
theorem Cost.ext_list {c d : Cost} (h : c.list = d.list) : c = d := by
 obtain ⟨a, b, e, f⟩ := c
 obtain ⟨a', b', e', f'⟩ := d
 simp only [Cost.list, List.cons.injEq, and_true] at h
 obtain ⟨rfl, rfl, rfl, rfl⟩ := h
 rfl
theorem first_here {t : Town} {dk : Bool} {p : Price} (ht : Fine t) (hp : Fair p) (u : Int) : First t dk p u u (some (zeroC, [])) := by
 refine ⟨.nil u, fun c' l' h => ?_⟩
 have hb := h.bound ht hp
 rw [cmp_key]
 by_cases hl : l' = []
 ·subst hl
  cases h
  rw [if_pos (cmpL_refl _), cmpL_refl]
  exact Int.le_refl _
 ·have h1 : 0 < l'.length := List.length_pos_iff.2 hl
  have h2 : cmpL zeroC.list c'.list = -1 := by
   rw [cmpC_unf]
   have za : zeroC.a = 0 := rfl
   have zb : zeroC.b = 0 := rfl
   have zc : zeroC.c = 0 := rfl
   by_cases ha : zeroC.a < c'.a
   ·rw [if_pos ha]
   ·rw [if_neg ha, if_neg (by omega)]
    by_cases hb' : zeroC.b < c'.b
    ·rw [if_pos hb']
    ·rw [if_neg hb', if_neg (by omega), if_pos (by omega)]
  rw [h2, if_neg (by omega)]
  omega
theorem first_end {t : Town} {dk : Bool} {p : Price} {v to : Int} {E : List (Option Cost)} {ia : Nat} {ca cc k0 : Cost} {acc : List Int} (hC : Costs t dk p to E) (ht : Fine t) (hp : Fair p) (hia : t.places[ia]? = some to) (hcc : E[ia]? = some (some cc)) (hk : addC ca cc = k0)
  (hF : ∀ c' r, First t dk p to to (some (c', r)) → First t dk p v to (some (addC ca c', acc ++ r))) : best t dk p v to = some (k0, acc) := by
 have h0 := first_here (dk := dk) ht hp to
 have h1 := hF _ _ h0
 rw [List.append_nil, addC_zero] at h1
 have h2 := hC.2 ia to hia _ hcc
 obtain ⟨⟨l, hw⟩, hmin⟩ := h2
 have h3 := key_cost (h0.2 _ _ hw)
 have h4 := hmin _ _ (.nil to)
 have h5 : cc = zeroC := Cost.ext_list (cmpL_antisymm h4 h3)
 rw [h5, addC_zero] at hk
 subst hk
 exact ((first_iff ht hp).1 h1).symm
theorem Own.keepB {w w' : World} {base n cap size : Nat} {e : TypeId} {A : Option Addr} {xs : List Value} (o : Own w base e size A n cap xs) (hk : ∀ g : Nat, base ≤ g → g < w.heap.size → w'.heap[g]? = w.heap[g]?) : Own w' base e size A n cap xs := by
 refine ⟨o.1, ?_⟩
 rcases o.2 with h' | ⟨g, cap', cur, hv, hb, hg, hr⟩
 ·exact .inl h'
 ·exact .inr ⟨g, cap', cur, hv, hb, (hk g hb (Array.getElem?_eq_some_iff.1 hg).1).trans hg, hr⟩
set_option maxRecDepth 100000 in
set_option maxHeartbeats 16000000 in
theorem rfirst_in (A : Option Addr) (n c : Nat) (A' : Option Addr) (m d : Nat) (p : Price) (t : Town) (dk : Bool) (v to : Int) (w : World)
  (hm : m ≤ 20) (ha : IntsAt w w.heap.size A n t.places) (ht : LinksAt w w.heap.size A' m t.links) (hp : Cheap p) (hfine : Fine t) (hfair : Fair p) (hnd : t.places.Nodup) (hv : v ∈ t.places) :
  CallsIn Fence.wide 9 Tryz.prog 70 #[.agg #[.slice A n c, .slice A' m d], .int .i64 v, .int .i64 to, .bool dk, .agg #[.int .i64 p.pace, .int .i64 p.up, .int .i64 p.step]] w (RFirstOut w (best t dk p v to)) := by
 have HT := lh ht
 have HP := lh hp
 have HA := lh ha
 have HFI := lh hfine
 have HFA := lh hfair
 have HND := lh hnd
 have HLm := lh ht.len
 have HLn := lh ha.len
 have hn9 : n ≤ 9 := by have := hfine.size; have := ha.len; omega
 obtain ⟨i0, hpi, hi0, hi0l⟩ := placeI_at hv
 have HPI := lh hpi
 have HI0 := lh hi0
 have hi0n : i0 < n := by have := HLn.out; omega
 clear ha ht hp hfine hfair hnd hpi hi0 hv
 refine callsIn_of_wp Tryz.func70 rfl trivial ?_ rfl
 simp only [Tryz.ntmps70, List.size_toArray, List.length_cons, List.length_nil, Nat.reduceAdd, Nat.reduceSub, Array.replicate_succ, Array.replicate_zero, List.push_toArray, List.append_toArray, List.nil_append, List.cons_append]
 gi_wp2
 have B0 : Below w.heap.size w (((w.alloc (.cells #[.slice A n c, .slice A' m d] 25)).alloc (.cells #[.int .i64 p.pace, .int .i64 p.up, .int .i64 p.step] 122)).alloc (.cells #[.int .i64 0, .int .i64 0, .int .i64 0, .int .i64 0] 118)) :=
  (((Below.refl w.heap.size w).alloc (Nat.le_refl _) (.cells #[.slice A n c, .slice A' m d] 25)).alloc (by simp) (.cells #[.int .i64 p.pace, .int .i64 p.up, .int .i64 p.step] 122)).alloc (by simp; omega) (.cells #[.int .i64 0, .int .i64 0, .int .i64 0, .int .i64 0] 118)
 have T0 := ((Blk.new w 25 #[.slice A n c, .slice A' m d]).alloc (.cells #[.int .i64 p.pace, .int .i64 p.up, .int .i64 p.step] 122)).alloc (.cells #[.int .i64 0, .int .i64 0, .int .i64 0, .int .i64 0] 118)
 have P0 := (Blk.new (w.alloc (.cells #[.slice A n c, .slice A' m d] 25)) 122 #[.int .i64 p.pace, .int .i64 p.up, .int .i64 p.step]).alloc (.cells #[.int .i64 0, .int .i64 0, .int .i64 0, .int .i64 0] 118)
 have R0 := Blk.new ((w.alloc (.cells #[.slice A n c, .slice A' m d] 25)).alloc (.cells #[.int .i64 p.pace, .int .i64 p.up, .int .i64 p.step] 122)) 118 #[.int .i64 0, .int .i64 0, .int .i64 0, .int .i64 0]
 rw [World.size_alloc] at P0
 rw [World.size_alloc, World.size_alloc] at R0
 have HB0 := lh B0
 have HT0 := lh T0
 have HP0 := lh P0
 have HR0 := lh R0
 clear B0 T0 P0 R0
 generalize (((w.alloc (.cells #[.slice A n c, .slice A' m d] 25)).alloc (.cells #[.int .i64 p.pace, .int .i64 p.up, .int .i64 p.step] 122)).alloc (.cells #[.int .i64 0, .int .i64 0, .int .i64 0, .int .i64 0] 118)) = w0 at *
 refine ⟨trivial, (callsIn_wide.2 (rcosts_any A n c A' m d p t dk to w0 hm ((HA.out.below HB0.out).more HB0.out.size) ((HT.out.below HB0.out).more HB0.out.size) HP.out HFI.out HFA.out HND.out)).mono ?_⟩
 rintro e w1 ⟨AE, E, rfl, hea, hC, hL, hb1⟩
 have HEA := lh hea
 have HC := lh hC
 have HL := lh hL
 have HB1 := lh hb1
 have HT1 := lh (HT0.out.below hb1 HT0.out.lt)
 have HP1 := lh (HP0.out.below hb1 HP0.out.lt)
 have HR1 := lh (HR0.out.below hb1 HR0.out.lt)
 have BB1 := lh (HB0.out.trans (hb1.mono HB0.out.size))
 clear hea hC hL hb1 HT0 HP0 HR0
 have t0 := HT1.out.cell 0
 have t1 := HT1.out.cell 1
 gi_wp2
 refine ⟨trivial, (callsIn_wide.2 (place_any A n c A' m d t v w1 (by unfold maxLen; omega) ((HA.out.below BB1.out).more BB1.out.size))).mono ?_⟩
 rintro e w2 ⟨rfl, hb2⟩
 rw [HPI.out]
 have HEA2 : Hid (EAt w2 w1.heap.size AE n E) := lh (Reads.below HEA.out hb2)
 have HT2 := lh (HT1.out.below hb2 HT1.out.lt)
 have HP2 := lh (HP1.out.below hb2 HP1.out.lt)
 have HR2 := lh (HR1.out.below hb2 HR1.out.lt)
 have BB2 := lh (BB1.out.trans (hb2.mono BB1.out.size))
 have hsz2 := hb2.size
 clear hb2 t0 t1 HT1 HP1 HR1
 obtain ⟨r, hr⟩ : ∃ r, E[i0]? = some r := ⟨_, List.getElem?_eq_getElem (by rw [HC.out.1]; exact hi0l)⟩
 have HR := lh hr
 clear hr
 obtain ⟨be, oe, rfl, hbe, c0, c1, c2, c3⟩ := HEA2.out.cell HR.out
 have hbel : be < w2.heap.size := Nat.lt_of_lt_of_le hbe hsz2
 have f0 := HR2.out.cell 0
 have f1 := HR2.out.cell 1
 have f2 := HR2.out.cell 2
 have f3 := HR2.out.cell 3
 have z0 := HR2.out.frozen 0
 have z1 := HR2.out.frozen 1
 have z2 := HR2.out.frozen 2
 have z3 := HR2.out.frozen 3
 have hrl : w.heap.size + 1 + 1 < w2.heap.size := HR2.out.lt
 cases r with
 | none =>
  have hge : decide ((1000000000 : Int) ≤ (entC none).a) = true := by simp [entC, infC]
  gi_wp2
  have R4 := ret4 HR2.out BB2.out (by omega) (.int .i64 0) (.int .i64 0) (.int .i64 0) (.int .i64 0)
  have R5 := R4.1.alloc (.cells #[.int .i64 (entC none).a, .int .i64 (entC none).b, .int .i64 (entC none).c, .int .i64 (entC none).d] 118)
  have y0 := R5.cell 0
  have y1 := R5.cell 1
  have y2 := R5.cell 2
  have y3 := R5.cell 3
  refine bodyPost_ret (v := .tuple #[.slice none 0 0, costV zeroC, .bool false]) (by simp [results, Tryz.results70, go_sem, y0, y1, y2, y3, zeroC]) rfl ?_
  have hno : best t dk p v to = none := by
   have h := HC.out.2 i0 v HI0.out none HR.out
   exact ((first_iff HFI.out HFA.out (r := none)).1 h).symm
  rw [hno]
  exact ⟨none, 0, 0, zeroC, rfl, fun _ => ⟨rfl, rfl, rfl, rfl⟩, (fun q hq => by cases hq), (fun a ha => by cases ha), R4.2.alloc R4.2.size _⟩
 | some k0 =>
  have hge : decide ((1000000000 : Int) ≤ (entC (some k0)).a) = false := by
   have := (HL.out i0 k0 HR.out).a
   exact decide_eq_false (show ¬ (1000000000 : Int) ≤ k0.a by omega)
  gi_wp2
  have hbW : Below w2.heap.size w2 (w2.alloc (.cells #[.int .i64 (entC (some k0)).a, .int .i64 (entC (some k0)).b, .int .i64 (entC (some k0)).c, .int .i64 (entC (some k0)).d] 118)) := (Below.refl _ _).alloc (Nat.le_refl _) _
  have HS3 : Hid (RFSt w #[.slice A n c, .slice A' m d] p (some ⟨be, oe, none⟩) n E w2.heap.size k0 (w2.alloc (.cells #[.int .i64 (entC (some k0)).a, .int .i64 (entC (some k0)).b, .int .i64 (entC (some k0)).c, .int .i64 (entC (some k0)).d] 118))) := lh
   ⟨BB2.out.trans (hbW.mono BB2.out.size), HT2.out.below hbW HT2.out.lt, HP2.out.below hbW HP2.out.lt, HR2.out.below hbW HR2.out.lt, (HEA2.out.more hsz2).below hbW, hrl, Blk.new _ _ _⟩
  generalize (w2.alloc (.cells #[.int .i64 (entC (some k0)).a, .int .i64 (entC (some k0)).b, .int .i64 (entC (some k0)).c, .int .i64 (entC (some k0)).d] 118)) = w3 at *
  clear hbW c0 c1 c2 c3 f0 f1 f2 f3 z0 z1 z2 z3
  gi_loopg [1, 15] k0.c.toNat (fun g v1 v15 wr => ∃ (at_ : Int) (ia : Nat) (ca cc : Cost) (acc : List Int) (AO : Option Addr) (capO : Nat), v1 = .int .i64 at_ ∧ v15 = .slice AO acc.length capO ∧ g = cc.c.toNat ∧ Hid (RFSt w #[.slice A n c, .slice A' m d] p (some ⟨be, oe, none⟩) n E w2.heap.size k0 wr ∧ t.places[ia]? = some at_ ∧ E[ia]? = some (some cc) ∧ Walk t dk p v at_ ca acc ∧ addC ca cc = k0 ∧ (∀ c' r, First t dk p at_ to (some (c', r)) → First t dk p v to (some (addC ca c', acc ++ r))) ∧ Own wr (w2.heap.size + 1) 3 1 AO acc.length capO (acc.map (Value.int .i64))))
  case atStart =>
   exact ⟨v, i0, zeroC, k0, [], none, 0, rfl, rfl, rfl, lh ⟨HS3.out, HI0.out, HR.out, .nil _, zero_addC k0, fun c' r h => by rw [zero_addC]; exact h, Own.none_ _ _ _ _⟩⟩
  case round =>
   obtain ⟨at_, ia, ca, cc, acc, AO, capO, rfl, rfl, hg, HS⟩ := hrel
   clear HS3
   by_cases hne : at_ = to
   ·have HNE := lh hne
    subst hne
    have s0 := HS.out.1.rb.cell 0
    have s1 := HS.out.1.rb.cell 1
    have s2 := HS.out.1.rb.cell 2
    have s3 := HS.out.1.rb.cell 3
    have z0 := HS.out.1.rb.frozen 0
    have z1 := HS.out.1.rb.frozen 1
    have z2 := HS.out.1.rb.frozen 2
    have z3 := HS.out.1.rb.frozen 3
    have f0 := HS.out.1.fb.cell 0
    have f1 := HS.out.1.fb.cell 1
    have f2 := HS.out.1.fb.cell 2
    have f3 := HS.out.1.fb.cell 3
    have HEND := lh (first_end HC.out HFI.out HFA.out HS.out.2.1 HS.out.2.2.1 HS.out.2.2.2.2.1 HS.out.2.2.2.2.2.1)
    gi_wp2
    gi_region
    all_goals
     gi_wp2
     have R4 := ret4 (w := w) HS.out.1.rb (HS.out.1.bel) (by omega) (.int .i64 k0.a) (.int .i64 k0.b) (.int .i64 k0.c) (.int .i64 k0.d)
     have L4 := (ret4 (w := wr) (B := w.heap.size + 1 + 1) HS.out.1.rb (Below.refl _ _) (Nat.le_refl _) (.int .i64 k0.a) (.int .i64 k0.b) (.int .i64 k0.c) (.int .i64 k0.d))
     have y0 := R4.1.cell 0
     have y1 := R4.1.cell 1
     have y2 := R4.1.cell 2
     have y3 := R4.1.cell 3
     refine bodyPost_ret (v := .tuple #[.slice AO acc.length capO, costV k0, .bool true]) (by simp [results, Tryz.results70, go_sem, y0, y1, y2, y3]) rfl ?_
     rw [HEND.out]
     have hown := HS.out.2.2.2.2.2.2.keepB (w' := ((((wr.setCell ⟨w.heap.size + 1 + 1, 0, none⟩ (.int .i64 k0.a)).setCell ⟨w.heap.size + 1 + 1, 1, none⟩ (.int .i64 k0.b)).setCell ⟨w.heap.size + 1 + 1, 2, none⟩ (.int .i64 k0.c)).setCell ⟨w.heap.size + 1 + 1, 3, none⟩ (.int .i64 k0.d))) (fun g hg _ => by
      have hne : g ≠ w.heap.size + 1 + 1 := by omega
      exact (Below.heap_setCell _ ⟨w.heap.size + 1 + 1, 3, none⟩ _ g hne).trans ((Below.heap_setCell _ ⟨w.heap.size + 1 + 1, 2, none⟩ _ g hne).trans ((Below.heap_setCell _ ⟨w.heap.size + 1 + 1, 1, none⟩ _ g hne).trans (Below.heap_setCell _ ⟨w.heap.size + 1 + 1, 0, none⟩ _ g hne))))
     exact ⟨AO, acc.length, capO, k0, rfl, (fun h => by cases h), (fun q hq => by cases hq; exact ⟨rfl, hown.reads (Nat.le_refl _)⟩), (fun a ha => ⟨by have := (hown.lt ha).1; omega, (hown.lt ha).2⟩), below_drewN R4.2 1⟩
   ·have HNE := lh hne
    have t0 := HS.out.1.tb.cell 0
    have t1 := HS.out.1.tb.cell 1
    have hnb : (at_ != to) = true := by simpa using HNE.out
    gi_wp2
    gi_loopw [1, 15, 42] (fun v1 v15 vj wr => ∃ j : Nat, v1 = .int .i64 at_ ∧ v15 = .slice AO acc.length capO ∧ vj = .int .i64 j ∧ j ≤ m ∧ Hid (RFSt w #[.slice A n c, .slice A' m d] p (some ⟨be, oe, none⟩) n E w2.heap.size k0 wr ∧ Own wr (w2.heap.size + 1) 3 1 AO acc.length capO (acc.map (Value.int .i64)) ∧
     ∀ y ∈ t.links.take j, ∀ n' cy (i' : Nat) d', leads dk p y at_ = some (n', cy) → t.places[i']? = some n' → E[i']? = some (some d') → addC cy d' ≠ cc)) (fun _ _ vj _ => m - (intOf vj).toNat)
    case atStart => exact ⟨0, rfl, rfl, rfl, Nat.zero_le _, lh ⟨HS.out.1, HS.out.2.2.2.2.2.2, fun y hy => by simp at hy⟩⟩
    case round =>
     obtain ⟨j, rfl, rfl, rfl, hjm, HU⟩ := hrel
     have HREL := lh HS.out.2
     clear HS
     by_cases hjl : j < m
     ·obtain ⟨b, off, x, rfl, hb, hx, l0, l1, l2, l3, l4⟩ := (HT.out.below HU.out.1.bel).cell hjl
      have hbl : b < wr.heap.size := Nat.lt_of_lt_of_le hb HU.out.1.bel.size
      have HX := lh hx
      clear hx hb t0 t1
      have p0 := HU.out.1.pb.cell 0
      have p1 := HU.out.1.pb.cell 1
      have p2 := HU.out.1.pb.cell 2
      have hpl := HU.out.1.pb.lt
      have htl := HU.out.1.tb.lt
      gi_wp2
      have HS4 : Hid (RFSt w #[.slice A n c, .slice (some ⟨b, off, none⟩) m d] p (some ⟨be, oe, none⟩) n E w2.heap.size k0 (wr.alloc (.cells #[.int .i64 x.id, .int .i64 x.fr, .int .i64 x.to, .int .i64 x.steps, .int .i64 x.paces] 52)) ∧ Own (wr.alloc (.cells #[.int .i64 x.id, .int .i64 x.fr, .int .i64 x.to, .int .i64 x.steps, .int .i64 x.paces] 52)) (w2.heap.size + 1) 3 1 AO acc.length capO (acc.map (Value.int .i64))) := lh ⟨HU.out.1.below ((Below.refl _ _).alloc (Nat.le_refl _) _), HU.out.2.1.alloc _⟩
      have HLB4 : Hid (Blk (wr.alloc (.cells #[.int .i64 x.id, .int .i64 x.fr, .int .i64 x.to, .int .i64 x.steps, .int .i64 x.paces] 52)) wr.heap.size 52 #[.int .i64 x.id, .int .i64 x.fr, .int .i64 x.to, .int .i64 x.steps, .int .i64 x.paces]) := lh (Blk.new _ _ _)
      have HNO := lh HU.out.2.2
      have HLO : Hid (w2.heap.size + 1 ≤ wr.heap.size) := lh (HU.out.1.fb.lt)
      have HXM : Hid (x ∈ t.links) := lh (List.mem_of_getElem? HX.out)
      have HFit : Hid (Fit x) := lh ⟨HFI.out.steps x HXM.out, HFI.out.paces x HXM.out⟩
      clear HU p0 p1 p2 l0 l1 l2 l3 l4 hbl hpl htl
      generalize (wr.alloc (.cells #[.int .i64 x.id, .int .i64 x.fr, .int .i64 x.to, .int .i64 x.steps, .int .i64 x.paces] 52)) = w4 at *
      have e1 : ((j + 1 : Nat) : Int) = (j : Int) + 1 := by omega
      refine ⟨trivial, (callsIn_wide.2 (leads_any x at_ dk p w4 HFit.out HP.out)).mono ?_⟩
      rcases hld : leads dk p x at_ with _ | ⟨v', cx⟩
      ·rintro e w5 ⟨he, hb5⟩
       obtain rfl : e = .returned (.tuple #[.int .i64 0, .agg #[.int .i64 0, .int .i64 0, .int .i64 0, .int .i64 0], .bool false]) := he
       have HLD := lh hld
       have HS5 := lh (show _ ∧ _ from ⟨HS4.out.1.below hb5, HS4.out.2.below hb5 (Nat.le_refl _)⟩)
       clear hld hb5
       gi_wp2
       have HS6 := lh (show _ ∧ _ from ⟨HS5.out.1.below ((Below.refl _ _).alloc (Nat.le_refl _) (.cells #[.int .i64 0, .int .i64 0, .int .i64 0, .int .i64 0] 118)), HS5.out.2.alloc (.cells #[.int .i64 0, .int .i64 0, .int .i64 0, .int .i64 0] 118)⟩)
       generalize (w5.alloc (.cells #[.int .i64 0, .int .i64 0, .int .i64 0, .int .i64 0] 118)) = w6 at *
       refine wpIn_region_old (AF := ?AF1) [0, 1, 2, 3, 4, 5, 6, 7, 8, 9, 10, 11, 12, 13, 14, 15, 16, 17] [] [true, true, true, true, true, true, true, true, true, true, true, true, true, true, true, true, true, true] [false, false, false, false, false, false, false, false, false, false, false, false, false, false, false, false, false, false] (by kernel_rfl) (by kernel_rfl) (by kernel_rfl) (by kernel_rfl) (by kernel_rfl) (below_drewN (Below.refl _ _) 1) ?hq1 ?ht1
       case hq1 =>
        rintro σ hσ of hof hcl
        have HOF := lh hof
        have HCL := lh hcl
        clear hof hcl
        have hfw := hfT
        simp only [pickB]
        repeat (gi_big_quiet_step (fail))
        refine wpQuietIn_nil ?_
        exact rfl
       case ht1 =>
        intro W hb
        have HS7 := lh (show _ ∧ _ from ⟨HS6.out.1.below hb, HS6.out.2.below hb (Nat.le_refl _)⟩)
        clear hb
        simp only [pickB]
        refine wpE_nil ?_
        gi_wp2
        refine ⟨⟨j + 1, rfl, rfl, by rw [e1], by omega, lh ⟨HS7.out.1, HS7.out.2, fun y hy n' cy i' d' g1 g2 g3 => ?_⟩⟩, by simp [intOf]; omega⟩
        rw [List.take_add_one, HX.out] at hy
        rcases List.mem_append.1 hy with hy | hy
        ·exact HNO.out y hy n' cy i' d' g1 g2 g3
        ·obtain rfl : y = x := by simpa using hy
         rw [HLD.out] at g1
         cases g1
      ·rintro e w5 ⟨he, hb5⟩
       obtain rfl : e = .returned (.tuple #[.int .i64 v', .agg #[.int .i64 cx.a, .int .i64 cx.b, .int .i64 cx.c, .int .i64 cx.d], .bool true]) := he
       have HLD := lh hld
       have HS5 := lh (show _ ∧ _ from ⟨HS4.out.1.below hb5, HS4.out.2.below hb5 (Nat.le_refl _)⟩)
       have HLB5 := lh (HLB4.out.below hb5 HLB4.out.lt)
       clear hld hb5
       obtain ⟨i2, hpi, hi2, hi2l⟩ := placeI_at (leads_ends HXM.out HFI.out HLD.out).2
       have HPI2 := lh hpi
       have HI2 := lh hi2
       have hi2n : i2 < n := by have := HLn.out; omega
       obtain ⟨r, hr⟩ : ∃ r, E[i2]? = some r := ⟨_, List.getElem?_eq_getElem (by rw [HC.out.1]; exact hi2l)⟩
       have HR2 := lh hr
       have HCX := lh (leads_cost HXM.out HFI.out HFA.out HLD.out)
       have HSM : Hid (Small cx ∧ Small (entC r)) := lh ⟨by
        have h1 := HCX.out
        exact ⟨by omega, by omega, by omega, by omega⟩, Small.ent fun d hd => HL.out i2 d (by rw [HR2.out, hd])⟩
       have HUQ : Hid (∀ (i' : Nat), t.places[i']? = some v' → i' = i2) := lh (fun i' h => by
        have hl := (List.getElem?_eq_some_iff.1 h).1
        exact (List.getElem?_inj hl HND.out).1 (h.trans HI2.out.symm))
       have HPIA : Hid (placeI t.places at_ = ia ∧ ia < n) := lh (by
        obtain ⟨i', h1, h2, h3⟩ := placeI_at (List.mem_of_getElem? HREL.out.1)
        have h4 : i' = ia := (List.getElem?_inj h3 HND.out).1 (h2.trans HREL.out.1.symm)
        rw [← h4]
        exact ⟨h1, by have := HLn.out; omega⟩)
       have hian : ia < n := HPIA.out.2
       have hi2I : (0 : Int) ≤ (i2 : Int) ∧ (i2 : Int) < (n : Int) := by omega
       have hiaI : (0 : Int) ≤ (ia : Int) ∧ (ia : Int) < (n : Int) := by omega
       clear hpi hi2 hi2l hr
       gi_wp2
       have HS6 := lh (show _ ∧ _ from ⟨HS5.out.1.below ((Below.refl _ _).alloc (Nat.le_refl _) (.cells #[.int .i64 cx.a, .int .i64 cx.b, .int .i64 cx.c, .int .i64 cx.d] 118)), HS5.out.2.alloc (.cells #[.int .i64 cx.a, .int .i64 cx.b, .int .i64 cx.c, .int .i64 cx.d] 118)⟩)
       have HLB6 := lh (HLB5.out.alloc (.cells #[.int .i64 cx.a, .int .i64 cx.b, .int .i64 cx.c, .int .i64 cx.d] 118))
       have HCB6 : Hid (Blk (w5.alloc (.cells #[.int .i64 cx.a, .int .i64 cx.b, .int .i64 cx.c, .int .i64 cx.d] 118)) w5.heap.size 118 #[.int .i64 cx.a, .int .i64 cx.b, .int .i64 cx.c, .int .i64 cx.d]) := lh (Blk.new _ _ _)
       generalize (w5.alloc (.cells #[.int .i64 cx.a, .int .i64 cx.b, .int .i64 cx.c, .int .i64 cx.d] 118)) = w6 at *
       have hcb6 : w5.heap.size < w6.heap.size := HCB6.out.lt
       have hbe6 : be < w6.heap.size := by have := HS6.out.1.fb.lt; omega
       have htl6 : w.heap.size < w6.heap.size := HS6.out.1.tb.lt
       obtain ⟨s, hs⟩ : ∃ s, addC cx (entC r) = s := ⟨_, rfl⟩
       have HSS := lh hs
       clear hs
       by_cases hsc : s = cc
       ·have HSC : Hid (decide (s = cc) = true) := lh (decide_eq_true hsc)
        clear hsc
        refine wpIn_region_old (AF := ?AF2) [0, 1, 2, 3, 4, 5, 6, 7, 8, 9, 10, 11, 12, 13, 14, 15, 16, 17] [] [true, true, true, true, true, true, true, true, true, true, true, true, true, true, true, true, true, true] [false, false, false, false, false, false, false, false, false, false, false, false, false, false, false, false, false, false] (by kernel_rfl) (by kernel_rfl) (by kernel_rfl) (by kernel_rfl) (by kernel_rfl) (below_drewN (Below.refl _ _) 1) ?hq2 ?ht2
        case hq2 =>
         rintro σ hσ of hof hcl
         have HOF := lh hof
         have HCL := lh hcl
         clear hof hcl
         have q0 : ∀ z, (of z).cell? ⟨w5.heap.size, 0, none⟩ = some (.int .i64 cx.a) := fun z => (HCB6.out.below (HOF.out z) hcb6).cell 0
         have q1 : ∀ z, (of z).cell? ⟨w5.heap.size, 1, none⟩ = some (.int .i64 cx.b) := fun z => (HCB6.out.below (HOF.out z) hcb6).cell 1
         have q2 : ∀ z, (of z).cell? ⟨w5.heap.size, 2, none⟩ = some (.int .i64 cx.c) := fun z => (HCB6.out.below (HOF.out z) hcb6).cell 2
         have q3 : ∀ z, (of z).cell? ⟨w5.heap.size, 3, none⟩ = some (.int .i64 cx.d) := fun z => (HCB6.out.below (HOF.out z) hcb6).cell 3
         have t0 : ∀ z, (of z).cell? ⟨w.heap.size, 0, none⟩ = some (.slice A n c) := fun z => (HS6.out.1.tb.below (HOF.out z) htl6).cell 0
         have t1 : ∀ z, (of z).cell? ⟨w.heap.size, 1, none⟩ = some (.slice (some ⟨b, off, none⟩) m d) := fun z => (HS6.out.1.tb.below (HOF.out z) htl6).cell 1
         have v0 : ∀ z, (of z).cell? ⟨be, oe + i2 * 4, none⟩ = some (.int .i64 (entC r).a) := fun z => ((HS6.out.1.below (HOF.out z)).entry HR2.out).1
         have v1 : ∀ z, (of z).cell? ⟨be, oe + i2 * 4 + 1, none⟩ = some (.int .i64 (entC r).b) := fun z => ((HS6.out.1.below (HOF.out z)).entry HR2.out).2.1
         have v2 : ∀ z, (of z).cell? ⟨be, oe + i2 * 4 + 2, none⟩ = some (.int .i64 (entC r).c) := fun z => ((HS6.out.1.below (HOF.out z)).entry HR2.out).2.2.1
         have v3 : ∀ z, (of z).cell? ⟨be, oe + i2 * 4 + 3, none⟩ = some (.int .i64 (entC r).d) := fun z => ((HS6.out.1.below (HOF.out z)).entry HR2.out).2.2.2
         have u0 : ∀ z, (of z).cell? ⟨be, oe + ia * 4, none⟩ = some (.int .i64 cc.a) := fun z => ((HS6.out.1.below (HOF.out z)).entry HREL.out.2.1).1
         have u1 : ∀ z, (of z).cell? ⟨be, oe + ia * 4 + 1, none⟩ = some (.int .i64 cc.b) := fun z => ((HS6.out.1.below (HOF.out z)).entry HREL.out.2.1).2.1
         have u2 : ∀ z, (of z).cell? ⟨be, oe + ia * 4 + 2, none⟩ = some (.int .i64 cc.c) := fun z => ((HS6.out.1.below (HOF.out z)).entry HREL.out.2.1).2.2.1
         have u3 : ∀ z, (of z).cell? ⟨be, oe + ia * 4 + 3, none⟩ = some (.int .i64 cc.d) := fun z => ((HS6.out.1.below (HOF.out z)).entry HREL.out.2.1).2.2.2
         have hfw := hfT
         simp only [pickB]
         iterate 7 (gi_big_quiet_step (exact place_cls A n c (some ⟨b, off, none⟩) m d t v' i2 HPI2.out (by unfold maxLen; omega) w.heap.size HS6.out.1.bel.size (HA.out.below HS6.out.1.bel) HOF.out HCL.out _))
         iterate 3 (gi_big_quiet_step (exact rplus_cls' cx (entC r) s HSS.out HSM.out.1 HSM.out.2 HOF.out HCL.out _))
         iterate 6 (gi_big_quiet_step (exact place_cls A n c (some ⟨b, off, none⟩) m d t at_ ia HPIA.out.1 (by unfold maxLen; omega) w.heap.size HS6.out.1.bel.size (HA.out.below HS6.out.1.bel) HOF.out HCL.out _))
         have hql : ∀ W : World, (binOp .eql 118 (.agg #[.int .i64 s.a, .int .i64 s.b, .int .i64 s.c, .int .i64 s.d]) (.agg #[.int .i64 cc.a, .int .i64 cc.b, .int .i64 cc.c, .int .i64 cc.d])).run Tryz.prog W = .ok (.bool true) W := fun W => (eql_cost s cc W).trans (by rw [HSC.out])
         gi_big_quiet_step (fail)
         gi_big_quiet_step (fail)
         refine wpQuietIn_nil ?_
         exact rfl
        case ht2 =>
         intro W hb
         have HS7 := lh (show _ ∧ _ from ⟨HS6.out.1.below hb, HS6.out.2.below hb (Nat.le_refl _)⟩)
         have HLB7 := lh (HLB6.out.below hb HLB6.out.lt)
         clear hb
         simp only [pickB]
         refine wpE_nil ?_
         obtain ⟨d1, hd1⟩ : ∃ d1, r = some d1 := by
          cases hr1 : r with
          | some d1 => exact ⟨d1, rfl⟩
          | none =>
           exfalso
           have h1 := HCX.out
           have h2 : s.a = cx.a + 1000000000 := by rw [← HSS.out, hr1]; rfl
           have h3 := of_decide_eq_true HSC.out
           have h4 := (HL.out ia cc HREL.out.2.1).a
           rw [h3] at h2
           omega
         have HD1 : Hid (E[i2]? = some (some d1)) := lh (by rw [HR2.out, hd1])
         have HADD : Hid (addC cx d1 = cc) := lh (by
          have h3 := of_decide_eq_true HSC.out
          rw [← h3, ← HSS.out, hd1]
          rfl)
         have HAL : Hid (acc.length ≤ 2000) := lh (by
          have h1 := HREL.out.2.2.1.bound HFI.out HFA.out
          have h2 := (HL.out i0 k0 HR.out).d
          have h3 := (HL.out ia cc HREL.out.2.1).d
          have h4 : ca.d + cc.d = k0.d := by rw [← HREL.out.2.2.2.1]; rfl
          omega)
         have hal := HAL.out
         have l0 := HLB7.out.cell 0
         have HOW := lh (HS7.out.2.alloc (.cells #[.int .i64 x.id] 3))
         have HOB : Hid (Blk (W.alloc (.cells #[.int .i64 x.id] 3)) W.heap.size 3 #[.int .i64 x.id]) := lh (Blk.new _ _ _)
         have HSW := lh (HS7.out.1.below ((Below.refl _ _).alloc (Nat.le_refl _) (.cells #[.int .i64 x.id] 3)))
         gi_wp2_with (first | (gi_at_builtin; refine wpListIn_append_any rfl (.tmp 73) (.tmp 76) (by rfl) elem_int rfl HOW.out rfl (one_int (x := x.id) HOB.out.lt (HOB.out.cell 0)) (ints_one _) (by unfold maxLen; omega) (by omega) HSW.out.fb.lt ?_) | fail)
         rintro A8 c8 W8 hown hgr hA8
         have hbV : Below (w2.heap.size + 1) (W.alloc (.cells #[.int .i64 x.id] 3)) W8 := below_of_grown hgr (fun k hk => own_row HOW.out hk) HSW.out.fb.lt
         have HS8 := lh (HSW.out.low hbV)
         have HOW8 := lh hown
         clear hown hgr hA8 hbV l0
         gi_wp2
         gi_roundg (d1.c.toNat)
         case rel =>
          refine ⟨v', i2, addC ca cx, d1, acc ++ [x.id], A8, c8, rfl, by simp, rfl, lh ⟨HS8.out, HI2.out, HD1.out, HREL.out.2.2.1.snoc HXM.out HLD.out, by rw [addC_assoc, HADD.out]; exact HREL.out.2.2.2.1, fun c' r' hf => ?_, ?_⟩⟩
          ·have h1 := (greedy HC.out HFI.out HFA.out HREL.out.1 HREL.out.2.1 HNE.out).2 j x v' cx i2 d1 HX.out HLD.out HI2.out HD1.out HADD.out HNO.out c' r' hf
           have h2 := HREL.out.2.2.2.2.1 _ _ h1
           rw [addC_assoc, List.append_assoc]
           exact h2
          ·have h := HOW8.out
           simpa using h
         case measure =>
          have h1 := HCX.out
          have h2 := (HL.out i2 d1 HD1.out).c
          have h3 : cx.c + d1.c = cc.c := by rw [← HADD.out]; rfl
          rw [hg]
          omega
       ·have HSC : Hid (decide (s = cc) = false) := lh (decide_eq_false hsc)
        clear hsc
        refine wpIn_region_old (AF := ?AF3) [0, 1, 2, 3, 4, 5, 6, 7, 8, 9, 10, 11, 12, 13, 14, 15, 16, 17] [] [true, true, true, true, true, true, true, true, true, true, true, true, true, true, true, true, true, true] [false, false, false, false, false, false, false, false, false, false, false, false, false, false, false, false, false, false] (by kernel_rfl) (by kernel_rfl) (by kernel_rfl) (by kernel_rfl) (by kernel_rfl) (below_drewN (Below.refl _ _) 1) ?hq3 ?ht3
        case hq3 =>
         rintro σ hσ of hof hcl
         have HOF := lh hof
         have HCL := lh hcl
         clear hof hcl
         have q0 : ∀ z, (of z).cell? ⟨w5.heap.size, 0, none⟩ = some (.int .i64 cx.a) := fun z => (HCB6.out.below (HOF.out z) hcb6).cell 0
         have q1 : ∀ z, (of z).cell? ⟨w5.heap.size, 1, none⟩ = some (.int .i64 cx.b) := fun z => (HCB6.out.below (HOF.out z) hcb6).cell 1
         have q2 : ∀ z, (of z).cell? ⟨w5.heap.size, 2, none⟩ = some (.int .i64 cx.c) := fun z => (HCB6.out.below (HOF.out z) hcb6).cell 2
         have q3 : ∀ z, (of z).cell? ⟨w5.heap.size, 3, none⟩ = some (.int .i64 cx.d) := fun z => (HCB6.out.below (HOF.out z) hcb6).cell 3
         have t0 : ∀ z, (of z).cell? ⟨w.heap.size, 0, none⟩ = some (.slice A n c) := fun z => (HS6.out.1.tb.below (HOF.out z) htl6).cell 0
         have t1 : ∀ z, (of z).cell? ⟨w.heap.size, 1, none⟩ = some (.slice (some ⟨b, off, none⟩) m d) := fun z => (HS6.out.1.tb.below (HOF.out z) htl6).cell 1
         have v0 : ∀ z, (of z).cell? ⟨be, oe + i2 * 4, none⟩ = some (.int .i64 (entC r).a) := fun z => ((HS6.out.1.below (HOF.out z)).entry HR2.out).1
         have v1 : ∀ z, (of z).cell? ⟨be, oe + i2 * 4 + 1, none⟩ = some (.int .i64 (entC r).b) := fun z => ((HS6.out.1.below (HOF.out z)).entry HR2.out).2.1
         have v2 : ∀ z, (of z).cell? ⟨be, oe + i2 * 4 + 2, none⟩ = some (.int .i64 (entC r).c) := fun z => ((HS6.out.1.below (HOF.out z)).entry HR2.out).2.2.1
         have v3 : ∀ z, (of z).cell? ⟨be, oe + i2 * 4 + 3, none⟩ = some (.int .i64 (entC r).d) := fun z => ((HS6.out.1.below (HOF.out z)).entry HR2.out).2.2.2
         have u0 : ∀ z, (of z).cell? ⟨be, oe + ia * 4, none⟩ = some (.int .i64 cc.a) := fun z => ((HS6.out.1.below (HOF.out z)).entry HREL.out.2.1).1
         have u1 : ∀ z, (of z).cell? ⟨be, oe + ia * 4 + 1, none⟩ = some (.int .i64 cc.b) := fun z => ((HS6.out.1.below (HOF.out z)).entry HREL.out.2.1).2.1
         have u2 : ∀ z, (of z).cell? ⟨be, oe + ia * 4 + 2, none⟩ = some (.int .i64 cc.c) := fun z => ((HS6.out.1.below (HOF.out z)).entry HREL.out.2.1).2.2.1
         have u3 : ∀ z, (of z).cell? ⟨be, oe + ia * 4 + 3, none⟩ = some (.int .i64 cc.d) := fun z => ((HS6.out.1.below (HOF.out z)).entry HREL.out.2.1).2.2.2
         have hfw := hfT
         simp only [pickB]
         iterate 7 (gi_big_quiet_step (exact place_cls A n c (some ⟨b, off, none⟩) m d t v' i2 HPI2.out (by unfold maxLen; omega) w.heap.size HS6.out.1.bel.size (HA.out.below HS6.out.1.bel) HOF.out HCL.out _))
         iterate 3 (gi_big_quiet_step (exact rplus_cls' cx (entC r) s HSS.out HSM.out.1 HSM.out.2 HOF.out HCL.out _))
         iterate 6 (gi_big_quiet_step (exact place_cls A n c (some ⟨b, off, none⟩) m d t at_ ia HPIA.out.1 (by unfold maxLen; omega) w.heap.size HS6.out.1.bel.size (HA.out.below HS6.out.1.bel) HOF.out HCL.out _))
         have hql : ∀ W : World, (binOp .eql 118 (.agg #[.int .i64 s.a, .int .i64 s.b, .int .i64 s.c, .int .i64 s.d]) (.agg #[.int .i64 cc.a, .int .i64 cc.b, .int .i64 cc.c, .int .i64 cc.d])).run Tryz.prog W = .ok (.bool false) W := fun W => (eql_cost s cc W).trans (by rw [HSC.out])
         gi_big_quiet_step (fail)
         gi_big_quiet_step (fail)
         refine wpQuietIn_nil ?_
         exact rfl
        case ht3 =>
         intro W hb
         have HS7 := lh (show _ ∧ _ from ⟨HS6.out.1.below hb, HS6.out.2.below hb (Nat.le_refl _)⟩)
         clear hb
         simp only [pickB]
         refine wpE_nil ?_
         gi_wp2
         refine ⟨⟨j + 1, rfl, rfl, by rw [e1], by omega, lh ⟨HS7.out.1, HS7.out.2, fun y hy n' cy i' d' g1 g2 g3 => ?_⟩⟩, by simp [intOf]; omega⟩
         rw [List.take_add_one, HX.out] at hy
         rcases List.mem_append.1 hy with hy | hy
         ·exact HNO.out y hy n' cy i' d' g1 g2 g3
         ·obtain rfl : y = x := by simpa using hy
          rw [HLD.out] at g1
          cases g1
          obtain rfl := HUQ.out i' g2
          rw [HR2.out] at g3
          cases g3
          have h1 := of_decide_eq_false HSC.out
          intro h2
          exact h1 (HSS.out.symm.trans h2)
     ·obtain rfl : j = m := by omega
      exfalso
      obtain ⟨x, hx, n', cx, i2, d', h1, h2, h3, h4⟩ := (greedy HC.out HFI.out HFA.out HREL.out.1 HREL.out.2.1 HNE.out).1
      exact HU.out.2.2 x (by rw [List.take_of_length_le (by rw [HLm.out]; exact Nat.le_refl _)]; exact hx) n' cx i2 d' h1 h2 h3 h4
theorem rfirst_any (A : Option Addr) (n c : Nat) (A' : Option Addr) (m d : Nat) (p : Price) (t : Town) (dk : Bool) (v to : Int) (w : World)
  (hm : m ≤ 20) (ha : IntsAt w w.heap.size A n t.places) (ht : LinksAt w w.heap.size A' m t.links) (hp : Cheap p) (hfine : Fine t) (hfair : Fair p) (hnd : t.places.Nodup) (hv : v ∈ t.places) :
  Calls Tryz.prog 70 #[.agg #[.slice A n c, .slice A' m d], .int .i64 v, .int .i64 to, .bool dk, .agg #[.int .i64 p.pace, .int .i64 p.up, .int .i64 p.step]] w (RFirstOut w (best t dk p v to)) :=
 callsIn_wide.1 (rfirst_in A n c A' m d p t dk v to w hm ha ht hp hfine hfair hnd hv)
end
section
open Go.RowKit Go.Shelf
set_option maxRecDepth 100000 in
set_option maxHeartbeats 16000000 in
theorem rhas_in (A : Option Addr) (n c : Nat) (A' : Option Addr) (m d : Nat) (t : Town) (u v : Int) (dk : Bool) (w : World)
  (hm : m ≤ 20) (ht : TownAt w w.heap.size A n A' m t) (hg : GoodT t) (hu : u ∈ t.places) :
  CallsIn Fence.wide 9 Tryz.prog 27 #[.agg #[.slice A n c, .slice A' m d], .int .i64 u, .int .i64 v, .bool dk] w (fun x w' => x = .returned (.bool (best t dk freeP u v).isSome) ∧ Below w.heap.size w w') := by
 have HT := lh ht
 have HG := lh hg
 clear ht hg
 refine callsIn_of_wp Tryz.func27 rfl trivial ?_ rfl
 simp only [Tryz.ntmps27, List.size_toArray, List.length_cons, List.length_nil, Nat.reduceAdd, Nat.reduceSub, Array.replicate_succ, Array.replicate_zero, List.push_toArray, List.append_toArray, List.nil_append, List.cons_append]
 gi_wp2
 have Ly := lh (Lay.one w 25 #[.slice A n c, .slice A' m d])
 generalize (w.alloc (.cells #[.slice A n c, .slice A' m d] 25)) = w0 at *
 refine ⟨trivial, (callsIn_wide.2 (rfirst_any A n c A' m d freeP t dk u v w0 hm ((HT.out.places.below Ly.out.1).more Ly.out.1.size) ((HT.out.links.below Ly.out.1).more Ly.out.1.size) freeP_cheap HG.out.fine freeP_fair HG.out.nodup hu)).mono ?_⟩
 rintro e W1 ⟨AO, nO, cO, co, rfl, hno, hq, hfr, hb⟩
 replace Ly := lyb Ly hb
 clear hb
 clear hno hq hfr
 gi_wp2
 exact bodyPost_ret (v := .bool (best t dk freeP u v).isSome) (by simp [results, Tryz.results27, go_sem]) rfl ⟨rfl, Ly.out.1.alloc Ly.out.1.size _⟩
theorem rhas_any (A : Option Addr) (n c : Nat) (A' : Option Addr) (m d : Nat) (t : Town) (u v : Int) (dk : Bool) (w : World)
  (hm : m ≤ 20) (ht : TownAt w w.heap.size A n A' m t) (hg : GoodT t) (hu : u ∈ t.places) :
  Calls Tryz.prog 27 #[.agg #[.slice A n c, .slice A' m d], .int .i64 u, .int .i64 v, .bool dk] w (fun x w' => x = .returned (.bool (best t dk freeP u v).isSome) ∧ Below w.heap.size w w') :=
 callsIn_wide.1 (rhas_in A n c A' m d t u v dk w hm ht hg hu)
end
section
open Go.RowKit Go.Shelf
set_option maxRecDepth 100000 in
set_option maxHeartbeats 16000000 in
theorem zneed_walk_in (A : Option Addr) (n c : Nat) (A' : Option Addr) (m d : Nat) (t : Town) (fr : Nat) (to_ : Nat) (dk : Bool) (by_A : Option Addr) (by_n by_c : Nat) (by_ : List Nat) (wh : Nat) (whe : Nat) (w : World) (hn : n ≤ maxLen) (hm : m ≤ maxLen) (hfr : fr ≤ 255) (hto_ : to_ ≤ 255) (hby_ : by_n ≤ maxLen) (hwh : wh ≤ 255) (hwhe : whe ≤ 255) (ht : TownAt w w.heap.size A n A' m t) (rby_ : BytesAt w w.heap.size by_A by_n by_) (hL : Laid w) :
  CallsIn Fence.wide 9 Tryz.prog 5 #[.agg #[.slice A n c, .slice A' m d], .int .u8 fr, .int .u8 to_, .bool dk, .slice by_A by_n by_c, .int .u8 wh, .int .u8 whe] w fun e w' => e = .returned (.bool true) ∧ Below w.heap.size w w' := by
 have HR := lh rby_
 clear rby_
 unfold maxLen at hby_
 have HT := lh ht
 have HL := lh hL
 have hl0 := hL.2.2.2
 have HLn := lh ht.places.len
 have HLm := lh ht.links.len
 clear ht hL
 unfold maxLen at hn hm
 refine callsIn_of_wp Tryz.func5 rfl trivial ?_ rfl
 simp only [Tryz.ntmps5, List.size_toArray, List.length_cons, List.length_nil, Nat.reduceAdd, Nat.reduceSub, Array.replicate_succ, Array.replicate_zero, List.push_toArray, List.append_toArray, List.nil_append, List.cons_append]
 gi_wp2
 have Ly := lh (Lay.one w 25 #[.slice A n c, .slice A' m d])
 generalize (w.alloc (.cells #[.slice A n c, .slice A' m d] 25)) = w0 at *
 refine ⟨trivial, (callsIn_wide.2 (alive_any w0 (HL.out.below Ly.out.bel hl0))).mono ?_⟩
 rintro e W1 ⟨rfl, hb⟩
 replace Ly := lyb Ly hb
 clear hb
 obtain ⟨x0_0, x0_1⟩ := lyc2 Ly 0 rfl
 have l0_ := Ly.out.lt 0 rfl
 gi_wp2
 clear x0_0 x0_1 l0_
 refine ⟨trivial, (callsIn_wide.2 (ready_any A n c A' m d t W1 ((HT.out.below Ly.out.bel).more Ly.out.bel.size))).mono ?_⟩
 rintro e W2 ⟨rfl, hb⟩
 replace Ly := lyb Ly hb
 clear hb
 cases hrd : readyB n m t with
 | false =>
  clear hrd
  gi_wp2
  exact bodyPost_ret (v := .bool true) (by simp [results, Tryz.results5, go_sem]) rfl ⟨rfl, Ly.out.bel⟩
 | true =>
 have htb : townB t = true := by unfold readyB at hrd; simp at hrd; exact hrd.2
 have HTB := lh htb
 have HG := lh (goodT htb)
 have hm20 : m ≤ 20 := by have := HG.out.links; have := HLm.out; omega
 have hn9 : n ≤ 9 := by have := HG.out.fine.size; have := HLn.out; omega
 have hn1 : 1 ≤ n := by have := townB_one htb; have := HLn.out; omega
 have HP1 : Hid (1 ≤ t.places.length) := lh (townB_one htb)
 clear hrd htb
 gi_wp2
 refine wpIn_flow_old [([true, true, false, true, true], 2), ([], 5)] [false, false, false, false, false, false, true, true] [] (by kernel_rfl) (by kernel_rfl) (by kernel_rfl) (below_drewN (Below.refl _ _) 1) ?_
 refine wpFlow_cons (A := ?AF1) rfl ?hq1 ?_
 case hq1 =>
  rintro σ hσ of hof hcl
  have HOF := lh hof
  have HCL := lh hcl
  clear hof hcl
  obtain ⟨c0_, c1_⟩ := lyz2 Ly HOF 0 rfl
  have hfw := hfT
  simp only [pickB]
  repeat (gi_big_quiet_step (fail))
  refine wpQuietIn_nil ?_
  exact rfl
 intro W3 hW
 replace Ly := lyb Ly hW
 clear hW
 have hlw := (Ly.out.blk 0 rfl).lt
 gi_wp2
 refine ⟨trivial, (callsIn_wide.2 (lplace_any A n c A' m d t fr W3 hn1 (by omega) hfr ((HT.out.places.below Ly.out.bel).more Ly.out.bel.size))).mono ?_⟩
 rintro e W4 ⟨rfl, hb⟩
 replace Ly := lyb Ly hb
 obtain ⟨u, hu⟩ : ∃ u, plN t fr = u := ⟨_, rfl⟩
 rw [hu]
 have Hu := lh (show u ∈ t.places from hu ▸ plN_mem HP1.out fr)
 clear hu
 gi_wp2
 refine ⟨trivial, hb, ?_⟩
 clear hb
 clear hlw
 refine wpFlow_cons rfl Quietly.none ?_
 intro W5 hW
 replace Ly := lyb Ly hW
 clear hW
 have hlw := (Ly.out.blk 0 rfl).lt
 gi_wp2
 refine ⟨trivial, (callsIn_wide.2 (lplace_any A n c A' m d t to_ W5 hn1 (by omega) hto_ ((HT.out.places.below Ly.out.bel).more Ly.out.bel.size))).mono ?_⟩
 rintro e W6 ⟨rfl, hb⟩
 replace Ly := lyb Ly hb
 obtain ⟨v, hv⟩ : ∃ v, plN t to_ = v := ⟨_, rfl⟩
 rw [hv]
 have Hv := lh (show v ∈ t.places from hv ▸ plN_mem HP1.out to_)
 clear hv
 gi_wp2
 refine ⟨trivial, hb, ?_⟩
 clear hb
 clear hlw
 refine wpFlow_nil (A := ?AF2) ?hq2 ?_
 case hq2 =>
  rintro σ hσ of hof hcl
  have HOF := lh hof
  have HCL := lh hcl
  clear hof hcl
  obtain ⟨c0_, c1_⟩ := lyz2 Ly HOF 0 rfl
  have hfw := hfT
  simp only [pickB]
  repeat (gi_big_quiet_step (fail))
  refine wpQuietIn_nil ?_
  exact rfl
 intro W7 hW
 replace Ly := lyb Ly hW
 clear hW
 simp only [pickB]
 refine wpT_nil ?_
 have HA2 := lh (askE_two HTB.out Hu.out Hv.out)
 cases hbo : best t dk freeP u v with
 | none =>
  have HBO := lh hbo
  have HW := lh (way_none HA2.out hbo)
  clear hbo
  obtain ⟨x0_0, x0_1⟩ := lyc2 Ly 0 rfl
  have l0_ := Ly.out.lt 0 rfl
  gi_wp2
  clear x0_0 x0_1 l0_
  refine ⟨trivial, (callsIn_wide.2 (need_any A n c A' m d t u v dk W7 (by omega) (by omega) ((HT.out.below Ly.out.bel).more Ly.out.bel.size) (HL.out.below Ly.out.bel hl0))).mono ?_⟩
  rintro e W8 ⟨AN, nAN, cAN, rfl, hi, hb⟩
  replace Ly := lyb Ly hb
  clear hb
  rw [HW.out.1]
  clear hi
  obtain ⟨x0_0, x0_1⟩ := lyc2 Ly 0 rfl
  have l0_ := Ly.out.lt 0 rfl
  gi_wp2
  clear x0_0 x0_1 l0_
  refine ⟨trivial, (callsIn_wide.2 (gate_any A n c A' m d t u v dk W8 (by omega) (by omega) ((HT.out.below Ly.out.bel).more Ly.out.bel.size) (HL.out.below Ly.out.bel hl0))).mono ?_⟩
  rintro e W9 ⟨AG, nAG, cAG, rfl, hi, hb⟩
  replace Ly := lyb Ly hb
  clear hb
  rw [HW.out.1]
  clear hi
  obtain ⟨x0_0, x0_1⟩ := lyc2 Ly 0 rfl
  have l0_ := Ly.out.lt 0 rfl
  gi_wp2
  clear x0_0 x0_1 l0_
  refine ⟨trivial, (callsIn_wide.2 (rhas_any A n c A' m d t u v dk W9 hm20 ((HT.out.below Ly.out.bel).more Ly.out.bel.size) HG.out Hu.out)).mono ?_⟩
  rintro e W10 ⟨rfl, hb⟩
  replace Ly := lyb Ly hb
  clear hb
  rw [HBO.out]
  gi_wp2
  exact bodyPost_ret (v := .bool true) (by simp [results, Tryz.results5, go_sem]) rfl ⟨rfl, Ly.out.bel⟩
 | some rb =>
  have HBO := lh (show (best t dk freeP u v).isSome = true by rw [hbo]; rfl)
  have HW := lh (show wayE t u v dk = 0 from by obtain ⟨⟨ca, cb, cc, cd⟩, lw⟩ := rb; exact (way_some HA2.out hbo).1)
  clear hbo
  obtain ⟨x0_0, x0_1⟩ := lyc2 Ly 0 rfl
  have l0_ := Ly.out.lt 0 rfl
  gi_wp2
  clear x0_0 x0_1 l0_
  refine ⟨trivial, (callsIn_wide.2 (need_any A n c A' m d t u v dk W7 (by omega) (by omega) ((HT.out.below Ly.out.bel).more Ly.out.bel.size) (HL.out.below Ly.out.bel hl0))).mono ?_⟩
  rintro e W11 ⟨AN, nAN, cAN, rfl, hi, hb⟩
  replace Ly := lyb Ly hb
  clear hb
  rw [show neededR t u v dk (idsOf t.links) ofOnly = (neededL t u v dk (idsOf t.links) ofOnly) from by unfold neededR; rw [if_pos HW.out]] at hi
  rw [HW.out]
  have HAN := lh hi
  clear hi
  obtain ⟨x0_0, x0_1⟩ := lyc2 Ly 0 rfl
  have l0_ := Ly.out.lt 0 rfl
  gi_wp2
  clear x0_0 x0_1 l0_
  refine ⟨trivial, (callsIn_wide.2 (gate_any A n c A' m d t u v dk W11 (by omega) (by omega) ((HT.out.below Ly.out.bel).more Ly.out.bel.size) (HL.out.below Ly.out.bel hl0))).mono ?_⟩
  rintro e W12 ⟨AG, nAG, cAG, rfl, hi, hb⟩
  replace Ly := lyb Ly hb
  replace HAN := iu HAN hb
  clear hb
  rw [show neededR t u v dk (othersL t u v) ofGate = (neededL t u v dk (othersL t u v) ofGate) from by unfold neededR; rw [if_pos HW.out]] at hi
  rw [HW.out]
  have HAG := lh hi
  clear hi
  have hnN : nAN ≤ 20 := by have h1 := HAN.out.len; have h2 := needed_len t u v dk (idsOf t.links) ofOnly; have h3 : (idsOf t.links).length = t.links.length := (by simp [idsOf]); have := HLm.out; omega
  have hnG : nAG ≤ 9 := by have h1 := HAG.out.len; have h2 := needed_len t u v dk (othersL t u v) ofGate; have h3 : (othersL t u v).length ≤ t.places.length := List.length_filter_le _ _; have := HLn.out; omega
  obtain ⟨x0_0, x0_1⟩ := lyc2 Ly 0 rfl
  have l0_ := Ly.out.lt 0 rfl
  gi_wp2
  clear x0_0 x0_1 l0_
  refine ⟨trivial, (callsIn_wide.2 (stroll_any A n c A' m d t u v dk by_A by_n by_c by_ W12 hm20 (by unfold maxLen; omega) ((HT.out.links.below Ly.out.bel).more Ly.out.bel.size) HG.out.fine ((HR.out.below Ly.out.bel).more Ly.out.bel.size))).mono ?_⟩
  rintro e W13 ⟨⟨ga, gp, gu, gs, gl⟩, lm, AM, cAM, rfl, hst, hi, hb, hcapAM⟩
  replace Ly := lyb Ly hb
  replace HAN := iu HAN hb
  replace HAG := iu HAG hb
  clear hb
  have HSTg := lh hst
  have HAM := lh hi
  clear hst hi
  have hlm40 := HSTg.out.2.1
  gi_upto_region 10 with fail
  obtain ⟨V14, hV⟩ : ∃ V, (W13.alloc (.cells #[.int .i64 ga, .int .i64 gu, .int .i64 gp, .int .i64 gp, .int .i64 gu, .int .i64 gs, .int .i64 gl] 39)) = V := ⟨_, rfl⟩
  rw [hV]
  have hb := fbox_bel hV
  have hnew := fbox_blk hV
  have hge := Ly.out.bel.size
  replace Ly := lyb Ly hb
  replace HAN := iu HAN hb
  replace HAG := iu HAG hb
  replace HAM := iu HAM hb
  replace Ly := lh (Ly.out.add hge hnew)
  clear hnew hge hb hV
  obtain ⟨G15, hG⟩ : ∃ g, W13.heap.size = g := ⟨_, rfl⟩
  rw [hG] at Ly ⊢
  clear hG
  obtain ⟨x1_0, x1_1, x1_2, x1_3, x1_4, x1_5, x1_6⟩ := lyc7 Ly 1 rfl
  have l1_ := Ly.out.lt 1 rfl
  gi_upto_if 114 with fail
  clear x1_0 x1_1 x1_2 x1_3 x1_4 x1_5 x1_6 l1_
  obtain ⟨bq, hbq⟩ : ∃ b, (ga == v) = b := ⟨_, rfl⟩
  rw [hbq]
  have HBQ := lh hbq
  clear hbq
  gi_cut [] from 115 (fun wx => Hid (Below V14.heap.size V14 wx))
  case first =>
   have HB0 := lh (Below.refl V14.heap.size V14)
   cases bq with
   | true =>
    have hgo : ga = v := by simpa using HBQ.out
    clear HBQ
    subst hgo
    gi_wp2
    gi_loopw [117] (fun vi wr => ∃ (i : Nat), i ≤ nAN ∧ vi = .int .i64 i ∧ wr = V14)
     (fun vi _ => nAN - (intOf vi).toNat)
    case atStart => exact ⟨0, by omega, rfl, rfl⟩
    case round =>
     obtain ⟨i, hi0, rfl, hww⟩ := hrel
     have hww' := hww.symm
     clear hww
     subst hww'
     by_cases hil : i < nAN
     ·obtain ⟨b3, o3, id, rfl, hb3, hid, hc3⟩ := HAN.out.cell hil
      have HIN := lh (need_inZ HTB.out HSTg.out.1 rfl (mem_need (List.mem_of_getElem? hid)))
      clear hid
      gi_wp2
      gi_loopw [26, 123] (fun vb vi wr2 => ∃ (j : Nat), j ≤ lm.length ∧ vi = .int .i64 j ∧ vb = .bool ((lm.take j).any fun y => y == id) ∧ wr2 = V14)
       (fun vb vi _ => lm.length - (intOf vi).toNat)
      case atStart => exact ⟨0, by omega, rfl, rfl, rfl⟩
      case round =>
       obtain ⟨j, hj, rfl, rfl, hww⟩ := hrel
       have hww' := hww.symm
       clear hww
       subst hww'
       by_cases hjl : j < lm.length
       ·obtain ⟨b2, o2, y, rfl, hb2, hy, cy⟩ := HAM.out.cell hjl
        have HTK : Hid (((lm.take (j + 1)).any fun y => y == id) = (((lm.take j).any fun y => y == id) || (y == id))) := lh (by
         obtain ⟨hj', rfl⟩ := List.getElem?_eq_some_iff.1 hy
         rw [List.take_succ_eq_append_getElem hj', List.any_append]
         simp)
        clear hy
        cases hv : ((lm.take j).any fun y => y == id) with
        | true =>
         have HV := lh hv
         clear hv
         gi_wp2
         go_roundw
         case rel => exact ⟨j + 1, by omega, by go_num, by rw [HTK.out, HV.out]; rfl, trivial⟩
         case measure => simp [intOf]; omega
        | false =>
         have HV := lh hv
         clear hv
         gi_wp2
         go_roundw
         case rel => exact ⟨j + 1, by omega, by go_num, by rw [HTK.out, HV.out]; rfl, trivial⟩
         case measure => simp [intOf]; omega
       ·have hTA : ((lm.take j).any fun y => y == id) = decide (id ∈ lm) := any_take_mem (by have := HAM.out.len; omega)
        have HTA := lh hTA
        rw [hTA]
        clear hTA
        rw [show decide (id ∈ lm) = true from by simpa using HIN.out]
        gi_wp2
        go_roundw
        case rel => exact ⟨i + 1, by omega, by go_num, trivial⟩
        case measure => simp [intOf]; omega
     ·gi_wp2
      gi_loopw [139] (fun vi wr => ∃ (i : Nat), i ≤ nAG ∧ vi = .int .i64 i ∧ Hid (Below V14.heap.size V14 wr))
       (fun vi _ => nAG - (intOf vi).toNat)
      case atStart => exact ⟨0, by omega, rfl, lh (Below.refl _ _)⟩
      case round =>
       obtain ⟨i, hi0, rfl, HBL⟩ := hrel
       rename World => wq
       have hb := HBL.out
       replace Ly := lyb Ly hb
       replace HAN := iu HAN hb
       replace HAG := iu HAG hb
       replace HAM := iu HAM hb
       replace HB0 := lh (HB0.out.trans (hb.mono HB0.out.size))
       clear hb
       by_cases hil : i < nAG
       ·obtain ⟨b3, o3, id, rfl, hb3, hid, hc3⟩ := HAG.out.cell hil
        obtain ⟨hg1, hg2, hg3⟩ := mem_gate (List.mem_of_getElem? hid)
        have HGA := lh (gate_at HTB.out HSTg.out.1 rfl hg3 hg1)
        clear hid hg1 hg2 hg3
        gi_wp2
        gi_loopw [31, 145] (fun vb vi wr2 => ∃ (j : Nat), j ≤ lm.length ∧ vi = .int .i64 j ∧ vb = .bool (atAny t dk u lm id j) ∧ Hid (Below wq.heap.size wq wr2))
         (fun vb vi _ => lm.length - (intOf vi).toNat)
        case atStart => exact ⟨0, by omega, rfl, rfl, lh (Below.refl _ _)⟩
        case round =>
         obtain ⟨j, hj, rfl, rfl, HBM⟩ := hrel
         rename World => wq2
         have hb := HBM.out
         replace Ly := lyb Ly hb
         replace HAN := iu HAN hb
         replace HAG := iu HAG hb
         replace HAM := iu HAM hb
         replace HB0 := lh (HB0.out.trans (hb.mono HB0.out.size))
         replace HBL := lh (HBL.out.trans (hb.mono HBL.out.size))
         clear hb
         by_cases hjl : j < lm.length
         ·have hr0 : (0 : Int) ≤ (j : Int) := by omega
          have hrn : (j : Int) ≤ (lm.length : Int) := by omega
          have hrc : (j : Int) ≤ (cAM : Int) := by omega
          gi_upto_region 30 with fail
          have HLay0 := lh Ly.out
          have HANz := lh HAN.out
          have HAGz := lh HAG.out
          have HAMz := lh HAM.out
          have HB0z := lh HB0.out
          have HBLz := lh HBL.out
          have HBMz := lh HBM.out
          have HBV := lh (Below.refl wq2.heap.size wq2)
          refine wpIn_flow_new [([true, true, true, true, true, true], 6)] [false, false, false, false, false, false, false, true, true, true, false, false, true] [false, false, false, false, false, false, false, false, false, false, false, true] 10 (fun b => .pointer (some ⟨b, 0, none⟩)) 39 #[.int .i64 0, .int .i64 0, .int .i64 0, .int .i64 0, .int .i64 0, .int .i64 0, .int .i64 0] (by kernel_rfl) (by kernel_rfl) (by kernel_rfl) (below_drewN (Below.refl _ _) 1) rfl rfl rfl (fun _ _ => rfl) (fun _ _ => rfl) ?_
          refine wpFlow_cons (A := ?AF3) rfl ?hq3 ?_
          case hq3 =>
           rintro σ hσ of hof hcl
           have HOF := lh hof
           have HCL := lh hcl
           clear hof hcl
           obtain ⟨c0_, c1_⟩ := lyz2 Ly HOF 0 rfl
           have hfw := hfT
           simp only [pickB]
           repeat (gi_big_quiet_step (fail))
           refine wpQuietIn_nil ?_
           exact rfl
          intro W16 hW
          replace Ly := lyb Ly hW
          replace HAN := iu HAN hW
          replace HAG := iu HAG hW
          replace HAM := iu HAM hW
          replace HB0 := lh (HB0.out.trans (hW.mono HB0.out.size))
          replace HBL := lh (HBL.out.trans (hW.mono HBL.out.size))
          replace HBM := lh (HBM.out.trans (hW.mono HBM.out.size))
          replace HBV := lh (HBV.out.trans (hW.mono HBV.out.size))
          clear hW
          gi_wp2
          refine ⟨trivial, (callsIn_wide.2 (follow_any A n c A' m d t u AM j cAM (lm.take j) dk W16 hm20 (by omega) ((HT.out.links.below Ly.out.bel).more Ly.out.bel.size) HG.out.fine (ints_take HAM.out (by omega)))).mono ?_⟩
          rintro e W17 ⟨rfl, hb⟩
          replace Ly := lyb Ly hb
          replace HAN := iu HAN hb
          replace HAG := iu HAG hb
          replace HAM := iu HAM hb
          replace HB0 := lh (HB0.out.trans (hb.mono HB0.out.size))
          replace HBL := lh (HBL.out.trans (hb.mono HBL.out.size))
          replace HBM := lh (HBM.out.trans (hb.mono HBM.out.size))
          replace HBV := lh (HBV.out.trans (hb.mono HBV.out.size))
          obtain ⟨q, hq⟩ : ∃ q, followF t dk (startG u) (lm.take j) = q := ⟨_, rfl⟩
          obtain ⟨⟨xa, xp, xu, xs, xl⟩, ok2⟩ := q
          rw [hq]
          have HFO := lh hq
          clear hq
          gi_wp2
          refine ⟨trivial, hb, ?_⟩
          clear hb
          refine wpFlow_nil (A := ?AF4) ?hq4 ?_
          case hq4 =>
           rintro σ hσ of hof hcl
           have HOF := lh hof
           have HCL := lh hcl
           clear hof hcl
           obtain ⟨c0_, c1_⟩ := lyz2 Ly HOF 0 rfl
           have hfw := hfT
           simp only [pickB]
           repeat (gi_big_quiet_step (fail))
           refine wpQuietIn_nil ?_
           exact rfl
          intro G9 W18 hW hbg hbb hbi
          replace Ly := lyb Ly hW
          replace HAN := iu HAN hW
          replace HAG := iu HAG hW
          replace HAM := iu HAM hW
          replace HB0 := lh (HB0.out.trans (hW.mono HB0.out.size))
          replace HBL := lh (HBL.out.trans (hW.mono HBL.out.size))
          replace HBM := lh (HBM.out.trans (hW.mono HBM.out.size))
          replace HBV := lh (HBV.out.trans (hW.mono HBV.out.size))
          have c0 := hbb.cell 0
          have z0 := hbb.frozen 0
          have c1 := hbb.cell 1
          have z1 := hbb.frozen 1
          have c2 := hbb.cell 2
          have z2 := hbb.frozen 2
          have c3 := hbb.cell 3
          have z3 := hbb.frozen 3
          have c4 := hbb.cell 4
          have z4 := hbb.frozen 4
          have c5 := hbb.cell 5
          have z5 := hbb.frozen 5
          have c6 := hbb.cell 6
          have z6 := hbb.frozen 6
          have hbl := hbb.lt
          have hbw : w.heap.size ≤ G9 := Nat.le_trans HLay0.out.1.size hbg
          simp only [pickB]
          refine wpT_cons ?_
          gi_wp2
          refine wpT_nil ?_
          have R2 := ret7' hbb (Below.refl G9 W18) (Nat.le_refl _) (.int .i64 xa) (.int .i64 xu) (.int .i64 xp) (.int .i64 xp) (.int .i64 xu) (.int .i64 xs) (.int .i64 xl)
          have hbv := HBV.out.trans (R2.2.1.mono hbg)
          replace HAN := lh (ints_up HANz.out hbv)
          replace HAG := lh (ints_up HAGz.out hbv)
          replace HAM := lh (ints_up HAMz.out hbv)
          replace HB0 := lh (HB0z.out.trans (hbv.mono HB0z.out.size))
          replace HBL := lh (HBLz.out.trans (hbv.mono HBLz.out.size))
          replace HBM := lh (HBMz.out.trans (hbv.mono HBMz.out.size))
          clear HBV hbv HANz HAGz HAMz HB0z HBLz HBMz
          replace Ly := lh (Lay.add (w := w) (bs := [(w.heap.size, 25, #[.slice A n c, .slice A' m d]), (G15, 39, #[.int .i64 ga, .int .i64 gu, .int .i64 gp, .int .i64 gp, .int .i64 gu, .int .i64 gs, .int .i64 gl])]) ⟨Ly.out.1.trans (R2.2.1.mono hbw), fun p hp => ⟨(Ly.out.2 p hp).1, (Ly.out.2 p hp).2.below R2.2.1 (by have := (HLay0.out.2 p hp).2.lt; omega)⟩⟩ hbw R2.1)
          generalize (((((((W18.setCell ⟨G9, 0, none⟩ (.int .i64 xa)).setCell ⟨G9, 1, none⟩ (.int .i64 xu)).setCell ⟨G9, 2, none⟩ (.int .i64 xp)).setCell ⟨G9, 3, none⟩ (.int .i64 xp)).setCell ⟨G9, 4, none⟩ (.int .i64 xu)).setCell ⟨G9, 5, none⟩ (.int .i64 xs)).setCell ⟨G9, 6, none⟩ (.int .i64 xl)) = W19 at *
          clear c0 z0 c1 z1 c2 z2 c3 z3 c4 z4 c5 z5 c6 z6 hbl hbb hW hbg R2 hbw hbi HLay0
          have HAS := lh (show atAny t dk u lm id (j + 1) = (atAny t dk u lm id j || (xa == id)) from by rw [atAny_succ]; unfold atP; rw [HFO.out])
          cases hv : atAny t dk u lm id j with
          | true =>
           have HV := lh hv
           clear hv
           obtain ⟨x2_0, x2_1, x2_2, x2_3, x2_4, x2_5, x2_6⟩ := lyc7 Ly 2 rfl
           have l2_ := Ly.out.lt 2 rfl
           gi_wp2
           clear x2_0 x2_1 x2_2 x2_3 x2_4 x2_5 x2_6 l2_
           go_roundw
           case rel => exact ⟨j + 1, by omega, by go_num, by rw [HAS.out, HV.out]; rfl, HBM⟩
           case measure => simp [intOf]; omega
          | false =>
           have HV := lh hv
           clear hv
           obtain ⟨x2_0, x2_1, x2_2, x2_3, x2_4, x2_5, x2_6⟩ := lyc7 Ly 2 rfl
           have l2_ := Ly.out.lt 2 rfl
           gi_wp2
           clear x2_0 x2_1 x2_2 x2_3 x2_4 x2_5 x2_6 l2_
           go_roundw
           case rel => exact ⟨j + 1, by omega, by go_num, by rw [HAS.out, HV.out]; rfl, HBM⟩
           case measure => simp [intOf]; omega
         ·obtain rfl : j = lm.length := by omega
          rw [HGA.out]
          gi_wp2
          go_roundw
          case rel => exact ⟨i + 1, by omega, by go_num, HBL⟩
          case measure => simp [intOf]; omega
       ·gi_wp2
        gi_meet
        exact HB0
   | false =>
    gi_wp2
    gi_meet
    exact HB0
  case rest =>
   rename World => C20
   have hb := hcut.out
   clear hcut
   replace Ly := lyb Ly hb
   replace HAN := iu HAN hb
   replace HAG := iu HAG hb
   replace HAM := iu HAM hb
   clear hb
   obtain ⟨x0_0, x0_1⟩ := lyc2 Ly 0 rfl
   have l0_ := Ly.out.lt 0 rfl
   gi_wp2
   clear x0_0 x0_1 l0_
   refine ⟨trivial, (callsIn_wide.2 (lplace_any A n c A' m d t whe C20 hn1 (by omega) hwhe ((HT.out.places.below Ly.out.bel).more Ly.out.bel.size))).mono ?_⟩
   rintro e W21 ⟨rfl, hb⟩
   replace Ly := lyb Ly hb
   replace HAN := iu HAN hb
   replace HAG := iu HAG hb
   replace HAM := iu HAM hb
   clear hb
   obtain ⟨pl, hpl⟩ : ∃ pl, plN t whe = pl := ⟨_, rfl⟩
   rw [hpl]
   have Hpl := lh (show pl ∈ t.places from hpl ▸ plN_mem HP1.out whe)
   clear hpl
   gi_wp2
   gi_loopw [36, 174] (fun vb vi wr2 => ∃ (j : Nat), j ≤ nAG ∧ vi = .int .i64 j ∧ vb = .bool (((neededL t u v dk (othersL t u v) ofGate).take j).any fun y => y == pl) ∧ wr2 = W21)
    (fun vb vi _ => nAG - (intOf vi).toNat)
   case atStart => exact ⟨0, by omega, rfl, rfl, rfl⟩
   case round =>
    obtain ⟨j, hj, rfl, rfl, hww⟩ := hrel
    have hww' := hww.symm
    clear hww
    subst hww'
    by_cases hjl : j < nAG
    ·obtain ⟨b2, o2, y, rfl, hb2, hy, cy⟩ := HAG.out.cell hjl
     have HTK : Hid ((((neededL t u v dk (othersL t u v) ofGate).take (j + 1)).any fun y => y == pl) = ((((neededL t u v dk (othersL t u v) ofGate).take j).any fun y => y == pl) || (y == pl))) := lh (by
      obtain ⟨hj', rfl⟩ := List.getElem?_eq_some_iff.1 hy
      rw [List.take_succ_eq_append_getElem hj', List.any_append]
      simp)
     clear hy
     cases hv : (((neededL t u v dk (othersL t u v) ofGate).take j).any fun y => y == pl) with
     | true =>
      have HV := lh hv
      clear hv
      gi_wp2
      go_roundw
      case rel => exact ⟨j + 1, by omega, by go_num, by rw [HTK.out, HV.out]; rfl, trivial⟩
      case measure => simp [intOf]; omega
     | false =>
      have HV := lh hv
      clear hv
      gi_wp2
      go_roundw
      case rel => exact ⟨j + 1, by omega, by go_num, by rw [HTK.out, HV.out]; rfl, trivial⟩
      case measure => simp [intOf]; omega
    ·have hTA : (((neededL t u v dk (othersL t u v) ofGate).take j).any fun y => y == pl) = decide (pl ∈ (neededL t u v dk (othersL t u v) ofGate)) := any_take_mem (by have := HAG.out.len; omega)
     have HTA := lh hTA
     rw [hTA]
     clear hTA
     obtain ⟨bi, hbi⟩ : ∃ b, decide (pl ∈ (neededL t u v dk (othersL t u v) ofGate)) = b := ⟨_, rfl⟩
     rw [hbi]
     have HBI := lh hbi
     clear hbi HTA
     gi_upto_region 43 with fail
     gi_cut [216] from 185 (fun v216 wx => v216 = .bool false ∧ Hid (Below W21.heap.size W21 wx))
     case first =>
      have HB0 := lh (Below.refl W21.heap.size W21)
      by_cases hpu : pl = u
      ·have hp1 : (pl != u) = false := by simpa using hpu
       obtain rfl : bi = false := HBI.out.symm.trans (gate_not (.inl hpu))
       clear hpu
       obtain ⟨x0_0, x0_1⟩ := lyc2 Ly 0 rfl
       have l0_ := Ly.out.lt 0 rfl
       gi_wp2
       all_goals try (rename_i hA hB; exact undef_ne hA)
       clear x0_0 x0_1 l0_
       refine ⟨trivial, ?_⟩
       gi_wp2
       refine ⟨trivial, ?_⟩
       gi_wp2
       gi_meet
       exact ⟨rfl, HB0⟩
      have hp1 : (pl != u) = true := by simpa using hpu
      by_cases hpv : pl = v
      ·have hp2 : (pl != v) = false := by simpa using hpv
       obtain rfl : bi = false := HBI.out.symm.trans (gate_not (.inr hpv))
       clear hpv hpu
       obtain ⟨x0_0, x0_1⟩ := lyc2 Ly 0 rfl
       have l0_ := Ly.out.lt 0 rfl
       gi_wp2
       all_goals try (rename_i hA hB; exact undef_ne hA)
       clear x0_0 x0_1 l0_
       refine ⟨trivial, ?_⟩
       gi_wp2
       refine ⟨trivial, ?_⟩
       gi_wp2
       gi_meet
       exact ⟨rfl, HB0⟩
      have hp2 : (pl != v) = true := by simpa using hpv
      have hp3 : (pl == u) = false := by simpa using hpu
      have hp4 : (pl == v) = false := by simpa using hpv
      have HBG := lh ((gate_dec Hpl.out hpu hpv).symm.trans HBI.out)
      clear hpu hpv
      obtain ⟨x0_0, x0_1⟩ := lyc2 Ly 0 rfl
      have l0_ := Ly.out.lt 0 rfl
      gi_wp2
      clear x0_0 x0_1 l0_
      refine ⟨trivial, (callsIn_wide.2 (shut_any A n c A' m d t pl W21 (by omega) (by omega) ((HT.out.below Ly.out.bel).more Ly.out.bel.size))).mono ?_⟩
      rintro e W22 ⟨AS, cS, AS2, cS2, rfl, hS1, hS2, _, hb⟩
      replace Ly := lyb Ly hb
      replace HAN := iu HAN hb
      replace HAG := iu HAG hb
      replace HAM := iu HAM hb
      replace HB0 := lh (HB0.out.trans (hb.mono HB0.out.size))
      clear hb
      obtain ⟨ts, hts⟩ : ∃ x, lessT t (ofGate pl) = x := ⟨_, rfl⟩
      rw [hts] at hS1 hS2 ⊢
      have HS1 := lh hS1
      have HS2 := lh hS2
      have HTS := lh hts
      clear hts hS1 hS2
      have hms : ts.links.length ≤ 20 := by rw [← HTS.out]; have h1 : (lessT t (ofGate pl)).links.length ≤ t.links.length := List.length_filter_le _ _; have := HLm.out; omega
      gi_wp2
      refine ⟨trivial, (callsIn_wide.2 (rhas_any AS ts.places.length cS AS2 ts.links.length cS2 ts u v dk W22 hms ⟨ints_of_own HS1.out (Nat.le_refl _), links_of_own HS2.out (Nat.le_refl _)⟩ (by rw [← HTS.out]; exact goodT (townB_less HTB.out)) (by rw [← HTS.out]; exact Hu.out))).mono ?_⟩
      rintro e W23 ⟨rfl, hb⟩
      replace Ly := lyb Ly hb
      replace HAN := iu HAN hb
      replace HAG := iu HAG hb
      replace HAM := iu HAM hb
      replace HB0 := lh (HB0.out.trans (hb.mono HB0.out.size))
      replace HS1 := lh (HS1.out.below hb (Nat.le_refl _))
      replace HS2 := lh (HS2.out.below hb (Nat.le_refl _))
      clear hb
      rw [show (best ts dk freeP u v).isSome = !bi from by rw [← HBG.out, ← HTS.out]; unfold goneB; simp]
      cases bi with
      | true =>
       obtain ⟨x0_0, x0_1⟩ := lyc2 Ly 0 rfl
       have l0_ := Ly.out.lt 0 rfl
       gi_wp2
       clear x0_0 x0_1 l0_
       gi_meet
       exact ⟨rfl, HB0⟩
      | false =>
       obtain ⟨x0_0, x0_1⟩ := lyc2 Ly 0 rfl
       have l0_ := Ly.out.lt 0 rfl
       gi_wp2
       clear x0_0 x0_1 l0_
       gi_meet
       exact ⟨rfl, HB0⟩
     case rest =>
      obtain ⟨rfl, hcb⟩ := hcut
      rename World => C24
      have hb := hcb.out
      clear hcb
      replace Ly := lyb Ly hb
      replace HAN := iu HAN hb
      replace HAG := iu HAG hb
      replace HAM := iu HAM hb
      clear hb
      by_cases hm0 : m = 0
      ·have hm0b : (((m : Nat) : Int) == 0) = true := by simp; omega
       have HN0 := lh (show nAN = 0 from by have h1 := HAN.out.len; have h2 := needed_len t u v dk (idsOf t.links) ofOnly; have h3 : (idsOf t.links).length = t.links.length := (by simp [idsOf]); have := HLm.out; omega)
       obtain rfl := HN0.out
       obtain ⟨x0_0, x0_1⟩ := lyc2 Ly 0 rfl
       have l0_ := Ly.out.lt 0 rfl
       gi_wp2
       clear x0_0 x0_1 l0_
       exact bodyPost_ret (v := .bool true) (by simp [results, Tryz.results5, go_sem]) rfl ⟨rfl, Ly.out.bel⟩
      have hm0b : (((m : Nat) : Int) == 0) = false := by simp; omega
      have hm1 : 0 < m := by omega
      obtain ⟨x0_0, x0_1⟩ := lyc2 Ly 0 rfl
      have l0_ := Ly.out.lt 0 rfl
      gi_upto_region 47 with fail
      clear x0_0 x0_1 l0_
      have hrm : wh % m < m := Nat.mod_lt _ hm1
      have HM : Hid (Int.tmod (wh : Int) (m : Int) = ((wh % m : Nat) : Int)) := lh (by rw [Int.tmod_eq_emod_of_nonneg (by omega)]; push_cast; rfl)
      obtain ⟨r, hrq⟩ : ∃ r, wh % m = r := ⟨_, rfl⟩
      rw [hrq] at HM hrm
      obtain ⟨bq, oq, yl, rfl, hbq, hy, h0, _, _, _, _⟩ := (HT.out.links.below Ly.out.bel).cell hrm
      have HYM := lh (List.mem_of_getElem? hy)
      have HC0 := lh h0
      have hbl2 : bq < C24.heap.size := Nat.lt_of_lt_of_le hbq Ly.out.bel.size
      have HCL := lh (close_one HTB.out HYM.out)
      have r0 : (0 : Int) ≤ (r : Int) := by omega
      have rm : (r : Int) < (m : Int) := by omega
      have hmn : ¬ m = 0 := by omega
      have hmn2 : (m == 0) = false := by simp; omega
      have hmz : (((m : Nat) : Int) == 0) = false := by simp; omega
      have wx : IntKind.i64.wrap (wh : Int) = (wh : Int) := IntWalk.i64_in _ (by omega)
      have htm := HM.out
      clear hy h0 hrq hbq
      refine wpIn_flow_old [] [true, true, true, true, true, true, true, true, true, true, true, true] [] (by kernel_rfl) (by kernel_rfl) (by kernel_rfl) (below_drewN (Below.refl _ _) 1) ?_
      refine wpFlow_nil (A := ?AF5) ?hq5 ?_
      case hq5 =>
       rintro σ hσ of hof hcl
       have HOF := lh hof
       have HCL := lh hcl
       clear hof hcl
       obtain ⟨c0_, c1_⟩ := lyz2 Ly HOF 0 rfl
       have hfw := hfT
       have hcl : ∀ z, (of z).cell? ⟨bq, oq + r * 5, none⟩ = some (.int .i64 yl.id) := fun z => ((HOF.out z).cell (p := ⟨bq, oq + r * 5, none⟩) hbl2).trans HC0.out
       simp only [pickB]
       repeat (gi_big_quiet_step (fail))
       refine wpQuietIn_nil ?_
       exact rfl
      intro W25 hW
      replace Ly := lyb Ly hW
      replace HAN := iu HAN hW
      replace HAG := iu HAG hW
      replace HAM := iu HAM hW
      clear hW
      simp only [pickB]
      refine wpT_nil ?_
      clear r0 rm hmn hmn2 hmz wx htm
      gi_wp2
      gi_loopw [36, 240] (fun vb vi wr2 => ∃ (j : Nat), j ≤ nAN ∧ vi = .int .i64 j ∧ vb = .bool (((neededL t u v dk (idsOf t.links) ofOnly).take j).any fun y => y == yl.id) ∧ wr2 = W25)
       (fun vb vi _ => nAN - (intOf vi).toNat)
      case atStart => exact ⟨0, by omega, rfl, rfl, rfl⟩
      case round =>
       obtain ⟨j, hj, rfl, rfl, hww⟩ := hrel
       have hww' := hww.symm
       clear hww
       subst hww'
       by_cases hjl : j < nAN
       ·obtain ⟨b2, o2, y, rfl, hb2, hy, cy⟩ := HAN.out.cell hjl
        have HTK : Hid ((((neededL t u v dk (idsOf t.links) ofOnly).take (j + 1)).any fun y => y == yl.id) = ((((neededL t u v dk (idsOf t.links) ofOnly).take j).any fun y => y == yl.id) || (y == yl.id))) := lh (by
         obtain ⟨hj', rfl⟩ := List.getElem?_eq_some_iff.1 hy
         rw [List.take_succ_eq_append_getElem hj', List.any_append]
         simp)
        clear hy
        cases hv : (((neededL t u v dk (idsOf t.links) ofOnly).take j).any fun y => y == yl.id) with
        | true =>
         have HV := lh hv
         clear hv
         gi_wp2
         go_roundw
         case rel => exact ⟨j + 1, by omega, by go_num, by rw [HTK.out, HV.out]; rfl, trivial⟩
         case measure => simp [intOf]; omega
        | false =>
         have HV := lh hv
         clear hv
         gi_wp2
         go_roundw
         case rel => exact ⟨j + 1, by omega, by go_num, by rw [HTK.out, HV.out]; rfl, trivial⟩
         case measure => simp [intOf]; omega
       ·have hTA : (((neededL t u v dk (idsOf t.links) ofOnly).take j).any fun y => y == yl.id) = decide (yl.id ∈ (neededL t u v dk (idsOf t.links) ofOnly)) := any_take_mem (by have := HAN.out.len; omega)
        have HTA := lh hTA
        rw [hTA]
        clear hTA
        obtain ⟨bi2, hbi⟩ : ∃ b, decide (yl.id ∈ (neededL t u v dk (idsOf t.links) ofOnly)) = b := ⟨_, rfl⟩
        rw [hbi]
        have HBJ := lh ((need_dec HYM.out).symm.trans hbi)
        clear hbi HTA
        obtain ⟨x0_0, x0_1⟩ := lyc2 Ly 0 rfl
        have l0_ := Ly.out.lt 0 rfl
        gi_wp2
        clear x0_0 x0_1 l0_
        obtain ⟨V26, hV⟩ : ∃ V, (W25.alloc (.cells #[.int .i64 yl.id] 3)) = V := ⟨_, rfl⟩
        rw [hV]
        have hb := fbox_bel hV
        have hnew := fbox_blk hV
        have hge := Ly.out.bel.size
        replace Ly := lyb Ly hb
        replace HAN := iu HAN hb
        replace HAG := iu HAG hb
        replace HAM := iu HAM hb
        replace Ly := lh (Ly.out.add hge hnew)
        clear hnew hge hb hV
        obtain ⟨G27, hG⟩ : ∃ g, W25.heap.size = g := ⟨_, rfl⟩
        rw [hG] at Ly ⊢
        clear hG
        refine ⟨trivial, (callsIn_wide.2 (close_any A n c (some ⟨bq, oq, none⟩) m d t (some ⟨G27, 0, none⟩) 1 1 [yl.id] V26 (by omega) (by omega) (by omega) ((HT.out.below Ly.out.bel).more Ly.out.bel.size) (one_int (x := yl.id) (Ly.out.lt 2 rfl) (lyc Ly 2 rfl 0)) (HL.out.below Ly.out.bel hl0))).mono ?_⟩
        rintro e W28 ⟨AZ, cZ, AY, cY, rfl, hZ1, hZ2, _, hb⟩
        replace Ly := lyb Ly hb
        replace HAN := iu HAN hb
        replace HAG := iu HAG hb
        replace HAM := iu HAM hb
        clear hb
        rw [HCL.out.1, HCL.out.2]
        rw [HCL.out.2] at hZ1 hZ2
        obtain ⟨tl, htl⟩ : ∃ x, lessT t (fun y' => memI [yl.id] y'.id) = x := ⟨_, rfl⟩
        have hwe : wayE tl u v dk = if bi2 then 6 else 0 := by rw [← htl, show (fun y' : Link => memI [yl.id] y'.id) = ofOnly yl.id from by funext x; simp [memI, ofOnly]; rfl, wayE_less HA2.out, HBJ.out]
        rw [htl] at hZ1 hZ2 ⊢
        have HWE := lh hwe
        have HZ1 := lh hZ1
        have HZ2 := lh hZ2
        have HTL := lh htl
        clear htl hZ1 hZ2 hwe
        have hnl : tl.places.length ≤ 1000 := by rw [← HTL.out]; exact less_n HLn.out (by omega)
        have hml : tl.links.length ≤ 1000 := by rw [← HTL.out]; exact less_m HLm.out (by omega)
        gi_upto_region 55 with fail
        obtain ⟨V29, hV⟩ : ∃ V, (W28.alloc (.cells #[.slice AZ tl.places.length cZ, .slice AY tl.links.length cY] 25)) = V := ⟨_, rfl⟩
        rw [hV]
        have hb := fbox_bel hV
        have hnew := fbox_blk hV
        have hge := Ly.out.bel.size
        replace Ly := lyb Ly hb
        replace HAN := iu HAN hb
        replace HAG := iu HAG hb
        replace HAM := iu HAM hb
        replace HZ1 := lh (HZ1.out.below hb (Nat.le_refl _))
        replace HZ2 := lh (HZ2.out.below hb (Nat.le_refl _))
        replace Ly := lh (Ly.out.add hge hnew)
        clear hnew hge hb hV
        obtain ⟨G30, hG⟩ : ∃ g, W28.heap.size = g := ⟨_, rfl⟩
        rw [hG] at Ly ⊢
        clear hG
        obtain ⟨x3_0, x3_1⟩ := lyc2 Ly 3 rfl
        have l3_ := Ly.out.lt 3 rfl
        gi_wp2
        clear x3_0 x3_1 l3_
        refine ⟨trivial, (callsIn_wide.2 (waylc_any AZ tl.places.length cZ AY tl.links.length cY tl u v dk V29 hnl hml ⟨ints_of_own HZ1.out (Nat.le_refl _), links_of_own HZ2.out (Nat.le_refl _)⟩ (HL.out.below Ly.out.bel hl0))).mono ?_⟩
        rintro e W31 ⟨AW, nAW, cAW, rfl, hi, hb, _⟩
        replace Ly := lyb Ly hb
        replace HAN := iu HAN hb
        replace HAG := iu HAG hb
        replace HAM := iu HAM hb
        replace HZ1 := lh (HZ1.out.below hb (Nat.le_refl _))
        replace HZ2 := lh (HZ2.out.below hb (Nat.le_refl _))
        clear hb
        rw [HWE.out]
        clear hi
        cases bi2 with
        | true =>
         obtain ⟨x0_0, x0_1⟩ := lyc2 Ly 0 rfl
         have l0_ := Ly.out.lt 0 rfl
         gi_wp2
         all_goals try (rename_i hA hB; exact undef_ne hA)
         clear x0_0 x0_1 l0_
         exact bodyPost_ret (v := .bool true) (by simp [results, Tryz.results5, go_sem]) rfl ⟨rfl, Ly.out.bel⟩
        | false =>
         obtain ⟨x0_0, x0_1⟩ := lyc2 Ly 0 rfl
         have l0_ := Ly.out.lt 0 rfl
         gi_wp2
         all_goals try (rename_i hA hB; exact undef_ne hA)
         clear x0_0 x0_1 l0_
         exact bodyPost_ret (v := .bool true) (by simp [results, Tryz.results5, go_sem]) rfl ⟨rfl, Ly.out.bel⟩
theorem zneed_walk (A : Option Addr) (n c : Nat) (A' : Option Addr) (m d : Nat) (t : Town) (fr : Nat) (to_ : Nat) (dk : Bool) (by_A : Option Addr) (by_n by_c : Nat) (by_ : List Nat) (wh : Nat) (whe : Nat) (w : World) (hn : n ≤ maxLen) (hm : m ≤ maxLen) (hfr : fr ≤ 255) (hto_ : to_ ≤ 255) (hby_ : by_n ≤ maxLen) (hwh : wh ≤ 255) (hwhe : whe ≤ 255) (ht : TownAt w w.heap.size A n A' m t) (rby_ : BytesAt w w.heap.size by_A by_n by_) (hL : Laid w) :
  Calls Tryz.prog 5 #[.agg #[.slice A n c, .slice A' m d], .int .u8 fr, .int .u8 to_, .bool dk, .slice by_A by_n by_c, .int .u8 wh, .int .u8 whe] w fun e w' => e = .returned (.bool true) ∧ Below w.heap.size w w' :=
 callsIn_wide.1 (zneed_walk_in A n c A' m d t fr to_ dk by_A by_n by_c by_ wh whe w hn hm hfr hto_ hby_ hwh hwhe ht rby_ hL)
end
section
open Go.ChangeShapes Go.WideShapes Go.ChangeAt Go.RowKit
set_option maxRecDepth 100000
def laidL : List (String × DataW Unit) := [("aguador/climb.checks", Rows.laid_aguador_climb_checks)]
theorem gChecks : Tryz.prog.globalNamed "aguador/climb.checks" = some 0 := by kernel_rfl
theorem tChecks : (Tryz.prog.globals[0]?).map (·.type) = some 163 := by kernel_rfl
theorem cellsCheck : Tryz.prog.cellsOf 162 = 1 := by kernel_rfl
theorem cellsFuncB : Tryz.prog.cellsOf 28 = 1 := by kernel_rfl
theorem checkUnd : ∃ f, Tryz.prog.underlying 162 = some (.struct #[f]) ∧ f.type = 28 ∧ f.offset = 0 := ⟨_, Tryz.underlying162, rfl, rfl⟩
theorem door_met (os : Os) (args : Array Value) : laidMetH Tryz.prog laidL ((World.doorLaid Tryz.prog 800 os).forCall (fun _ _ => 0) ⟨#[], args, []⟩).memory :=
 laidMetH_of_parts3 (fuel := 8) (laidMet_of_run' 8 (by kernel_rfl) (by kernel_rfl)) (by kernel_rfl) (by kernel_rfl)
theorem check_cell {W : World} {fuel : Nat} {cs : List Value} {b : UInt8} {r : List UInt8} {q : List MemPlace} {f0 : FuncId} (h : DataW.trod (funcToken Tryz.prog) Tryz.prog W 0 (fun _ => true) true fuel 162 cs = some (.agg [.held (b :: r)], q))
  (hone : ((List.range Tryz.prog.funcs.size).filter fun f => (Tryz.prog.funcs[f]?).any (·.name.toUTF8.data.toList == b :: r)) = [f0]) : cs = [.func (.func f0) #[] #[]] := by
 obtain ⟨f, hu, ht, ho⟩ := checkUnd
 obtain ⟨y0, n, hx, hl, h0⟩ := trod_struct1 hu h
 rw [cellsCheck] at hl
 match cs, hl with
 | [c], _ =>
  have h1 : DataW.trod (funcToken Tryz.prog) Tryz.prog W 0 (fun _ => true) true n 28 [c] = some y0 := by simpa [ht, ho, cellsFuncB] using h0
  simp only [Prod.mk.injEq, DataW.agg.injEq, List.cons.injEq, and_true] at hx
  obtain ⟨z, p⟩ := y0
  obtain ⟨e1, e2⟩ := hx
  simp only at e1
  subst e1
  rw [func_of_trod Tryz.underlying28 hone h1]
theorem of_laid {W : World} (h : laidMetH Tryz.prog laidL W) : Laid W := by
 obtain ⟨g, t, cs, fuel, p, hg, ht, hv, hd⟩ := h.funcs (List.mem_singleton.2 rfl)
 obtain rfl := Option.some.inj (gChecks.symm.trans hg)
 obtain rfl := Option.some.inj (tChecks.symm.trans ht)
 obtain ⟨xs, m, _, hx, hlen, hn, hel⟩ := DataW.trod_array Tryz.underlying163 hd
 rw [cellsCheck] at hel
 match xs, hn with
 | [x0, x1, x2], _ =>
  have h0 := hel 0 (by decide)
  have h1 := hel 1 (by decide)
  have h2 := hel 2 (by decide)
  simp only [Prod.mk.injEq] at hx
  have hx1 := hx.1
  simp only [DataW.funcsOut, DataW.funcsOutAll, List.map_cons, List.map_nil, DataW.agg.injEq, List.cons.injEq, and_true] at hx1
  obtain ⟨e0, e1, e2⟩ := hx1
  obtain ⟨x0, p0⟩ := x0
  obtain ⟨x1, p1⟩ := x1
  obtain ⟨x2, p2⟩ := x2
  simp only at e0 e1 e2
  subst e0 e1 e2
  have k0 := check_cell (f0 := 174) h0 (by kernel_rfl)
  have k1 := check_cell (f0 := 175) h1 (by kernel_rfl)
  have k2 := check_cell (f0 := 176) h2 (by kernel_rfl)
  have at_ : ∀ i, W.cell? ⟨0, i, none⟩ = cs[i]? := fun i => by simpa using World.var?_cell hg hv i
  obtain ⟨l⟩ := cs
  have c0 : W.cell? ⟨0, 0, none⟩ = some (.func (.func 174) #[] #[]) := by
   rw [at_]
   have := congrArg (·[0]?) k0
   simpa [List.getElem?_take, List.getElem?_drop] using this
  have c1 : W.cell? ⟨0, 1, none⟩ = some (.func (.func 175) #[] #[]) := by
   rw [at_]
   have := congrArg (·[0]?) k1
   simpa [List.getElem?_take, List.getElem?_drop] using this
  have c2 : W.cell? ⟨0, 2, none⟩ = some (.func (.func 176) #[] #[]) := by
   rw [at_]
   have := congrArg (·[0]?) k2
   simpa [List.getElem?_take, List.getElem?_drop] using this
  exact ⟨c0, c1, c2, World.block_lt_of_cell? W _ c0⟩
end
end Go.Proofs.YtahkjagjcogeiaaGreatDoor
