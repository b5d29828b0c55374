/- Part 9 of the texts of this claim, joined. -/
import Derived.Sort.LoopGhostIn
import Derived.ChangeKeysEq
import Derived.Laws.StructEq
import Derived.Test.YtahkjagjcogeiaaDoorRows
import Derived.ProofKit
import Derived.LaidMore
import Derived.LaidHandle
import Derived.Stop.Joined
import Derived.ChangeSame
import Derived.OpenShut
import Derived.Test.YtahkjagjcogeiaaDoorSk8
/- The answer's costs: Bellman and Ford. -/
namespace Go.Proofs.YtahkjagjcogeiaaDoor
open Go.RowKit Go.Shelf
set_option linter.unusedVariables false

theorem wpListIn_make_all {F : Fence} {nn : Nat} {P : Program} {w : World} {ops : Array Oper} {rest : List Oper} {o : Oper} {a : Act} {Q : Exit → Act → World → Prop} (hgd : o.guard = none) (l c : Operand) (t : TypeId) (ho : o.op = .makeSlice t l c)
    (e : TypeId) (i : TypeInfo) (z : Value) (h1 : P.underlying t = some (.slice e)) (h2 : P.info? e = some i) (h3 : i.zero = some z) (n : Nat) (hl : a.eval l = .int .i64 n) (hc : a.eval c = .int .i64 n) (hb : i.bytes * n ≤ 140737488355328) (hn : n ≤ maxLen)
    (h : wpListIn F nn P ops Q rest (a.put o.dst (.slice (some ⟨w.heap.size, 0, none⟩) n n)) (w.alloc (.cells (madeCells z.cells (n * i.size)) e))) :
    wpListIn F nn P ops Q (o :: rest) a w := by
  have h63' : (n : Int) ≤ 9223372036854775807 := by
    have h := hn
    simp [maxLen] at h
    omega
  have hb' : (i.bytes : Int) * (n : Int) ≤ 281474976710656 := by
    rw [← Int.natCast_mul]
    omega
  refine wpListIn_plain hgd fun K hK => ?_
  have hr := run_make (P := P) w t e i z h1 h2 h3 .i64 .i64 n n (by omega) (Int.le_refl _) hb' h63'
  simp only [Int.toNat_natCast] at hr
  unfold Oper.wpIn
  refine ⟨?_, ?_⟩
  · simp [Oper.about, ho]
  · rw [Oper.semAt_plain F _ _ (by rw [ho]; intro c hc'; cases hc')]
    simp [execOp, ho, hl, hc, hr, Result.andThen]
    exact hK _ _ h

theorem info_rcost : (Tryd.prog.info? 103).map (fun i => (i.zero, i.size, i.bytes)) = some (some (.agg #[.int .i64 0, .int .i64 0, .int .i64 0, .int .i64 0]), 4, 32) := by kernel_rfl

structure RCSt (w : World) (T : Array Value) (p : Price) (E : List (Option Cost)) (W : World) : Prop where
  bel : Below w.heap.size w W
  tb : Blk W w.heap.size 25 T
  pb : Blk W (w.heap.size + 1) 107 #[.int .i64 p.pace, .int .i64 p.up, .int .i64 p.step]
  eb : Blk W (w.heap.size + 1 + 1) 103 (eVals E).toArray
section
variable {w W W' : World} {T : Array Value} {p : Price} {E : List (Option Cost)}
theorem RCSt.below (h : RCSt w T p E W) (hb : Below W.heap.size W W') : RCSt w T p E W' :=
  ⟨h.bel.trans (hb.mono h.bel.size), h.tb.below hb h.tb.lt, h.pb.below hb h.pb.lt, h.eb.below hb h.eb.lt⟩
theorem RCSt.cell (h : RCSt w T p E W) {k : Nat} {r : Option Cost} (hk : E[k]? = some r) : W.cell? ⟨w.heap.size + 1 + 1, k * 4, none⟩ = some (.int .i64 (entC r).a) ∧ W.cell? ⟨w.heap.size + 1 + 1, k * 4 + 1, none⟩ = some (.int .i64 (entC r).b) ∧
    W.cell? ⟨w.heap.size + 1 + 1, k * 4 + 2, none⟩ = some (.int .i64 (entC r).c) ∧ W.cell? ⟨w.heap.size + 1 + 1, k * 4 + 3, none⟩ = some (.int .i64 (entC r).d) := by
  refine ⟨?_, ?_, ?_, ?_⟩
  · rw [h.eb.cell, List.getElem?_toArray]; exact eVals_at (j := 0) hk (by omega)
  · rw [h.eb.cell, List.getElem?_toArray]; exact eVals_at (j := 1) hk (by omega)
  · rw [h.eb.cell, List.getElem?_toArray]; exact eVals_at (j := 2) hk (by omega)
  · rw [h.eb.cell, List.getElem?_toArray]; exact eVals_at (j := 3) hk (by omega)
theorem RCSt.put (h : RCSt w T p E W) {k : Nat} (hk : k < E.length) (d : Cost) :
    RCSt w T p (E.set k (some d)) ((((W.setCell ⟨w.heap.size + 1 + 1, k * 4, none⟩ (.int .i64 d.a)).setCell ⟨w.heap.size + 1 + 1, k * 4 + 1, none⟩ (.int .i64 d.b)).setCell ⟨w.heap.size + 1 + 1, k * 4 + 2, none⟩ (.int .i64 d.c)).setCell ⟨w.heap.size + 1 + 1, k * 4 + 3, none⟩ (.int .i64 d.d)) := by
  have b := fun {B : Nat} {V : World} (L : Below B V W) (hB : B ≤ w.heap.size + 1 + 1) => (((L.setCell (p := ⟨w.heap.size + 1 + 1, k * 4, none⟩) hB (.int .i64 d.a)).setCell (p := ⟨w.heap.size + 1 + 1, k * 4 + 1, none⟩) hB (.int .i64 d.b)).setCell (p := ⟨w.heap.size + 1 + 1, k * 4 + 2, none⟩) hB (.int .i64 d.c)).setCell (p := ⟨w.heap.size + 1 + 1, k * 4 + 3, none⟩) hB (.int .i64 d.d)
  have l := b (Below.refl (w.heap.size + 1 + 1) W) (Nat.le_refl _)
  refine ⟨b h.bel (by omega), h.tb.below l (by omega), h.pb.below l (by omega), ?_⟩
  have e := (((h.eb.set_ (k * 4) (.int .i64 d.a)).set_ (k * 4 + 1) (.int .i64 d.b)).set_ (k * 4 + 2) (.int .i64 d.c)).set_ (k * 4 + 3) (.int .i64 d.d)
  rw [← eVals_set hk]
  simpa [entC] using e
theorem RCSt.inf (h : RCSt w T p E W) {k : Nat} (hk : E[k]? = some (some zeroC)) : RCSt w T p (E.set k none) (W.setCell ⟨w.heap.size + 1 + 1, k * 4, none⟩ (.int .i64 1000000000)) := by
  have l := (Below.refl (w.heap.size + 1 + 1) W).setCell (p := ⟨w.heap.size + 1 + 1, k * 4, none⟩) (Nat.le_refl _) (.int .i64 1000000000)
  refine ⟨h.bel.setCell (by simp; omega) _, h.tb.below l (by omega), h.pb.below l (by omega), ?_⟩
  have e := h.eb.set_ (k * 4) (.int .i64 1000000000)
  rw [← eVals_inf hk]
  simpa using e
end

theorem dleads_none {W : World} {n : Nat} (x : Link) (v : Int) (dk : Bool) (p : Price) (hr : leads dk p x v = none) (hx : Fit x) (hp : Cheap p) {σ : Type} {of : σ → World} (h1 : ∀ z, Below W.heap.size W (of z)) (h2 : ∀ z W', Below (of z).heap.size (of z) W' → Cls of W') (z : σ) :
    CallsIn Fence.wide n Tryd.prog 112 #[.agg #[.int .i64 x.id, .int .i64 x.fr, .int .i64 x.to, .int .i64 x.steps, .int .i64 x.paces], .int .i64 v, .bool dk, .agg #[.int .i64 p.pace, .int .i64 p.up, .int .i64 p.step]] (of z) fun e w'' => e = .returned (.tuple #[.int .i64 0, .agg #[.int .i64 0, .int .i64 0, .int .i64 0, .int .i64 0], .bool false]) ∧ Cls of w'' :=
  (callsIn_wide.2 (leads_any x v dk p (of z) hx hp)).mono fun e w'' ⟨he, hb⟩ => ⟨by rw [he, hr]; rfl, h2 z _ hb⟩
theorem dleads_some {W : World} {n : Nat} (x : Link) (v : Int) (dk : Bool) (p : Price) (v' : Int) (cx : Cost) (hr : leads dk p x v = some (v', cx)) (hx : Fit x) (hp : Cheap p) {σ : Type} {of : σ → World} (h1 : ∀ z, Below W.heap.size W (of z)) (h2 : ∀ z W', Below (of z).heap.size (of z) W' → Cls of W') (z : σ) :
    CallsIn Fence.wide n Tryd.prog 112 #[.agg #[.int .i64 x.id, .int .i64 x.fr, .int .i64 x.to, .int .i64 x.steps, .int .i64 x.paces], .int .i64 v, .bool dk, .agg #[.int .i64 p.pace, .int .i64 p.up, .int .i64 p.step]] (of z) fun e w'' => e = .returned (.tuple #[.int .i64 v', .agg #[.int .i64 cx.a, .int .i64 cx.b, .int .i64 cx.c, .int .i64 cx.d], .bool true]) ∧ Cls of w'' :=
  (callsIn_wide.2 (leads_any x v dk p (of z) hx hp)).mono fun e w'' ⟨he, hb⟩ => ⟨by rw [he, hr]; rfl, h2 z _ hb⟩

theorem placeI_at {l : List Int} {v : Int} (h : v ∈ l) : ∃ i : Nat, placeI l v = i ∧ l[i]? = some v ∧ i < l.length := by
  have hany : l.any (fun y => y == v) = true := List.any_eq_true.2 ⟨v, h, by simp⟩
  unfold placeI idx
  rw [if_pos hany]
  have hlt : l.findIdx (fun y => y == v) < l.length := List.findIdx_lt_length.2 (by simpa using hany)
  have e : l[l.findIdx (fun y => y == v)] = v := by simpa using List.findIdx_getElem (w := hlt)
  exact ⟨_, rfl, by rw [List.getElem?_eq_getElem hlt, e], hlt⟩
theorem place_cls {W : World} {n' : Nat} (A : Option Addr) (n c : Nat) (A' : Option Addr) (m d : Nat) (t : Town) (id : Int) (i : Nat) (hi : placeI t.places id = i) (hn : n ≤ maxLen) (B : Nat) (hB : B ≤ W.heap.size) (ht : IntsAt W B A n t.places) {σ : Type} {of : σ → World} (h1 : ∀ z, Below W.heap.size W (of z)) (h2 : ∀ z W', Below (of z).heap.size (of z) W' → Cls of W') (z : σ) :
    CallsIn Fence.wide n' Tryd.prog 109 #[.agg #[.slice A n c, .slice A' m d], .int .i64 id] (of z) fun e w'' => e = .returned (.int .i64 (i : Int)) ∧ Cls of w'' :=
  (callsIn_wide.2 (place_any A n c A' m d t id (of z) hn (((ht.more hB).below (h1 z)).more (h1 z).size))).mono fun e w'' ⟨he, hb⟩ => ⟨by rw [he, hi], h2 z _ hb⟩
theorem rplus_cls {W : World} {n : Nat} (x y : Cost) (hx : Small x) (hy : Small y) {σ : Type} {of : σ → World} (h1 : ∀ z, Below W.heap.size W (of z)) (h2 : ∀ z W', Below (of z).heap.size (of z) W' → Cls of W') (z : σ) :
    CallsIn Fence.wide n Tryd.prog 113 #[.agg #[.int .i64 x.a, .int .i64 x.b, .int .i64 x.c, .int .i64 x.d], .agg #[.int .i64 y.a, .int .i64 y.b, .int .i64 y.c, .int .i64 y.d]] (of z) fun e w'' => e = .returned (.agg #[.int .i64 (addC x y).a, .int .i64 (addC x y).b, .int .i64 (addC x y).c, .int .i64 (addC x y).d]) ∧ Cls of w'' :=
  (callsIn_wide.2 (rplus_any x y (of z) hx hy)).mono fun e w'' ⟨he, hb⟩ => ⟨he, h2 z _ hb⟩
theorem rless_cls {W : World} {n : Nat} (x y : Cost) (b : Bool) (hl : lessC x y = b) {σ : Type} {of : σ → World} (h1 : ∀ z, Below W.heap.size W (of z)) (h2 : ∀ z W', Below (of z).heap.size (of z) W' → Cls of W') (z : σ) :
    CallsIn Fence.wide n Tryd.prog 142 #[.agg #[.int .i64 x.a, .int .i64 x.b, .int .i64 x.c, .int .i64 x.d], .agg #[.int .i64 y.a, .int .i64 y.b, .int .i64 y.c, .int .i64 y.d]] (of z) fun e w'' => e = .returned (.bool b) ∧ Cls of w'' :=
  (callsIn_wide.2 (rless_any x y (of z))).mono fun e w'' ⟨he, hb⟩ => ⟨by rw [he, hl], h2 z _ hb⟩
theorem Small.ent {r : Option Cost} (h : ∀ d, r = some d → Little d) : Small (entC r) := by
  cases r with
  | none => exact ⟨by simp [entC, infC], by simp [entC, infC], by simp [entC, infC], by simp [entC, infC]⟩
  | some d =>
    obtain ⟨h1, h2, h3, h4⟩ := h d rfl
    exact ⟨by simp only [entC, Option.getD_some]; omega, by simp only [entC, Option.getD_some]; omega, by simp only [entC, Option.getD_some]; omega, by simp only [entC, Option.getD_some]; omega⟩

def RCostsOut (w : World) (t : Town) (dk : Bool) (p : Price) (to : Int) (n : Nat) (e : Ending) (w' : World) : Prop :=
  ∃ (A : Option Addr) (E : List (Option Cost)), e = .returned (.slice A n n) ∧ EAt w' w'.heap.size A n E ∧ Costs t dk p to E ∧ (∀ (i : Nat) d, E[i]? = some (some d) → Little d) ∧ Below w.heap.size w w'

set_option maxRecDepth 100000 in
set_option maxHeartbeats 16000000 in
theorem rcosts_in (A : Option Addr) (n c : Nat) (A' : Option Addr) (m d : Nat) (p : Price) (t : Town) (dk : Bool) (to : Int) (w : World)
    (hm : m ≤ 20) (ha : IntsAt w w.heap.size A n t.places) (ht : LinksAt w w.heap.size A' m t.links) (hp : Cheap p) (hfine : Fine t) (hfair : Fair p) (hnd : t.places.Nodup) :
    CallsIn Fence.wide 9 Tryd.prog 119 #[.agg #[.slice A n c, .slice A' m d], .int .i64 to, .bool dk, .agg #[.int .i64 p.pace, .int .i64 p.up, .int .i64 p.step]] w (RCostsOut w t dk p to n) := by
  have HT := Lib.hid ht
  have HP := Lib.hid hp
  have HA := Lib.hid ha
  have HFI := Lib.hid hfine
  have HFA := Lib.hid hfair
  have HND := Lib.hid hnd
  have HLm := Lib.hid ht.len
  have HLn := Lib.hid ha.len
  have hn9 : n ≤ 9 := by have := hfine.size; have := ha.len; omega
  obtain ⟨i0, hi, hz0, hz1, hz2⟩ := info_parts info_rcost
  clear ha ht hp hfine hfair hnd
  refine callsIn_of_wp Tryd.func119 rfl trivial ?_ rfl
  simp only [Tryd.ntmps119, List.size_toArray, List.length_cons, List.length_nil, Nat.reduceAdd, Nat.reduceSub, Array.replicate_succ, Array.replicate_zero, List.push_toArray, List.append_toArray, List.nil_append, List.cons_append]
  gi_wp2_with (first | (gi_at_make; refine wpListIn_make_all rfl _ _ 193 rfl 103 i0 _ rfl hi hz0 n rfl rfl (by rw [hz2]; omega) (by unfold maxLen; omega) ?_) | fail)
  have S0 : RCSt w #[.slice A n c, .slice A' m d] p (List.replicate n (some zeroC)) (((w.alloc (.cells #[.slice A n c, .slice A' m d] 25)).alloc (.cells #[.int .i64 p.pace, .int .i64 p.up, .int .i64 p.step] 107)).alloc (.cells (madeCells #[.int .i64 0, .int .i64 0, .int .i64 0, .int .i64 0] (n * 4)) 103)) := by
    have b := (((Below.refl w.heap.size w).alloc (Nat.le_refl _) (.cells #[.slice A n c, .slice A' m d] 25)).alloc (by simp) (.cells #[.int .i64 p.pace, .int .i64 p.up, .int .i64 p.step] 107)).alloc (by simp; omega) (.cells (madeCells #[.int .i64 0, .int .i64 0, .int .i64 0, .int .i64 0] (n * 4)) 103)
    have X := ((Blk.new w 25 #[.slice A n c, .slice A' m d]).alloc (.cells #[.int .i64 p.pace, .int .i64 p.up, .int .i64 p.step] 107)).alloc (.cells (madeCells #[.int .i64 0, .int .i64 0, .int .i64 0, .int .i64 0] (n * 4)) 103)
    have Y := (Blk.new (w.alloc (.cells #[.slice A n c, .slice A' m d] 25)) 107 #[.int .i64 p.pace, .int .i64 p.up, .int .i64 p.step]).alloc (.cells (madeCells #[.int .i64 0, .int .i64 0, .int .i64 0, .int .i64 0] (n * 4)) 103)
    have U := Blk.new ((w.alloc (.cells #[.slice A n c, .slice A' m d] 25)).alloc (.cells #[.int .i64 p.pace, .int .i64 p.up, .int .i64 p.step] 107)) 103 (madeCells #[.int .i64 0, .int .i64 0, .int .i64 0, .int .i64 0] (n * 4))
    rw [World.size_alloc] at Y
    rw [World.size_alloc, World.size_alloc, made_zero] at U
    rw [made_zero] at b X Y ⊢
    exact ⟨b, X, Y, U⟩
  have HS0 := Lib.hid S0
  clear S0
  generalize (((w.alloc (.cells #[.slice A n c, .slice A' m d] 25)).alloc (.cells #[.int .i64 p.pace, .int .i64 p.up, .int .i64 p.step] 107)).alloc (.cells (madeCells #[.int .i64 0, .int .i64 0, .int .i64 0, .int .i64 0] (n * 4)) 103)) = w0 at *
  gi_loopw [10] (fun vi wr => ∃ (k : Nat) (E : List (Option Cost)), k ≤ n ∧ vi = .int .i64 k ∧ Hid (RCSt w #[.slice A n c, .slice A' m d] p E wr ∧ E.length = n ∧ ∀ (i : Nat) v, t.places[i]? = some v → E[i]? = some (if i < k ∧ v ≠ to then none else some zeroC))) (fun vi _ => n - (intOf vi).toNat)
  case atStart =>
    refine ⟨0, _, Nat.zero_le _, rfl, Lib.hid ⟨HS0.out, List.length_replicate, fun i v hv => ?_⟩⟩
    rw [if_neg (by omega), List.getElem?_replicate, if_pos (by have := (List.getElem?_eq_some_iff.1 hv).1; have := HLn.out; omega)]
  case round =>
    obtain ⟨k, E, hk, rfl, HS⟩ := hrel
    have t0 := HS.out.1.tb.cell 0
    have t1 := HS.out.1.tb.cell 1
    by_cases hlt : k < n
    · obtain ⟨b, off, x, rfl, hb, hx, hcell⟩ := (HA.out.below HS.out.1.bel).cell hlt
      have hbl : b < wr.heap.size := Nat.lt_of_lt_of_le hb HS.out.1.bel.size
      have HX := Lib.hid hx
      have HE : Hid (E[k]? = some (some zeroC)) := Lib.hid (by rw [HS.out.2.2 k x hx, if_neg (by omega)])
      have e1 : ((k + 1 : Nat) : Int) = (k : Int) + 1 := by omega
      clear hx hb
      have c0 := (HS.out.1.cell HE.out).1
      have f0 := HS.out.1.eb.frozen (k * 4)
      by_cases hne : x = to
      · have HNE := Lib.hid hne
        subst hne
        gi_wp2
        refine ⟨⟨k + 1, E, by omega, by rw [e1], Lib.hid ⟨HS.out.1, HS.out.2.1, fun i v hv => ?_⟩⟩, by simp [intOf]; omega⟩
        rw [HS.out.2.2 i v hv]
        by_cases hik : i = k
        · subst hik
          rw [HX.out] at hv
          cases hv
          rw [if_neg (by omega), if_neg (fun h => h.2 rfl)]
        · by_cases hik2 : i < k
          · simp [hik2, show i < k + 1 by omega]
          · simp [hik2, show ¬ i < k + 1 by omega]
      · have HNE := Lib.hid hne
        have HSP := Lib.hid (HS.out.1.inf HE.out)
        gi_wp2
        refine ⟨⟨k + 1, E.set k none, by omega, by rw [e1], Lib.hid ⟨HSP.out, by rw [List.length_set]; exact HS.out.2.1, fun i v hv => ?_⟩⟩, by simp [intOf]; omega⟩
        by_cases hik : i = k
        · subst hik
          rw [HX.out] at hv
          cases hv
          rw [if_pos ⟨by omega, HNE.out⟩, List.getElem?_set_self (by rw [HS.out.2.1]; exact hlt)]
        · rw [List.getElem?_set_ne (Ne.symm hik), HS.out.2.2 i v hv]
          by_cases hik2 : i < k
          · simp [hik2, show i < k + 1 by omega]
          · simp [hik2, show ¬ i < k + 1 by omega]
    · obtain rfl : k = n := by omega
      have HE : Hid (BSt t dk p to 0 0 0 0 E) := Lib.hid (BSt.start (by rw [HS.out.2.1, HLn.out]) fun i v hv => by
        have hi' : i < k := by rw [← HLn.out]; exact (List.getElem?_eq_some_iff.1 hv).1
        rw [HS.out.2.2 i v hv]
        by_cases e : v = to
        · rw [if_neg (fun h => h.2 e), if_pos e]
        · rw [if_pos ⟨hi', e⟩, if_neg e])
      have HS1 := Lib.hid HS.out.1
      clear HS
      gi_wp2
      gi_loopg [11] 9 (fun g vc wr => ∃ (ch : Bool) (q M : Nat) (E : List (Option Cost)), vc = .bool ch ∧ (g = if ch then 9 - q else 0) ∧ (ch = true → q ≤ 8) ∧ Hid (RCSt w #[.slice A k c, .slice A' m d] p E wr ∧ BSt t dk p to q 0 0 M E ∧ M ≤ q * 180 ∧ q ≤ 9 ∧ (ch = false → Stable t dk p E k 0)))
      case atStart => exact ⟨true, 0, 0, E, rfl, rfl, fun _ => Nat.zero_le _, Lib.hid ⟨HS1.out, HE.out, Nat.zero_le _, Nat.zero_le _, fun h => by cases h⟩⟩
      case round =>
        obtain ⟨ch, q, M, E1, rfl, hg, hq8, HV⟩ := hrel
        clear HS1 HE
        cases ch with
        | false =>
          gi_wp2
          refine bodyPost_ret (v := .slice (some ⟨w.heap.size + 1 + 1, 0, none⟩) k k) (by simp [results, Tryd.results119, go_sem]) rfl ?_
          have hB := HV.out.2.1
          have hlen : E1.length = k := by rw [hB.len, HLn.out]
          refine ⟨_, E1, rfl, ⟨by rw [eVals_len, hlen], fun h0 => ⟨_, rfl, HV.out.1.eb.lt, fun j u hu => ?_⟩⟩, hB.costs (by rw [HLn.out]; exact HV.out.2.2.2.2 trivial) HFI.out, fun i d hd => hB.little HFI.out HFA.out (by have := HV.out.2.2.1; have := HV.out.2.2.2.1; omega) hd, HV.out.1.bel⟩
          have ha : ((⟨w.heap.size + 1 + 1, 0, none⟩ : Addr).add j) = ⟨w.heap.size + 1 + 1, j, none⟩ := by
            unfold Addr.add
            by_cases hj : j = 0
            · simp [hj]
            · simp [hj]
          rw [ha, HV.out.1.eb.cell, List.getElem?_toArray]
          exact hu
        | true =>
          have hq : q ≤ 8 := hq8 rfl
          have hg' : gk = 9 - q := by simpa using hg
          clear hg hq8
          gi_wp2
          gi_loopw [11, 12] (fun vc vi wr => ∃ (ch : Bool) (i M : Nat) (E : List (Option Cost)), vc = .bool ch ∧ vi = .int .i64 i ∧ i ≤ k ∧ Hid (RCSt w #[.slice A k c, .slice A' m d] p E wr ∧ BSt t dk p to q i 0 M E ∧ M ≤ q * 180 + i * 20 ∧ (ch = false → Stable t dk p E i 0) ∧ (ch = true → q ≤ 7))) (fun _ vi _ => k - (intOf vi).toNat)
          case atStart => exact ⟨false, 0, M, E1, rfl, rfl, Nat.zero_le _, Lib.hid ⟨HV.out.1, HV.out.2.1, by have := HV.out.2.2.1; omega, fun _ i' v hv j' x hx hor => by omega, fun h => by cases h⟩⟩
          case round =>
            obtain ⟨ch, i, M2, E2, rfl, rfl, hik, HW⟩ := hrel
            clear HV
            have t0 := HW.out.1.tb.cell 0
            have t1 := HW.out.1.tb.cell 1
            by_cases hlt : i < k
            · gi_wp2
              gi_loopw [11, 50] (fun vc vj wr => ∃ (ch : Bool) (j M : Nat) (E : List (Option Cost)), vc = .bool ch ∧ vj = .int .i64 j ∧ j ≤ m ∧ Hid (RCSt w #[.slice A k c, .slice A' m d] p E wr ∧ BSt t dk p to q i j M E ∧ M ≤ q * 180 + i * 20 + j ∧ (ch = false → Stable t dk p E i j) ∧ (ch = true → q ≤ 7))) (fun _ vj _ => m - (intOf vj).toNat)
              case atStart => exact ⟨ch, 0, M2, E2, rfl, rfl, Nat.zero_le _, HW⟩
              case round =>
                obtain ⟨ch, j, M3, E3, rfl, rfl, hjm, HU⟩ := hrel
                clear HW
                by_cases hjl : j < m
                · obtain ⟨b, off, x, rfl, hb, hx, l0, l1, l2, l3, l4⟩ := (HT.out.below HU.out.1.bel).cell hjl
                  have hbl : b < wr.heap.size := Nat.lt_of_lt_of_le hb HU.out.1.bel.size
                  have HX := Lib.hid hx
                  clear hx hb t0 t1
                  gi_wp2
                  have HS1 : Hid (RCSt w #[.slice A k c, .slice (some ⟨b, off, none⟩) m d] p E3 (wr.alloc (.cells #[.int .i64 x.id, .int .i64 x.fr, .int .i64 x.to, .int .i64 x.steps, .int .i64 x.paces] 45))) := Lib.hid (HU.out.1.below ((Below.refl _ _).alloc (Nat.le_refl _) _))
                  have HLB : Hid (Blk (wr.alloc (.cells #[.int .i64 x.id, .int .i64 x.fr, .int .i64 x.to, .int .i64 x.steps, .int .i64 x.paces] 45)) wr.heap.size 45 #[.int .i64 x.id, .int .i64 x.fr, .int .i64 x.to, .int .i64 x.steps, .int .i64 x.paces]) := Lib.hid (Blk.new _ _ _)
                  clear l0 l1 l2 l3 l4
                  generalize (wr.alloc (.cells #[.int .i64 x.id, .int .i64 x.fr, .int .i64 x.to, .int .i64 x.steps, .int .i64 x.paces] 45)) = w1 at *
                  have HXM : Hid (x ∈ t.links) := Lib.hid (List.mem_of_getElem? HX.out)
                  have HFit : Hid (Fit x) := Lib.hid ⟨HFI.out.steps x HXM.out, HFI.out.paces x HXM.out⟩
                  obtain ⟨b3, off3, v, rfl, hb3, hv3, _⟩ := (HA.out.below HS1.out.bel).cell hlt
                  have HV3 := Lib.hid hv3
                  have hb3l : b3 < w1.heap.size := Nat.lt_of_lt_of_le hb3 HS1.out.bel.size
                  have hlbl : wr.heap.size < w1.heap.size := HLB.out.lt
                  have htl : w.heap.size < w1.heap.size := HS1.out.tb.lt
                  have hpl : w.heap.size + 1 < w1.heap.size := HS1.out.pb.lt
                  have hel : w.heap.size + 1 + 1 < w1.heap.size := HS1.out.eb.lt
                  have HPC : Hid (∀ W, Below w1.heap.size w1 W → W.cell? ⟨b3, off3 + i, none⟩ = some (.int .i64 v)) := Lib.hid (fun W hb => by
                    obtain ⟨b4, o4, y, e, _, hy, h⟩ := ((HA.out.below HS1.out.bel).more HS1.out.bel.size |>.below hb).cell hlt
                    cases e
                    obtain rfl : y = v := Option.some.inj (hy.symm.trans HV3.out)
                    exact h)
                  have hiI : (0 : Int) ≤ (i : Int) ∧ (i : Int) < (k : Int) := by omega
                  clear hb3 hv3
                  rcases hld : leads dk p x v with _ | ⟨v', cx⟩
                  · have HLD := Lib.hid hld
                    clear hld
                    refine wpIn_region_new (AF := ?AF1) (fun b => .pointer (some ⟨b, 0, none⟩)) 103 #[.int .i64 0, .int .i64 0, .int .i64 0, .int .i64 0] [0, 1, 2, 3, 4, 5, 6, 7, 8, 9, 10, 11, 12, 14, 16] [15] 13 [true, true, true, true, true, true, true, true, true, true, true, true, true, false, true, false, true] [false, false, false, false, false, false, false, false, false, false, false, false, false, false, false, true, false] (by kernel_rfl) (by kernel_rfl) (by kernel_rfl) (by kernel_rfl) (by kernel_rfl) (below_drewN (Below.refl _ _) 1) rfl rfl rfl ?hq1 ?hf1 ?ht1
                    case hq1 =>
                      rintro σ hσ of hof hcl
                      have HOF := Lib.hid hof
                      have HCL := Lib.hid hcl
                      clear hof hcl
                      have l0 : ∀ z, (of z).cell? ⟨wr.heap.size, 0, none⟩ = some (.int .i64 x.id) := fun z => (HLB.out.below (HOF.out z) HLB.out.lt).cell 0
                      have l1 : ∀ z, (of z).cell? ⟨wr.heap.size, 1, none⟩ = some (.int .i64 x.fr) := fun z => (HLB.out.below (HOF.out z) HLB.out.lt).cell 1
                      have l2 : ∀ z, (of z).cell? ⟨wr.heap.size, 2, none⟩ = some (.int .i64 x.to) := fun z => (HLB.out.below (HOF.out z) HLB.out.lt).cell 2
                      have l3 : ∀ z, (of z).cell? ⟨wr.heap.size, 3, none⟩ = some (.int .i64 x.steps) := fun z => (HLB.out.below (HOF.out z) HLB.out.lt).cell 3
                      have l4 : ∀ z, (of z).cell? ⟨wr.heap.size, 4, none⟩ = some (.int .i64 x.paces) := fun z => (HLB.out.below (HOF.out z) HLB.out.lt).cell 4
                      have t0 : ∀ z, (of z).cell? ⟨w.heap.size, 0, none⟩ = some (.slice (some ⟨b3, off3, none⟩) k c) := fun z => (HS1.out.tb.below (HOF.out z) HS1.out.tb.lt).cell 0
                      have t1 : ∀ z, (of z).cell? ⟨w.heap.size, 1, none⟩ = some (.slice (some ⟨b, off, none⟩) m d) := fun z => (HS1.out.tb.below (HOF.out z) HS1.out.tb.lt).cell 1
                      have p0 : ∀ z, (of z).cell? ⟨w.heap.size + 1, 0, none⟩ = some (.int .i64 p.pace) := fun z => (HS1.out.pb.below (HOF.out z) HS1.out.pb.lt).cell 0
                      have p1 : ∀ z, (of z).cell? ⟨w.heap.size + 1, 1, none⟩ = some (.int .i64 p.up) := fun z => (HS1.out.pb.below (HOF.out z) HS1.out.pb.lt).cell 1
                      have p2 : ∀ z, (of z).cell? ⟨w.heap.size + 1, 2, none⟩ = some (.int .i64 p.step) := fun z => (HS1.out.pb.below (HOF.out z) HS1.out.pb.lt).cell 2
                      have v0 : ∀ z, (of z).cell? ⟨b3, off3 + i, none⟩ = some (.int .i64 v) := fun z => HPC.out _ (HOF.out z)
                      have hfw : ∀ f, Fence.wide.fn f := fun _ => trivial
                      simp only [pickB]
                      repeat (gi_big_quiet_step (exact dleads_none x v dk p HLD.out HFit.out HP.out HOF.out HCL.out _))
                      refine wpQuietIn_nil ?_
                      exact rfl
                    case hf1 =>
                      intro W hb
                      exact ⟨fun f hf => trivial, rfl⟩
                    case ht1 =>
                      intro cb W hb hbb hR
                      have HB := Lib.hid hb
                      have HBB := Lib.hid hbb
                      have HR4 := Lib.hid hR
                      have hbl1 := hR.lt
                      have c0 := hR.cell 0
                      have c1 := hR.cell 1
                      have c2 := hR.cell 2
                      have c3 := hR.cell 3
                      have d0 := hR.frozen 0
                      have d1 := hR.frozen 1
                      have d2 := hR.frozen 2
                      have d3 := hR.frozen 3
                      clear hb hbb hR
                      simp only [pickB]
                      refine wpE_cons ?_
                      gi_wp2
                      have R5 := Lib.hid (ret4 HR4.out HB.out HBB.out (.int .i64 0) (.int .i64 0) (.int .i64 0) (.int .i64 0))
                      refine ⟨R5.out.2, wpE_nil ?_⟩
                      have HW5 := Lib.hid (HS1.out.below R5.out.2)
                      generalize (((W.setCell ⟨cb, 0, none⟩ (.int .i64 0)).setCell ⟨cb, 1, none⟩ (.int .i64 0)).setCell ⟨cb, 2, none⟩ (.int .i64 0)).setCell ⟨cb, 3, none⟩ (.int .i64 0) = W5 at *
                      clear c0 c1 c2 c3 d0 d1 d2 d3
                      have hbl5 := R5.out.1.lt
                      gi_wp2
                      have e1 : ((j + 1 : Nat) : Int) = (j : Int) + 1 := by omega
                      have hno : ∀ n cx, leads dk p x v = some (n, cx) → ∀ (i2 : Nat) d, t.places[i2]? = some n → E3[i2]? = some (some d) → leE E3 i (addC cx d) := fun n cx h => by
                        rw [HLD.out] at h
                        cases h
                      exact ⟨⟨ch, j + 1, M3, E3, rfl, by rw [e1], by omega, Lib.hid ⟨HW5.out, HU.out.2.1.skip HX.out HV3.out hno HFI.out, by have := HU.out.2.2.1; omega, fun h => (HU.out.2.2.2.1 h).step HX.out HV3.out hno, HU.out.2.2.2.2⟩⟩, by simp [intOf]; omega⟩
                  · have HLD := Lib.hid hld
                    clear hld
                    refine wpIn_region_new (AF := ?AF2) (fun b => .pointer (some ⟨b, 0, none⟩)) 103 #[.int .i64 0, .int .i64 0, .int .i64 0, .int .i64 0] [0, 1, 2, 3, 4, 5, 6, 7, 8, 9, 10, 11, 12, 14, 16] [15] 13 [true, true, true, true, true, true, true, true, true, true, true, true, true, false, true, false, true] [false, false, false, false, false, false, false, false, false, false, false, false, false, false, false, true, false] (by kernel_rfl) (by kernel_rfl) (by kernel_rfl) (by kernel_rfl) (by kernel_rfl) (below_drewN (Below.refl _ _) 1) rfl rfl rfl ?hq2 ?hf2 ?ht2
                    case hq2 =>
                      rintro σ hσ of hof hcl
                      have HOF := Lib.hid hof
                      have HCL := Lib.hid hcl
                      clear hof hcl
                      have l0 : ∀ z, (of z).cell? ⟨wr.heap.size, 0, none⟩ = some (.int .i64 x.id) := fun z => (HLB.out.below (HOF.out z) HLB.out.lt).cell 0
                      have l1 : ∀ z, (of z).cell? ⟨wr.heap.size, 1, none⟩ = some (.int .i64 x.fr) := fun z => (HLB.out.below (HOF.out z) HLB.out.lt).cell 1
                      have l2 : ∀ z, (of z).cell? ⟨wr.heap.size, 2, none⟩ = some (.int .i64 x.to) := fun z => (HLB.out.below (HOF.out z) HLB.out.lt).cell 2
                      have l3 : ∀ z, (of z).cell? ⟨wr.heap.size, 3, none⟩ = some (.int .i64 x.steps) := fun z => (HLB.out.below (HOF.out z) HLB.out.lt).cell 3
                      have l4 : ∀ z, (of z).cell? ⟨wr.heap.size, 4, none⟩ = some (.int .i64 x.paces) := fun z => (HLB.out.below (HOF.out z) HLB.out.lt).cell 4
                      have t0 : ∀ z, (of z).cell? ⟨w.heap.size, 0, none⟩ = some (.slice (some ⟨b3, off3, none⟩) k c) := fun z => (HS1.out.tb.below (HOF.out z) HS1.out.tb.lt).cell 0
                      have t1 : ∀ z, (of z).cell? ⟨w.heap.size, 1, none⟩ = some (.slice (some ⟨b, off, none⟩) m d) := fun z => (HS1.out.tb.below (HOF.out z) HS1.out.tb.lt).cell 1
                      have p0 : ∀ z, (of z).cell? ⟨w.heap.size + 1, 0, none⟩ = some (.int .i64 p.pace) := fun z => (HS1.out.pb.below (HOF.out z) HS1.out.pb.lt).cell 0
                      have p1 : ∀ z, (of z).cell? ⟨w.heap.size + 1, 1, none⟩ = some (.int .i64 p.up) := fun z => (HS1.out.pb.below (HOF.out z) HS1.out.pb.lt).cell 1
                      have p2 : ∀ z, (of z).cell? ⟨w.heap.size + 1, 2, none⟩ = some (.int .i64 p.step) := fun z => (HS1.out.pb.below (HOF.out z) HS1.out.pb.lt).cell 2
                      have v0 : ∀ z, (of z).cell? ⟨b3, off3 + i, none⟩ = some (.int .i64 v) := fun z => HPC.out _ (HOF.out z)
                      have hfw : ∀ f, Fence.wide.fn f := fun _ => trivial
                      simp only [pickB]
                      repeat (gi_big_quiet_step (exact dleads_some x v dk p v' cx HLD.out HFit.out HP.out HOF.out HCL.out _))
                      refine wpQuietIn_nil ?_
                      exact rfl
                    case hf2 =>
                      intro W hb
                      exact ⟨fun f hf => trivial, rfl⟩
                    case ht2 =>
                      intro cb W hb hbb hR
                      have HB := Lib.hid hb
                      have HBB := Lib.hid hbb
                      have HR4 := Lib.hid hR
                      have hbl1 := hR.lt
                      have c0 := hR.cell 0
                      have c1 := hR.cell 1
                      have c2 := hR.cell 2
                      have c3 := hR.cell 3
                      have d0 := hR.frozen 0
                      have d1 := hR.frozen 1
                      have d2 := hR.frozen 2
                      have d3 := hR.frozen 3
                      clear hb hbb hR
                      simp only [pickB]
                      refine wpE_cons ?_
                      gi_wp2
                      have R5 := Lib.hid (ret4 HR4.out HB.out HBB.out (.int .i64 cx.a) (.int .i64 cx.b) (.int .i64 cx.c) (.int .i64 cx.d))
                      refine ⟨R5.out.2, wpE_nil ?_⟩
                      have HW5 := Lib.hid (HS1.out.below R5.out.2)
                      generalize (((W.setCell ⟨cb, 0, none⟩ (.int .i64 cx.a)).setCell ⟨cb, 1, none⟩ (.int .i64 cx.b)).setCell ⟨cb, 2, none⟩ (.int .i64 cx.c)).setCell ⟨cb, 3, none⟩ (.int .i64 cx.d) = W5 at *
                      clear c0 c1 c2 c3 d0 d1 d2 d3
                      have hbl5 := R5.out.1.lt
                      obtain ⟨i2, hpi, hi2, hi2l⟩ := placeI_at (leads_ends HXM.out HFI.out HLD.out).2
                      have HPI := Lib.hid hpi
                      have HI2 := Lib.hid hi2
                      have hi2k : i2 < k := by have := HLn.out; omega
                      obtain ⟨r, hr⟩ : ∃ r, E3[i2]? = some r := ⟨_, List.getElem?_eq_getElem (by rw [HU.out.2.1.len]; exact hi2l)⟩
                      have HR := Lib.hid hr
                      have HCX := Lib.hid (leads_cost HXM.out HFI.out HFA.out HLD.out)
                      have HLT : Hid (∀ (q : Nat) d, E3[q]? = some (some d) → Little d) := Lib.hid (fun q d hd => HU.out.2.1.little HFI.out HFA.out (by have := HU.out.2.2.1; omega) hd)
                      have HSM : Hid (Small cx ∧ Small (entC r)) := Lib.hid ⟨by
                        have h1 := HCX.out
                        exact ⟨by omega, by omega, by omega, by omega⟩, Small.ent fun d hd => HLT.out i2 d (by rw [HR.out, hd])⟩
                      have hi2I : (0 : Int) ≤ (i2 : Int) ∧ (i2 : Int) < (k : Int) := by omega
                      clear hpi hi2 hi2l hr
                      gi_wp2
                      have hcb5 : cb < W5.heap.size := hbl5
                      have htl5 : w.heap.size < W5.heap.size := HW5.out.tb.lt
                      have hpl5 : w.heap.size + 1 < W5.heap.size := HW5.out.pb.lt
                      have hel5 : w.heap.size + 1 + 1 < W5.heap.size := HW5.out.eb.lt
                      refine wpIn_region_new (AF := ?AF3) (fun b => .pointer (some ⟨b, 0, none⟩)) 103 #[.int .i64 0, .int .i64 0, .int .i64 0, .int .i64 0] [0, 1, 2, 3, 4, 5, 6, 7] [9] 8 [true, true, true, true, true, true, true, true, false, false] [false, false, false, false, false, false, false, false, false, true] (by kernel_rfl) (by kernel_rfl) (by kernel_rfl) (by kernel_rfl) (by kernel_rfl) (below_drewN (Below.refl _ _) 1) rfl rfl rfl ?hq3 ?hf3 ?ht3
                      case hq3 =>
                        rintro σ hσ of hof hcl
                        have HOF := Lib.hid hof
                        have HCL := Lib.hid hcl
                        clear hof hcl
                        have q0 : ∀ z, (of z).cell? ⟨cb, 0, none⟩ = some (.int .i64 cx.a) := fun z => (R5.out.1.below (HOF.out z) hbl5).cell 0
                        have q1 : ∀ z, (of z).cell? ⟨cb, 1, none⟩ = some (.int .i64 cx.b) := fun z => (R5.out.1.below (HOF.out z) hbl5).cell 1
                        have q2 : ∀ z, (of z).cell? ⟨cb, 2, none⟩ = some (.int .i64 cx.c) := fun z => (R5.out.1.below (HOF.out z) hbl5).cell 2
                        have q3 : ∀ z, (of z).cell? ⟨cb, 3, none⟩ = some (.int .i64 cx.d) := fun z => (R5.out.1.below (HOF.out z) hbl5).cell 3
                        have t0 : ∀ z, (of z).cell? ⟨w.heap.size, 0, none⟩ = some (.slice (some ⟨b3, off3, none⟩) k c) := fun z => (HW5.out.tb.below (HOF.out z) HW5.out.tb.lt).cell 0
                        have t1 : ∀ z, (of z).cell? ⟨w.heap.size, 1, none⟩ = some (.slice (some ⟨b, off, none⟩) m d) := fun z => (HW5.out.tb.below (HOF.out z) HW5.out.tb.lt).cell 1
                        have v0 : ∀ z, (of z).cell? ⟨w.heap.size + 1 + 1, i2 * 4, none⟩ = some (.int .i64 (entC r).a) := fun z => ((HW5.out.below (HOF.out z)).cell HR.out).1
                        have v1 : ∀ z, (of z).cell? ⟨w.heap.size + 1 + 1, i2 * 4 + 1, none⟩ = some (.int .i64 (entC r).b) := fun z => ((HW5.out.below (HOF.out z)).cell HR.out).2.1
                        have v2 : ∀ z, (of z).cell? ⟨w.heap.size + 1 + 1, i2 * 4 + 2, none⟩ = some (.int .i64 (entC r).c) := fun z => ((HW5.out.below (HOF.out z)).cell HR.out).2.2.1
                        have v3 : ∀ z, (of z).cell? ⟨w.heap.size + 1 + 1, i2 * 4 + 3, none⟩ = some (.int .i64 (entC r).d) := fun z => ((HW5.out.below (HOF.out z)).cell HR.out).2.2.2
                        have hfw : ∀ f, Fence.wide.fn f := fun _ => trivial
                        simp only [pickB]
                        repeat (gi_big_quiet_step (first | exact place_cls (some ⟨b3, off3, none⟩) k c (some ⟨b, off, none⟩) m d t v' i2 HPI.out (by unfold maxLen; omega) w.heap.size HW5.out.bel.size (HA.out.below HW5.out.bel) HOF.out HCL.out _ | exact rplus_cls cx (entC r) HSM.out.1 HSM.out.2 HOF.out HCL.out _))
                        refine wpQuietIn_nil ?_
                        exact rfl
                      case hf3 =>
                        intro W hb
                        exact ⟨fun f hf => trivial, rfl⟩
                      case ht3 =>
                        intro sb W hb hbb hR
                        have HB3 := Lib.hid hb
                        have HBB3 := Lib.hid hbb
                        have HR43 := Lib.hid hR
                        have hbl1 := hR.lt
                        have c0 := hR.cell 0
                        have c1 := hR.cell 1
                        have c2 := hR.cell 2
                        have c3 := hR.cell 3
                        have d0 := hR.frozen 0
                        have d1 := hR.frozen 1
                        have d2 := hR.frozen 2
                        have d3 := hR.frozen 3
                        clear hb hbb hR
                        simp only [pickB]
                        refine wpE_cons ?_
                        gi_wp2
                        have R6 := Lib.hid (ret4 HR43.out HB3.out HBB3.out (.int .i64 (addC cx (entC r)).a) (.int .i64 (addC cx (entC r)).b) (.int .i64 (addC cx (entC r)).c) (.int .i64 (addC cx (entC r)).d))
                        refine ⟨R6.out.2, wpE_nil ?_⟩
                        have HW6 := Lib.hid (HW5.out.below R6.out.2)
                        generalize (((W.setCell ⟨sb, 0, none⟩ (.int .i64 (addC cx (entC r)).a)).setCell ⟨sb, 1, none⟩ (.int .i64 (addC cx (entC r)).b)).setCell ⟨sb, 2, none⟩ (.int .i64 (addC cx (entC r)).c)).setCell ⟨sb, 3, none⟩ (.int .i64 (addC cx (entC r)).d) = W6 at *
                        clear c0 c1 c2 c3 d0 d1 d2 d3
                        have hbl6 := R6.out.1.lt
                        obtain ⟨s, hs⟩ : ∃ s, addC cx (entC r) = s := ⟨_, rfl⟩
                        rw [hs] at R6 ⊢
                        have HSS := Lib.hid hs
                        clear hs
                        have e1 : ((j + 1 : Nat) : Int) = (j : Int) + 1 := by omega
                        obtain ⟨r2, hr2⟩ : ∃ r2, E3[i]? = some r2 := ⟨_, List.getElem?_eq_getElem (by rw [HU.out.2.1.len, HLn.out]; exact hlt)⟩
                        have HR2 := Lib.hid hr2
                        clear hr2
                        have HUQ : Hid (∀ (i' : Nat), t.places[i']? = some v' → i' = i2) := Lib.hid (fun i' h => by
                          have hl := (List.getElem?_eq_some_iff.1 h).1
                          exact (List.getElem?_inj hl HND.out).1 (h.trans HI2.out.symm))
                        have hsbl : sb < W6.heap.size := hbl6
                        have hel6 : w.heap.size + 1 + 1 < W6.heap.size := HW6.out.eb.lt
                        cases r with
                        | none =>
                          have hsa : decide (s.a < 1000000000) = false := by
                            have h1 := HCX.out
                            have h2 : s.a = cx.a + 1000000000 := by rw [← HSS.out]; rfl
                            simp
                            omega
                          have HNO : Hid (∀ n cx, leads dk p x v = some (n, cx) → ∀ (i2 : Nat) d, t.places[i2]? = some n → E3[i2]? = some (some d) → leE E3 i (addC cx d)) := Lib.hid (fun n' cx' h i' d' hp' he' => by
                            rw [HLD.out] at h
                            cases h
                            obtain rfl := HUQ.out i' hp'
                            rw [HR.out] at he'
                            cases he')
                          gi_wp2
                          refine wpIn_region_old (AF := ?AF4) [0, 1, 2, 3, 4, 5, 6, 7, 8, 9, 10] [] [true, true, true, true, true, true, true, true, true, true, true] [false, false, false, false, false, false, false, false, false, false, false] (by kernel_rfl) (by kernel_rfl) (by kernel_rfl) (by kernel_rfl) (by kernel_rfl) (below_drewN (Below.refl _ _) 1) ?hq4 ?ht4
                          case hq4 =>
                            rintro σ hσ of hof hcl
                            have HOF := Lib.hid hof
                            have HCL := Lib.hid hcl
                            clear hof hcl
                            have q0 : ∀ z, (of z).cell? ⟨sb, 0, none⟩ = some (.int .i64 s.a) := fun z => (R6.out.1.below (HOF.out z) hbl6).cell 0
                            have hfw : ∀ f, Fence.wide.fn f := fun _ => trivial
                            simp only [pickB]
                            repeat (gi_big_quiet_step (fail))
                            refine wpQuietIn_nil ?_
                            exact rfl
                          case ht4 =>
                            intro W hb
                            have HW7 := Lib.hid (HW6.out.below hb)
                            have HS7 := Lib.hid (R6.out.1.below hb hbl6)
                            have hbl7 : sb < W.heap.size := HS7.out.lt
                            clear hb
                            simp only [pickB]
                            refine wpE_nil ?_
                            gi_wp2
                            exact ⟨⟨ch, j + 1, M3, E3, rfl, by rw [e1], by omega, Lib.hid ⟨HW7.out, HU.out.2.1.skip HX.out HV3.out HNO.out HFI.out, by have := HU.out.2.2.1; omega, fun h => (HU.out.2.2.2.1 h).step HX.out HV3.out HNO.out, HU.out.2.2.2.2⟩⟩, by simp [intOf]; omega⟩
                        | some d1 =>
                          have hsb : s.a < 1000000000 := by
                            have h1 := HCX.out
                            have h2 : s.a = cx.a + d1.a := by rw [← HSS.out]; rfl
                            have h3 := (HLT.out i2 d1 HR.out).a
                            omega
                          have hsa : decide (s.a < 1000000000) = true := by simpa using hsb
                          have HSB := Lib.hid hsb
                          clear hsb
                          cases hls : lessC s (entC r2) with
                          | false =>
                            have HLS := Lib.hid hls
                            clear hls
                            have HNO : Hid (∀ n cx, leads dk p x v = some (n, cx) → ∀ (i2 : Nat) d, t.places[i2]? = some n → E3[i2]? = some (some d) → leE E3 i (addC cx d)) := Lib.hid (fun n' cx' h i' d' hp' he' => by
                              rw [HLD.out] at h
                              cases h
                              obtain rfl := HUQ.out i' hp'
                              rw [HR.out] at he'
                              cases he'
                              have h1 := HLS.out
                              rw [lessC_cmp] at h1
                              have h2 := of_decide_eq_false h1
                              have hss : addC cx d1 = s := HSS.out
                              rw [hss]
                              cases hr2 : r2 with
                              | none =>
                                rw [hr2] at h2
                                have h3 := HSB.out
                                simp [entC, infC, cmpL, Cost.list, h3] at h2
                              | some e2 =>
                                rw [hr2] at h2
                                refine ⟨e2, by rw [HR2.out, hr2], ?_⟩
                                have h3 := cmpL_swap s.list e2.list
                                simp only [entC, Option.getD_some] at h2
                                omega)
                            gi_wp2
                            refine wpIn_region_old (AF := ?AF5) [0, 1, 2, 3, 4, 5, 6, 7, 8, 9, 10] [] [true, true, true, true, true, true, true, true, true, true, true] [false, false, false, false, false, false, false, false, false, false, false] (by kernel_rfl) (by kernel_rfl) (by kernel_rfl) (by kernel_rfl) (by kernel_rfl) (below_drewN (Below.refl _ _) 1) ?hq5 ?ht5
                            case hq5 =>
                              rintro σ hσ of hof hcl
                              have HOF := Lib.hid hof
                              have HCL := Lib.hid hcl
                              clear hof hcl
                              have q0 : ∀ z, (of z).cell? ⟨sb, 0, none⟩ = some (.int .i64 s.a) := fun z => (R6.out.1.below (HOF.out z) hbl6).cell 0
                              have q1 : ∀ z, (of z).cell? ⟨sb, 1, none⟩ = some (.int .i64 s.b) := fun z => (R6.out.1.below (HOF.out z) hbl6).cell 1
                              have q2 : ∀ z, (of z).cell? ⟨sb, 2, none⟩ = some (.int .i64 s.c) := fun z => (R6.out.1.below (HOF.out z) hbl6).cell 2
                              have q3 : ∀ z, (of z).cell? ⟨sb, 3, none⟩ = some (.int .i64 s.d) := fun z => (R6.out.1.below (HOF.out z) hbl6).cell 3
                              have v0 : ∀ z, (of z).cell? ⟨w.heap.size + 1 + 1, i * 4, none⟩ = some (.int .i64 (entC r2).a) := fun z => ((HW6.out.below (HOF.out z)).cell HR2.out).1
                              have v1 : ∀ z, (of z).cell? ⟨w.heap.size + 1 + 1, i * 4 + 1, none⟩ = some (.int .i64 (entC r2).b) := fun z => ((HW6.out.below (HOF.out z)).cell HR2.out).2.1
                              have v2 : ∀ z, (of z).cell? ⟨w.heap.size + 1 + 1, i * 4 + 2, none⟩ = some (.int .i64 (entC r2).c) := fun z => ((HW6.out.below (HOF.out z)).cell HR2.out).2.2.1
                              have v3 : ∀ z, (of z).cell? ⟨w.heap.size + 1 + 1, i * 4 + 3, none⟩ = some (.int .i64 (entC r2).d) := fun z => ((HW6.out.below (HOF.out z)).cell HR2.out).2.2.2
                              have hfw : ∀ f, Fence.wide.fn f := fun _ => trivial
                              simp only [pickB]
                              repeat (gi_big_quiet_step (exact rless_cls s (entC r2) _ HLS.out HOF.out HCL.out _))
                              refine wpQuietIn_nil ?_
                              exact rfl
                            case ht5 =>
                              intro W hb
                              have HW7 := Lib.hid (HW6.out.below hb)
                              have HS7 := Lib.hid (R6.out.1.below hb hbl6)
                              have hbl7 : sb < W.heap.size := HS7.out.lt
                              clear hb
                              simp only [pickB]
                              refine wpE_nil ?_
                              gi_wp2
                              exact ⟨⟨ch, j + 1, M3, E3, rfl, by rw [e1], by omega, Lib.hid ⟨HW7.out, HU.out.2.1.skip HX.out HV3.out HNO.out HFI.out, by have := HU.out.2.2.1; omega, fun h => (HU.out.2.2.2.1 h).step HX.out HV3.out HNO.out, HU.out.2.2.2.2⟩⟩, by simp [intOf]; omega⟩
                          | true =>
                            have HLS := Lib.hid hls
                            clear hls
                            have HLE : Hid (∀ e2, r2 = some e2 → cmpL s.list e2.list < 0) := Lib.hid (fun e2 he => by
                              have h1 := HLS.out
                              rw [lessC_cmp, he] at h1
                              exact of_decide_eq_true h1)
                            have HTK : Hid (BSt t dk p to q i (j + 1) (M3 + 1) (E3.set i (some s))) := Lib.hid (by
                              have h := HU.out.2.1.take HX.out HV3.out HLD.out HI2.out HR.out (fun e he => by
                                rw [HR2.out] at he
                                have h1 := HLE.out e (Option.some.inj he)
                                have hss : addC cx d1 = s := HSS.out
                                rw [hss]
                                omega) HND.out
                              have hss : addC cx d1 = s := HSS.out
                              rw [hss] at h
                              exact h)
                            have HQ7 : Hid (q ≤ 7) := Lib.hid (by
                              apply Decidable.byContradiction
                              intro hc
                              obtain ⟨l, hw, _⟩ := HU.out.2.1.sound i2 v' d1 HI2.out HR.out
                              have hw2 : Walk t dk p v to s (x.id :: l) := by
                                have hss : addC cx d1 = s := HSS.out
                                rw [← hss]
                                exact .cons HXM.out HLD.out hw
                              obtain ⟨e2, h1, h2⟩ := HU.out.2.1.settled (by omega) HFI.out HFA.out HV3.out hw2
                              rw [HR2.out] at h1
                              have h3 := HLE.out e2 (Option.some.inj h1)
                              have h4 := cmpL_swap s.list e2.list
                              omega)
                            gi_wp2
                            refine wpIn_region_old (AF := ?AF6) [0, 1, 2, 3, 4, 5, 6, 7, 8, 9, 10] [] [true, true, true, true, true, true, true, true, true, true, true] [false, false, false, false, false, false, false, false, false, false, false] (by kernel_rfl) (by kernel_rfl) (by kernel_rfl) (by kernel_rfl) (by kernel_rfl) (below_drewN (Below.refl _ _) 1) ?hq6 ?ht6
                            case hq6 =>
                              rintro σ hσ of hof hcl
                              have HOF := Lib.hid hof
                              have HCL := Lib.hid hcl
                              clear hof hcl
                              have q0 : ∀ z, (of z).cell? ⟨sb, 0, none⟩ = some (.int .i64 s.a) := fun z => (R6.out.1.below (HOF.out z) hbl6).cell 0
                              have q1 : ∀ z, (of z).cell? ⟨sb, 1, none⟩ = some (.int .i64 s.b) := fun z => (R6.out.1.below (HOF.out z) hbl6).cell 1
                              have q2 : ∀ z, (of z).cell? ⟨sb, 2, none⟩ = some (.int .i64 s.c) := fun z => (R6.out.1.below (HOF.out z) hbl6).cell 2
                              have q3 : ∀ z, (of z).cell? ⟨sb, 3, none⟩ = some (.int .i64 s.d) := fun z => (R6.out.1.below (HOF.out z) hbl6).cell 3
                              have v0 : ∀ z, (of z).cell? ⟨w.heap.size + 1 + 1, i * 4, none⟩ = some (.int .i64 (entC r2).a) := fun z => ((HW6.out.below (HOF.out z)).cell HR2.out).1
                              have v1 : ∀ z, (of z).cell? ⟨w.heap.size + 1 + 1, i * 4 + 1, none⟩ = some (.int .i64 (entC r2).b) := fun z => ((HW6.out.below (HOF.out z)).cell HR2.out).2.1
                              have v2 : ∀ z, (of z).cell? ⟨w.heap.size + 1 + 1, i * 4 + 2, none⟩ = some (.int .i64 (entC r2).c) := fun z => ((HW6.out.below (HOF.out z)).cell HR2.out).2.2.1
                              have v3 : ∀ z, (of z).cell? ⟨w.heap.size + 1 + 1, i * 4 + 3, none⟩ = some (.int .i64 (entC r2).d) := fun z => ((HW6.out.below (HOF.out z)).cell HR2.out).2.2.2
                              have hfw : ∀ f, Fence.wide.fn f := fun _ => trivial
                              simp only [pickB]
                              repeat (gi_big_quiet_step (exact rless_cls s (entC r2) _ HLS.out HOF.out HCL.out _))
                              refine wpQuietIn_nil ?_
                              exact rfl
                            case ht6 =>
                              intro W hb
                              have HW7 := Lib.hid (HW6.out.below hb)
                              have HS7 := Lib.hid (R6.out.1.below hb hbl6)
                              have hbl7 : sb < W.heap.size := HS7.out.lt
                              clear hb
                              simp only [pickB]
                              refine wpE_nil ?_
                              have c0 := HS7.out.cell 0
                              have c1 := HS7.out.cell 1
                              have c2 := HS7.out.cell 2
                              have c3 := HS7.out.cell 3
                              have f0 := HW7.out.eb.frozen (i * 4)
                              have f1 := HW7.out.eb.frozen (i * 4 + 1)
                              have f2 := HW7.out.eb.frozen (i * 4 + 2)
                              have f3 := HW7.out.eb.frozen (i * 4 + 3)
                              have o0 := (HW7.out.cell HR2.out).1
                              have o1 := (HW7.out.cell HR2.out).2.1
                              have o2 := (HW7.out.cell HR2.out).2.2.1
                              have o3 := (HW7.out.cell HR2.out).2.2.2
                              have HP8 := Lib.hid (HW7.out.put (k := i) (by rw [HU.out.2.1.len, HLn.out]; exact hlt) s)
                              gi_wp2
                              exact ⟨⟨true, j + 1, M3 + 1, E3.set i (some s), rfl, by rw [e1], by omega, Lib.hid ⟨HP8.out, HTK.out, by have := HU.out.2.2.1; omega, fun h => (by cases h), fun _ => HQ7.out⟩⟩, by simp [intOf]; omega⟩
                · obtain rfl : j = m := by omega
                  have e1 : ((i + 1 : Nat) : Int) = (i : Int) + 1 := by omega
                  gi_wp2
                  refine ⟨⟨ch, i + 1, M3, E3, rfl, by rw [e1], by omega, Lib.hid ⟨HU.out.1, HU.out.2.1.next (by rw [HLm.out]; exact Nat.le_refl _), by have := HU.out.2.2.1; omega, fun h => (HU.out.2.2.2.1 h).keep (by rw [HLm.out]; exact Nat.le_refl _), HU.out.2.2.2.2⟩⟩, by simp [intOf]; omega⟩
            · obtain rfl : i = k := by omega
              gi_wp2
              gi_roundg (if ch then 8 - q else 0)
              case rel => exact ⟨ch, q + 1, M2, E2, rfl, by cases ch <;> simp <;> omega, fun h => by have := HW.out.2.2.2.2 h; omega, Lib.hid ⟨HW.out.1, HW.out.2.1.round (by rw [HLn.out]; exact Nat.le_refl _), by have := HW.out.2.2.1; omega, by omega, fun h => HW.out.2.2.2.1 h⟩⟩
              case measure => rw [hg']; split <;> omega

theorem rcosts_any (A : Option Addr) (n c : Nat) (A' : Option Addr) (m d : Nat) (p : Price) (t : Town) (dk : Bool) (to : Int) (w : World)
    (hm : m ≤ 20) (ha : IntsAt w w.heap.size A n t.places) (ht : LinksAt w w.heap.size A' m t.links) (hp : Cheap p) (hfine : Fine t) (hfair : Fair p) (hnd : t.places.Nodup) :
    Calls Tryd.prog 119 #[.agg #[.slice A n c, .slice A' m d], .int .i64 to, .bool dk, .agg #[.int .i64 p.pace, .int .i64 p.up, .int .i64 p.step]] w (RCostsOut w t dk p to n) :=
  callsIn_wide.1 (rcosts_in A n c A' m d p t dk to w hm ha ht hp hfine hfair hnd)
end Go.Proofs.YtahkjagjcogeiaaDoor
/- Two costs of the answer compared. -/
namespace Go.Proofs.YtahkjagjcogeiaaDoor
open Go.RowKit Go.Shelf
theorem eql_cost (x y : Cost) (W : World) : (binOp .eql 103 (.agg #[.int .i64 x.a, .int .i64 x.b, .int .i64 x.c, .int .i64 x.d]) (.agg #[.int .i64 y.a, .int .i64 y.b, .int .i64 y.c, .int .i64 y.d])).run Tryd.prog W = .ok (.bool (decide (x = y))) W := by
  obtain ⟨i0, hi, hz0, hz1, hz2⟩ := info_parts info_int
  have hc : Tryd.prog.cellsOf 3 = 1 := by simp [Program.cellsOf, hi, hz1]
  rw [run_eql_struct, show (10000 : Nat) = 9998 + 1 + 1 from rfl, run_equalIn_array W (9998 + 1) (n := 4) (e := 3) _ _ Tryd.underlying103 hi, hc]
  have hp : ∀ (k : Nat) (a : Array Value) (z : Int), a[k]? = some (.int .i64 z) → (part 3 a k).run Tryd.prog W = .ok (.int .i64 z) W := by
    intro k a z h
    simp [part, go_sem]
    rw [h]
    rfl
  have he : ∀ (a b : Int), (Op.equalIn (9998 + 1) 3 (.int .i64 a) (.int .i64 b)).run Tryd.prog W = .ok (a == b) W := fun a b => run_equalIn_int W 9998 3 .i64 .i64 a b Tryd.underlying3
  simp only [List.range, List.range.loop, Op.eqItems, Sem.run_bind, Nat.mul_one]
  rw [hp 0 _ x.a rfl, Result.andThen_ok, hp 0 _ y.a rfl, Result.andThen_ok, he, Result.andThen_ok]
  have hxy : x = y ↔ x.a = y.a ∧ x.b = y.b ∧ x.c = y.c ∧ x.d = y.d := by
    cases x; cases y; simp
  by_cases h1 : x.a = y.a
  · rw [if_neg (by simp [h1]), Sem.run_bind, hp 1 _ x.b rfl, Result.andThen_ok, Sem.run_bind, hp 1 _ y.b rfl, Result.andThen_ok, Sem.run_bind, he, Result.andThen_ok]
    by_cases h2 : x.b = y.b
    · rw [if_neg (by simp [h2]), Sem.run_bind, hp 2 _ x.c rfl, Result.andThen_ok, Sem.run_bind, hp 2 _ y.c rfl, Result.andThen_ok, Sem.run_bind, he, Result.andThen_ok]
      by_cases h3 : x.c = y.c
      · rw [if_neg (by simp [h3]), Sem.run_bind, hp 3 _ x.d rfl, Result.andThen_ok, Sem.run_bind, hp 3 _ y.d rfl, Result.andThen_ok, Sem.run_bind, he, Result.andThen_ok]
        by_cases h4 : x.d = y.d
        · rw [if_neg (by simp [h4])]
          simp [hxy, h1, h2, h3, h4, Result.andThen]
        · rw [if_pos (by simp [h4])]
          simp [hxy, h4, Result.andThen]
      · rw [if_pos (by simp [h3])]
        simp [hxy, h3, Result.andThen]
    · rw [if_pos (by simp [h2])]
      simp [hxy, h2, Result.andThen]
  · rw [if_pos (by simp [h1])]
    simp [hxy, h1, Result.andThen]
theorem quietIn_eql_cost {F : Fence} {n : Nat} {C : World → Prop} {a : Act} {o : Oper} {K : Act → Prop} (x y : Cost) (b : Bool) (hb : decide (x = y) = b) (xo yo : Operand) {t' : TypeId} (h : o.op = .binOp .eql 103 xo yo t')
    (hx : a.eval xo = .agg #[.int .i64 x.a, .int .i64 x.b, .int .i64 x.c, .int .i64 x.d]) (hy : a.eval yo = .agg #[.int .i64 y.a, .int .i64 y.b, .int .i64 y.c, .int .i64 y.d]) (hk : K (a.put o.dst (.bool b))) : o.quietIn F n Tryd.prog a C K :=
  ⟨.bool b, fun w _ => by
    have hg := run_eqGuard_agg (P := Tryd.prog) w .eql 103 xo yo #[.int .i64 x.a, .int .i64 x.b, .int .i64 x.c, .int .i64 x.d] #[.int .i64 y.a, .int .i64 y.b, .int .i64 y.c, .int .i64 y.d] Tryd.eqGuardType103
    have he := eql_cost x y w
    unfold Oper.quietAtIn
    rw [hb] at he
    have e : (execOp a.eval o).run Tryd.prog w = .ok (.value (.bool b)) w := by
      unfold execOp
      rw [h]
      simp only [hx, hy, Sem.run_bind, hg, Result.andThen_ok, he]
      rfl
    rw [e]
    exact ⟨rfl, rfl⟩, hk⟩
end Go.Proofs.YtahkjagjcogeiaaDoor
/- The answer's first: the first walk out of the least costs. -/
namespace Go.Proofs.YtahkjagjcogeiaaDoor
open Go.RowKit Go.Shelf
set_option linter.unusedVariables false

theorem EAt.cell {w : World} {B : Nat} {A : Option Addr} {n : Nat} {E : List (Option Cost)} (h : EAt w B A n E) {k : Nat} {r : Option Cost} (hk : E[k]? = some r) : ∃ b off, A = some ⟨b, off, none⟩ ∧ b < B ∧
    w.cell? ⟨b, off + k * 4, none⟩ = some (.int .i64 (entC r).a) ∧ w.cell? ⟨b, off + k * 4 + 1, none⟩ = some (.int .i64 (entC r).b) ∧ w.cell? ⟨b, off + k * 4 + 2, none⟩ = some (.int .i64 (entC r).c) ∧ w.cell? ⟨b, off + k * 4 + 3, none⟩ = some (.int .i64 (entC r).d) := by
  have hk' := (List.getElem?_eq_some_iff.1 hk).1
  obtain ⟨b, off, e, hb, hc⟩ := Reads.plain h (by rw [eVals_len]; omega)
  exact ⟨b, off, e, hb, hc (k * 4) _ (eVals_at (j := 0) hk (by omega)), hc (k * 4 + 1) _ (eVals_at (j := 1) hk (by omega)), hc (k * 4 + 2) _ (eVals_at (j := 2) hk (by omega)), hc (k * 4 + 3) _ (eVals_at (j := 3) hk (by omega))⟩

def RFirstOut (w : World) (r : Option (Cost × List Int)) (e : Ending) (w' : World) : Prop :=
  ∃ (A : Option Addr) (n cap : Nat) (co : Cost), e = .returned (.tuple #[.slice A n cap, costV co, .bool r.isSome]) ∧ (r = none → A = none ∧ n = 0 ∧ cap = 0 ∧ co = zeroC) ∧ (∀ q, r = some q → q.1 = co ∧ IntsAt w' w'.heap.size A n q.2) ∧ (∀ a, A = some a → w.heap.size ≤ a.block ∧ a.block < w'.heap.size) ∧ Below w.heap.size w w'

/-- What lies in memory while first works. -/
structure RFSt (w : World) (T : Array Value) (p : Price) (A : Option Addr) (n : Nat) (E : List (Option Cost)) (B : Nat) (c0 : Cost) (W : World) : Prop where
  bel : Below w.heap.size w W
  tb : Blk W w.heap.size 25 T
  pb : Blk W (w.heap.size + 1) 107 #[.int .i64 p.pace, .int .i64 p.up, .int .i64 p.step]
  rb : Blk W (w.heap.size + 1 + 1) 103 #[.int .i64 0, .int .i64 0, .int .i64 0, .int .i64 0]
  ea : EAt W B A n E
  eb : w.heap.size + 1 + 1 < B
  fb : Blk W B 103 #[.int .i64 c0.a, .int .i64 c0.b, .int .i64 c0.c, .int .i64 c0.d]
theorem RFSt.below {w W W' : World} {T : Array Value} {p : Price} {A : Option Addr} {n B : Nat} {E : List (Option Cost)} {c0 : Cost} (h : RFSt w T p A n E B c0 W) (hb : Below W.heap.size W W') : RFSt w T p A n E B c0 W' :=
  ⟨h.bel.trans (hb.mono h.bel.size), h.tb.below hb h.tb.lt, h.pb.below hb h.pb.lt, h.rb.below hb h.rb.lt, h.ea.below (hb.mono (Nat.le_of_lt h.fb.lt)), h.eb, h.fb.below hb h.fb.lt⟩

theorem RFSt.low {w W W' : World} {T : Array Value} {p : Price} {A : Option Addr} {n B : Nat} {E : List (Option Cost)} {c0 : Cost} (h : RFSt w T p A n E B c0 W) (hb : Below (B + 1) W W') : RFSt w T p A n E B c0 W' := by
  have h1 := h.eb
  have h2 := h.fb.lt
  exact ⟨h.bel.trans (hb.mono (by omega)), h.tb.below hb (by omega), h.pb.below hb (by omega), h.rb.below hb (by omega), h.ea.below (hb.mono (by omega)), h.eb, h.fb.below hb (by omega)⟩

theorem RFSt.entry {w W : World} {T : Array Value} {p : Price} {be oe n B : Nat} {E : List (Option Cost)} {c0 : Cost} (h : RFSt w T p (some ⟨be, oe, none⟩) n E B c0 W) {k : Nat} {r : Option Cost} (hk : E[k]? = some r) :
    W.cell? ⟨be, oe + k * 4, none⟩ = some (.int .i64 (entC r).a) ∧ W.cell? ⟨be, oe + k * 4 + 1, none⟩ = some (.int .i64 (entC r).b) ∧ W.cell? ⟨be, oe + k * 4 + 2, none⟩ = some (.int .i64 (entC r).c) ∧ W.cell? ⟨be, oe + k * 4 + 3, none⟩ = some (.int .i64 (entC r).d) := by
  obtain ⟨b, off, e, _, h1, h2, h3, h4⟩ := h.ea.cell hk
  cases e
  exact ⟨h1, h2, h3, h4⟩
theorem rplus_cls' {W : World} {n : Nat} (x y s : Cost) (hs : addC x y = s) (hx : Small x) (hy : Small y) {σ : Type} {of : σ → World} (h1 : ∀ z, Below W.heap.size W (of z)) (h2 : ∀ z W', Below (of z).heap.size (of z) W' → Cls of W') (z : σ) :
    CallsIn Fence.wide n Tryd.prog 113 #[.agg #[.int .i64 x.a, .int .i64 x.b, .int .i64 x.c, .int .i64 x.d], .agg #[.int .i64 y.a, .int .i64 y.b, .int .i64 y.c, .int .i64 y.d]] (of z) fun e w'' => e = .returned (.agg #[.int .i64 s.a, .int .i64 s.b, .int .i64 s.c, .int .i64 s.d]) ∧ Cls of w'' := by
  subst hs
  exact rplus_cls x y hx hy h1 h2 z

theorem Cost.ext_list {c d : Cost} (h : c.list = d.list) : c = d := by
  obtain ⟨a, b, e, f⟩ := c
  obtain ⟨a', b', e', f'⟩ := d
  simp only [Cost.list, List.cons.injEq, and_true] at h
  obtain ⟨rfl, rfl, rfl, rfl⟩ := h
  rfl
theorem first_here {t : Town} {dk : Bool} {p : Price} (ht : Fine t) (hp : Fair p) (u : Int) : First t dk p u u (some (zeroC, [])) := by
  refine ⟨.nil u, fun c' l' h => ?_⟩
  have hb := h.bound ht hp
  rw [cmp_key]
  by_cases hl : l' = []
  · subst hl
    cases h
    rw [if_pos (cmpL_refl _), cmpL_refl]
    exact Int.le_refl _
  · have h1 : 0 < l'.length := List.length_pos_iff.2 hl
    have h2 : cmpL zeroC.list c'.list = -1 := by
      rw [cmpC_unf]
      have za : zeroC.a = 0 := rfl
      have zb : zeroC.b = 0 := rfl
      have zc : zeroC.c = 0 := rfl
      by_cases ha : zeroC.a < c'.a
      · rw [if_pos ha]
      · rw [if_neg ha, if_neg (by omega)]
        by_cases hb' : zeroC.b < c'.b
        · rw [if_pos hb']
        · rw [if_neg hb', if_neg (by omega), if_pos (by omega)]
    rw [h2, if_neg (by omega)]
    omega
theorem first_end {t : Town} {dk : Bool} {p : Price} {v to : Int} {E : List (Option Cost)} {ia : Nat} {ca cc k0 : Cost} {acc : List Int} (hC : Costs t dk p to E) (ht : Fine t) (hp : Fair p) (hia : t.places[ia]? = some to) (hcc : E[ia]? = some (some cc)) (hk : addC ca cc = k0)
    (hF : ∀ c' r, First t dk p to to (some (c', r)) → First t dk p v to (some (addC ca c', acc ++ r))) : best t dk p v to = some (k0, acc) := by
  have h0 := first_here (dk := dk) ht hp to
  have h1 := hF _ _ h0
  rw [List.append_nil, addC_zero] at h1
  have h2 := hC.2 ia to hia _ hcc
  obtain ⟨⟨l, hw⟩, hmin⟩ := h2
  have h3 := key_cost (h0.2 _ _ hw)
  have h4 := hmin _ _ (.nil to)
  have h5 : cc = zeroC := Cost.ext_list (cmpL_antisymm h4 h3)
  rw [h5, addC_zero] at hk
  subst hk
  exact ((first_iff ht hp).1 h1).symm
theorem Own.keepB {w w' : World} {base n cap size : Nat} {e : TypeId} {A : Option Addr} {xs : List Value} (o : Own w base e size A n cap xs) (hk : ∀ g : Nat, base ≤ g → g < w.heap.size → w'.heap[g]? = w.heap[g]?) : Own w' base e size A n cap xs := by
  refine ⟨o.1, ?_⟩
  rcases o.2 with h' | ⟨g, cap', cur, hv, hb, hg, hr⟩
  · exact .inl h'
  · exact .inr ⟨g, cap', cur, hv, hb, (hk g hb (Array.getElem?_eq_some_iff.1 hg).1).trans hg, hr⟩

set_option maxRecDepth 100000 in
set_option maxHeartbeats 16000000 in
theorem rfirst_in (A : Option Addr) (n c : Nat) (A' : Option Addr) (m d : Nat) (p : Price) (t : Town) (dk : Bool) (v to : Int) (w : World)
    (hm : m ≤ 20) (ha : IntsAt w w.heap.size A n t.places) (ht : LinksAt w w.heap.size A' m t.links) (hp : Cheap p) (hfine : Fine t) (hfair : Fair p) (hnd : t.places.Nodup) (hv : v ∈ t.places) :
    CallsIn Fence.wide 9 Tryd.prog 57 #[.agg #[.slice A n c, .slice A' m d], .int .i64 v, .int .i64 to, .bool dk, .agg #[.int .i64 p.pace, .int .i64 p.up, .int .i64 p.step]] w (RFirstOut w (best t dk p v to)) := by
  have HT := Lib.hid ht
  have HP := Lib.hid hp
  have HA := Lib.hid ha
  have HFI := Lib.hid hfine
  have HFA := Lib.hid hfair
  have HND := Lib.hid hnd
  have HLm := Lib.hid ht.len
  have HLn := Lib.hid ha.len
  have hn9 : n ≤ 9 := by have := hfine.size; have := ha.len; omega
  obtain ⟨i0, hpi, hi0, hi0l⟩ := placeI_at hv
  have HPI := Lib.hid hpi
  have HI0 := Lib.hid hi0
  have hi0n : i0 < n := by have := HLn.out; omega
  clear ha ht hp hfine hfair hnd hpi hi0 hv
  refine callsIn_of_wp Tryd.func57 rfl trivial ?_ rfl
  simp only [Tryd.ntmps57, List.size_toArray, List.length_cons, List.length_nil, Nat.reduceAdd, Nat.reduceSub, Array.replicate_succ, Array.replicate_zero, List.push_toArray, List.append_toArray, List.nil_append, List.cons_append]
  gi_wp2
  have B0 : Below w.heap.size w (((w.alloc (.cells #[.slice A n c, .slice A' m d] 25)).alloc (.cells #[.int .i64 p.pace, .int .i64 p.up, .int .i64 p.step] 107)).alloc (.cells #[.int .i64 0, .int .i64 0, .int .i64 0, .int .i64 0] 103)) :=
    (((Below.refl w.heap.size w).alloc (Nat.le_refl _) (.cells #[.slice A n c, .slice A' m d] 25)).alloc (by simp) (.cells #[.int .i64 p.pace, .int .i64 p.up, .int .i64 p.step] 107)).alloc (by simp; omega) (.cells #[.int .i64 0, .int .i64 0, .int .i64 0, .int .i64 0] 103)
  have T0 := ((Blk.new w 25 #[.slice A n c, .slice A' m d]).alloc (.cells #[.int .i64 p.pace, .int .i64 p.up, .int .i64 p.step] 107)).alloc (.cells #[.int .i64 0, .int .i64 0, .int .i64 0, .int .i64 0] 103)
  have P0 := (Blk.new (w.alloc (.cells #[.slice A n c, .slice A' m d] 25)) 107 #[.int .i64 p.pace, .int .i64 p.up, .int .i64 p.step]).alloc (.cells #[.int .i64 0, .int .i64 0, .int .i64 0, .int .i64 0] 103)
  have R0 := Blk.new ((w.alloc (.cells #[.slice A n c, .slice A' m d] 25)).alloc (.cells #[.int .i64 p.pace, .int .i64 p.up, .int .i64 p.step] 107)) 103 #[.int .i64 0, .int .i64 0, .int .i64 0, .int .i64 0]
  rw [World.size_alloc] at P0
  rw [World.size_alloc, World.size_alloc] at R0
  have HB0 := Lib.hid B0
  have HT0 := Lib.hid T0
  have HP0 := Lib.hid P0
  have HR0 := Lib.hid R0
  clear B0 T0 P0 R0
  generalize (((w.alloc (.cells #[.slice A n c, .slice A' m d] 25)).alloc (.cells #[.int .i64 p.pace, .int .i64 p.up, .int .i64 p.step] 107)).alloc (.cells #[.int .i64 0, .int .i64 0, .int .i64 0, .int .i64 0] 103)) = w0 at *
  refine ⟨trivial, (callsIn_wide.2 (rcosts_any A n c A' m d p t dk to w0 hm ((HA.out.below HB0.out).more HB0.out.size) ((HT.out.below HB0.out).more HB0.out.size) HP.out HFI.out HFA.out HND.out)).mono ?_⟩
  rintro e w1 ⟨AE, E, rfl, hea, hC, hL, hb1⟩
  have HEA := Lib.hid hea
  have HC := Lib.hid hC
  have HL := Lib.hid hL
  have HB1 := Lib.hid hb1
  have HT1 := Lib.hid (HT0.out.below hb1 HT0.out.lt)
  have HP1 := Lib.hid (HP0.out.below hb1 HP0.out.lt)
  have HR1 := Lib.hid (HR0.out.below hb1 HR0.out.lt)
  have BB1 := Lib.hid (HB0.out.trans (hb1.mono HB0.out.size))
  clear hea hC hL hb1 HT0 HP0 HR0
  have t0 := HT1.out.cell 0
  have t1 := HT1.out.cell 1
  gi_wp2
  refine ⟨trivial, (callsIn_wide.2 (place_any A n c A' m d t v w1 (by unfold maxLen; omega) ((HA.out.below BB1.out).more BB1.out.size))).mono ?_⟩
  rintro e w2 ⟨rfl, hb2⟩
  rw [HPI.out]
  have HEA2 : Hid (EAt w2 w1.heap.size AE n E) := Lib.hid (Reads.below HEA.out hb2)
  have HT2 := Lib.hid (HT1.out.below hb2 HT1.out.lt)
  have HP2 := Lib.hid (HP1.out.below hb2 HP1.out.lt)
  have HR2 := Lib.hid (HR1.out.below hb2 HR1.out.lt)
  have BB2 := Lib.hid (BB1.out.trans (hb2.mono BB1.out.size))
  have hsz2 := hb2.size
  clear hb2 t0 t1 HT1 HP1 HR1
  obtain ⟨r, hr⟩ : ∃ r, E[i0]? = some r := ⟨_, List.getElem?_eq_getElem (by rw [HC.out.1]; exact hi0l)⟩
  have HR := Lib.hid hr
  clear hr
  obtain ⟨be, oe, rfl, hbe, c0, c1, c2, c3⟩ := HEA2.out.cell HR.out
  have hbel : be < w2.heap.size := Nat.lt_of_lt_of_le hbe hsz2
  have f0 := HR2.out.cell 0
  have f1 := HR2.out.cell 1
  have f2 := HR2.out.cell 2
  have f3 := HR2.out.cell 3
  have z0 := HR2.out.frozen 0
  have z1 := HR2.out.frozen 1
  have z2 := HR2.out.frozen 2
  have z3 := HR2.out.frozen 3
  have hrl : w.heap.size + 1 + 1 < w2.heap.size := HR2.out.lt
  cases r with
  | none =>
    have hge : decide ((1000000000 : Int) ≤ (entC none).a) = true := by simp [entC, infC]
    gi_wp2
    have R4 := ret4 HR2.out BB2.out (by omega) (.int .i64 0) (.int .i64 0) (.int .i64 0) (.int .i64 0)
    have R5 := R4.1.alloc (.cells #[.int .i64 (entC none).a, .int .i64 (entC none).b, .int .i64 (entC none).c, .int .i64 (entC none).d] 103)
    have y0 := R5.cell 0
    have y1 := R5.cell 1
    have y2 := R5.cell 2
    have y3 := R5.cell 3
    refine bodyPost_ret (v := .tuple #[.slice none 0 0, costV zeroC, .bool false]) (by simp [results, Tryd.results57, go_sem, y0, y1, y2, y3, zeroC]) rfl ?_
    have hno : best t dk p v to = none := by
      have h := HC.out.2 i0 v HI0.out none HR.out
      exact ((first_iff HFI.out HFA.out (r := none)).1 h).symm
    rw [hno]
    exact ⟨none, 0, 0, zeroC, rfl, fun _ => ⟨rfl, rfl, rfl, rfl⟩, (fun q hq => by cases hq), (fun a ha => by cases ha), R4.2.alloc R4.2.size _⟩
  | some k0 =>
    have hge : decide ((1000000000 : Int) ≤ (entC (some k0)).a) = false := by
      have := (HL.out i0 k0 HR.out).a
      exact decide_eq_false (show ¬ (1000000000 : Int) ≤ k0.a by omega)
    gi_wp2
    have hbW : Below w2.heap.size w2 (w2.alloc (.cells #[.int .i64 (entC (some k0)).a, .int .i64 (entC (some k0)).b, .int .i64 (entC (some k0)).c, .int .i64 (entC (some k0)).d] 103)) := (Below.refl _ _).alloc (Nat.le_refl _) _
    have HS3 : Hid (RFSt w #[.slice A n c, .slice A' m d] p (some ⟨be, oe, none⟩) n E w2.heap.size k0 (w2.alloc (.cells #[.int .i64 (entC (some k0)).a, .int .i64 (entC (some k0)).b, .int .i64 (entC (some k0)).c, .int .i64 (entC (some k0)).d] 103))) := Lib.hid
      ⟨BB2.out.trans (hbW.mono BB2.out.size), HT2.out.below hbW HT2.out.lt, HP2.out.below hbW HP2.out.lt, HR2.out.below hbW HR2.out.lt, (HEA2.out.more hsz2).below hbW, hrl, Blk.new _ _ _⟩
    generalize (w2.alloc (.cells #[.int .i64 (entC (some k0)).a, .int .i64 (entC (some k0)).b, .int .i64 (entC (some k0)).c, .int .i64 (entC (some k0)).d] 103)) = w3 at *
    clear hbW c0 c1 c2 c3 f0 f1 f2 f3 z0 z1 z2 z3
    gi_loopg [1, 15] k0.c.toNat (fun g v1 v15 wr => ∃ (at_ : Int) (ia : Nat) (ca cc : Cost) (acc : List Int) (AO : Option Addr) (capO : Nat), v1 = .int .i64 at_ ∧ v15 = .slice AO acc.length capO ∧ g = cc.c.toNat ∧ Hid (RFSt w #[.slice A n c, .slice A' m d] p (some ⟨be, oe, none⟩) n E w2.heap.size k0 wr ∧ t.places[ia]? = some at_ ∧ E[ia]? = some (some cc) ∧ Walk t dk p v at_ ca acc ∧ addC ca cc = k0 ∧ (∀ c' r, First t dk p at_ to (some (c', r)) → First t dk p v to (some (addC ca c', acc ++ r))) ∧ Own wr (w2.heap.size + 1) 3 1 AO acc.length capO (acc.map (Value.int .i64))))
    case atStart =>
      exact ⟨v, i0, zeroC, k0, [], none, 0, rfl, rfl, rfl, Lib.hid ⟨HS3.out, HI0.out, HR.out, .nil _, zero_addC k0, fun c' r h => by rw [zero_addC]; exact h, Own.none_ _ _ _ _⟩⟩
    case round =>
      obtain ⟨at_, ia, ca, cc, acc, AO, capO, rfl, rfl, hg, HS⟩ := hrel
      clear HS3
      by_cases hne : at_ = to
      · have HNE := Lib.hid hne
        subst hne
        have s0 := HS.out.1.rb.cell 0
        have s1 := HS.out.1.rb.cell 1
        have s2 := HS.out.1.rb.cell 2
        have s3 := HS.out.1.rb.cell 3
        have z0 := HS.out.1.rb.frozen 0
        have z1 := HS.out.1.rb.frozen 1
        have z2 := HS.out.1.rb.frozen 2
        have z3 := HS.out.1.rb.frozen 3
        have f0 := HS.out.1.fb.cell 0
        have f1 := HS.out.1.fb.cell 1
        have f2 := HS.out.1.fb.cell 2
        have f3 := HS.out.1.fb.cell 3
        have HEND := Lib.hid (first_end HC.out HFI.out HFA.out HS.out.2.1 HS.out.2.2.1 HS.out.2.2.2.2.1 HS.out.2.2.2.2.2.1)
        gi_wp2
        gi_region
        all_goals
          gi_wp2
          have R4 := ret4 (w := w) HS.out.1.rb (HS.out.1.bel) (by omega) (.int .i64 k0.a) (.int .i64 k0.b) (.int .i64 k0.c) (.int .i64 k0.d)
          have L4 := (ret4 (w := wr) (B := w.heap.size + 1 + 1) HS.out.1.rb (Below.refl _ _) (Nat.le_refl _) (.int .i64 k0.a) (.int .i64 k0.b) (.int .i64 k0.c) (.int .i64 k0.d))
          have y0 := R4.1.cell 0
          have y1 := R4.1.cell 1
          have y2 := R4.1.cell 2
          have y3 := R4.1.cell 3
          refine bodyPost_ret (v := .tuple #[.slice AO acc.length capO, costV k0, .bool true]) (by simp [results, Tryd.results57, go_sem, y0, y1, y2, y3]) rfl ?_
          rw [HEND.out]
          have hown := HS.out.2.2.2.2.2.2.keepB (w' := ((((wr.setCell ⟨w.heap.size + 1 + 1, 0, none⟩ (.int .i64 k0.a)).setCell ⟨w.heap.size + 1 + 1, 1, none⟩ (.int .i64 k0.b)).setCell ⟨w.heap.size + 1 + 1, 2, none⟩ (.int .i64 k0.c)).setCell ⟨w.heap.size + 1 + 1, 3, none⟩ (.int .i64 k0.d))) (fun g hg _ => by
            have hne : g ≠ w.heap.size + 1 + 1 := by omega
            exact (Below.heap_setCell _ ⟨w.heap.size + 1 + 1, 3, none⟩ _ g hne).trans ((Below.heap_setCell _ ⟨w.heap.size + 1 + 1, 2, none⟩ _ g hne).trans ((Below.heap_setCell _ ⟨w.heap.size + 1 + 1, 1, none⟩ _ g hne).trans (Below.heap_setCell _ ⟨w.heap.size + 1 + 1, 0, none⟩ _ g hne))))
          exact ⟨AO, acc.length, capO, k0, rfl, (fun h => by cases h), (fun q hq => by cases hq; exact ⟨rfl, hown.reads (Nat.le_refl _)⟩), (fun a ha => ⟨by have := (hown.lt ha).1; omega, (hown.lt ha).2⟩), below_drewN R4.2 1⟩
      · have HNE := Lib.hid hne
        have t0 := HS.out.1.tb.cell 0
        have t1 := HS.out.1.tb.cell 1
        have hnb : (at_ != to) = true := by simpa using HNE.out
        gi_wp2
        gi_loopw [1, 15, 42] (fun v1 v15 vj wr => ∃ j : Nat, v1 = .int .i64 at_ ∧ v15 = .slice AO acc.length capO ∧ vj = .int .i64 j ∧ j ≤ m ∧ Hid (RFSt w #[.slice A n c, .slice A' m d] p (some ⟨be, oe, none⟩) n E w2.heap.size k0 wr ∧ Own wr (w2.heap.size + 1) 3 1 AO acc.length capO (acc.map (Value.int .i64)) ∧
          ∀ y ∈ t.links.take j, ∀ n' cy (i' : Nat) d', leads dk p y at_ = some (n', cy) → t.places[i']? = some n' → E[i']? = some (some d') → addC cy d' ≠ cc)) (fun _ _ vj _ => m - (intOf vj).toNat)
        case atStart => exact ⟨0, rfl, rfl, rfl, Nat.zero_le _, Lib.hid ⟨HS.out.1, HS.out.2.2.2.2.2.2, fun y hy => by simp at hy⟩⟩
        case round =>
          obtain ⟨j, rfl, rfl, rfl, hjm, HU⟩ := hrel
          have HREL := Lib.hid HS.out.2
          clear HS
          by_cases hjl : j < m
          · obtain ⟨b, off, x, rfl, hb, hx, l0, l1, l2, l3, l4⟩ := (HT.out.below HU.out.1.bel).cell hjl
            have hbl : b < wr.heap.size := Nat.lt_of_lt_of_le hb HU.out.1.bel.size
            have HX := Lib.hid hx
            clear hx hb t0 t1
            have p0 := HU.out.1.pb.cell 0
            have p1 := HU.out.1.pb.cell 1
            have p2 := HU.out.1.pb.cell 2
            have hpl := HU.out.1.pb.lt
            have htl := HU.out.1.tb.lt
            gi_wp2
            have HS4 : Hid (RFSt w #[.slice A n c, .slice (some ⟨b, off, none⟩) m d] p (some ⟨be, oe, none⟩) n E w2.heap.size k0 (wr.alloc (.cells #[.int .i64 x.id, .int .i64 x.fr, .int .i64 x.to, .int .i64 x.steps, .int .i64 x.paces] 45)) ∧ Own (wr.alloc (.cells #[.int .i64 x.id, .int .i64 x.fr, .int .i64 x.to, .int .i64 x.steps, .int .i64 x.paces] 45)) (w2.heap.size + 1) 3 1 AO acc.length capO (acc.map (Value.int .i64))) := Lib.hid ⟨HU.out.1.below ((Below.refl _ _).alloc (Nat.le_refl _) _), HU.out.2.1.alloc _⟩
            have HLB4 : Hid (Blk (wr.alloc (.cells #[.int .i64 x.id, .int .i64 x.fr, .int .i64 x.to, .int .i64 x.steps, .int .i64 x.paces] 45)) wr.heap.size 45 #[.int .i64 x.id, .int .i64 x.fr, .int .i64 x.to, .int .i64 x.steps, .int .i64 x.paces]) := Lib.hid (Blk.new _ _ _)
            have HNO := Lib.hid HU.out.2.2
            have HLO : Hid (w2.heap.size + 1 ≤ wr.heap.size) := Lib.hid (HU.out.1.fb.lt)
            have HXM : Hid (x ∈ t.links) := Lib.hid (List.mem_of_getElem? HX.out)
            have HFit : Hid (Fit x) := Lib.hid ⟨HFI.out.steps x HXM.out, HFI.out.paces x HXM.out⟩
            clear HU p0 p1 p2 l0 l1 l2 l3 l4 hbl hpl htl
            generalize (wr.alloc (.cells #[.int .i64 x.id, .int .i64 x.fr, .int .i64 x.to, .int .i64 x.steps, .int .i64 x.paces] 45)) = w4 at *
            have e1 : ((j + 1 : Nat) : Int) = (j : Int) + 1 := by omega
            refine ⟨trivial, (callsIn_wide.2 (leads_any x at_ dk p w4 HFit.out HP.out)).mono ?_⟩
            rcases hld : leads dk p x at_ with _ | ⟨v', cx⟩
            · rintro e w5 ⟨he, hb5⟩
              obtain rfl : e = .returned (.tuple #[.int .i64 0, .agg #[.int .i64 0, .int .i64 0, .int .i64 0, .int .i64 0], .bool false]) := he
              have HLD := Lib.hid hld
              have HS5 := Lib.hid (show _ ∧ _ from ⟨HS4.out.1.below hb5, HS4.out.2.below hb5 (Nat.le_refl _)⟩)
              clear hld hb5
              gi_wp2
              have HS6 := Lib.hid (show _ ∧ _ from ⟨HS5.out.1.below ((Below.refl _ _).alloc (Nat.le_refl _) (.cells #[.int .i64 0, .int .i64 0, .int .i64 0, .int .i64 0] 103)), HS5.out.2.alloc (.cells #[.int .i64 0, .int .i64 0, .int .i64 0, .int .i64 0] 103)⟩)
              generalize (w5.alloc (.cells #[.int .i64 0, .int .i64 0, .int .i64 0, .int .i64 0] 103)) = w6 at *
              refine wpIn_region_old (AF := ?AF1) [0, 1, 2, 3, 4, 5, 6, 7, 8, 9, 10, 11, 12, 13, 14, 15, 16, 17] [] [true, true, true, true, true, true, true, true, true, true, true, true, true, true, true, true, true, true] [false, false, false, false, false, false, false, false, false, false, false, false, false, false, false, false, false, false] (by kernel_rfl) (by kernel_rfl) (by kernel_rfl) (by kernel_rfl) (by kernel_rfl) (below_drewN (Below.refl _ _) 1) ?hq1 ?ht1
              case hq1 =>
                rintro σ hσ of hof hcl
                have HOF := Lib.hid hof
                have HCL := Lib.hid hcl
                clear hof hcl
                have hfw : ∀ f, Fence.wide.fn f := fun _ => trivial
                simp only [pickB]
                repeat (gi_big_quiet_step (fail))
                refine wpQuietIn_nil ?_
                exact rfl
              case ht1 =>
                intro W hb
                have HS7 := Lib.hid (show _ ∧ _ from ⟨HS6.out.1.below hb, HS6.out.2.below hb (Nat.le_refl _)⟩)
                clear hb
                simp only [pickB]
                refine wpE_nil ?_
                gi_wp2
                refine ⟨⟨j + 1, rfl, rfl, by rw [e1], by omega, Lib.hid ⟨HS7.out.1, HS7.out.2, fun y hy n' cy i' d' g1 g2 g3 => ?_⟩⟩, by simp [intOf]; omega⟩
                rw [List.take_add_one, HX.out] at hy
                rcases List.mem_append.1 hy with hy | hy
                · exact HNO.out y hy n' cy i' d' g1 g2 g3
                · obtain rfl : y = x := by simpa using hy
                  rw [HLD.out] at g1
                  cases g1
            · rintro e w5 ⟨he, hb5⟩
              obtain rfl : e = .returned (.tuple #[.int .i64 v', .agg #[.int .i64 cx.a, .int .i64 cx.b, .int .i64 cx.c, .int .i64 cx.d], .bool true]) := he
              have HLD := Lib.hid hld
              have HS5 := Lib.hid (show _ ∧ _ from ⟨HS4.out.1.below hb5, HS4.out.2.below hb5 (Nat.le_refl _)⟩)
              have HLB5 := Lib.hid (HLB4.out.below hb5 HLB4.out.lt)
              clear hld hb5
              obtain ⟨i2, hpi, hi2, hi2l⟩ := placeI_at (leads_ends HXM.out HFI.out HLD.out).2
              have HPI2 := Lib.hid hpi
              have HI2 := Lib.hid hi2
              have hi2n : i2 < n := by have := HLn.out; omega
              obtain ⟨r, hr⟩ : ∃ r, E[i2]? = some r := ⟨_, List.getElem?_eq_getElem (by rw [HC.out.1]; exact hi2l)⟩
              have HR2 := Lib.hid hr
              have HCX := Lib.hid (leads_cost HXM.out HFI.out HFA.out HLD.out)
              have HSM : Hid (Small cx ∧ Small (entC r)) := Lib.hid ⟨by
                have h1 := HCX.out
                exact ⟨by omega, by omega, by omega, by omega⟩, Small.ent fun d hd => HL.out i2 d (by rw [HR2.out, hd])⟩
              have HUQ : Hid (∀ (i' : Nat), t.places[i']? = some v' → i' = i2) := Lib.hid (fun i' h => by
                have hl := (List.getElem?_eq_some_iff.1 h).1
                exact (List.getElem?_inj hl HND.out).1 (h.trans HI2.out.symm))
              have HPIA : Hid (placeI t.places at_ = ia ∧ ia < n) := Lib.hid (by
                obtain ⟨i', h1, h2, h3⟩ := placeI_at (List.mem_of_getElem? HREL.out.1)
                have h4 : i' = ia := (List.getElem?_inj h3 HND.out).1 (h2.trans HREL.out.1.symm)
                rw [← h4]
                exact ⟨h1, by have := HLn.out; omega⟩)
              have hian : ia < n := HPIA.out.2
              have hi2I : (0 : Int) ≤ (i2 : Int) ∧ (i2 : Int) < (n : Int) := by omega
              have hiaI : (0 : Int) ≤ (ia : Int) ∧ (ia : Int) < (n : Int) := by omega
              clear hpi hi2 hi2l hr
              gi_wp2
              have HS6 := Lib.hid (show _ ∧ _ from ⟨HS5.out.1.below ((Below.refl _ _).alloc (Nat.le_refl _) (.cells #[.int .i64 cx.a, .int .i64 cx.b, .int .i64 cx.c, .int .i64 cx.d] 103)), HS5.out.2.alloc (.cells #[.int .i64 cx.a, .int .i64 cx.b, .int .i64 cx.c, .int .i64 cx.d] 103)⟩)
              have HLB6 := Lib.hid (HLB5.out.alloc (.cells #[.int .i64 cx.a, .int .i64 cx.b, .int .i64 cx.c, .int .i64 cx.d] 103))
              have HCB6 : Hid (Blk (w5.alloc (.cells #[.int .i64 cx.a, .int .i64 cx.b, .int .i64 cx.c, .int .i64 cx.d] 103)) w5.heap.size 103 #[.int .i64 cx.a, .int .i64 cx.b, .int .i64 cx.c, .int .i64 cx.d]) := Lib.hid (Blk.new _ _ _)
              generalize (w5.alloc (.cells #[.int .i64 cx.a, .int .i64 cx.b, .int .i64 cx.c, .int .i64 cx.d] 103)) = w6 at *
              have hcb6 : w5.heap.size < w6.heap.size := HCB6.out.lt
              have hbe6 : be < w6.heap.size := by have := HS6.out.1.fb.lt; omega
              have htl6 : w.heap.size < w6.heap.size := HS6.out.1.tb.lt
              obtain ⟨s, hs⟩ : ∃ s, addC cx (entC r) = s := ⟨_, rfl⟩
              have HSS := Lib.hid hs
              clear hs
              by_cases hsc : s = cc
              · have HSC : Hid (decide (s = cc) = true) := Lib.hid (decide_eq_true hsc)
                clear hsc
                refine wpIn_region_old (AF := ?AF2) [0, 1, 2, 3, 4, 5, 6, 7, 8, 9, 10, 11, 12, 13, 14, 15, 16, 17] [] [true, true, true, true, true, true, true, true, true, true, true, true, true, true, true, true, true, true] [false, false, false, false, false, false, false, false, false, false, false, false, false, false, false, false, false, false] (by kernel_rfl) (by kernel_rfl) (by kernel_rfl) (by kernel_rfl) (by kernel_rfl) (below_drewN (Below.refl _ _) 1) ?hq2 ?ht2
                case hq2 =>
                  rintro σ hσ of hof hcl
                  have HOF := Lib.hid hof
                  have HCL := Lib.hid hcl
                  clear hof hcl
                  have q0 : ∀ z, (of z).cell? ⟨w5.heap.size, 0, none⟩ = some (.int .i64 cx.a) := fun z => (HCB6.out.below (HOF.out z) hcb6).cell 0
                  have q1 : ∀ z, (of z).cell? ⟨w5.heap.size, 1, none⟩ = some (.int .i64 cx.b) := fun z => (HCB6.out.below (HOF.out z) hcb6).cell 1
                  have q2 : ∀ z, (of z).cell? ⟨w5.heap.size, 2, none⟩ = some (.int .i64 cx.c) := fun z => (HCB6.out.below (HOF.out z) hcb6).cell 2
                  have q3 : ∀ z, (of z).cell? ⟨w5.heap.size, 3, none⟩ = some (.int .i64 cx.d) := fun z => (HCB6.out.below (HOF.out z) hcb6).cell 3
                  have t0 : ∀ z, (of z).cell? ⟨w.heap.size, 0, none⟩ = some (.slice A n c) := fun z => (HS6.out.1.tb.below (HOF.out z) htl6).cell 0
                  have t1 : ∀ z, (of z).cell? ⟨w.heap.size, 1, none⟩ = some (.slice (some ⟨b, off, none⟩) m d) := fun z => (HS6.out.1.tb.below (HOF.out z) htl6).cell 1
                  have v0 : ∀ z, (of z).cell? ⟨be, oe + i2 * 4, none⟩ = some (.int .i64 (entC r).a) := fun z => ((HS6.out.1.below (HOF.out z)).entry HR2.out).1
                  have v1 : ∀ z, (of z).cell? ⟨be, oe + i2 * 4 + 1, none⟩ = some (.int .i64 (entC r).b) := fun z => ((HS6.out.1.below (HOF.out z)).entry HR2.out).2.1
                  have v2 : ∀ z, (of z).cell? ⟨be, oe + i2 * 4 + 2, none⟩ = some (.int .i64 (entC r).c) := fun z => ((HS6.out.1.below (HOF.out z)).entry HR2.out).2.2.1
                  have v3 : ∀ z, (of z).cell? ⟨be, oe + i2 * 4 + 3, none⟩ = some (.int .i64 (entC r).d) := fun z => ((HS6.out.1.below (HOF.out z)).entry HR2.out).2.2.2
                  have u0 : ∀ z, (of z).cell? ⟨be, oe + ia * 4, none⟩ = some (.int .i64 cc.a) := fun z => ((HS6.out.1.below (HOF.out z)).entry HREL.out.2.1).1
                  have u1 : ∀ z, (of z).cell? ⟨be, oe + ia * 4 + 1, none⟩ = some (.int .i64 cc.b) := fun z => ((HS6.out.1.below (HOF.out z)).entry HREL.out.2.1).2.1
                  have u2 : ∀ z, (of z).cell? ⟨be, oe + ia * 4 + 2, none⟩ = some (.int .i64 cc.c) := fun z => ((HS6.out.1.below (HOF.out z)).entry HREL.out.2.1).2.2.1
                  have u3 : ∀ z, (of z).cell? ⟨be, oe + ia * 4 + 3, none⟩ = some (.int .i64 cc.d) := fun z => ((HS6.out.1.below (HOF.out z)).entry HREL.out.2.1).2.2.2
                  have hfw : ∀ f, Fence.wide.fn f := fun _ => trivial
                  simp only [pickB]
                  iterate 7 (gi_big_quiet_step (exact place_cls A n c (some ⟨b, off, none⟩) m d t v' i2 HPI2.out (by unfold maxLen; omega) w.heap.size HS6.out.1.bel.size (HA.out.below HS6.out.1.bel) HOF.out HCL.out _))
                  iterate 3 (gi_big_quiet_step (exact rplus_cls' cx (entC r) s HSS.out HSM.out.1 HSM.out.2 HOF.out HCL.out _))
                  iterate 6 (gi_big_quiet_step (exact place_cls A n c (some ⟨b, off, none⟩) m d t at_ ia HPIA.out.1 (by unfold maxLen; omega) w.heap.size HS6.out.1.bel.size (HA.out.below HS6.out.1.bel) HOF.out HCL.out _))
                  have hql : ∀ W : World, (binOp .eql 103 (.agg #[.int .i64 s.a, .int .i64 s.b, .int .i64 s.c, .int .i64 s.d]) (.agg #[.int .i64 cc.a, .int .i64 cc.b, .int .i64 cc.c, .int .i64 cc.d])).run Tryd.prog W = .ok (.bool true) W := fun W => (eql_cost s cc W).trans (by rw [HSC.out])
                  gi_big_quiet_step (fail)
                  gi_big_quiet_step (fail)
                  refine wpQuietIn_nil ?_
                  exact rfl
                case ht2 =>
                  intro W hb
                  have HS7 := Lib.hid (show _ ∧ _ from ⟨HS6.out.1.below hb, HS6.out.2.below hb (Nat.le_refl _)⟩)
                  have HLB7 := Lib.hid (HLB6.out.below hb HLB6.out.lt)
                  clear hb
                  simp only [pickB]
                  refine wpE_nil ?_
                  obtain ⟨d1, hd1⟩ : ∃ d1, r = some d1 := by
                    cases hr1 : r with
                    | some d1 => exact ⟨d1, rfl⟩
                    | none =>
                      exfalso
                      have h1 := HCX.out
                      have h2 : s.a = cx.a + 1000000000 := by rw [← HSS.out, hr1]; rfl
                      have h3 := of_decide_eq_true HSC.out
                      have h4 := (HL.out ia cc HREL.out.2.1).a
                      rw [h3] at h2
                      omega
                  have HD1 : Hid (E[i2]? = some (some d1)) := Lib.hid (by rw [HR2.out, hd1])
                  have HADD : Hid (addC cx d1 = cc) := Lib.hid (by
                    have h3 := of_decide_eq_true HSC.out
                    rw [← h3, ← HSS.out, hd1]
                    rfl)
                  have HAL : Hid (acc.length ≤ 2000) := Lib.hid (by
                    have h1 := HREL.out.2.2.1.bound HFI.out HFA.out
                    have h2 := (HL.out i0 k0 HR.out).d
                    have h3 := (HL.out ia cc HREL.out.2.1).d
                    have h4 : ca.d + cc.d = k0.d := by rw [← HREL.out.2.2.2.1]; rfl
                    omega)
                  have hal := HAL.out
                  have l0 := HLB7.out.cell 0
                  have HOW := Lib.hid (HS7.out.2.alloc (.cells #[.int .i64 x.id] 3))
                  have HOB : Hid (Blk (W.alloc (.cells #[.int .i64 x.id] 3)) W.heap.size 3 #[.int .i64 x.id]) := Lib.hid (Blk.new _ _ _)
                  have HSW := Lib.hid (HS7.out.1.below ((Below.refl _ _).alloc (Nat.le_refl _) (.cells #[.int .i64 x.id] 3)))
                  gi_wp2_with (first | (gi_at_builtin; refine wpListIn_append_any rfl (.tmp 73) (.tmp 76) (by rfl) elem_int rfl HOW.out rfl (one_int (x := x.id) HOB.out.lt (HOB.out.cell 0)) (ints_one _) (by unfold maxLen; omega) (by omega) HSW.out.fb.lt ?_) | fail)
                  rintro A8 c8 W8 hown hgr hA8
                  have hbV : Below (w2.heap.size + 1) (W.alloc (.cells #[.int .i64 x.id] 3)) W8 := below_of_grown hgr (fun k hk => own_row HOW.out hk) HSW.out.fb.lt
                  have HS8 := Lib.hid (HSW.out.low hbV)
                  have HOW8 := Lib.hid hown
                  clear hown hgr hA8 hbV l0
                  gi_wp2
                  gi_roundg (d1.c.toNat)
                  case rel =>
                    refine ⟨v', i2, addC ca cx, d1, acc ++ [x.id], A8, c8, rfl, by simp, rfl, Lib.hid ⟨HS8.out, HI2.out, HD1.out, HREL.out.2.2.1.snoc HXM.out HLD.out, by rw [addC_assoc, HADD.out]; exact HREL.out.2.2.2.1, fun c' r' hf => ?_, ?_⟩⟩
                    · have h1 := (greedy HC.out HFI.out HFA.out HREL.out.1 HREL.out.2.1 HNE.out).2 j x v' cx i2 d1 HX.out HLD.out HI2.out HD1.out HADD.out HNO.out c' r' hf
                      have h2 := HREL.out.2.2.2.2.1 _ _ h1
                      rw [addC_assoc, List.append_assoc]
                      exact h2
                    · have h := HOW8.out
                      simpa using h
                  case measure =>
                    have h1 := HCX.out
                    have h2 := (HL.out i2 d1 HD1.out).c
                    have h3 : cx.c + d1.c = cc.c := by rw [← HADD.out]; rfl
                    rw [hg]
                    omega
              · have HSC : Hid (decide (s = cc) = false) := Lib.hid (decide_eq_false hsc)
                clear hsc
                refine wpIn_region_old (AF := ?AF3) [0, 1, 2, 3, 4, 5, 6, 7, 8, 9, 10, 11, 12, 13, 14, 15, 16, 17] [] [true, true, true, true, true, true, true, true, true, true, true, true, true, true, true, true, true, true] [false, false, false, false, false, false, false, false, false, false, false, false, false, false, false, false, false, false] (by kernel_rfl) (by kernel_rfl) (by kernel_rfl) (by kernel_rfl) (by kernel_rfl) (below_drewN (Below.refl _ _) 1) ?hq3 ?ht3
                case hq3 =>
                  rintro σ hσ of hof hcl
                  have HOF := Lib.hid hof
                  have HCL := Lib.hid hcl
                  clear hof hcl
                  have q0 : ∀ z, (of z).cell? ⟨w5.heap.size, 0, none⟩ = some (.int .i64 cx.a) := fun z => (HCB6.out.below (HOF.out z) hcb6).cell 0
                  have q1 : ∀ z, (of z).cell? ⟨w5.heap.size, 1, none⟩ = some (.int .i64 cx.b) := fun z => (HCB6.out.below (HOF.out z) hcb6).cell 1
                  have q2 : ∀ z, (of z).cell? ⟨w5.heap.size, 2, none⟩ = some (.int .i64 cx.c) := fun z => (HCB6.out.below (HOF.out z) hcb6).cell 2
                  have q3 : ∀ z, (of z).cell? ⟨w5.heap.size, 3, none⟩ = some (.int .i64 cx.d) := fun z => (HCB6.out.below (HOF.out z) hcb6).cell 3
                  have t0 : ∀ z, (of z).cell? ⟨w.heap.size, 0, none⟩ = some (.slice A n c) := fun z => (HS6.out.1.tb.below (HOF.out z) htl6).cell 0
                  have t1 : ∀ z, (of z).cell? ⟨w.heap.size, 1, none⟩ = some (.slice (some ⟨b, off, none⟩) m d) := fun z => (HS6.out.1.tb.below (HOF.out z) htl6).cell 1
                  have v0 : ∀ z, (of z).cell? ⟨be, oe + i2 * 4, none⟩ = some (.int .i64 (entC r).a) := fun z => ((HS6.out.1.below (HOF.out z)).entry HR2.out).1
                  have v1 : ∀ z, (of z).cell? ⟨be, oe + i2 * 4 + 1, none⟩ = some (.int .i64 (entC r).b) := fun z => ((HS6.out.1.below (HOF.out z)).entry HR2.out).2.1
                  have v2 : ∀ z, (of z).cell? ⟨be, oe + i2 * 4 + 2, none⟩ = some (.int .i64 (entC r).c) := fun z => ((HS6.out.1.below (HOF.out z)).entry HR2.out).2.2.1
                  have v3 : ∀ z, (of z).cell? ⟨be, oe + i2 * 4 + 3, none⟩ = some (.int .i64 (entC r).d) := fun z => ((HS6.out.1.below (HOF.out z)).entry HR2.out).2.2.2
                  have u0 : ∀ z, (of z).cell? ⟨be, oe + ia * 4, none⟩ = some (.int .i64 cc.a) := fun z => ((HS6.out.1.below (HOF.out z)).entry HREL.out.2.1).1
                  have u1 : ∀ z, (of z).cell? ⟨be, oe + ia * 4 + 1, none⟩ = some (.int .i64 cc.b) := fun z => ((HS6.out.1.below (HOF.out z)).entry HREL.out.2.1).2.1
                  have u2 : ∀ z, (of z).cell? ⟨be, oe + ia * 4 + 2, none⟩ = some (.int .i64 cc.c) := fun z => ((HS6.out.1.below (HOF.out z)).entry HREL.out.2.1).2.2.1
                  have u3 : ∀ z, (of z).cell? ⟨be, oe + ia * 4 + 3, none⟩ = some (.int .i64 cc.d) := fun z => ((HS6.out.1.below (HOF.out z)).entry HREL.out.2.1).2.2.2
                  have hfw : ∀ f, Fence.wide.fn f := fun _ => trivial
                  simp only [pickB]
                  iterate 7 (gi_big_quiet_step (exact place_cls A n c (some ⟨b, off, none⟩) m d t v' i2 HPI2.out (by unfold maxLen; omega) w.heap.size HS6.out.1.bel.size (HA.out.below HS6.out.1.bel) HOF.out HCL.out _))
                  iterate 3 (gi_big_quiet_step (exact rplus_cls' cx (entC r) s HSS.out HSM.out.1 HSM.out.2 HOF.out HCL.out _))
                  iterate 6 (gi_big_quiet_step (exact place_cls A n c (some ⟨b, off, none⟩) m d t at_ ia HPIA.out.1 (by unfold maxLen; omega) w.heap.size HS6.out.1.bel.size (HA.out.below HS6.out.1.bel) HOF.out HCL.out _))
                  have hql : ∀ W : World, (binOp .eql 103 (.agg #[.int .i64 s.a, .int .i64 s.b, .int .i64 s.c, .int .i64 s.d]) (.agg #[.int .i64 cc.a, .int .i64 cc.b, .int .i64 cc.c, .int .i64 cc.d])).run Tryd.prog W = .ok (.bool false) W := fun W => (eql_cost s cc W).trans (by rw [HSC.out])
                  gi_big_quiet_step (fail)
                  gi_big_quiet_step (fail)
                  refine wpQuietIn_nil ?_
                  exact rfl
                case ht3 =>
                  intro W hb
                  have HS7 := Lib.hid (show _ ∧ _ from ⟨HS6.out.1.below hb, HS6.out.2.below hb (Nat.le_refl _)⟩)
                  clear hb
                  simp only [pickB]
                  refine wpE_nil ?_
                  gi_wp2
                  refine ⟨⟨j + 1, rfl, rfl, by rw [e1], by omega, Lib.hid ⟨HS7.out.1, HS7.out.2, fun y hy n' cy i' d' g1 g2 g3 => ?_⟩⟩, by simp [intOf]; omega⟩
                  rw [List.take_add_one, HX.out] at hy
                  rcases List.mem_append.1 hy with hy | hy
                  · exact HNO.out y hy n' cy i' d' g1 g2 g3
                  · obtain rfl : y = x := by simpa using hy
                    rw [HLD.out] at g1
                    cases g1
                    obtain rfl := HUQ.out i' g2
                    rw [HR2.out] at g3
                    cases g3
                    have h1 := of_decide_eq_false HSC.out
                    intro h2
                    exact h1 (HSS.out.symm.trans h2)
          · obtain rfl : j = m := by omega
            exfalso
            obtain ⟨x, hx, n', cx, i2, d', h1, h2, h3, h4⟩ := (greedy HC.out HFI.out HFA.out HREL.out.1 HREL.out.2.1 HNE.out).1
            exact HU.out.2.2 x (by rw [List.take_of_length_le (by rw [HLm.out]; exact Nat.le_refl _)]; exact hx) n' cx i2 d' h1 h2 h3 h4

theorem rfirst_any (A : Option Addr) (n c : Nat) (A' : Option Addr) (m d : Nat) (p : Price) (t : Town) (dk : Bool) (v to : Int) (w : World)
    (hm : m ≤ 20) (ha : IntsAt w w.heap.size A n t.places) (ht : LinksAt w w.heap.size A' m t.links) (hp : Cheap p) (hfine : Fine t) (hfair : Fair p) (hnd : t.places.Nodup) (hv : v ∈ t.places) :
    Calls Tryd.prog 57 #[.agg #[.slice A n c, .slice A' m d], .int .i64 v, .int .i64 to, .bool dk, .agg #[.int .i64 p.pace, .int .i64 p.up, .int .i64 p.step]] w (RFirstOut w (best t dk p v to)) :=
  callsIn_wide.1 (rfirst_in A n c A' m d p t dk v to w hm ha ht hp hfine hfair hnd hv)
end Go.Proofs.YtahkjagjcogeiaaDoor
/- The answer's Wet: the walk by which a skin surely loses the fewest drops. -/
namespace Go.Proofs.YtahkjagjcogeiaaDoor
open Go.RowKit Go.Shelf
set_option linter.unusedVariables false

set_option maxRecDepth 100000 in
set_option maxHeartbeats 16000000 in
theorem rwet_in (A : Option Addr) (n c : Nat) (A' : Option Addr) (m d : Nat) (t : Town) (s : Skin) (u v : Int) (dk : Bool) (w : World)
    (hn : n ≤ 1000) (hm : m ≤ 1000) (ht : TownAt w w.heap.size A n A' m t) :
    CallsIn Fence.wide 9 Tryd.prog 14 #[.agg #[.slice A n c, .slice A' m d], .agg #[.int .i64 s.drops, .int .i64 s.pace.lo, .int .i64 s.pace.hi, .int .i64 s.step.lo, .int .i64 s.step.hi], .int .i64 u, .int .i64 v, .bool dk] w (WetOut w (wetF t s u v dk)) := by
  have HT := Lib.hid ht
  clear ht
  refine callsIn_of_wp Tryd.func14 rfl trivial ?_ rfl
  simp only [Tryd.ntmps14, List.size_toArray, List.length_cons, List.length_nil, Nat.reduceAdd, Nat.reduceSub, Array.replicate_succ, Array.replicate_zero, List.push_toArray, List.append_toArray, List.nil_append, List.cons_append]
  gi_wp2
  have HLay := Lib.hid (Lay.two w 25 #[.slice A n c, .slice A' m d] 29 #[.int .i64 s.drops, .int .i64 s.pace.lo, .int .i64 s.pace.hi, .int .i64 s.step.lo, .int .i64 s.step.hi])
  generalize ((w.alloc (.cells #[.slice A n c, .slice A' m d] 25)).alloc (.cells #[.int .i64 s.drops, .int .i64 s.pace.lo, .int .i64 s.pace.hi, .int .i64 s.step.lo, .int .i64 s.step.hi] 29)) = w0 at *
  refine ⟨trivial, (callsIn_wide.2 (rasked_any A n c A' m d t u v w0 hn hm ((HT.out.below HLay.out.1).more HLay.out.1.size))).mono ?_⟩
  rintro e W1 ⟨rfl, hb⟩
  replace HLay := Lib.hid (HLay.out.below hb)
  clear hb
  obtain ⟨ea, hea⟩ : ∃ ea, askE t [u, v] = ea := ⟨_, rfl⟩
  rw [hea]
  have HEA := Lib.hid hea
  clear hea
  have x0_0 := (HLay.out.blk 0 rfl).cell 0
  have x0_1 := (HLay.out.blk 0 rfl).cell 1
  have l0_ := HLay.out.lt 0 rfl
  have x1_0 := (HLay.out.blk 1 rfl).cell 0
  have x1_1 := (HLay.out.blk 1 rfl).cell 1
  have x1_2 := (HLay.out.blk 1 rfl).cell 2
  have x1_3 := (HLay.out.blk 1 rfl).cell 3
  have x1_4 := (HLay.out.blk 1 rfl).cell 4
  have l1_ := HLay.out.lt 1 rfl
  by_cases h0 : ea = 0
  · subst h0
    obtain ⟨htb, hhas⟩ := askE_zero HEA.out
    have HG := Lib.hid (goodT htb)
    have HUV := Lib.hid (hasB_mem hhas)
    have hm20 : m ≤ 20 := by have := HG.out.links; have := HT.out.links.len; omega
    clear htb hhas
    gi_wp2
    refine ⟨trivial, (callsIn_wide.2 (rskin_any s W1)).mono ?_⟩
    rintro e W2 ⟨rfl, hb⟩
    replace HLay := Lib.hid (HLay.out.below hb)
    clear hb
    clear x0_0 x0_1 l0_ x1_0 x1_1 x1_2 x1_3 x1_4 l1_
    have x0_0 := (HLay.out.blk 0 rfl).cell 0
    have x0_1 := (HLay.out.blk 0 rfl).cell 1
    have l0_ := HLay.out.lt 0 rfl
    have x1_0 := (HLay.out.blk 1 rfl).cell 0
    have x1_1 := (HLay.out.blk 1 rfl).cell 1
    have x1_2 := (HLay.out.blk 1 rfl).cell 2
    have x1_3 := (HLay.out.blk 1 rfl).cell 3
    have x1_4 := (HLay.out.blk 1 rfl).cell 4
    have l1_ := HLay.out.lt 1 rfl
    cases hs : skinB s with
    | false =>
      have HS := Lib.hid hs
      clear hs
      gi_wp2
      have hF : wetF t s u v dk = ([], 0, 36) := by unfold wetF dryE or2; rw [HEA.out, HS.out]; rfl
      refine bodyPost_ret (v := .tuple #[.slice none 0 0, .int .i64 0, .int .i64 36]) (by simp [results, Tryd.results14, go_sem]) rfl ?_
      rw [hF]
      exact ⟨none, 0, 0, rfl, Reads.none_, HLay.out.1⟩
    | true =>
      have HGS := Lib.hid (goodS hs)
      have HSK := Lib.hid (show dryE s = 0 by unfold dryE; rw [hs]; rfl)
      clear hs
      gi_wp2
      have HFA := Lib.hid (lossP_fair (a := s.pace.hi) (b := s.step.hi) HGS.out.pace.2.1 HGS.out.step.2.1)
      have HC := Lib.hid (lossP_cheap (a := s.pace.hi) (b := s.step.hi) HGS.out.pace.2.1 HGS.out.step.2.1)
      have HO := Lib.hid (show or2 (askE t [u, v]) (dryE s) = 0 by unfold or2; rw [HEA.out, HSK.out]; rfl)
      clear x0_0 x0_1 l0_ x1_0 x1_1 x1_2 x1_3 x1_4 l1_
      have HLay0 := Lib.hid HLay.out
      refine wpIn_flow_new [([true, true, true, true, true, true, true, true, true, true], 10), ([], 11)] [false, false, false, false, false, false, false, false, false, false, false, false, true, true, true, true, false, true, false, true] [false, false, false, false, false, false, false, false, false, false, false, false, false, false, false, false, false, false, true] 16 (fun b => .pointer (some ⟨b, 0, none⟩)) 103 #[.int .i64 0, .int .i64 0, .int .i64 0, .int .i64 0] (by kernel_rfl) (by kernel_rfl) (by kernel_rfl) (below_drewN (Below.refl _ _) 1) rfl rfl rfl (fun _ _ => rfl) (fun _ _ => rfl) ?_
      refine wpFlow_cons (A := ?AF1) rfl ?hq1 ?_
      case hq1 =>
        rintro σ hσ of hof hcl
        have HOF := Lib.hid hof
        have HCL := Lib.hid hcl
        clear hof hcl
        have c0_ : ∀ z, (of z).cell? ⟨w.heap.size, 0, none⟩ = some (.slice A n c) := fun z => ((HLay.out.below (HOF.out z)).blk 0 rfl).cell 0
        have c1_ : ∀ z, (of z).cell? ⟨w.heap.size, 1, none⟩ = some (.slice A' m d) := fun z => ((HLay.out.below (HOF.out z)).blk 0 rfl).cell 1
        have c2_ : ∀ z, (of z).cell? ⟨w.heap.size + 1, 0, none⟩ = some (.int .i64 s.drops) := fun z => ((HLay.out.below (HOF.out z)).blk 1 rfl).cell 0
        have c3_ : ∀ z, (of z).cell? ⟨w.heap.size + 1, 1, none⟩ = some (.int .i64 s.pace.lo) := fun z => ((HLay.out.below (HOF.out z)).blk 1 rfl).cell 1
        have c4_ : ∀ z, (of z).cell? ⟨w.heap.size + 1, 2, none⟩ = some (.int .i64 s.pace.hi) := fun z => ((HLay.out.below (HOF.out z)).blk 1 rfl).cell 2
        have c5_ : ∀ z, (of z).cell? ⟨w.heap.size + 1, 3, none⟩ = some (.int .i64 s.step.lo) := fun z => ((HLay.out.below (HOF.out z)).blk 1 rfl).cell 3
        have c6_ : ∀ z, (of z).cell? ⟨w.heap.size + 1, 4, none⟩ = some (.int .i64 s.step.hi) := fun z => ((HLay.out.below (HOF.out z)).blk 1 rfl).cell 4
        have hfw : ∀ f, Fence.wide.fn f := fun _ => trivial
        simp only [pickB]
        repeat (gi_big_quiet_step (fail))
        refine wpQuietIn_nil ?_
        exact rfl
      intro W3 hW
      replace HLay := Lib.hid (HLay.out.below hW)
      clear hW
      gi_wp2
      refine ⟨trivial, (callsIn_wide.2 (lost_any s.pace.hi s.step.hi W3)).mono ?_⟩
      rintro e W4 ⟨rfl, hb⟩
      replace HLay := Lib.hid (HLay.out.below hb)
      gi_wp2
      refine ⟨trivial, hb, ?_⟩
      clear hb
      refine wpFlow_cons rfl Quietly.none ?_
      intro W5 hW
      replace HLay := Lib.hid (HLay.out.below hW)
      clear hW
      gi_wp2
      refine ⟨trivial, (callsIn_wide.2 (rfirst_any A n c A' m d (lossP s.pace.hi s.step.hi) t dk u v W5 hm20 ((HT.out.places.below HLay.out.1).more HLay.out.1.size) ((HT.out.links.below HLay.out.1).more HLay.out.1.size) HC.out HG.out.fine HFA.out HG.out.nodup (HUV.out u (by simp)))).mono ?_⟩
      rintro e W6 ⟨AO, nO, cO, co, rfl, hno, hq, hfr, hb⟩
      replace HLay := Lib.hid (HLay.out.below hb)
      have HNO := Lib.hid hno
      have HQ := Lib.hid hq
      have HFR := Lib.hid hfr
      have HLW := Lib.hid (show Below W6.heap.size W6 W6 from Below.refl _ _)
      clear hno hq hfr
      gi_wp2
      refine ⟨trivial, hb, ?_⟩
      clear hb
      obtain ⟨rr, hrr⟩ : ∃ rr, best t dk (lossP s.pace.hi s.step.hi) u v = rr := ⟨_, rfl⟩
      rw [hrr] at HNO HQ ⊢
      have HRR := Lib.hid hrr
      clear hrr
      cases rr with
      | none =>
        obtain ⟨rfl, rfl, rfl, rfl⟩ := HNO.out rfl
        refine wpFlow_nil (A := ?AF2) ?hq2 ?_
        case hq2 =>
          rintro σ hσ of hof hcl
          have HOF := Lib.hid hof
          have HCL := Lib.hid hcl
          clear hof hcl
          have c0_ : ∀ z, (of z).cell? ⟨w.heap.size, 0, none⟩ = some (.slice A n c) := fun z => ((HLay.out.below (HOF.out z)).blk 0 rfl).cell 0
          have c1_ : ∀ z, (of z).cell? ⟨w.heap.size, 1, none⟩ = some (.slice A' m d) := fun z => ((HLay.out.below (HOF.out z)).blk 0 rfl).cell 1
          have c2_ : ∀ z, (of z).cell? ⟨w.heap.size + 1, 0, none⟩ = some (.int .i64 s.drops) := fun z => ((HLay.out.below (HOF.out z)).blk 1 rfl).cell 0
          have c3_ : ∀ z, (of z).cell? ⟨w.heap.size + 1, 1, none⟩ = some (.int .i64 s.pace.lo) := fun z => ((HLay.out.below (HOF.out z)).blk 1 rfl).cell 1
          have c4_ : ∀ z, (of z).cell? ⟨w.heap.size + 1, 2, none⟩ = some (.int .i64 s.pace.hi) := fun z => ((HLay.out.below (HOF.out z)).blk 1 rfl).cell 2
          have c5_ : ∀ z, (of z).cell? ⟨w.heap.size + 1, 3, none⟩ = some (.int .i64 s.step.lo) := fun z => ((HLay.out.below (HOF.out z)).blk 1 rfl).cell 3
          have c6_ : ∀ z, (of z).cell? ⟨w.heap.size + 1, 4, none⟩ = some (.int .i64 s.step.hi) := fun z => ((HLay.out.below (HOF.out z)).blk 1 rfl).cell 4
          have hfw : ∀ f, Fence.wide.fn f := fun _ => trivial
          simp only [pickB]
          repeat (gi_big_quiet_step (fail))
          refine wpQuietIn_nil ?_
          exact rfl
        intro G W8 hW hbg hbb hbi
        replace HLay := Lib.hid (HLay.out.below hW)
        have c0 := hbb.cell 0
        have z0 := hbb.frozen 0
        have c1 := hbb.cell 1
        have z1 := hbb.frozen 1
        have c2 := hbb.cell 2
        have z2 := hbb.frozen 2
        have c3 := hbb.cell 3
        have z3 := hbb.frozen 3
        have hbl := hbb.lt
        have hbw : w.heap.size ≤ G := Nat.le_trans HLay0.out.1.size hbg
        simp only [pickB]
        refine wpT_cons ?_
        gi_wp2
        refine wpT_nil ?_
        have R4 := ret4' hbb (Below.refl G W8) (Nat.le_refl _) (.int .i64 zeroC.a) (.int .i64 zeroC.b) (.int .i64 zeroC.c) (.int .i64 zeroC.d)
        replace HLay := Lib.hid (Lay.add (w := w) (bs := [(w.heap.size, 25, #[.slice A n c, .slice A' m d]), (w.heap.size + 1, 29, #[.int .i64 s.drops, .int .i64 s.pace.lo, .int .i64 s.pace.hi, .int .i64 s.step.lo, .int .i64 s.step.hi])]) ⟨HLay.out.1.trans (R4.2.1.mono hbw), fun p hp => ⟨(HLay.out.2 p hp).1, (HLay.out.2 p hp).2.below R4.2.1 (by have := (HLay0.out.2 p hp).2.lt; omega)⟩⟩ hbw R4.1)
        generalize ((((W8.setCell ⟨G, 0, none⟩ (.int .i64 zeroC.a)).setCell ⟨G, 1, none⟩ (.int .i64 zeroC.b)).setCell ⟨G, 2, none⟩ (.int .i64 zeroC.c)).setCell ⟨G, 3, none⟩ (.int .i64 zeroC.d)) = W9 at *
        clear c0 z0 c1 z1 c2 z2 c3 z3 hbl hbb hW hbg R4 hbw hbi HLay0
        gi_wp2
        have hF : wetF t s u v dk = ([], 0, 6) := by unfold wetF; rw [if_pos HO.out, HRR.out]
        refine bodyPost_ret (v := .tuple #[.slice none 0 0, .int .i64 0, .int .i64 6]) (by simp [results, Tryd.results14, go_sem]) rfl ?_
        rw [hF]
        exact ⟨none, 0, 0, rfl, Reads.none_, HLay.out.1⟩
      | some r0 =>
        obtain ⟨k0, l0⟩ := r0
        obtain ⟨rfl, hql⟩ := HQ.out _ rfl
        have HQL := Lib.hid (show IntsAt W6 W6.heap.size AO nO l0 from hql)
        clear hql
        refine wpFlow_nil (A := ?AF3) ?hq3 ?_
        case hq3 =>
          rintro σ hσ of hof hcl
          have HOF := Lib.hid hof
          have HCL := Lib.hid hcl
          clear hof hcl
          have c0_ : ∀ z, (of z).cell? ⟨w.heap.size, 0, none⟩ = some (.slice A n c) := fun z => ((HLay.out.below (HOF.out z)).blk 0 rfl).cell 0
          have c1_ : ∀ z, (of z).cell? ⟨w.heap.size, 1, none⟩ = some (.slice A' m d) := fun z => ((HLay.out.below (HOF.out z)).blk 0 rfl).cell 1
          have c2_ : ∀ z, (of z).cell? ⟨w.heap.size + 1, 0, none⟩ = some (.int .i64 s.drops) := fun z => ((HLay.out.below (HOF.out z)).blk 1 rfl).cell 0
          have c3_ : ∀ z, (of z).cell? ⟨w.heap.size + 1, 1, none⟩ = some (.int .i64 s.pace.lo) := fun z => ((HLay.out.below (HOF.out z)).blk 1 rfl).cell 1
          have c4_ : ∀ z, (of z).cell? ⟨w.heap.size + 1, 2, none⟩ = some (.int .i64 s.pace.hi) := fun z => ((HLay.out.below (HOF.out z)).blk 1 rfl).cell 2
          have c5_ : ∀ z, (of z).cell? ⟨w.heap.size + 1, 3, none⟩ = some (.int .i64 s.step.lo) := fun z => ((HLay.out.below (HOF.out z)).blk 1 rfl).cell 3
          have c6_ : ∀ z, (of z).cell? ⟨w.heap.size + 1, 4, none⟩ = some (.int .i64 s.step.hi) := fun z => ((HLay.out.below (HOF.out z)).blk 1 rfl).cell 4
          have hfw : ∀ f, Fence.wide.fn f := fun _ => trivial
          simp only [pickB]
          repeat (gi_big_quiet_step (fail))
          refine wpQuietIn_nil ?_
          exact rfl
        intro G W28 hW hbg hbb hbi
        replace HLay := Lib.hid (HLay.out.below hW)
        replace HQL := Lib.hid ((HQL.out.below hW).more hW.size)
        have c0 := hbb.cell 0
        have z0 := hbb.frozen 0
        have c1 := hbb.cell 1
        have z1 := hbb.frozen 1
        have c2 := hbb.cell 2
        have z2 := hbb.frozen 2
        have c3 := hbb.cell 3
        have z3 := hbb.frozen 3
        have hbl := hbb.lt
        have hbw : w.heap.size ≤ G := Nat.le_trans HLay0.out.1.size hbg
        simp only [pickB]
        refine wpT_cons ?_
        gi_wp2
        refine wpT_nil ?_
        have R4 := ret4' hbb (Below.refl G W28) (Nat.le_refl _) (.int .i64 k0.a) (.int .i64 k0.b) (.int .i64 k0.c) (.int .i64 k0.d)
        have HX := Lib.hid (ints_off HQL.out (fun a ha e => by
          have h1 := (HFR.out a ha).1
          have h2 := hbi _ (List.mem_cons_self)
          have h3 : a.block < W6.heap.size := (HFR.out a ha).2
          simp only at h2
          omega) R4.2.2)
        replace HLay := Lib.hid (Lay.add (w := w) (bs := [(w.heap.size, 25, #[.slice A n c, .slice A' m d]), (w.heap.size + 1, 29, #[.int .i64 s.drops, .int .i64 s.pace.lo, .int .i64 s.pace.hi, .int .i64 s.step.lo, .int .i64 s.step.hi])]) ⟨HLay.out.1.trans (R4.2.1.mono hbw), fun p hp => ⟨(HLay.out.2 p hp).1, (HLay.out.2 p hp).2.below R4.2.1 (by have := (HLay0.out.2 p hp).2.lt; omega)⟩⟩ hbw R4.1)
        generalize ((((W28.setCell ⟨G, 0, none⟩ (.int .i64 k0.a)).setCell ⟨G, 1, none⟩ (.int .i64 k0.b)).setCell ⟨G, 2, none⟩ (.int .i64 k0.c)).setCell ⟨G, 3, none⟩ (.int .i64 k0.d)) = W29 at *
        clear c0 z0 c1 z1 c2 z2 c3 z3 hbl hbb hW hbg R4 hbw hbi HLay0
        obtain ⟨hca0, hca1⟩ := (best_cost HG.out.fine HFA.out HRR.out).1
        obtain ⟨hd0, hd1⟩ := HGS.out.drops
        gi_wp2
        refine wpIn_flow_old [] [true, true, true, true, true, true, true, true, true, true] [] (by kernel_rfl) (by kernel_rfl) (by kernel_rfl) (below_drewN (Below.refl _ _) 1) ?_
        refine wpFlow_nil (A := ?AF4) ?hq4 ?_
        case hq4 =>
          rintro σ hσ of hof hcl
          have HOF := Lib.hid hof
          have HCL := Lib.hid hcl
          clear hof hcl
          have c0_ : ∀ z, (of z).cell? ⟨w.heap.size + 1, 0, none⟩ = some (.int .i64 s.drops) := fun z => ((HLay.out.below (HOF.out z)).blk 1 rfl).cell 0
          have c1_ : ∀ z, (of z).cell? ⟨w.heap.size + 1, 1, none⟩ = some (.int .i64 s.pace.lo) := fun z => ((HLay.out.below (HOF.out z)).blk 1 rfl).cell 1
          have c2_ : ∀ z, (of z).cell? ⟨w.heap.size + 1, 2, none⟩ = some (.int .i64 s.pace.hi) := fun z => ((HLay.out.below (HOF.out z)).blk 1 rfl).cell 2
          have c3_ : ∀ z, (of z).cell? ⟨w.heap.size + 1, 3, none⟩ = some (.int .i64 s.step.lo) := fun z => ((HLay.out.below (HOF.out z)).blk 1 rfl).cell 3
          have c4_ : ∀ z, (of z).cell? ⟨w.heap.size + 1, 4, none⟩ = some (.int .i64 s.step.hi) := fun z => ((HLay.out.below (HOF.out z)).blk 1 rfl).cell 4
          have c5_ : ∀ z, (of z).cell? ⟨G, 0, none⟩ = some (.int .i64 k0.a) := fun z => ((HLay.out.below (HOF.out z)).blk 2 rfl).cell 0
          have c6_ : ∀ z, (of z).cell? ⟨G, 1, none⟩ = some (.int .i64 k0.b) := fun z => ((HLay.out.below (HOF.out z)).blk 2 rfl).cell 1
          have c7_ : ∀ z, (of z).cell? ⟨G, 2, none⟩ = some (.int .i64 k0.c) := fun z => ((HLay.out.below (HOF.out z)).blk 2 rfl).cell 2
          have c8_ : ∀ z, (of z).cell? ⟨G, 3, none⟩ = some (.int .i64 k0.d) := fun z => ((HLay.out.below (HOF.out z)).blk 2 rfl).cell 3
          have hfw : ∀ f, Fence.wide.fn f := fun _ => trivial
          simp only [pickB]
          repeat (gi_big_quiet_step (fail))
          refine wpQuietIn_nil ?_
          exact rfl
        intro W30 hW
        replace HLay := Lib.hid (HLay.out.below hW)
        replace HX := Lib.hid ((HX.out.below hW).more hW.size)
        clear hW
        simp only [pickB]
        refine wpT_nil ?_
        gi_wp2
        have hF : wetF t s u v dk = (l0, max 0 (s.drops - k0.a), 0) := by unfold wetF; rw [if_pos HO.out, HRR.out]
        refine bodyPost_ret (v := .tuple #[.slice AO nO cO, .int .i64 (max 0 (s.drops - k0.a)), .int .i64 0]) (by simp [results, Tryd.results14, go_sem]) rfl ?_
        rw [hF]
        exact ⟨AO, nO, cO, rfl, HX.out, HLay.out.1⟩
  · have h1 : (ea != 0) = true := by simpa using h0
    have HE0 := Lib.hid h0
    clear h0
    gi_wp2
    have hF : wetF t s u v dk = ([], 0, ea) := by unfold wetF or2; rw [HEA.out, if_neg HE0.out, if_neg HE0.out]
    refine bodyPost_ret (v := .tuple #[.slice none 0 0, .int .i64 0, .int .i64 ea]) (by simp [results, Tryd.results14, go_sem]) rfl ?_
    rw [hF]
    exact ⟨none, 0, 0, rfl, Reads.none_, HLay.out.1⟩

theorem rwet_any (A : Option Addr) (n c : Nat) (A' : Option Addr) (m d : Nat) (t : Town) (s : Skin) (u v : Int) (dk : Bool) (w : World)
    (hn : n ≤ 1000) (hm : m ≤ 1000) (ht : TownAt w w.heap.size A n A' m t) :
    Calls Tryd.prog 14 #[.agg #[.slice A n c, .slice A' m d], .agg #[.int .i64 s.drops, .int .i64 s.pace.lo, .int .i64 s.pace.hi, .int .i64 s.step.lo, .int .i64 s.step.hi], .int .i64 u, .int .i64 v, .bool dk] w (WetOut w (wetF t s u v dk)) :=
  callsIn_wide.1 (rwet_in A n c A' m d t s u v dk w hn hm ht)
end Go.Proofs.YtahkjagjcogeiaaDoor
/- The answer's SameInts, Same, Great. -/
namespace Go.Proofs.YtahkjagjcogeiaaDoor
open Go.RowKit
set_option linter.unusedVariables false

def sameI (a b : List Int) : Bool := decide (a = b)
theorem sameI_len {a b : List Int} (h : a.length ≠ b.length) : sameI a b = false := by unfold sameI; simp; intro e; exact h (by rw [e])
theorem sameI_ne {a b : List Int} {k : Nat} {x y : Int} (hx : a[k]? = some x) (hy : b[k]? = some y) (h : x ≠ y) : sameI a b = false := by
  unfold sameI; simp; intro e; subst e; rw [hx] at hy; cases hy; exact h rfl
theorem sameI_eq {a b : List Int} (hl : a.length = b.length) (h : ∀ (k : Nat) x y, k < a.length → a[k]? = some x → b[k]? = some y → x = y) : sameI a b = true := by
  unfold sameI; simp
  apply List.ext_getElem?
  intro k
  by_cases hk : k < a.length
  · have h1 : a[k]? = some a[k] := List.getElem?_eq_getElem hk
    have h2 : b[k]? = some (b[k]'(by omega)) := List.getElem?_eq_getElem _
    rw [h1, h2, h k _ _ hk h1 h2]
  · rw [List.getElem?_eq_none (by omega), List.getElem?_eq_none (by omega)]

set_option maxRecDepth 100000 in
set_option maxHeartbeats 2000000 in
theorem sameInts_any (A : Option Addr) (n c : Nat) (a : List Int) (B : Option Addr) (m d : Nat) (b : List Int) (w : World) (hn : n ≤ maxLen) (hm : m ≤ maxLen) (ha : IntsAt w w.heap.size A n a) (hb : IntsAt w w.heap.size B m b) :
    Calls Tryd.prog 15 #[.slice A n c, .slice B m d] w fun e w' => e = .returned (.bool (sameI a b)) ∧ Below w.heap.size w w' := by
  unfold maxLen at hn hm
  have HA := Lib.hid ha.len
  have HB := Lib.hid hb.len
  by_cases hnm : n = m
  · subst hnm
    have hnn : ((n : Int) == (n : Int)) = true := by simp
    go_enter Tryd.func15, Tryd.ntmps15
    go_wp2_with fail
    go_loopw [5] (fun i wr => ∃ k : Nat, k ≤ n ∧ i = .int .i64 k ∧ (∀ (j : Nat) x y, j < k → a[j]? = some x → b[j]? = some y → x = y) ∧ Below w.heap.size w wr)
      (fun i _ => n - (intOf i).toNat)
    case atStart => exact ⟨0, by omega, rfl, fun _ _ _ h => absurd h (by omega), Below.refl _ _⟩
    case round =>
      obtain ⟨k, hk, rfl, hall, hbel⟩ := hrel
      have HAll := Lib.hid hall
      clear hall
      by_cases hlt : k < n
      · obtain ⟨b1, o1, x, rfl, hb1, hx, cx⟩ := (ha.below hbel).cell hlt
        obtain ⟨b2, o2, y, rfl, hb2, hy, cy⟩ := (hb.below hbel).cell hlt
        have HX := Lib.hid hx
        have HY := Lib.hid hy
        have kI : (k : Int) < (n : Int) := by omega
        have k0 : (0 : Int) ≤ (k : Int) := by omega
        clear hx hy
        by_cases hxy : x = y
        · have hxy' : (x == y) = true := by simpa using hxy
          have HXY := Lib.hid hxy
          clear hxy
          go_wp2_with fail
          go_quiet (fail)
          go_wp2_with fail
          go_roundw
          case rel => exact ⟨k + 1, by omega, by go_num, fun j u v hj hu hv => by
            rcases Nat.lt_or_ge j k with h | h
            · exact HAll.out j u v h hu hv
            · obtain rfl : j = k := by omega
              rw [HX.out] at hu; rw [HY.out] at hv
              cases hu; cases hv; exact HXY.out, below_drewN hbel _⟩
          case measure => simp [intOf]; omega
        · have hxy' : (x == y) = false := by simpa using hxy
          have HXY := Lib.hid hxy
          clear hxy
          go_wp2_with fail
          go_quiet (fail)
          go_wp2_with fail
          go_ret
          exact ⟨ret_bool (sameI_ne HX.out HY.out HXY.out).symm, below_drewN hbel _⟩
      · go_wp2_with fail
        go_ret
        exact ⟨ret_bool (sameI_eq (by rw [HA.out, HB.out]) (fun j x y hj hx hy => HAll.out j x y (by have := HA.out; omega) hx hy)).symm, hbel⟩
  · have hnn : ((n : Int) == (m : Int)) = false := by simp; omega
    have HF : Hid (sameI a b = false) := sameI_len (by rw [HA.out, HB.out]; exact hnm)
    go_enter Tryd.func15, Tryd.ntmps15
    go_wp2_with fail
    go_ret
    exact ⟨ret_bool HF.out.symm, Below.refl _ _⟩

def eqK (x y : Link) : Bool := x.id == y.id && x.fr == y.fr && x.to == y.to && x.steps == y.steps && x.paces == y.paces
theorem eqK_iff {x y : Link} : eqK x y = true ↔ x = y := by
  obtain ⟨a1, a2, a3, a4, a5⟩ := x
  obtain ⟨b1, b2, b3, b4, b5⟩ := y
  unfold eqK
  simp
  constructor
  · rintro ⟨⟨⟨⟨h1, h2⟩, h3⟩, h4⟩, h5⟩; exact ⟨h1, h2, h3, h4, h5⟩
  · rintro ⟨h1, h2, h3, h4, h5⟩; exact ⟨⟨⟨⟨h1, h2⟩, h3⟩, h4⟩, h5⟩
theorem eqi_run' (d : Nat) (a b : Int) (w : World) : (Op.equalIn (d+1) 3 (.int .i64 a) (.int .i64 b)).run Tryd.prog w = .ok (a == b) w := by
  simp [Op.equalIn, run_underlying Tryd.underlying3]
theorem eqK_run (a1 a2 a3 a4 a5 b1 b2 b3 b4 b5 : Int) (w : World) : (Op.equalIn 10000 45 (.agg #[.int .i64 a1, .int .i64 a2, .int .i64 a3, .int .i64 a4, .int .i64 a5]) (.agg #[.int .i64 b1, .int .i64 b2, .int .i64 b3, .int .i64 b4, .int .i64 b5])).run Tryd.prog w = .ok (eqK ⟨a1, a2, a3, a4, a5⟩ ⟨b1, b2, b3, b4, b5⟩) w := by
  rw [Op.equalIn]
  simp [go_sem, run_underlying Tryd.underlying45, eqi_run', Std.Legacy.Range.forIn_eq_forIn_range', part, eqK]
  by_cases h1 : a1 = b1 <;> by_cases h2 : a2 = b2 <;> by_cases h3 : a3 = b3 <;> by_cases h4 : a4 = b4 <;> by_cases h5 : a5 = b5 <;> simp [h1, h2, h3, h4, h5]

def sameT (t u : Town) : Bool := decide (t = u)
theorem sameT_places {t u : Town} (h : sameI t.places u.places = false) : sameT t u = false := by
  unfold sameT; unfold sameI at h; simp at h ⊢; intro e; subst e; exact h rfl
theorem sameT_len {t u : Town} (h : t.links.length ≠ u.links.length) : sameT t u = false := by
  unfold sameT; simp; intro e; subst e; exact h rfl
theorem sameT_ne {t u : Town} {k : Nat} {x y : Link} (hx : t.links[k]? = some x) (hy : u.links[k]? = some y) (h : x ≠ y) : sameT t u = false := by
  unfold sameT; simp; intro e; subst e; rw [hx] at hy; cases hy; exact h rfl
theorem sameT_eq {t u : Town} (hp : sameI t.places u.places = true) (hl : t.links.length = u.links.length) (h : ∀ (k : Nat) x y, k < t.links.length → t.links[k]? = some x → u.links[k]? = some y → x = y) : sameT t u = true := by
  obtain ⟨tp, tl⟩ := t
  obtain ⟨up, ul⟩ := u
  unfold sameI at hp
  simp only [decide_eq_true_eq] at hp hl h
  unfold sameT; simp
  refine ⟨hp, List.ext_getElem? fun k => ?_⟩
  by_cases hk : k < tl.length
  · have h1 : tl[k]? = some tl[k] := List.getElem?_eq_getElem hk
    have h2 : ul[k]? = some (ul[k]'(by omega)) := List.getElem?_eq_getElem _
    rw [h1, h2, h k _ _ hk h1 h2]
  · rw [List.getElem?_eq_none (by omega), List.getElem?_eq_none (by omega)]

set_option maxRecDepth 100000 in
set_option maxHeartbeats 4000000 in
theorem same_any (A : Option Addr) (n c : Nat) (A' : Option Addr) (m d : Nat) (t : Town) (C : Option Addr) (p q : Nat) (C' : Option Addr) (r s : Nat) (u : Town) (w : World) (hn : n ≤ maxLen) (hm : m ≤ maxLen) (hp : p ≤ maxLen) (hr : r ≤ maxLen) (ht : TownAt w w.heap.size A n A' m t) (hu : TownAt w w.heap.size C p C' r u) :
    Calls Tryd.prog 16 #[.agg #[.slice A n c, .slice A' m d], .agg #[.slice C p q, .slice C' r s]] w fun e w' => e = .returned (.bool (sameT t u)) ∧ Below w.heap.size w w' := by
  have HT := Lib.hid ht
  have HU := Lib.hid hu
  have HA := Lib.hid ht.links.len
  have HB := Lib.hid hu.links.len
  have HM := Lib.hid hm
  have HR := Lib.hid hr
  clear ht hu
  go_enter Tryd.func16, Tryd.ntmps16
  go_wp2_with fail
  have X0 := (Blk.new w 25 #[.slice A n c, .slice A' m d]).alloc (.cells #[.slice C p q, .slice C' r s] 25)
  have Y0 := Blk.new (w.alloc (.cells #[.slice A n c, .slice A' m d] 25)) 25 #[.slice C p q, .slice C' r s]
  have B0 : Below w.heap.size w ((w.alloc (.cells #[.slice A n c, .slice A' m d] 25)).alloc (.cells #[.slice C p q, .slice C' r s] 25)) := ((Below.refl _ _).alloc (Nat.le_refl _) _).alloc (by simp) _
  rw [World.size_alloc] at Y0
  generalize ((w.alloc (.cells #[.slice A n c, .slice A' m d] 25)).alloc (.cells #[.slice C p q, .slice C' r s] 25)) = w0 at *
  with_reducible refine (sameInts_any A n c t.places C p q u.places w0 hn hp ((HT.out.places.below B0).more B0.size) ((HU.out.places.below B0).more B0.size)).mono ?_
  rintro e w1 ⟨rfl, hb1⟩
  replace X0 := X0.below hb1 X0.lt
  replace Y0 := Y0.below hb1 Y0.lt
  replace B0 := B0.trans (hb1.mono B0.size)
  have x0 := X0.cell 0
  have x1 := X0.cell 1
  have y0 := Y0.cell 0
  have y1 := Y0.cell 1
  clear hb1
  cases hs : sameI t.places u.places with
  | false =>
    have HF := Lib.hid (sameT_places hs)
    clear hs
    go_wp2_with fail
    go_ret
    exact ⟨ret_bool HF.out.symm, B0⟩
  | true =>
  have HS := Lib.hid hs
  clear hs
  by_cases hmr : m = r
  · subst hmr
    have hnn : ((m : Int) == (m : Int)) = true := by simp
    have hrun := eqK_run
    unfold maxLen at hm
    clear x0 x1 y0 y1
    have x1 := X0.cell 1
    have y1 := Y0.cell 1
    go_wp2_with fail
    go_loopw [5] (fun i wr => ∃ k : Nat, k ≤ m ∧ i = .int .i64 k ∧ (∀ (j : Nat) x y, j < k → t.links[j]? = some x → u.links[j]? = some y → x = y) ∧ Below w1.heap.size w1 wr)
      (fun i _ => m - (intOf i).toNat)
    case atStart => exact ⟨0, by omega, rfl, fun _ _ _ h => absurd h (by omega), Below.refl _ _⟩
    case round =>
      obtain ⟨k, hk, rfl, hall, hbel⟩ := hrel
      have HAll := Lib.hid hall
      clear hall x1 y1
      have x1 := (X0.below hbel X0.lt).cell 1
      have y1 := (Y0.below hbel Y0.lt).cell 1
      have BR := B0.trans (hbel.mono B0.size)
      by_cases hlt : k < m
      · obtain ⟨b1, o1, x, rfl, hb1, hx, cx0, cx1, cx2, cx3, cx4⟩ := (HT.out.links.below BR).cell hlt
        obtain ⟨b2, o2, y, rfl, hb2, hy, cy0, cy1, cy2, cy3, cy4⟩ := (HU.out.links.below BR).cell hlt
        have HX := Lib.hid hx
        have HY := Lib.hid hy
        have kI : (k : Int) < (m : Int) := by omega
        have k0 : (0 : Int) ≤ (k : Int) := by omega
        clear hx hy
        cases hxy : eqK ⟨x.id, x.fr, x.to, x.steps, x.paces⟩ ⟨y.id, y.fr, y.to, y.steps, y.paces⟩ with
        | true =>
          have HXY : Hid (x = y) := eqK_iff.1 hxy
          go_wp2_with fail
          go_quiet (fail)
          go_wp2_with fail
          go_roundw
          case rel => exact ⟨k + 1, by omega, by go_num, fun j u' v hj hu hv => by
            rcases Nat.lt_or_ge j k with h | h
            · exact HAll.out j u' v h hu hv
            · obtain rfl : j = k := by omega
              rw [HX.out] at hu; rw [HY.out] at hv
              cases hu; cases hv; exact HXY.out, below_drewN hbel _⟩
          case measure => simp [intOf]; omega
        | false =>
          have HXY : Hid (x ≠ y) := fun e => by
            have h1 : eqK x y = false := hxy
            rw [eqK_iff.2 e] at h1; cases h1
          go_wp2_with fail
          go_quiet (fail)
          go_wp2_with fail
          go_ret
          exact ⟨ret_bool (sameT_ne HX.out HY.out HXY.out).symm, below_drewN BR _⟩
      · go_wp2_with fail
        go_ret
        exact ⟨ret_bool (sameT_eq HS.out (by rw [HA.out, HB.out]) (fun j x y hj hx hy => HAll.out j x y (by have := HA.out; omega) hx hy)).symm, BR⟩
  · have hnn : ((m : Int) == (r : Int)) = false := by simp; omega
    have HF : Hid (sameT t u = false) := sameT_len (by rw [HA.out, HB.out]; exact hmr)
    go_wp2_with fail
    go_ret
    exact ⟨ret_bool HF.out.symm, B0⟩

def greatB (n m : Nat) : Bool := decide (20 < n) || decide (40 < m)
set_option maxHeartbeats 1000000 in
theorem great_any (A : Option Addr) (n c : Nat) (A' : Option Addr) (m d : Nat) (w : World) :
    Calls Tryd.prog 9 #[.agg #[.slice A n c, .slice A' m d]] w fun e w' => e = .returned (.bool (greatB n m)) ∧ Below w.heap.size w w' := by
  by_cases h1 : 20 < n
  · have HG : Hid (greatB n m = true) := by show _ = _; unfold greatB; simp [h1]
    have h1' : (20 : Int) < (n : Int) := by omega
    clear h1
    go_enter Tryd.func9, Tryd.ntmps9
    go_wp2_with fail
    go_ret
    exact ⟨ret_bool HG.out.symm, (Below.refl _ _).alloc (Nat.le_refl _) _⟩
  · have h1' : decide ((20 : Int) < (n : Int)) = false := by simp; omega
    by_cases h2 : 40 < m
    · have HG : Hid (greatB n m = true) := by show _ = _; unfold greatB; simp [h2]
      have h2' : (40 : Int) < (m : Int) := by omega
      clear h1 h2
      go_enter Tryd.func9, Tryd.ntmps9
      go_wp2_with fail
      go_ret
      exact ⟨ret_bool HG.out.symm, (Below.refl _ _).alloc (Nat.le_refl _) _⟩
    · have HG : Hid (greatB n m = false) := by show _ = _; unfold greatB; simp [h1, h2]
      have h2' : ¬ (40 : Int) < (m : Int) := by omega
      clear h1 h2
      go_enter Tryd.func9, Tryd.ntmps9
      go_wp2_with fail
      go_ret
      exact ⟨ret_bool HG.out.symm, (Below.refl _ _).alloc (Nat.le_refl _) _⟩
end Go.Proofs.YtahkjagjcogeiaaDoor
/- Spans and toils compared. -/
namespace Go.Proofs.YtahkjagjcogeiaaDoor
open Go.RowKit
set_option linter.unusedVariables false
theorem sameT_refl' (t : Town) : sameT t t = true := by simp [sameT]
theorem sameI_refl' (l : List Int) : sameI l l = true := by simp [sameI]
theorem eqSpan_run (a1 a2 b1 b2 : Int) (w : World) : (Op.equalIn 10000 27 (.agg #[.int .i64 a1, .int .i64 a2]) (.agg #[.int .i64 b1, .int .i64 b2])).run Tryd.prog w = .ok (a1 == b1 && a2 == b2) w := by
  rw [Op.equalIn]
  simp [go_sem, run_underlying Tryd.underlying27, eqi_run', Std.Legacy.Range.forIn_eq_forIn_range', part]
  by_cases h1 : a1 = b1 <;> by_cases h2 : a2 = b2 <;> simp [h1, h2]
theorem eqSpan_same (a b : Int) (w : World) : (Op.equalIn 10000 27 (.agg #[.int .i64 a, .int .i64 b]) (.agg #[.int .i64 a, .int .i64 b])).run Tryd.prog w = .ok true w := by
  rw [eqSpan_run]; simp
theorem eqToil_run (a1 a2 b1 b2 : Int) (w : World) : (Op.equalIn 10000 59 (.agg #[.int .i64 a1, .int .i64 a2]) (.agg #[.int .i64 b1, .int .i64 b2])).run Tryd.prog w = .ok (a1 == b1 && a2 == b2) w := by
  rw [Op.equalIn]
  simp [go_sem, run_underlying Tryd.underlying59, eqi_run', Std.Legacy.Range.forIn_eq_forIn_range', part]
  by_cases h1 : a1 = b1 <;> by_cases h2 : a2 = b2 <;> simp [h1, h2]
theorem eqToil_same (a b : Int) (w : World) : (Op.equalIn 10000 59 (.agg #[.int .i64 a, .int .i64 b]) (.agg #[.int .i64 a, .int .i64 b])).run Tryd.prog w = .ok true w := by
  rw [eqToil_run]; simp
end Go.Proofs.YtahkjagjcogeiaaDoor
/- The law ClimbSkins, walked. -/
namespace Go.Proofs.YtahkjagjcogeiaaDoor
open Go.RowKit
set_option linter.unusedVariables false

theorem wetF_len {t : Town} {s : Skin} {u v : Int} {dk : Bool} {r : List Int × Int × Int} (h : wetF t s u v dk = r) : r.1.length ≤ maxLen := by
  subst h
  unfold wetF
  split
  · rename_i h0
    have h1 := or2_zero h0
    have hG := goodT (askE_zero h1.1).1
    have hS := goodS (dryE_zero h1.2)
    split
    · unfold maxLen; simp
    · rename_i r hr
      have := best_len hG.fine (lossP_fair hS.pace.2.1 hS.step.2.1) (c := r.1) (l := r.2) hr
      unfold maxLen; simp; omega
  · unfold maxLen; simp

set_option maxRecDepth 100000 in
set_option maxHeartbeats 8000000 in
theorem skins_walk (A : Option Addr) (n c : Nat) (A' : Option Addr) (m d : Nat) (t : Town) (s : Skin) (u v : Int) (dk : Bool) (A2 : Option Addr) (k2 c2 : Nat) (l : List Int) (w : World) (hn : n ≤ maxLen) (hm : m ≤ maxLen) (hk : k2 ≤ maxLen) (ht : TownAt w w.heap.size A n A' m t) (hr : IntsAt w w.heap.size A2 k2 l) (hL : Laid w) :
    Calls Tryd.prog 3 #[.agg #[.slice A n c, .slice A' m d], .agg #[.int .i64 s.drops, .int .i64 s.pace.lo, .int .i64 s.pace.hi, .int .i64 s.step.lo, .int .i64 s.step.hi], .int .i64 u, .int .i64 v, .bool dk, .slice A2 k2 c2] w fun e w' => e = .returned (.bool true) ∧ Below w.heap.size w w' := by
  have HT := Lib.hid ht
  have HL := Lib.hid hL
  have hl0 := hL.2.2.2
  have HLn := Lib.hid ht.places.len
  have HLm := Lib.hid ht.links.len
  clear ht hL
  unfold maxLen at hn hm
  have HR := Lib.hid hr
  have HLk := Lib.hid hr.len
  clear hr
  unfold maxLen at hk
  go_enter Tryd.func3, Tryd.ntmps3
  go_wp2_with fail
  have HLay := Lib.hid (Lay.two w 25 #[.slice A n c, .slice A' m d] 29 #[.int .i64 s.drops, .int .i64 s.pace.lo, .int .i64 s.pace.hi, .int .i64 s.step.lo, .int .i64 s.step.hi])
  generalize ((w.alloc (.cells #[.slice A n c, .slice A' m d] 25)).alloc (.cells #[.int .i64 s.drops, .int .i64 s.pace.lo, .int .i64 s.pace.hi, .int .i64 s.step.lo, .int .i64 s.step.hi] 29)) = w0 at *
  with_reducible refine (great_any A n c A' m d w0).mono ?_
  rintro e W1 ⟨rfl, hb⟩
  replace HLay := Lib.hid (HLay.out.below hb)
  clear hb
  cases hgr : greatB n m with
  | true =>
    clear hgr
    go_wp2_with fail
    go_ret
    exact ⟨rfl, HLay.out.bel⟩
  | false =>
  have hsz : n ≤ 20 ∧ m ≤ 40 := by unfold greatB at hgr; simp at hgr; omega
  clear hgr
  obtain ⟨hn20, hm40⟩ := hsz
  by_cases hk60 : (60 : Int) < (k2 : Int)
  · go_wp2_with fail
    go_ret
    exact ⟨rfl, HLay.out.bel⟩
  have hk60' : k2 ≤ 60 := by omega
  have hk60d : decide ((60 : Int) < (k2 : Int)) = false := by simp; omega
  clear hk60
  have hk1 : k2 ≤ 1000 := by omega
  have hn1 : n ≤ 1000 := by omega
  have hm1 : m ≤ 1000 := by omega
  have x0_0 := (HLay.out.blk 0 rfl).cell 0
  have x0_1 := (HLay.out.blk 0 rfl).cell 1
  have l0_ := HLay.out.lt 0 rfl
  go_wp2_with fail
  clear x0_0 x0_1 l0_
  have HLW := Lib.hid (HLay.out.bel.size)
  with_reducible refine (twin_any A n c A' m d t W1 hn1 hm1 ((HT.out.below HLay.out.bel).more HLay.out.bel.size)).mono ?_
  rintro e W2 ⟨A1, c1, A1', c1', rfl, hO1, hO2, _, hb⟩
  replace HLay := Lib.hid (HLay.out.below hb)
  clear hb
  have HO1 := Lib.hid (hO1.mono (HLW.out))
  have HO2 := Lib.hid (hO2.mono (HLW.out))
  rw [HLn.out] at HO1
  rw [HLm.out] at HO2
  rw [HLn.out, HLm.out]
  clear hO1 hO2 HLW
  have HE : Hid (Own (W2.alloc (.cells #[] 3)) w.heap.size 3 1 (some ⟨W2.heap.size, 0, none⟩) 0 0 []) := Own.mk_ HLay.out.bel.size (Blk.new W2 _ _) (Nat.le_refl _) (Nat.zero_le _) rfl rfl (fun k hk => by omega)
  have HI : Hid (IntsAt (W2.alloc (.cells #[] 3)) (W2.alloc (.cells #[] 3)).heap.size A2 k2 l) := (HR.out.below (HLay.out.bel.alloc HLay.out.bel.size _)).more (HLay.out.bel.alloc HLay.out.bel.size _).size
  go_wp2_with (at_builtin; refine wpList_append_any _ rfl _ _ rfl elem_int rfl HE.out rfl HI.out (ints_one _) (by unfold maxLen; omega) (by omega) (by rw [World.size_alloc]; have := HLay.out.bel.size; omega) ?_)
  rintro A3 c3 W3 hown hg hA
  have HMi : Hid (Own W3 w.heap.size 3 1 A3 k2 c3 (l.map (Value.int .i64))) := by
    have h := hown
    exact h
  have hg' : W2.grownBy W3 (some W2.heap.size) := grown_trans (grown_of_below ((Below.refl W2.heap.size W2).alloc (Nat.le_refl _) (.cells #[] 3)) _) hg
  have hb : Below W2.heap.size W2 W3 := below_of_grown hg' (fun k hk => by cases hk; exact Nat.le_refl _) (Nat.le_refl _)
  replace HLay := Lib.hid (HLay.out.below hb)
  replace HO1 := Lib.hid (HO1.out.below hb (Nat.le_refl _))
  replace HO2 := Lib.hid (HO2.out.below hb (Nat.le_refl _))
  clear hown hg hg' hb HE HI hA
  have x0_0 := (HLay.out.blk 0 rfl).cell 0
  have x0_1 := (HLay.out.blk 0 rfl).cell 1
  have l0_ := HLay.out.lt 0 rfl
  have x1_0 := (HLay.out.blk 1 rfl).cell 0
  have x1_1 := (HLay.out.blk 1 rfl).cell 1
  have x1_2 := (HLay.out.blk 1 rfl).cell 2
  have x1_3 := (HLay.out.blk 1 rfl).cell 3
  have x1_4 := (HLay.out.blk 1 rfl).cell 4
  have l1_ := HLay.out.lt 1 rfl
  go_wp2_with fail
  clear x0_0 x0_1 l0_ x1_0 x1_1 x1_2 x1_3 x1_4 l1_
  have hb : Below W3.heap.size W3 (W3.alloc (.cells #[.slice A1 n c1, .slice A1' m c1'] 25)) := (Below.refl _ _).alloc (Nat.le_refl _) _
  have hnew := Blk.new W3 25 #[.slice A1 n c1, .slice A1' m c1']
  have hge := HLay.out.bel.size
  replace HLay := Lib.hid (HLay.out.below hb)
  replace HO1 := Lib.hid (HO1.out.below hb (Nat.le_refl _))
  replace HO2 := Lib.hid (HO2.out.below hb (Nat.le_refl _))
  replace HMi := Lib.hid (HMi.out.below hb (Nat.le_refl _))
  replace HLay := Lib.hid (HLay.out.add hge hnew)
  clear hnew hge hb
  obtain ⟨G5, hG⟩ : ∃ g, W3.heap.size = g := ⟨_, rfl⟩
  rw [hG] at HLay ⊢
  generalize (W3.alloc (.cells #[.slice A1 n c1, .slice A1' m c1'] 25)) = V4 at *
  clear hG
  replace HLay := Lib.hid (show Lay w V4 [(w.heap.size, 25, #[.slice A n c, .slice A' m d]), (w.heap.size + 1, 29, #[.int .i64 s.drops, .int .i64 s.pace.lo, .int .i64 s.pace.hi, .int .i64 s.step.lo, .int .i64 s.step.hi]), (G5, 25, #[.slice A1 n c1, .slice A1' m c1'])] from HLay.out)
  with_reducible refine (end_any A1 n c1 A1' m c1' t s u A3 k2 c3 l V4 hn1 hm1 hk1 ⟨ints_of_own HO1.out (Nat.le_refl _), links_of_own HO2.out (Nat.le_refl _)⟩ (ints_of_own HMi.out (Nat.le_refl _)) (HL.out.below HLay.out.bel hl0)).mono ?_
  rintro e W6 ⟨rfl, hb⟩
  replace HLay := Lib.hid (HLay.out.below hb)
  replace HO1 := Lib.hid (HO1.out.below hb (Nat.le_refl _))
  replace HO2 := Lib.hid (HO2.out.below hb (Nat.le_refl _))
  replace HMi := Lib.hid (HMi.out.below hb (Nat.le_refl _))
  clear hb
  obtain ⟨v1, hv1⟩ : ∃ y, endV t s u l = y := ⟨_, rfl⟩
  obtain ⟨e1, he1⟩ : ∃ y, endE t s u l = y := ⟨_, rfl⟩
  rw [hv1, he1]
  have HV1 := Lib.hid hv1
  have HE1 := Lib.hid he1
  clear hv1 he1
  have x0_0 := (HLay.out.blk 0 rfl).cell 0
  have x0_1 := (HLay.out.blk 0 rfl).cell 1
  have l0_ := HLay.out.lt 0 rfl
  have x1_0 := (HLay.out.blk 1 rfl).cell 0
  have x1_1 := (HLay.out.blk 1 rfl).cell 1
  have x1_2 := (HLay.out.blk 1 rfl).cell 2
  have x1_3 := (HLay.out.blk 1 rfl).cell 3
  have x1_4 := (HLay.out.blk 1 rfl).cell 4
  have l1_ := HLay.out.lt 1 rfl
  have x2_0 := (HLay.out.blk 2 rfl).cell 0
  have x2_1 := (HLay.out.blk 2 rfl).cell 1
  have l2_ := HLay.out.lt 2 rfl
  go_wp2_with fail
  clear x0_0 x0_1 l0_ x1_0 x1_1 x1_2 x1_3 x1_4 l1_ x2_0 x2_1 l2_
  have hb : Below W6.heap.size W6 (W6.alloc (.cells #[.int .i64 v1.lo, .int .i64 v1.hi] 27)) := (Below.refl _ _).alloc (Nat.le_refl _) _
  have hnew := Blk.new W6 27 #[.int .i64 v1.lo, .int .i64 v1.hi]
  have hge := HLay.out.bel.size
  replace HLay := Lib.hid (HLay.out.below hb)
  replace HO1 := Lib.hid (HO1.out.below hb (Nat.le_refl _))
  replace HO2 := Lib.hid (HO2.out.below hb (Nat.le_refl _))
  replace HMi := Lib.hid (HMi.out.below hb (Nat.le_refl _))
  replace HLay := Lib.hid (HLay.out.add hge hnew)
  clear hnew hge hb
  obtain ⟨G8, hG⟩ : ∃ g, W6.heap.size = g := ⟨_, rfl⟩
  rw [hG] at HLay ⊢
  generalize (W6.alloc (.cells #[.int .i64 v1.lo, .int .i64 v1.hi] 27)) = V7 at *
  clear hG
  replace HLay := Lib.hid (show Lay w V7 [(w.heap.size, 25, #[.slice A n c, .slice A' m d]), (w.heap.size + 1, 29, #[.int .i64 s.drops, .int .i64 s.pace.lo, .int .i64 s.pace.hi, .int .i64 s.step.lo, .int .i64 s.step.hi]), (G5, 25, #[.slice A1 n c1, .slice A1' m c1']), (G8, 27, #[.int .i64 v1.lo, .int .i64 v1.hi])] from HLay.out)
  with_reducible refine (rend_any A n c A' m d t s u A2 k2 c2 l V7 hn1 hm1 hk1 ((HT.out.below HLay.out.bel).more HLay.out.bel.size) ((HR.out.below HLay.out.bel).more HLay.out.bel.size)).mono ?_
  rintro e W9 ⟨rfl, hb⟩
  replace HLay := Lib.hid (HLay.out.below hb)
  replace HO1 := Lib.hid (HO1.out.below hb (Nat.le_refl _))
  replace HO2 := Lib.hid (HO2.out.below hb (Nat.le_refl _))
  replace HMi := Lib.hid (HMi.out.below hb (Nat.le_refl _))
  clear hb
  rw [HV1.out, HE1.out]
  have x0_0 := (HLay.out.blk 0 rfl).cell 0
  have x0_1 := (HLay.out.blk 0 rfl).cell 1
  have l0_ := HLay.out.lt 0 rfl
  have x1_0 := (HLay.out.blk 1 rfl).cell 0
  have x1_1 := (HLay.out.blk 1 rfl).cell 1
  have x1_2 := (HLay.out.blk 1 rfl).cell 2
  have x1_3 := (HLay.out.blk 1 rfl).cell 3
  have x1_4 := (HLay.out.blk 1 rfl).cell 4
  have l1_ := HLay.out.lt 1 rfl
  have x2_0 := (HLay.out.blk 2 rfl).cell 0
  have x2_1 := (HLay.out.blk 2 rfl).cell 1
  have l2_ := HLay.out.lt 2 rfl
  go_wp2_with fail
  clear x0_0 x0_1 l0_ x1_0 x1_1 x1_2 x1_3 x1_4 l1_ x2_0 x2_1 l2_
  have hb : Below W9.heap.size W9 (W9.alloc (.cells #[.int .i64 v1.lo, .int .i64 v1.hi] 27)) := (Below.refl _ _).alloc (Nat.le_refl _) _
  have hnew := Blk.new W9 27 #[.int .i64 v1.lo, .int .i64 v1.hi]
  have hge := HLay.out.bel.size
  replace HLay := Lib.hid (HLay.out.below hb)
  replace HO1 := Lib.hid (HO1.out.below hb (Nat.le_refl _))
  replace HO2 := Lib.hid (HO2.out.below hb (Nat.le_refl _))
  replace HMi := Lib.hid (HMi.out.below hb (Nat.le_refl _))
  replace HLay := Lib.hid (HLay.out.add hge hnew)
  clear hnew hge hb
  obtain ⟨G11, hG⟩ : ∃ g, W9.heap.size = g := ⟨_, rfl⟩
  rw [hG] at HLay ⊢
  generalize (W9.alloc (.cells #[.int .i64 v1.lo, .int .i64 v1.hi] 27)) = V10 at *
  clear hG
  replace HLay := Lib.hid (show Lay w V10 [(w.heap.size, 25, #[.slice A n c, .slice A' m d]), (w.heap.size + 1, 29, #[.int .i64 s.drops, .int .i64 s.pace.lo, .int .i64 s.pace.hi, .int .i64 s.step.lo, .int .i64 s.step.hi]), (G5, 25, #[.slice A1 n c1, .slice A1' m c1']), (G8, 27, #[.int .i64 v1.lo, .int .i64 v1.hi]), (G11, 27, #[.int .i64 v1.lo, .int .i64 v1.hi])] from HLay.out)
  with_reducible refine (wet_any A1 n c1 A1' m c1' t s u v dk V10 hn1 hm1 ⟨ints_of_own HO1.out (Nat.le_refl _), links_of_own HO2.out (Nat.le_refl _)⟩ (HL.out.below HLay.out.bel hl0)).mono ?_
  rintro e W12 ⟨AW, nW, cW, rfl, hiw, hb⟩
  replace HLay := Lib.hid (HLay.out.below hb)
  replace HO1 := Lib.hid (HO1.out.below hb (Nat.le_refl _))
  replace HO2 := Lib.hid (HO2.out.below hb (Nat.le_refl _))
  replace HMi := Lib.hid (HMi.out.below hb (Nat.le_refl _))
  clear hb
  have HW := Lib.hid hiw
  clear hiw
  obtain ⟨r1, hr1⟩ : ∃ y, wetF t s u v dk = y := ⟨_, rfl⟩
  rw [hr1] at HW ⊢
  have HR1 := Lib.hid hr1
  clear hr1
  have x0_0 := (HLay.out.blk 0 rfl).cell 0
  have x0_1 := (HLay.out.blk 0 rfl).cell 1
  have l0_ := HLay.out.lt 0 rfl
  have x1_0 := (HLay.out.blk 1 rfl).cell 0
  have x1_1 := (HLay.out.blk 1 rfl).cell 1
  have x1_2 := (HLay.out.blk 1 rfl).cell 2
  have x1_3 := (HLay.out.blk 1 rfl).cell 3
  have x1_4 := (HLay.out.blk 1 rfl).cell 4
  have l1_ := HLay.out.lt 1 rfl
  have x2_0 := (HLay.out.blk 2 rfl).cell 0
  have x2_1 := (HLay.out.blk 2 rfl).cell 1
  have l2_ := HLay.out.lt 2 rfl
  go_wp2_with fail
  clear x0_0 x0_1 l0_ x1_0 x1_1 x1_2 x1_3 x1_4 l1_ x2_0 x2_1 l2_
  with_reducible refine (rwet_any A n c A' m d t s u v dk W12 hn1 hm1 ((HT.out.below HLay.out.bel).more HLay.out.bel.size)).mono ?_
  rintro e W13 ⟨AX, nX, cX, rfl, hiw, hb⟩
  replace HLay := Lib.hid (HLay.out.below hb)
  replace HO1 := Lib.hid (HO1.out.below hb (Nat.le_refl _))
  replace HO2 := Lib.hid (HO2.out.below hb (Nat.le_refl _))
  replace HMi := Lib.hid (HMi.out.below hb (Nat.le_refl _))
  replace HW := Lib.hid ((HW.out.below hb).more hb.size)
  clear hb
  have HX := Lib.hid hiw
  clear hiw
  rw [HR1.out] at HX ⊢
  have hlw : nW = r1.1.length := HW.out.len.symm
  have hlx : nX = r1.1.length := HX.out.len.symm
  obtain rfl : nX = nW := by omega
  have hnw : nX ≤ maxLen := by rw [hlw]; have h := HR1.out; exact wetF_len h
  clear hlw hlx
  have hse := eqSpan_same v1.lo v1.hi
  have hee : (e1 == e1) = true := by simp
  have hee2 : (r1.2.1 == r1.2.1) = true := by simp
  have hee3 : (r1.2.2 == r1.2.2) = true := by simp
  have x3_0 := (HLay.out.blk 3 rfl).cell 0
  have x3_1 := (HLay.out.blk 3 rfl).cell 1
  have l3_ := HLay.out.lt 3 rfl
  have x4_0 := (HLay.out.blk 4 rfl).cell 0
  have x4_1 := (HLay.out.blk 4 rfl).cell 1
  have l4_ := HLay.out.lt 4 rfl
  go_wp2_with fail
  clear x3_0 x3_1 l3_ x4_0 x4_1 l4_
  with_reducible refine (sameInts_any AW nX cW r1.1 AX nX cX r1.1 W13 hnw hnw HW.out HX.out).mono ?_
  rintro e W14 ⟨rfl, hb⟩
  replace HLay := Lib.hid (HLay.out.below hb)
  replace HO1 := Lib.hid (HO1.out.below hb (Nat.le_refl _))
  replace HO2 := Lib.hid (HO2.out.below hb (Nat.le_refl _))
  replace HMi := Lib.hid (HMi.out.below hb (Nat.le_refl _))
  replace HW := Lib.hid ((HW.out.below hb).more hb.size)
  replace HX := Lib.hid ((HX.out.below hb).more hb.size)
  clear hb
  rw [sameI_refl']
  have x0_0 := (HLay.out.blk 0 rfl).cell 0
  have x0_1 := (HLay.out.blk 0 rfl).cell 1
  have l0_ := HLay.out.lt 0 rfl
  have x2_0 := (HLay.out.blk 2 rfl).cell 0
  have x2_1 := (HLay.out.blk 2 rfl).cell 1
  have l2_ := HLay.out.lt 2 rfl
  go_wp2_with fail
  clear x0_0 x0_1 l0_ x2_0 x2_1 l2_
  with_reducible refine (same_any A1 n c1 A1' m c1' t A n c A' m d t W14 (by unfold maxLen; omega) (by unfold maxLen; omega) (by unfold maxLen; omega) (by unfold maxLen; omega) ⟨ints_of_own HO1.out (Nat.le_refl _), links_of_own HO2.out (Nat.le_refl _)⟩ ((HT.out.below HLay.out.bel).more HLay.out.bel.size)).mono ?_
  rintro e W15 ⟨rfl, hb⟩
  replace HLay := Lib.hid (HLay.out.below hb)
  replace HO1 := Lib.hid (HO1.out.below hb (Nat.le_refl _))
  replace HO2 := Lib.hid (HO2.out.below hb (Nat.le_refl _))
  replace HMi := Lib.hid (HMi.out.below hb (Nat.le_refl _))
  replace HW := Lib.hid ((HW.out.below hb).more hb.size)
  replace HX := Lib.hid ((HX.out.below hb).more hb.size)
  clear hb
  rw [sameT_refl']
  go_wp2_with fail
  with_reducible refine (sameInts_any A3 k2 c3 l A2 k2 c2 l W15 (by unfold maxLen; omega) (by unfold maxLen; omega) (ints_of_own HMi.out (Nat.le_refl _)) ((HR.out.below HLay.out.bel).more HLay.out.bel.size)).mono ?_
  rintro e W16 ⟨rfl, hb⟩
  replace HLay := Lib.hid (HLay.out.below hb)
  replace HO1 := Lib.hid (HO1.out.below hb (Nat.le_refl _))
  replace HO2 := Lib.hid (HO2.out.below hb (Nat.le_refl _))
  replace HMi := Lib.hid (HMi.out.below hb (Nat.le_refl _))
  replace HW := Lib.hid ((HW.out.below hb).more hb.size)
  replace HX := Lib.hid ((HX.out.below hb).more hb.size)
  clear hb
  rw [sameI_refl']
  go_wp2_with fail
  go_ret
  exact ⟨rfl, HLay.out.bel⟩
end Go.Proofs.YtahkjagjcogeiaaDoor
/- The table of checks as the row lists it: its three cells. The door's own heap meets the condition. -/
namespace Go.Proofs.YtahkjagjcogeiaaDoor
open Go.ChangeShapes Go.WideShapes Go.ChangeAt Go.RowKit
set_option linter.unusedVariables false
set_option maxRecDepth 100000

def laidL : List (String × DataW Unit) := [("aguador/climb.checks", Rows.laid_aguador_climb_checks)]
theorem gChecks : Tryd.prog.globalNamed "aguador/climb.checks" = some 0 := by kernel_rfl
theorem tChecks : (Tryd.prog.globals[0]?).map (·.type) = some 149 := by kernel_rfl
theorem cellsCheck : Tryd.prog.cellsOf 148 = 1 := by kernel_rfl
theorem cellsFuncB : Tryd.prog.cellsOf 30 = 1 := by kernel_rfl
theorem checkUnd : ∃ f, Tryd.prog.underlying 148 = some (.struct #[f]) ∧ f.type = 30 ∧ f.offset = 0 := ⟨_, Tryd.underlying148, rfl, rfl⟩

/-- The door's own heap meets the condition. -/
theorem door_met (os : Os) (args : Array Value) : laidMetH Tryd.prog laidL ((World.doorLaid Tryd.prog 800 os).forCall (fun _ _ => 0) ⟨#[], args, []⟩).memory :=
  laidMetH_of_parts3 (fuel := 8) (laidMet_of_run' 8 (by kernel_rfl) (by kernel_rfl)) (by kernel_rfl) (by kernel_rfl)

theorem check_cell {W : World} {fuel : Nat} {cs : List Value} {b : UInt8} {r : List UInt8} {q : List MemPlace} {f0 : FuncId} (h : DataW.trod (funcToken Tryd.prog) Tryd.prog W 0 (fun _ => true) true fuel 148 cs = some (.agg [.held (b :: r)], q))
    (hone : ((List.range Tryd.prog.funcs.size).filter fun f => (Tryd.prog.funcs[f]?).any (·.name.toUTF8.data.toList == b :: r)) = [f0]) : cs = [.func (.func f0) #[] #[]] := by
  obtain ⟨f, hu, ht, ho⟩ := checkUnd
  obtain ⟨y0, n, hx, hl, h0⟩ := trod_struct1 hu h
  rw [cellsCheck] at hl
  match cs, hl with
  | [c], _ =>
    have h1 : DataW.trod (funcToken Tryd.prog) Tryd.prog W 0 (fun _ => true) true n 30 [c] = some y0 := by simpa [ht, ho, cellsFuncB] using h0
    simp only [Prod.mk.injEq, DataW.agg.injEq, List.cons.injEq, and_true] at hx
    obtain ⟨z, p⟩ := y0
    obtain ⟨e1, e2⟩ := hx
    simp only at e1
    subst e1
    rw [func_of_trod Tryd.underlying30 hone h1]

theorem of_laid {W : World} (h : laidMetH Tryd.prog laidL W) : Laid W := by
  obtain ⟨g, t, cs, fuel, p, hg, ht, hv, hd⟩ := h.funcs (List.mem_singleton.2 rfl)
  obtain rfl := Option.some.inj (gChecks.symm.trans hg)
  obtain rfl := Option.some.inj (tChecks.symm.trans ht)
  obtain ⟨xs, m, _, hx, hlen, hn, hel⟩ := DataW.trod_array Tryd.underlying149 hd
  rw [cellsCheck] at hel
  match xs, hn with
  | [x0, x1, x2], _ =>
    have h0 := hel 0 (by decide)
    have h1 := hel 1 (by decide)
    have h2 := hel 2 (by decide)
    simp only [Prod.mk.injEq] at hx
    have hx1 := hx.1
    simp only [DataW.funcsOut, DataW.funcsOutAll, List.map_cons, List.map_nil, DataW.agg.injEq, List.cons.injEq, and_true] at hx1
    obtain ⟨e0, e1, e2⟩ := hx1
    obtain ⟨x0, p0⟩ := x0
    obtain ⟨x1, p1⟩ := x1
    obtain ⟨x2, p2⟩ := x2
    simp only at e0 e1 e2
    subst e0 e1 e2
    have k0 := check_cell (f0 := 182) h0 (by kernel_rfl)
    have k1 := check_cell (f0 := 183) h1 (by kernel_rfl)
    have k2 := check_cell (f0 := 184) h2 (by kernel_rfl)
    have at_ : ∀ i, W.cell? ⟨0, i, none⟩ = cs[i]? := fun i => by simpa using World.var?_cell hg hv i
    obtain ⟨l⟩ := cs
    have c0 : W.cell? ⟨0, 0, none⟩ = some (.func (.func 182) #[] #[]) := by
      rw [at_]
      have := congrArg (·[0]?) k0
      simpa [List.getElem?_take, List.getElem?_drop] using this
    have c1 : W.cell? ⟨0, 1, none⟩ = some (.func (.func 183) #[] #[]) := by
      rw [at_]
      have := congrArg (·[0]?) k1
      simpa [List.getElem?_take, List.getElem?_drop] using this
    have c2 : W.cell? ⟨0, 2, none⟩ = some (.func (.func 184) #[] #[]) := by
      rw [at_]
      have := congrArg (·[0]?) k2
      simpa [List.getElem?_take, List.getElem?_drop] using this
    exact ⟨c0, c1, c2, World.block_lt_of_cell? W _ c0⟩

end Go.Proofs.YtahkjagjcogeiaaDoor
