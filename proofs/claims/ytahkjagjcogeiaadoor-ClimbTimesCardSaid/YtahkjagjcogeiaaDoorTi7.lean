/- Part 7 of the texts of this claim, joined. -/
import Derived.Sort.LoopGhostIn
import Derived.ChangeKeysEq
import Derived.Maps.RangeWalk
import Derived.Maps.OwnIn
import Derived.Test.YtahkjagjcogeiaaDoorTi6
/- The answer's costs: Bellman and Ford. -/
namespace Go.Proofs.YtahkjagjcogeiaaDoor
open Go.RowKit Go.Shelf
set_option linter.unusedVariables false

theorem wpListIn_make_all {F : Fence} {nn : Nat} {P : Program} {w : World} {ops : Array Oper} {rest : List Oper} {o : Oper} {a : Act} {Q : Exit → Act → World → Prop} (hgd : o.guard = none) (l c : Operand) (t : TypeId) (ho : o.op = .makeSlice t l c)
    (e : TypeId) (i : TypeInfo) (z : Value) (h1 : P.underlying t = some (.slice e)) (h2 : P.info? e = some i) (h3 : i.zero = some z) (n : Nat) (hl : a.eval l = .int .i64 n) (hc : a.eval c = .int .i64 n) (hb : i.bytes * n ≤ 140737488355328) (hn : n ≤ maxLen)
    (h : wpListIn F nn P ops Q rest (a.put o.dst (.slice (some ⟨w.heap.size, 0, none⟩) n n)) (w.alloc (.cells (madeCells z.cells (n * i.size)) e))) :
    wpListIn F nn P ops Q (o :: rest) a w := by
  have h63' : (n : Int) ≤ 9223372036854775807 := by
    have h := hn
    simp [maxLen] at h
    omega
  have hb' : (i.bytes : Int) * (n : Int) ≤ 281474976710656 := by
    rw [← Int.natCast_mul]
    omega
  refine wpListIn_plain hgd fun K hK => ?_
  have hr := run_make (P := P) w t e i z h1 h2 h3 .i64 .i64 n n (by omega) (Int.le_refl _) hb' h63'
  simp only [Int.toNat_natCast] at hr
  unfold Oper.wpIn
  refine ⟨?_, ?_⟩
  · simp [Oper.about, ho]
  · rw [Oper.semAt_plain F _ _ (by rw [ho]; intro c hc'; cases hc')]
    simp [execOp, ho, hl, hc, hr, Result.andThen]
    exact hK _ _ h

theorem info_rcost : (Tryd.prog.info? 103).map (fun i => (i.zero, i.size, i.bytes)) = some (some (.agg #[.int .i64 0, .int .i64 0, .int .i64 0, .int .i64 0]), 4, 32) := by kernel_rfl

structure RCSt (w : World) (T : Array Value) (p : Price) (E : List (Option Cost)) (W : World) : Prop where
  bel : Below w.heap.size w W
  tb : Blk W w.heap.size 25 T
  pb : Blk W (w.heap.size + 1) 107 #[.int .i64 p.pace, .int .i64 p.up, .int .i64 p.step]
  eb : Blk W (w.heap.size + 1 + 1) 103 (eVals E).toArray
section
variable {w W W' : World} {T : Array Value} {p : Price} {E : List (Option Cost)}
theorem RCSt.below (h : RCSt w T p E W) (hb : Below W.heap.size W W') : RCSt w T p E W' :=
  ⟨h.bel.trans (hb.mono h.bel.size), h.tb.below hb h.tb.lt, h.pb.below hb h.pb.lt, h.eb.below hb h.eb.lt⟩
theorem RCSt.cell (h : RCSt w T p E W) {k : Nat} {r : Option Cost} (hk : E[k]? = some r) : W.cell? ⟨w.heap.size + 1 + 1, k * 4, none⟩ = some (.int .i64 (entC r).a) ∧ W.cell? ⟨w.heap.size + 1 + 1, k * 4 + 1, none⟩ = some (.int .i64 (entC r).b) ∧
    W.cell? ⟨w.heap.size + 1 + 1, k * 4 + 2, none⟩ = some (.int .i64 (entC r).c) ∧ W.cell? ⟨w.heap.size + 1 + 1, k * 4 + 3, none⟩ = some (.int .i64 (entC r).d) := by
  refine ⟨?_, ?_, ?_, ?_⟩
  · rw [h.eb.cell, List.getElem?_toArray]; exact eVals_at (j := 0) hk (by omega)
  · rw [h.eb.cell, List.getElem?_toArray]; exact eVals_at (j := 1) hk (by omega)
  · rw [h.eb.cell, List.getElem?_toArray]; exact eVals_at (j := 2) hk (by omega)
  · rw [h.eb.cell, List.getElem?_toArray]; exact eVals_at (j := 3) hk (by omega)
theorem RCSt.put (h : RCSt w T p E W) {k : Nat} (hk : k < E.length) (d : Cost) :
    RCSt w T p (E.set k (some d)) ((((W.setCell ⟨w.heap.size + 1 + 1, k * 4, none⟩ (.int .i64 d.a)).setCell ⟨w.heap.size + 1 + 1, k * 4 + 1, none⟩ (.int .i64 d.b)).setCell ⟨w.heap.size + 1 + 1, k * 4 + 2, none⟩ (.int .i64 d.c)).setCell ⟨w.heap.size + 1 + 1, k * 4 + 3, none⟩ (.int .i64 d.d)) := by
  have b := fun {B : Nat} {V : World} (L : Below B V W) (hB : B ≤ w.heap.size + 1 + 1) => (((L.setCell (p := ⟨w.heap.size + 1 + 1, k * 4, none⟩) hB (.int .i64 d.a)).setCell (p := ⟨w.heap.size + 1 + 1, k * 4 + 1, none⟩) hB (.int .i64 d.b)).setCell (p := ⟨w.heap.size + 1 + 1, k * 4 + 2, none⟩) hB (.int .i64 d.c)).setCell (p := ⟨w.heap.size + 1 + 1, k * 4 + 3, none⟩) hB (.int .i64 d.d)
  have l := b (Below.refl (w.heap.size + 1 + 1) W) (Nat.le_refl _)
  refine ⟨b h.bel (by omega), h.tb.below l (by omega), h.pb.below l (by omega), ?_⟩
  have e := (((h.eb.set_ (k * 4) (.int .i64 d.a)).set_ (k * 4 + 1) (.int .i64 d.b)).set_ (k * 4 + 2) (.int .i64 d.c)).set_ (k * 4 + 3) (.int .i64 d.d)
  rw [← eVals_set hk]
  simpa [entC] using e
theorem RCSt.inf (h : RCSt w T p E W) {k : Nat} (hk : E[k]? = some (some zeroC)) : RCSt w T p (E.set k none) (W.setCell ⟨w.heap.size + 1 + 1, k * 4, none⟩ (.int .i64 1000000000)) := by
  have l := (Below.refl (w.heap.size + 1 + 1) W).setCell (p := ⟨w.heap.size + 1 + 1, k * 4, none⟩) (Nat.le_refl _) (.int .i64 1000000000)
  refine ⟨h.bel.setCell (by simp; omega) _, h.tb.below l (by omega), h.pb.below l (by omega), ?_⟩
  have e := h.eb.set_ (k * 4) (.int .i64 1000000000)
  rw [← eVals_inf hk]
  simpa using e
end

theorem dleads_none {W : World} {n : Nat} (x : Link) (v : Int) (dk : Bool) (p : Price) (hr : leads dk p x v = none) (hx : Fit x) (hp : Cheap p) {σ : Type} {of : σ → World} (h1 : ∀ z, Below W.heap.size W (of z)) (h2 : ∀ z W', Below (of z).heap.size (of z) W' → Cls of W') (z : σ) :
    CallsIn Fence.wide n Tryd.prog 112 #[.agg #[.int .i64 x.id, .int .i64 x.fr, .int .i64 x.to, .int .i64 x.steps, .int .i64 x.paces], .int .i64 v, .bool dk, .agg #[.int .i64 p.pace, .int .i64 p.up, .int .i64 p.step]] (of z) fun e w'' => e = .returned (.tuple #[.int .i64 0, .agg #[.int .i64 0, .int .i64 0, .int .i64 0, .int .i64 0], .bool false]) ∧ Cls of w'' :=
  (callsIn_wide.2 (leads_any x v dk p (of z) hx hp)).mono fun e w'' ⟨he, hb⟩ => ⟨by rw [he, hr]; rfl, h2 z _ hb⟩
theorem dleads_some {W : World} {n : Nat} (x : Link) (v : Int) (dk : Bool) (p : Price) (v' : Int) (cx : Cost) (hr : leads dk p x v = some (v', cx)) (hx : Fit x) (hp : Cheap p) {σ : Type} {of : σ → World} (h1 : ∀ z, Below W.heap.size W (of z)) (h2 : ∀ z W', Below (of z).heap.size (of z) W' → Cls of W') (z : σ) :
    CallsIn Fence.wide n Tryd.prog 112 #[.agg #[.int .i64 x.id, .int .i64 x.fr, .int .i64 x.to, .int .i64 x.steps, .int .i64 x.paces], .int .i64 v, .bool dk, .agg #[.int .i64 p.pace, .int .i64 p.up, .int .i64 p.step]] (of z) fun e w'' => e = .returned (.tuple #[.int .i64 v', .agg #[.int .i64 cx.a, .int .i64 cx.b, .int .i64 cx.c, .int .i64 cx.d], .bool true]) ∧ Cls of w'' :=
  (callsIn_wide.2 (leads_any x v dk p (of z) hx hp)).mono fun e w'' ⟨he, hb⟩ => ⟨by rw [he, hr]; rfl, h2 z _ hb⟩

theorem placeI_at {l : List Int} {v : Int} (h : v ∈ l) : ∃ i : Nat, placeI l v = i ∧ l[i]? = some v ∧ i < l.length := by
  have hany : l.any (fun y => y == v) = true := List.any_eq_true.2 ⟨v, h, by simp⟩
  unfold placeI idx
  rw [if_pos hany]
  have hlt : l.findIdx (fun y => y == v) < l.length := List.findIdx_lt_length.2 (by simpa using hany)
  have e : l[l.findIdx (fun y => y == v)] = v := by simpa using List.findIdx_getElem (w := hlt)
  exact ⟨_, rfl, by rw [List.getElem?_eq_getElem hlt, e], hlt⟩
theorem place_cls {W : World} {n' : Nat} (A : Option Addr) (n c : Nat) (A' : Option Addr) (m d : Nat) (t : Town) (id : Int) (i : Nat) (hi : placeI t.places id = i) (hn : n ≤ maxLen) (B : Nat) (hB : B ≤ W.heap.size) (ht : IntsAt W B A n t.places) {σ : Type} {of : σ → World} (h1 : ∀ z, Below W.heap.size W (of z)) (h2 : ∀ z W', Below (of z).heap.size (of z) W' → Cls of W') (z : σ) :
    CallsIn Fence.wide n' Tryd.prog 109 #[.agg #[.slice A n c, .slice A' m d], .int .i64 id] (of z) fun e w'' => e = .returned (.int .i64 (i : Int)) ∧ Cls of w'' :=
  (callsIn_wide.2 (place_any A n c A' m d t id (of z) hn (((ht.more hB).below (h1 z)).more (h1 z).size))).mono fun e w'' ⟨he, hb⟩ => ⟨by rw [he, hi], h2 z _ hb⟩
theorem rplus_cls {W : World} {n : Nat} (x y : Cost) (hx : Small x) (hy : Small y) {σ : Type} {of : σ → World} (h1 : ∀ z, Below W.heap.size W (of z)) (h2 : ∀ z W', Below (of z).heap.size (of z) W' → Cls of W') (z : σ) :
    CallsIn Fence.wide n Tryd.prog 113 #[.agg #[.int .i64 x.a, .int .i64 x.b, .int .i64 x.c, .int .i64 x.d], .agg #[.int .i64 y.a, .int .i64 y.b, .int .i64 y.c, .int .i64 y.d]] (of z) fun e w'' => e = .returned (.agg #[.int .i64 (addC x y).a, .int .i64 (addC x y).b, .int .i64 (addC x y).c, .int .i64 (addC x y).d]) ∧ Cls of w'' :=
  (callsIn_wide.2 (rplus_any x y (of z) hx hy)).mono fun e w'' ⟨he, hb⟩ => ⟨he, h2 z _ hb⟩
theorem rless_cls {W : World} {n : Nat} (x y : Cost) (b : Bool) (hl : lessC x y = b) {σ : Type} {of : σ → World} (h1 : ∀ z, Below W.heap.size W (of z)) (h2 : ∀ z W', Below (of z).heap.size (of z) W' → Cls of W') (z : σ) :
    CallsIn Fence.wide n Tryd.prog 142 #[.agg #[.int .i64 x.a, .int .i64 x.b, .int .i64 x.c, .int .i64 x.d], .agg #[.int .i64 y.a, .int .i64 y.b, .int .i64 y.c, .int .i64 y.d]] (of z) fun e w'' => e = .returned (.bool b) ∧ Cls of w'' :=
  (callsIn_wide.2 (rless_any x y (of z))).mono fun e w'' ⟨he, hb⟩ => ⟨by rw [he, hl], h2 z _ hb⟩
theorem Small.ent {r : Option Cost} (h : ∀ d, r = some d → Little d) : Small (entC r) := by
  cases r with
  | none => exact ⟨by simp [entC, infC], by simp [entC, infC], by simp [entC, infC], by simp [entC, infC]⟩
  | some d =>
    obtain ⟨h1, h2, h3, h4⟩ := h d rfl
    exact ⟨by simp only [entC, Option.getD_some]; omega, by simp only [entC, Option.getD_some]; omega, by simp only [entC, Option.getD_some]; omega, by simp only [entC, Option.getD_some]; omega⟩

def RCostsOut (w : World) (t : Town) (dk : Bool) (p : Price) (to : Int) (n : Nat) (e : Ending) (w' : World) : Prop :=
  ∃ (A : Option Addr) (E : List (Option Cost)), e = .returned (.slice A n n) ∧ EAt w' w'.heap.size A n E ∧ Costs t dk p to E ∧ (∀ (i : Nat) d, E[i]? = some (some d) → Little d) ∧ Below w.heap.size w w'

set_option maxRecDepth 100000 in
set_option maxHeartbeats 16000000 in
theorem rcosts_in (A : Option Addr) (n c : Nat) (A' : Option Addr) (m d : Nat) (p : Price) (t : Town) (dk : Bool) (to : Int) (w : World)
    (hm : m ≤ 20) (ha : IntsAt w w.heap.size A n t.places) (ht : LinksAt w w.heap.size A' m t.links) (hp : Cheap p) (hfine : Fine t) (hfair : Fair p) (hnd : t.places.Nodup) :
    CallsIn Fence.wide 9 Tryd.prog 119 #[.agg #[.slice A n c, .slice A' m d], .int .i64 to, .bool dk, .agg #[.int .i64 p.pace, .int .i64 p.up, .int .i64 p.step]] w (RCostsOut w t dk p to n) := by
  have HT := Lib.hid ht
  have HP := Lib.hid hp
  have HA := Lib.hid ha
  have HFI := Lib.hid hfine
  have HFA := Lib.hid hfair
  have HND := Lib.hid hnd
  have HLm := Lib.hid ht.len
  have HLn := Lib.hid ha.len
  have hn9 : n ≤ 9 := by have := hfine.size; have := ha.len; omega
  obtain ⟨i0, hi, hz0, hz1, hz2⟩ := info_parts info_rcost
  clear ha ht hp hfine hfair hnd
  refine callsIn_of_wp Tryd.func119 rfl trivial ?_ rfl
  simp only [Tryd.ntmps119, List.size_toArray, List.length_cons, List.length_nil, Nat.reduceAdd, Nat.reduceSub, Array.replicate_succ, Array.replicate_zero, List.push_toArray, List.append_toArray, List.nil_append, List.cons_append]
  gi_wp2_with (first | (gi_at_make; refine wpListIn_make_all rfl _ _ 193 rfl 103 i0 _ rfl hi hz0 n rfl rfl (by rw [hz2]; omega) (by unfold maxLen; omega) ?_) | fail)
  have S0 : RCSt w #[.slice A n c, .slice A' m d] p (List.replicate n (some zeroC)) (((w.alloc (.cells #[.slice A n c, .slice A' m d] 25)).alloc (.cells #[.int .i64 p.pace, .int .i64 p.up, .int .i64 p.step] 107)).alloc (.cells (madeCells #[.int .i64 0, .int .i64 0, .int .i64 0, .int .i64 0] (n * 4)) 103)) := by
    have b := (((Below.refl w.heap.size w).alloc (Nat.le_refl _) (.cells #[.slice A n c, .slice A' m d] 25)).alloc (by simp) (.cells #[.int .i64 p.pace, .int .i64 p.up, .int .i64 p.step] 107)).alloc (by simp; omega) (.cells (madeCells #[.int .i64 0, .int .i64 0, .int .i64 0, .int .i64 0] (n * 4)) 103)
    have X := ((Blk.new w 25 #[.slice A n c, .slice A' m d]).alloc (.cells #[.int .i64 p.pace, .int .i64 p.up, .int .i64 p.step] 107)).alloc (.cells (madeCells #[.int .i64 0, .int .i64 0, .int .i64 0, .int .i64 0] (n * 4)) 103)
    have Y := (Blk.new (w.alloc (.cells #[.slice A n c, .slice A' m d] 25)) 107 #[.int .i64 p.pace, .int .i64 p.up, .int .i64 p.step]).alloc (.cells (madeCells #[.int .i64 0, .int .i64 0, .int .i64 0, .int .i64 0] (n * 4)) 103)
    have U := Blk.new ((w.alloc (.cells #[.slice A n c, .slice A' m d] 25)).alloc (.cells #[.int .i64 p.pace, .int .i64 p.up, .int .i64 p.step] 107)) 103 (madeCells #[.int .i64 0, .int .i64 0, .int .i64 0, .int .i64 0] (n * 4))
    rw [World.size_alloc] at Y
    rw [World.size_alloc, World.size_alloc, made_zero] at U
    rw [made_zero] at b X Y ⊢
    exact ⟨b, X, Y, U⟩
  have HS0 := Lib.hid S0
  clear S0
  generalize (((w.alloc (.cells #[.slice A n c, .slice A' m d] 25)).alloc (.cells #[.int .i64 p.pace, .int .i64 p.up, .int .i64 p.step] 107)).alloc (.cells (madeCells #[.int .i64 0, .int .i64 0, .int .i64 0, .int .i64 0] (n * 4)) 103)) = w0 at *
  gi_loopw [10] (fun vi wr => ∃ (k : Nat) (E : List (Option Cost)), k ≤ n ∧ vi = .int .i64 k ∧ Hid (RCSt w #[.slice A n c, .slice A' m d] p E wr ∧ E.length = n ∧ ∀ (i : Nat) v, t.places[i]? = some v → E[i]? = some (if i < k ∧ v ≠ to then none else some zeroC))) (fun vi _ => n - (intOf vi).toNat)
  case atStart =>
    refine ⟨0, _, Nat.zero_le _, rfl, Lib.hid ⟨HS0.out, List.length_replicate, fun i v hv => ?_⟩⟩
    rw [if_neg (by omega), List.getElem?_replicate, if_pos (by have := (List.getElem?_eq_some_iff.1 hv).1; have := HLn.out; omega)]
  case round =>
    obtain ⟨k, E, hk, rfl, HS⟩ := hrel
    have t0 := HS.out.1.tb.cell 0
    have t1 := HS.out.1.tb.cell 1
    by_cases hlt : k < n
    · obtain ⟨b, off, x, rfl, hb, hx, hcell⟩ := (HA.out.below HS.out.1.bel).cell hlt
      have hbl : b < wr.heap.size := Nat.lt_of_lt_of_le hb HS.out.1.bel.size
      have HX := Lib.hid hx
      have HE : Hid (E[k]? = some (some zeroC)) := Lib.hid (by rw [HS.out.2.2 k x hx, if_neg (by omega)])
      have e1 : ((k + 1 : Nat) : Int) = (k : Int) + 1 := by omega
      clear hx hb
      have c0 := (HS.out.1.cell HE.out).1
      have f0 := HS.out.1.eb.frozen (k * 4)
      by_cases hne : x = to
      · have HNE := Lib.hid hne
        subst hne
        gi_wp2
        refine ⟨⟨k + 1, E, by omega, by rw [e1], Lib.hid ⟨HS.out.1, HS.out.2.1, fun i v hv => ?_⟩⟩, by simp [intOf]; omega⟩
        rw [HS.out.2.2 i v hv]
        by_cases hik : i = k
        · subst hik
          rw [HX.out] at hv
          cases hv
          rw [if_neg (by omega), if_neg (fun h => h.2 rfl)]
        · by_cases hik2 : i < k
          · simp [hik2, show i < k + 1 by omega]
          · simp [hik2, show ¬ i < k + 1 by omega]
      · have HNE := Lib.hid hne
        have HSP := Lib.hid (HS.out.1.inf HE.out)
        gi_wp2
        refine ⟨⟨k + 1, E.set k none, by omega, by rw [e1], Lib.hid ⟨HSP.out, by rw [List.length_set]; exact HS.out.2.1, fun i v hv => ?_⟩⟩, by simp [intOf]; omega⟩
        by_cases hik : i = k
        · subst hik
          rw [HX.out] at hv
          cases hv
          rw [if_pos ⟨by omega, HNE.out⟩, List.getElem?_set_self (by rw [HS.out.2.1]; exact hlt)]
        · rw [List.getElem?_set_ne (Ne.symm hik), HS.out.2.2 i v hv]
          by_cases hik2 : i < k
          · simp [hik2, show i < k + 1 by omega]
          · simp [hik2, show ¬ i < k + 1 by omega]
    · obtain rfl : k = n := by omega
      have HE : Hid (BSt t dk p to 0 0 0 0 E) := Lib.hid (BSt.start (by rw [HS.out.2.1, HLn.out]) fun i v hv => by
        have hi' : i < k := by rw [← HLn.out]; exact (List.getElem?_eq_some_iff.1 hv).1
        rw [HS.out.2.2 i v hv]
        by_cases e : v = to
        · rw [if_neg (fun h => h.2 e), if_pos e]
        · rw [if_pos ⟨hi', e⟩, if_neg e])
      have HS1 := Lib.hid HS.out.1
      clear HS
      gi_wp2
      gi_loopg [11] 9 (fun g vc wr => ∃ (ch : Bool) (q M : Nat) (E : List (Option Cost)), vc = .bool ch ∧ (g = if ch then 9 - q else 0) ∧ (ch = true → q ≤ 8) ∧ Hid (RCSt w #[.slice A k c, .slice A' m d] p E wr ∧ BSt t dk p to q 0 0 M E ∧ M ≤ q * 180 ∧ q ≤ 9 ∧ (ch = false → Stable t dk p E k 0)))
      case atStart => exact ⟨true, 0, 0, E, rfl, rfl, fun _ => Nat.zero_le _, Lib.hid ⟨HS1.out, HE.out, Nat.zero_le _, Nat.zero_le _, fun h => by cases h⟩⟩
      case round =>
        obtain ⟨ch, q, M, E1, rfl, hg, hq8, HV⟩ := hrel
        clear HS1 HE
        cases ch with
        | false =>
          gi_wp2
          refine bodyPost_ret (v := .slice (some ⟨w.heap.size + 1 + 1, 0, none⟩) k k) (by simp [results, Tryd.results119, go_sem]) rfl ?_
          have hB := HV.out.2.1
          have hlen : E1.length = k := by rw [hB.len, HLn.out]
          refine ⟨_, E1, rfl, ⟨by rw [eVals_len, hlen], fun h0 => ⟨_, rfl, HV.out.1.eb.lt, fun j u hu => ?_⟩⟩, hB.costs (by rw [HLn.out]; exact HV.out.2.2.2.2 trivial) HFI.out, fun i d hd => hB.little HFI.out HFA.out (by have := HV.out.2.2.1; have := HV.out.2.2.2.1; omega) hd, HV.out.1.bel⟩
          have ha : ((⟨w.heap.size + 1 + 1, 0, none⟩ : Addr).add j) = ⟨w.heap.size + 1 + 1, j, none⟩ := by
            unfold Addr.add
            by_cases hj : j = 0
            · simp [hj]
            · simp [hj]
          rw [ha, HV.out.1.eb.cell, List.getElem?_toArray]
          exact hu
        | true =>
          have hq : q ≤ 8 := hq8 rfl
          have hg' : gk = 9 - q := by simpa using hg
          clear hg hq8
          gi_wp2
          gi_loopw [11, 12] (fun vc vi wr => ∃ (ch : Bool) (i M : Nat) (E : List (Option Cost)), vc = .bool ch ∧ vi = .int .i64 i ∧ i ≤ k ∧ Hid (RCSt w #[.slice A k c, .slice A' m d] p E wr ∧ BSt t dk p to q i 0 M E ∧ M ≤ q * 180 + i * 20 ∧ (ch = false → Stable t dk p E i 0) ∧ (ch = true → q ≤ 7))) (fun _ vi _ => k - (intOf vi).toNat)
          case atStart => exact ⟨false, 0, M, E1, rfl, rfl, Nat.zero_le _, Lib.hid ⟨HV.out.1, HV.out.2.1, by have := HV.out.2.2.1; omega, fun _ i' v hv j' x hx hor => by omega, fun h => by cases h⟩⟩
          case round =>
            obtain ⟨ch, i, M2, E2, rfl, rfl, hik, HW⟩ := hrel
            clear HV
            have t0 := HW.out.1.tb.cell 0
            have t1 := HW.out.1.tb.cell 1
            by_cases hlt : i < k
            · gi_wp2
              gi_loopw [11, 50] (fun vc vj wr => ∃ (ch : Bool) (j M : Nat) (E : List (Option Cost)), vc = .bool ch ∧ vj = .int .i64 j ∧ j ≤ m ∧ Hid (RCSt w #[.slice A k c, .slice A' m d] p E wr ∧ BSt t dk p to q i j M E ∧ M ≤ q * 180 + i * 20 + j ∧ (ch = false → Stable t dk p E i j) ∧ (ch = true → q ≤ 7))) (fun _ vj _ => m - (intOf vj).toNat)
              case atStart => exact ⟨ch, 0, M2, E2, rfl, rfl, Nat.zero_le _, HW⟩
              case round =>
                obtain ⟨ch, j, M3, E3, rfl, rfl, hjm, HU⟩ := hrel
                clear HW
                by_cases hjl : j < m
                · obtain ⟨b, off, x, rfl, hb, hx, l0, l1, l2, l3, l4⟩ := (HT.out.below HU.out.1.bel).cell hjl
                  have hbl : b < wr.heap.size := Nat.lt_of_lt_of_le hb HU.out.1.bel.size
                  have HX := Lib.hid hx
                  clear hx hb t0 t1
                  gi_wp2
                  have HS1 : Hid (RCSt w #[.slice A k c, .slice (some ⟨b, off, none⟩) m d] p E3 (wr.alloc (.cells #[.int .i64 x.id, .int .i64 x.fr, .int .i64 x.to, .int .i64 x.steps, .int .i64 x.paces] 45))) := Lib.hid (HU.out.1.below ((Below.refl _ _).alloc (Nat.le_refl _) _))
                  have HLB : Hid (Blk (wr.alloc (.cells #[.int .i64 x.id, .int .i64 x.fr, .int .i64 x.to, .int .i64 x.steps, .int .i64 x.paces] 45)) wr.heap.size 45 #[.int .i64 x.id, .int .i64 x.fr, .int .i64 x.to, .int .i64 x.steps, .int .i64 x.paces]) := Lib.hid (Blk.new _ _ _)
                  clear l0 l1 l2 l3 l4
                  generalize (wr.alloc (.cells #[.int .i64 x.id, .int .i64 x.fr, .int .i64 x.to, .int .i64 x.steps, .int .i64 x.paces] 45)) = w1 at *
                  have HXM : Hid (x ∈ t.links) := Lib.hid (List.mem_of_getElem? HX.out)
                  have HFit : Hid (Fit x) := Lib.hid ⟨HFI.out.steps x HXM.out, HFI.out.paces x HXM.out⟩
                  obtain ⟨b3, off3, v, rfl, hb3, hv3, _⟩ := (HA.out.below HS1.out.bel).cell hlt
                  have HV3 := Lib.hid hv3
                  have hb3l : b3 < w1.heap.size := Nat.lt_of_lt_of_le hb3 HS1.out.bel.size
                  have hlbl : wr.heap.size < w1.heap.size := HLB.out.lt
                  have htl : w.heap.size < w1.heap.size := HS1.out.tb.lt
                  have hpl : w.heap.size + 1 < w1.heap.size := HS1.out.pb.lt
                  have hel : w.heap.size + 1 + 1 < w1.heap.size := HS1.out.eb.lt
                  have HPC : Hid (∀ W, Below w1.heap.size w1 W → W.cell? ⟨b3, off3 + i, none⟩ = some (.int .i64 v)) := Lib.hid (fun W hb => by
                    obtain ⟨b4, o4, y, e, _, hy, h⟩ := ((HA.out.below HS1.out.bel).more HS1.out.bel.size |>.below hb).cell hlt
                    cases e
                    obtain rfl : y = v := Option.some.inj (hy.symm.trans HV3.out)
                    exact h)
                  have hiI : (0 : Int) ≤ (i : Int) ∧ (i : Int) < (k : Int) := by omega
                  clear hb3 hv3
                  rcases hld : leads dk p x v with _ | ⟨v', cx⟩
                  · have HLD := Lib.hid hld
                    clear hld
                    refine wpIn_region_new (AF := ?AF1) (fun b => .pointer (some ⟨b, 0, none⟩)) 103 #[.int .i64 0, .int .i64 0, .int .i64 0, .int .i64 0] [0, 1, 2, 3, 4, 5, 6, 7, 8, 9, 10, 11, 12, 14, 16] [15] 13 [true, true, true, true, true, true, true, true, true, true, true, true, true, false, true, false, true] [false, false, false, false, false, false, false, false, false, false, false, false, false, false, false, true, false] (by kernel_rfl) (by kernel_rfl) (by kernel_rfl) (by kernel_rfl) (by kernel_rfl) (below_drewN (Below.refl _ _) 1) rfl rfl rfl ?hq1 ?hf1 ?ht1
                    case hq1 =>
                      rintro σ hσ of hof hcl
                      have HOF := Lib.hid hof
                      have HCL := Lib.hid hcl
                      clear hof hcl
                      have l0 : ∀ z, (of z).cell? ⟨wr.heap.size, 0, none⟩ = some (.int .i64 x.id) := fun z => (HLB.out.below (HOF.out z) HLB.out.lt).cell 0
                      have l1 : ∀ z, (of z).cell? ⟨wr.heap.size, 1, none⟩ = some (.int .i64 x.fr) := fun z => (HLB.out.below (HOF.out z) HLB.out.lt).cell 1
                      have l2 : ∀ z, (of z).cell? ⟨wr.heap.size, 2, none⟩ = some (.int .i64 x.to) := fun z => (HLB.out.below (HOF.out z) HLB.out.lt).cell 2
                      have l3 : ∀ z, (of z).cell? ⟨wr.heap.size, 3, none⟩ = some (.int .i64 x.steps) := fun z => (HLB.out.below (HOF.out z) HLB.out.lt).cell 3
                      have l4 : ∀ z, (of z).cell? ⟨wr.heap.size, 4, none⟩ = some (.int .i64 x.paces) := fun z => (HLB.out.below (HOF.out z) HLB.out.lt).cell 4
                      have t0 : ∀ z, (of z).cell? ⟨w.heap.size, 0, none⟩ = some (.slice (some ⟨b3, off3, none⟩) k c) := fun z => (HS1.out.tb.below (HOF.out z) HS1.out.tb.lt).cell 0
                      have t1 : ∀ z, (of z).cell? ⟨w.heap.size, 1, none⟩ = some (.slice (some ⟨b, off, none⟩) m d) := fun z => (HS1.out.tb.below (HOF.out z) HS1.out.tb.lt).cell 1
                      have p0 : ∀ z, (of z).cell? ⟨w.heap.size + 1, 0, none⟩ = some (.int .i64 p.pace) := fun z => (HS1.out.pb.below (HOF.out z) HS1.out.pb.lt).cell 0
                      have p1 : ∀ z, (of z).cell? ⟨w.heap.size + 1, 1, none⟩ = some (.int .i64 p.up) := fun z => (HS1.out.pb.below (HOF.out z) HS1.out.pb.lt).cell 1
                      have p2 : ∀ z, (of z).cell? ⟨w.heap.size + 1, 2, none⟩ = some (.int .i64 p.step) := fun z => (HS1.out.pb.below (HOF.out z) HS1.out.pb.lt).cell 2
                      have v0 : ∀ z, (of z).cell? ⟨b3, off3 + i, none⟩ = some (.int .i64 v) := fun z => HPC.out _ (HOF.out z)
                      have hfw : ∀ f, Fence.wide.fn f := fun _ => trivial
                      simp only [pickB]
                      repeat (gi_big_quiet_step (exact dleads_none x v dk p HLD.out HFit.out HP.out HOF.out HCL.out _))
                      refine wpQuietIn_nil ?_
                      exact rfl
                    case hf1 =>
                      intro W hb
                      exact ⟨fun f hf => trivial, rfl⟩
                    case ht1 =>
                      intro cb W hb hbb hR
                      have HB := Lib.hid hb
                      have HBB := Lib.hid hbb
                      have HR4 := Lib.hid hR
                      have hbl1 := hR.lt
                      have c0 := hR.cell 0
                      have c1 := hR.cell 1
                      have c2 := hR.cell 2
                      have c3 := hR.cell 3
                      have d0 := hR.frozen 0
                      have d1 := hR.frozen 1
                      have d2 := hR.frozen 2
                      have d3 := hR.frozen 3
                      clear hb hbb hR
                      simp only [pickB]
                      refine wpE_cons ?_
                      gi_wp2
                      have R5 := Lib.hid (ret4 HR4.out HB.out HBB.out (.int .i64 0) (.int .i64 0) (.int .i64 0) (.int .i64 0))
                      refine ⟨R5.out.2, wpE_nil ?_⟩
                      have HW5 := Lib.hid (HS1.out.below R5.out.2)
                      generalize (((W.setCell ⟨cb, 0, none⟩ (.int .i64 0)).setCell ⟨cb, 1, none⟩ (.int .i64 0)).setCell ⟨cb, 2, none⟩ (.int .i64 0)).setCell ⟨cb, 3, none⟩ (.int .i64 0) = W5 at *
                      clear c0 c1 c2 c3 d0 d1 d2 d3
                      have hbl5 := R5.out.1.lt
                      gi_wp2
                      have e1 : ((j + 1 : Nat) : Int) = (j : Int) + 1 := by omega
                      have hno : ∀ n cx, leads dk p x v = some (n, cx) → ∀ (i2 : Nat) d, t.places[i2]? = some n → E3[i2]? = some (some d) → leE E3 i (addC cx d) := fun n cx h => by
                        rw [HLD.out] at h
                        cases h
                      exact ⟨⟨ch, j + 1, M3, E3, rfl, by rw [e1], by omega, Lib.hid ⟨HW5.out, HU.out.2.1.skip HX.out HV3.out hno HFI.out, by have := HU.out.2.2.1; omega, fun h => (HU.out.2.2.2.1 h).step HX.out HV3.out hno, HU.out.2.2.2.2⟩⟩, by simp [intOf]; omega⟩
                  · have HLD := Lib.hid hld
                    clear hld
                    refine wpIn_region_new (AF := ?AF2) (fun b => .pointer (some ⟨b, 0, none⟩)) 103 #[.int .i64 0, .int .i64 0, .int .i64 0, .int .i64 0] [0, 1, 2, 3, 4, 5, 6, 7, 8, 9, 10, 11, 12, 14, 16] [15] 13 [true, true, true, true, true, true, true, true, true, true, true, true, true, false, true, false, true] [false, false, false, false, false, false, false, false, false, false, false, false, false, false, false, true, false] (by kernel_rfl) (by kernel_rfl) (by kernel_rfl) (by kernel_rfl) (by kernel_rfl) (below_drewN (Below.refl _ _) 1) rfl rfl rfl ?hq2 ?hf2 ?ht2
                    case hq2 =>
                      rintro σ hσ of hof hcl
                      have HOF := Lib.hid hof
                      have HCL := Lib.hid hcl
                      clear hof hcl
                      have l0 : ∀ z, (of z).cell? ⟨wr.heap.size, 0, none⟩ = some (.int .i64 x.id) := fun z => (HLB.out.below (HOF.out z) HLB.out.lt).cell 0
                      have l1 : ∀ z, (of z).cell? ⟨wr.heap.size, 1, none⟩ = some (.int .i64 x.fr) := fun z => (HLB.out.below (HOF.out z) HLB.out.lt).cell 1
                      have l2 : ∀ z, (of z).cell? ⟨wr.heap.size, 2, none⟩ = some (.int .i64 x.to) := fun z => (HLB.out.below (HOF.out z) HLB.out.lt).cell 2
                      have l3 : ∀ z, (of z).cell? ⟨wr.heap.size, 3, none⟩ = some (.int .i64 x.steps) := fun z => (HLB.out.below (HOF.out z) HLB.out.lt).cell 3
                      have l4 : ∀ z, (of z).cell? ⟨wr.heap.size, 4, none⟩ = some (.int .i64 x.paces) := fun z => (HLB.out.below (HOF.out z) HLB.out.lt).cell 4
                      have t0 : ∀ z, (of z).cell? ⟨w.heap.size, 0, none⟩ = some (.slice (some ⟨b3, off3, none⟩) k c) := fun z => (HS1.out.tb.below (HOF.out z) HS1.out.tb.lt).cell 0
                      have t1 : ∀ z, (of z).cell? ⟨w.heap.size, 1, none⟩ = some (.slice (some ⟨b, off, none⟩) m d) := fun z => (HS1.out.tb.below (HOF.out z) HS1.out.tb.lt).cell 1
                      have p0 : ∀ z, (of z).cell? ⟨w.heap.size + 1, 0, none⟩ = some (.int .i64 p.pace) := fun z => (HS1.out.pb.below (HOF.out z) HS1.out.pb.lt).cell 0
                      have p1 : ∀ z, (of z).cell? ⟨w.heap.size + 1, 1, none⟩ = some (.int .i64 p.up) := fun z => (HS1.out.pb.below (HOF.out z) HS1.out.pb.lt).cell 1
                      have p2 : ∀ z, (of z).cell? ⟨w.heap.size + 1, 2, none⟩ = some (.int .i64 p.step) := fun z => (HS1.out.pb.below (HOF.out z) HS1.out.pb.lt).cell 2
                      have v0 : ∀ z, (of z).cell? ⟨b3, off3 + i, none⟩ = some (.int .i64 v) := fun z => HPC.out _ (HOF.out z)
                      have hfw : ∀ f, Fence.wide.fn f := fun _ => trivial
                      simp only [pickB]
                      repeat (gi_big_quiet_step (exact dleads_some x v dk p v' cx HLD.out HFit.out HP.out HOF.out HCL.out _))
                      refine wpQuietIn_nil ?_
                      exact rfl
                    case hf2 =>
                      intro W hb
                      exact ⟨fun f hf => trivial, rfl⟩
                    case ht2 =>
                      intro cb W hb hbb hR
                      have HB := Lib.hid hb
                      have HBB := Lib.hid hbb
                      have HR4 := Lib.hid hR
                      have hbl1 := hR.lt
                      have c0 := hR.cell 0
                      have c1 := hR.cell 1
                      have c2 := hR.cell 2
                      have c3 := hR.cell 3
                      have d0 := hR.frozen 0
                      have d1 := hR.frozen 1
                      have d2 := hR.frozen 2
                      have d3 := hR.frozen 3
                      clear hb hbb hR
                      simp only [pickB]
                      refine wpE_cons ?_
                      gi_wp2
                      have R5 := Lib.hid (ret4 HR4.out HB.out HBB.out (.int .i64 cx.a) (.int .i64 cx.b) (.int .i64 cx.c) (.int .i64 cx.d))
                      refine ⟨R5.out.2, wpE_nil ?_⟩
                      have HW5 := Lib.hid (HS1.out.below R5.out.2)
                      generalize (((W.setCell ⟨cb, 0, none⟩ (.int .i64 cx.a)).setCell ⟨cb, 1, none⟩ (.int .i64 cx.b)).setCell ⟨cb, 2, none⟩ (.int .i64 cx.c)).setCell ⟨cb, 3, none⟩ (.int .i64 cx.d) = W5 at *
                      clear c0 c1 c2 c3 d0 d1 d2 d3
                      have hbl5 := R5.out.1.lt
                      obtain ⟨i2, hpi, hi2, hi2l⟩ := placeI_at (leads_ends HXM.out HFI.out HLD.out).2
                      have HPI := Lib.hid hpi
                      have HI2 := Lib.hid hi2
                      have hi2k : i2 < k := by have := HLn.out; omega
                      obtain ⟨r, hr⟩ : ∃ r, E3[i2]? = some r := ⟨_, List.getElem?_eq_getElem (by rw [HU.out.2.1.len]; exact hi2l)⟩
                      have HR := Lib.hid hr
                      have HCX := Lib.hid (leads_cost HXM.out HFI.out HFA.out HLD.out)
                      have HLT : Hid (∀ (q : Nat) d, E3[q]? = some (some d) → Little d) := Lib.hid (fun q d hd => HU.out.2.1.little HFI.out HFA.out (by have := HU.out.2.2.1; omega) hd)
                      have HSM : Hid (Small cx ∧ Small (entC r)) := Lib.hid ⟨by
                        have h1 := HCX.out
                        exact ⟨by omega, by omega, by omega, by omega⟩, Small.ent fun d hd => HLT.out i2 d (by rw [HR.out, hd])⟩
                      have hi2I : (0 : Int) ≤ (i2 : Int) ∧ (i2 : Int) < (k : Int) := by omega
                      clear hpi hi2 hi2l hr
                      gi_wp2
                      have hcb5 : cb < W5.heap.size := hbl5
                      have htl5 : w.heap.size < W5.heap.size := HW5.out.tb.lt
                      have hpl5 : w.heap.size + 1 < W5.heap.size := HW5.out.pb.lt
                      have hel5 : w.heap.size + 1 + 1 < W5.heap.size := HW5.out.eb.lt
                      refine wpIn_region_new (AF := ?AF3) (fun b => .pointer (some ⟨b, 0, none⟩)) 103 #[.int .i64 0, .int .i64 0, .int .i64 0, .int .i64 0] [0, 1, 2, 3, 4, 5, 6, 7] [9] 8 [true, true, true, true, true, true, true, true, false, false] [false, false, false, false, false, false, false, false, false, true] (by kernel_rfl) (by kernel_rfl) (by kernel_rfl) (by kernel_rfl) (by kernel_rfl) (below_drewN (Below.refl _ _) 1) rfl rfl rfl ?hq3 ?hf3 ?ht3
                      case hq3 =>
                        rintro σ hσ of hof hcl
                        have HOF := Lib.hid hof
                        have HCL := Lib.hid hcl
                        clear hof hcl
                        have q0 : ∀ z, (of z).cell? ⟨cb, 0, none⟩ = some (.int .i64 cx.a) := fun z => (R5.out.1.below (HOF.out z) hbl5).cell 0
                        have q1 : ∀ z, (of z).cell? ⟨cb, 1, none⟩ = some (.int .i64 cx.b) := fun z => (R5.out.1.below (HOF.out z) hbl5).cell 1
                        have q2 : ∀ z, (of z).cell? ⟨cb, 2, none⟩ = some (.int .i64 cx.c) := fun z => (R5.out.1.below (HOF.out z) hbl5).cell 2
                        have q3 : ∀ z, (of z).cell? ⟨cb, 3, none⟩ = some (.int .i64 cx.d) := fun z => (R5.out.1.below (HOF.out z) hbl5).cell 3
                        have t0 : ∀ z, (of z).cell? ⟨w.heap.size, 0, none⟩ = some (.slice (some ⟨b3, off3, none⟩) k c) := fun z => (HW5.out.tb.below (HOF.out z) HW5.out.tb.lt).cell 0
                        have t1 : ∀ z, (of z).cell? ⟨w.heap.size, 1, none⟩ = some (.slice (some ⟨b, off, none⟩) m d) := fun z => (HW5.out.tb.below (HOF.out z) HW5.out.tb.lt).cell 1
                        have v0 : ∀ z, (of z).cell? ⟨w.heap.size + 1 + 1, i2 * 4, none⟩ = some (.int .i64 (entC r).a) := fun z => ((HW5.out.below (HOF.out z)).cell HR.out).1
                        have v1 : ∀ z, (of z).cell? ⟨w.heap.size + 1 + 1, i2 * 4 + 1, none⟩ = some (.int .i64 (entC r).b) := fun z => ((HW5.out.below (HOF.out z)).cell HR.out).2.1
                        have v2 : ∀ z, (of z).cell? ⟨w.heap.size + 1 + 1, i2 * 4 + 2, none⟩ = some (.int .i64 (entC r).c) := fun z => ((HW5.out.below (HOF.out z)).cell HR.out).2.2.1
                        have v3 : ∀ z, (of z).cell? ⟨w.heap.size + 1 + 1, i2 * 4 + 3, none⟩ = some (.int .i64 (entC r).d) := fun z => ((HW5.out.below (HOF.out z)).cell HR.out).2.2.2
                        have hfw : ∀ f, Fence.wide.fn f := fun _ => trivial
                        simp only [pickB]
                        repeat (gi_big_quiet_step (first | exact place_cls (some ⟨b3, off3, none⟩) k c (some ⟨b, off, none⟩) m d t v' i2 HPI.out (by unfold maxLen; omega) w.heap.size HW5.out.bel.size (HA.out.below HW5.out.bel) HOF.out HCL.out _ | exact rplus_cls cx (entC r) HSM.out.1 HSM.out.2 HOF.out HCL.out _))
                        refine wpQuietIn_nil ?_
                        exact rfl
                      case hf3 =>
                        intro W hb
                        exact ⟨fun f hf => trivial, rfl⟩
                      case ht3 =>
                        intro sb W hb hbb hR
                        have HB3 := Lib.hid hb
                        have HBB3 := Lib.hid hbb
                        have HR43 := Lib.hid hR
                        have hbl1 := hR.lt
                        have c0 := hR.cell 0
                        have c1 := hR.cell 1
                        have c2 := hR.cell 2
                        have c3 := hR.cell 3
                        have d0 := hR.frozen 0
                        have d1 := hR.frozen 1
                        have d2 := hR.frozen 2
                        have d3 := hR.frozen 3
                        clear hb hbb hR
                        simp only [pickB]
                        refine wpE_cons ?_
                        gi_wp2
                        have R6 := Lib.hid (ret4 HR43.out HB3.out HBB3.out (.int .i64 (addC cx (entC r)).a) (.int .i64 (addC cx (entC r)).b) (.int .i64 (addC cx (entC r)).c) (.int .i64 (addC cx (entC r)).d))
                        refine ⟨R6.out.2, wpE_nil ?_⟩
                        have HW6 := Lib.hid (HW5.out.below R6.out.2)
                        generalize (((W.setCell ⟨sb, 0, none⟩ (.int .i64 (addC cx (entC r)).a)).setCell ⟨sb, 1, none⟩ (.int .i64 (addC cx (entC r)).b)).setCell ⟨sb, 2, none⟩ (.int .i64 (addC cx (entC r)).c)).setCell ⟨sb, 3, none⟩ (.int .i64 (addC cx (entC r)).d) = W6 at *
                        clear c0 c1 c2 c3 d0 d1 d2 d3
                        have hbl6 := R6.out.1.lt
                        obtain ⟨s, hs⟩ : ∃ s, addC cx (entC r) = s := ⟨_, rfl⟩
                        rw [hs] at R6 ⊢
                        have HSS := Lib.hid hs
                        clear hs
                        have e1 : ((j + 1 : Nat) : Int) = (j : Int) + 1 := by omega
                        obtain ⟨r2, hr2⟩ : ∃ r2, E3[i]? = some r2 := ⟨_, List.getElem?_eq_getElem (by rw [HU.out.2.1.len, HLn.out]; exact hlt)⟩
                        have HR2 := Lib.hid hr2
                        clear hr2
                        have HUQ : Hid (∀ (i' : Nat), t.places[i']? = some v' → i' = i2) := Lib.hid (fun i' h => by
                          have hl := (List.getElem?_eq_some_iff.1 h).1
                          exact (List.getElem?_inj hl HND.out).1 (h.trans HI2.out.symm))
                        have hsbl : sb < W6.heap.size := hbl6
                        have hel6 : w.heap.size + 1 + 1 < W6.heap.size := HW6.out.eb.lt
                        cases r with
                        | none =>
                          have hsa : decide (s.a < 1000000000) = false := by
                            have h1 := HCX.out
                            have h2 : s.a = cx.a + 1000000000 := by rw [← HSS.out]; rfl
                            simp
                            omega
                          have HNO : Hid (∀ n cx, leads dk p x v = some (n, cx) → ∀ (i2 : Nat) d, t.places[i2]? = some n → E3[i2]? = some (some d) → leE E3 i (addC cx d)) := Lib.hid (fun n' cx' h i' d' hp' he' => by
                            rw [HLD.out] at h
                            cases h
                            obtain rfl := HUQ.out i' hp'
                            rw [HR.out] at he'
                            cases he')
                          gi_wp2
                          refine wpIn_region_old (AF := ?AF4) [0, 1, 2, 3, 4, 5, 6, 7, 8, 9, 10] [] [true, true, true, true, true, true, true, true, true, true, true] [false, false, false, false, false, false, false, false, false, false, false] (by kernel_rfl) (by kernel_rfl) (by kernel_rfl) (by kernel_rfl) (by kernel_rfl) (below_drewN (Below.refl _ _) 1) ?hq4 ?ht4
                          case hq4 =>
                            rintro σ hσ of hof hcl
                            have HOF := Lib.hid hof
                            have HCL := Lib.hid hcl
                            clear hof hcl
                            have q0 : ∀ z, (of z).cell? ⟨sb, 0, none⟩ = some (.int .i64 s.a) := fun z => (R6.out.1.below (HOF.out z) hbl6).cell 0
                            have hfw : ∀ f, Fence.wide.fn f := fun _ => trivial
                            simp only [pickB]
                            repeat (gi_big_quiet_step (fail))
                            refine wpQuietIn_nil ?_
                            exact rfl
                          case ht4 =>
                            intro W hb
                            have HW7 := Lib.hid (HW6.out.below hb)
                            have HS7 := Lib.hid (R6.out.1.below hb hbl6)
                            have hbl7 : sb < W.heap.size := HS7.out.lt
                            clear hb
                            simp only [pickB]
                            refine wpE_nil ?_
                            gi_wp2
                            exact ⟨⟨ch, j + 1, M3, E3, rfl, by rw [e1], by omega, Lib.hid ⟨HW7.out, HU.out.2.1.skip HX.out HV3.out HNO.out HFI.out, by have := HU.out.2.2.1; omega, fun h => (HU.out.2.2.2.1 h).step HX.out HV3.out HNO.out, HU.out.2.2.2.2⟩⟩, by simp [intOf]; omega⟩
                        | some d1 =>
                          have hsb : s.a < 1000000000 := by
                            have h1 := HCX.out
                            have h2 : s.a = cx.a + d1.a := by rw [← HSS.out]; rfl
                            have h3 := (HLT.out i2 d1 HR.out).a
                            omega
                          have hsa : decide (s.a < 1000000000) = true := by simpa using hsb
                          have HSB := Lib.hid hsb
                          clear hsb
                          cases hls : lessC s (entC r2) with
                          | false =>
                            have HLS := Lib.hid hls
                            clear hls
                            have HNO : Hid (∀ n cx, leads dk p x v = some (n, cx) → ∀ (i2 : Nat) d, t.places[i2]? = some n → E3[i2]? = some (some d) → leE E3 i (addC cx d)) := Lib.hid (fun n' cx' h i' d' hp' he' => by
                              rw [HLD.out] at h
                              cases h
                              obtain rfl := HUQ.out i' hp'
                              rw [HR.out] at he'
                              cases he'
                              have h1 := HLS.out
                              rw [lessC_cmp] at h1
                              have h2 := of_decide_eq_false h1
                              have hss : addC cx d1 = s := HSS.out
                              rw [hss]
                              cases hr2 : r2 with
                              | none =>
                                rw [hr2] at h2
                                have h3 := HSB.out
                                simp [entC, infC, cmpL, Cost.list, h3] at h2
                              | some e2 =>
                                rw [hr2] at h2
                                refine ⟨e2, by rw [HR2.out, hr2], ?_⟩
                                have h3 := cmpL_swap s.list e2.list
                                simp only [entC, Option.getD_some] at h2
                                omega)
                            gi_wp2
                            refine wpIn_region_old (AF := ?AF5) [0, 1, 2, 3, 4, 5, 6, 7, 8, 9, 10] [] [true, true, true, true, true, true, true, true, true, true, true] [false, false, false, false, false, false, false, false, false, false, false] (by kernel_rfl) (by kernel_rfl) (by kernel_rfl) (by kernel_rfl) (by kernel_rfl) (below_drewN (Below.refl _ _) 1) ?hq5 ?ht5
                            case hq5 =>
                              rintro σ hσ of hof hcl
                              have HOF := Lib.hid hof
                              have HCL := Lib.hid hcl
                              clear hof hcl
                              have q0 : ∀ z, (of z).cell? ⟨sb, 0, none⟩ = some (.int .i64 s.a) := fun z => (R6.out.1.below (HOF.out z) hbl6).cell 0
                              have q1 : ∀ z, (of z).cell? ⟨sb, 1, none⟩ = some (.int .i64 s.b) := fun z => (R6.out.1.below (HOF.out z) hbl6).cell 1
                              have q2 : ∀ z, (of z).cell? ⟨sb, 2, none⟩ = some (.int .i64 s.c) := fun z => (R6.out.1.below (HOF.out z) hbl6).cell 2
                              have q3 : ∀ z, (of z).cell? ⟨sb, 3, none⟩ = some (.int .i64 s.d) := fun z => (R6.out.1.below (HOF.out z) hbl6).cell 3
                              have v0 : ∀ z, (of z).cell? ⟨w.heap.size + 1 + 1, i * 4, none⟩ = some (.int .i64 (entC r2).a) := fun z => ((HW6.out.below (HOF.out z)).cell HR2.out).1
                              have v1 : ∀ z, (of z).cell? ⟨w.heap.size + 1 + 1, i * 4 + 1, none⟩ = some (.int .i64 (entC r2).b) := fun z => ((HW6.out.below (HOF.out z)).cell HR2.out).2.1
                              have v2 : ∀ z, (of z).cell? ⟨w.heap.size + 1 + 1, i * 4 + 2, none⟩ = some (.int .i64 (entC r2).c) := fun z => ((HW6.out.below (HOF.out z)).cell HR2.out).2.2.1
                              have v3 : ∀ z, (of z).cell? ⟨w.heap.size + 1 + 1, i * 4 + 3, none⟩ = some (.int .i64 (entC r2).d) := fun z => ((HW6.out.below (HOF.out z)).cell HR2.out).2.2.2
                              have hfw : ∀ f, Fence.wide.fn f := fun _ => trivial
                              simp only [pickB]
                              repeat (gi_big_quiet_step (exact rless_cls s (entC r2) _ HLS.out HOF.out HCL.out _))
                              refine wpQuietIn_nil ?_
                              exact rfl
                            case ht5 =>
                              intro W hb
                              have HW7 := Lib.hid (HW6.out.below hb)
                              have HS7 := Lib.hid (R6.out.1.below hb hbl6)
                              have hbl7 : sb < W.heap.size := HS7.out.lt
                              clear hb
                              simp only [pickB]
                              refine wpE_nil ?_
                              gi_wp2
                              exact ⟨⟨ch, j + 1, M3, E3, rfl, by rw [e1], by omega, Lib.hid ⟨HW7.out, HU.out.2.1.skip HX.out HV3.out HNO.out HFI.out, by have := HU.out.2.2.1; omega, fun h => (HU.out.2.2.2.1 h).step HX.out HV3.out HNO.out, HU.out.2.2.2.2⟩⟩, by simp [intOf]; omega⟩
                          | true =>
                            have HLS := Lib.hid hls
                            clear hls
                            have HLE : Hid (∀ e2, r2 = some e2 → cmpL s.list e2.list < 0) := Lib.hid (fun e2 he => by
                              have h1 := HLS.out
                              rw [lessC_cmp, he] at h1
                              exact of_decide_eq_true h1)
                            have HTK : Hid (BSt t dk p to q i (j + 1) (M3 + 1) (E3.set i (some s))) := Lib.hid (by
                              have h := HU.out.2.1.take HX.out HV3.out HLD.out HI2.out HR.out (fun e he => by
                                rw [HR2.out] at he
                                have h1 := HLE.out e (Option.some.inj he)
                                have hss : addC cx d1 = s := HSS.out
                                rw [hss]
                                omega) HND.out
                              have hss : addC cx d1 = s := HSS.out
                              rw [hss] at h
                              exact h)
                            have HQ7 : Hid (q ≤ 7) := Lib.hid (by
                              apply Decidable.byContradiction
                              intro hc
                              obtain ⟨l, hw, _⟩ := HU.out.2.1.sound i2 v' d1 HI2.out HR.out
                              have hw2 : Walk t dk p v to s (x.id :: l) := by
                                have hss : addC cx d1 = s := HSS.out
                                rw [← hss]
                                exact .cons HXM.out HLD.out hw
                              obtain ⟨e2, h1, h2⟩ := HU.out.2.1.settled (by omega) HFI.out HFA.out HV3.out hw2
                              rw [HR2.out] at h1
                              have h3 := HLE.out e2 (Option.some.inj h1)
                              have h4 := cmpL_swap s.list e2.list
                              omega)
                            gi_wp2
                            refine wpIn_region_old (AF := ?AF6) [0, 1, 2, 3, 4, 5, 6, 7, 8, 9, 10] [] [true, true, true, true, true, true, true, true, true, true, true] [false, false, false, false, false, false, false, false, false, false, false] (by kernel_rfl) (by kernel_rfl) (by kernel_rfl) (by kernel_rfl) (by kernel_rfl) (below_drewN (Below.refl _ _) 1) ?hq6 ?ht6
                            case hq6 =>
                              rintro σ hσ of hof hcl
                              have HOF := Lib.hid hof
                              have HCL := Lib.hid hcl
                              clear hof hcl
                              have q0 : ∀ z, (of z).cell? ⟨sb, 0, none⟩ = some (.int .i64 s.a) := fun z => (R6.out.1.below (HOF.out z) hbl6).cell 0
                              have q1 : ∀ z, (of z).cell? ⟨sb, 1, none⟩ = some (.int .i64 s.b) := fun z => (R6.out.1.below (HOF.out z) hbl6).cell 1
                              have q2 : ∀ z, (of z).cell? ⟨sb, 2, none⟩ = some (.int .i64 s.c) := fun z => (R6.out.1.below (HOF.out z) hbl6).cell 2
                              have q3 : ∀ z, (of z).cell? ⟨sb, 3, none⟩ = some (.int .i64 s.d) := fun z => (R6.out.1.below (HOF.out z) hbl6).cell 3
                              have v0 : ∀ z, (of z).cell? ⟨w.heap.size + 1 + 1, i * 4, none⟩ = some (.int .i64 (entC r2).a) := fun z => ((HW6.out.below (HOF.out z)).cell HR2.out).1
                              have v1 : ∀ z, (of z).cell? ⟨w.heap.size + 1 + 1, i * 4 + 1, none⟩ = some (.int .i64 (entC r2).b) := fun z => ((HW6.out.below (HOF.out z)).cell HR2.out).2.1
                              have v2 : ∀ z, (of z).cell? ⟨w.heap.size + 1 + 1, i * 4 + 2, none⟩ = some (.int .i64 (entC r2).c) := fun z => ((HW6.out.below (HOF.out z)).cell HR2.out).2.2.1
                              have v3 : ∀ z, (of z).cell? ⟨w.heap.size + 1 + 1, i * 4 + 3, none⟩ = some (.int .i64 (entC r2).d) := fun z => ((HW6.out.below (HOF.out z)).cell HR2.out).2.2.2
                              have hfw : ∀ f, Fence.wide.fn f := fun _ => trivial
                              simp only [pickB]
                              repeat (gi_big_quiet_step (exact rless_cls s (entC r2) _ HLS.out HOF.out HCL.out _))
                              refine wpQuietIn_nil ?_
                              exact rfl
                            case ht6 =>
                              intro W hb
                              have HW7 := Lib.hid (HW6.out.below hb)
                              have HS7 := Lib.hid (R6.out.1.below hb hbl6)
                              have hbl7 : sb < W.heap.size := HS7.out.lt
                              clear hb
                              simp only [pickB]
                              refine wpE_nil ?_
                              have c0 := HS7.out.cell 0
                              have c1 := HS7.out.cell 1
                              have c2 := HS7.out.cell 2
                              have c3 := HS7.out.cell 3
                              have f0 := HW7.out.eb.frozen (i * 4)
                              have f1 := HW7.out.eb.frozen (i * 4 + 1)
                              have f2 := HW7.out.eb.frozen (i * 4 + 2)
                              have f3 := HW7.out.eb.frozen (i * 4 + 3)
                              have o0 := (HW7.out.cell HR2.out).1
                              have o1 := (HW7.out.cell HR2.out).2.1
                              have o2 := (HW7.out.cell HR2.out).2.2.1
                              have o3 := (HW7.out.cell HR2.out).2.2.2
                              have HP8 := Lib.hid (HW7.out.put (k := i) (by rw [HU.out.2.1.len, HLn.out]; exact hlt) s)
                              gi_wp2
                              exact ⟨⟨true, j + 1, M3 + 1, E3.set i (some s), rfl, by rw [e1], by omega, Lib.hid ⟨HP8.out, HTK.out, by have := HU.out.2.2.1; omega, fun h => (by cases h), fun _ => HQ7.out⟩⟩, by simp [intOf]; omega⟩
                · obtain rfl : j = m := by omega
                  have e1 : ((i + 1 : Nat) : Int) = (i : Int) + 1 := by omega
                  gi_wp2
                  refine ⟨⟨ch, i + 1, M3, E3, rfl, by rw [e1], by omega, Lib.hid ⟨HU.out.1, HU.out.2.1.next (by rw [HLm.out]; exact Nat.le_refl _), by have := HU.out.2.2.1; omega, fun h => (HU.out.2.2.2.1 h).keep (by rw [HLm.out]; exact Nat.le_refl _), HU.out.2.2.2.2⟩⟩, by simp [intOf]; omega⟩
            · obtain rfl : i = k := by omega
              gi_wp2
              gi_roundg (if ch then 8 - q else 0)
              case rel => exact ⟨ch, q + 1, M2, E2, rfl, by cases ch <;> simp <;> omega, fun h => by have := HW.out.2.2.2.2 h; omega, Lib.hid ⟨HW.out.1, HW.out.2.1.round (by rw [HLn.out]; exact Nat.le_refl _), by have := HW.out.2.2.1; omega, by omega, fun h => HW.out.2.2.2.1 h⟩⟩
              case measure => rw [hg']; split <;> omega

theorem rcosts_any (A : Option Addr) (n c : Nat) (A' : Option Addr) (m d : Nat) (p : Price) (t : Town) (dk : Bool) (to : Int) (w : World)
    (hm : m ≤ 20) (ha : IntsAt w w.heap.size A n t.places) (ht : LinksAt w w.heap.size A' m t.links) (hp : Cheap p) (hfine : Fine t) (hfair : Fair p) (hnd : t.places.Nodup) :
    Calls Tryd.prog 119 #[.agg #[.slice A n c, .slice A' m d], .int .i64 to, .bool dk, .agg #[.int .i64 p.pace, .int .i64 p.up, .int .i64 p.step]] w (RCostsOut w t dk p to n) :=
  callsIn_wide.1 (rcosts_in A n c A' m d p t dk to w hm ha ht hp hfine hfair hnd)
end Go.Proofs.YtahkjagjcogeiaaDoor
/- Two costs of the answer compared. -/
namespace Go.Proofs.YtahkjagjcogeiaaDoor
open Go.RowKit Go.Shelf
theorem eql_cost (x y : Cost) (W : World) : (binOp .eql 103 (.agg #[.int .i64 x.a, .int .i64 x.b, .int .i64 x.c, .int .i64 x.d]) (.agg #[.int .i64 y.a, .int .i64 y.b, .int .i64 y.c, .int .i64 y.d])).run Tryd.prog W = .ok (.bool (decide (x = y))) W := by
  obtain ⟨i0, hi, hz0, hz1, hz2⟩ := info_parts info_int
  have hc : Tryd.prog.cellsOf 3 = 1 := by simp [Program.cellsOf, hi, hz1]
  rw [run_eql_struct, show (10000 : Nat) = 9998 + 1 + 1 from rfl, run_equalIn_array W (9998 + 1) (n := 4) (e := 3) _ _ Tryd.underlying103 hi, hc]
  have hp : ∀ (k : Nat) (a : Array Value) (z : Int), a[k]? = some (.int .i64 z) → (part 3 a k).run Tryd.prog W = .ok (.int .i64 z) W := by
    intro k a z h
    simp [part, go_sem]
    rw [h]
    rfl
  have he : ∀ (a b : Int), (Op.equalIn (9998 + 1) 3 (.int .i64 a) (.int .i64 b)).run Tryd.prog W = .ok (a == b) W := fun a b => run_equalIn_int W 9998 3 .i64 .i64 a b Tryd.underlying3
  simp only [List.range, List.range.loop, Op.eqItems, Sem.run_bind, Nat.mul_one]
  rw [hp 0 _ x.a rfl, Result.andThen_ok, hp 0 _ y.a rfl, Result.andThen_ok, he, Result.andThen_ok]
  have hxy : x = y ↔ x.a = y.a ∧ x.b = y.b ∧ x.c = y.c ∧ x.d = y.d := by
    cases x; cases y; simp
  by_cases h1 : x.a = y.a
  · rw [if_neg (by simp [h1]), Sem.run_bind, hp 1 _ x.b rfl, Result.andThen_ok, Sem.run_bind, hp 1 _ y.b rfl, Result.andThen_ok, Sem.run_bind, he, Result.andThen_ok]
    by_cases h2 : x.b = y.b
    · rw [if_neg (by simp [h2]), Sem.run_bind, hp 2 _ x.c rfl, Result.andThen_ok, Sem.run_bind, hp 2 _ y.c rfl, Result.andThen_ok, Sem.run_bind, he, Result.andThen_ok]
      by_cases h3 : x.c = y.c
      · rw [if_neg (by simp [h3]), Sem.run_bind, hp 3 _ x.d rfl, Result.andThen_ok, Sem.run_bind, hp 3 _ y.d rfl, Result.andThen_ok, Sem.run_bind, he, Result.andThen_ok]
        by_cases h4 : x.d = y.d
        · rw [if_neg (by simp [h4])]
          simp [hxy, h1, h2, h3, h4, Result.andThen]
        · rw [if_pos (by simp [h4])]
          simp [hxy, h4, Result.andThen]
      · rw [if_pos (by simp [h3])]
        simp [hxy, h3, Result.andThen]
    · rw [if_pos (by simp [h2])]
      simp [hxy, h2, Result.andThen]
  · rw [if_pos (by simp [h1])]
    simp [hxy, h1, Result.andThen]
theorem quietIn_eql_cost {F : Fence} {n : Nat} {C : World → Prop} {a : Act} {o : Oper} {K : Act → Prop} (x y : Cost) (b : Bool) (hb : decide (x = y) = b) (xo yo : Operand) {t' : TypeId} (h : o.op = .binOp .eql 103 xo yo t')
    (hx : a.eval xo = .agg #[.int .i64 x.a, .int .i64 x.b, .int .i64 x.c, .int .i64 x.d]) (hy : a.eval yo = .agg #[.int .i64 y.a, .int .i64 y.b, .int .i64 y.c, .int .i64 y.d]) (hk : K (a.put o.dst (.bool b))) : o.quietIn F n Tryd.prog a C K :=
  ⟨.bool b, fun w _ => by
    have hg := run_eqGuard_agg (P := Tryd.prog) w .eql 103 xo yo #[.int .i64 x.a, .int .i64 x.b, .int .i64 x.c, .int .i64 x.d] #[.int .i64 y.a, .int .i64 y.b, .int .i64 y.c, .int .i64 y.d] Tryd.eqGuardType103
    have he := eql_cost x y w
    unfold Oper.quietAtIn
    rw [hb] at he
    have e : (execOp a.eval o).run Tryd.prog w = .ok (.value (.bool b)) w := by
      unfold execOp
      rw [h]
      simp only [hx, hy, Sem.run_bind, hg, Result.andThen_ok, he]
      rfl
    rw [e]
    exact ⟨rfl, rfl⟩, hk⟩
end Go.Proofs.YtahkjagjcogeiaaDoor
/- A map as an association list: made, looked up, stored into, deleted from, ranged over. -/
namespace Go.Proofs.YtahkjagjcogeiaaDoor
open Go.RowKit Go.MapKept
open Go.ChangeMaps (setBlock heap_setBlock_other heap_setBlock_same)
open Go.Maps (Keyed)
set_option linter.unusedVariables false
set_option linter.unusedSectionVars false

/-- How keys and elements lie. -/
structure MapTy (P : Program) (t k e : TypeId) (α β : Type) (encK : α → Value) (encV : β → Value) (ok : α → Prop) (zero : Value) : Prop where
  und : P.underlying t = some (.map k e)
  keyed : Keyed P k
  reads : ∀ x, ok x → ∃ l, keyOf P k (encK x) = some l
  inj : ∀ x y, encK x = encK y → x = y
  zero : ∀ w, (zeroValue e).run P w = .ok zero w

/-- Block r is a map that holds m. -/
def MapIs {α β : Type} (encK : α → Value) (encV : β → Value) (ok : α → Prop) (w : World) (r : Nat) (m : List (α × β)) : Prop :=
  ∃ es clock, w.heap[r]? = some (.map es clock) ∧ es.toList.map (fun e => (e.key, e.val)) = m.map (fun p => (encK p.1, encV p.2)) ∧ Stamped es clock ∧ ∀ p ∈ m, ok p.1

def look {α β : Type} [DecidableEq α] (m : List (α × β)) (x : α) : Option β := (m.find? fun p => decide (p.1 = x)).map Prod.snd
def put {α β : Type} [DecidableEq α] (m : List (α × β)) (x : α) (v : β) : List (α × β) :=
  if m.any (fun p => decide (p.1 = x)) then m.map (fun p => if p.1 = x then (x, v) else p) else m ++ [(x, v)]
def cut {α β : Type} [DecidableEq α] (m : List (α × β)) (x : α) : List (α × β) := m.filter fun p => !decide (p.1 = x)

section
variable {α β : Type} [DecidableEq α] {m : List (α × β)} {x y : α} {v : β}
theorem look_none : look m x = none ↔ ∀ p ∈ m, p.1 ≠ x := by
  unfold look
  simp [List.find?_eq_none]
theorem look_mem (h : look m x = some v) : (x, v) ∈ m := by
  unfold look at h
  cases hf : m.find? (fun p => decide (p.1 = x)) with
  | none => rw [hf] at h; cases h
  | some p =>
    rw [hf] at h
    have h1 := List.find?_some hf
    have h2 := List.mem_of_find?_eq_some hf
    simp at h h1
    obtain ⟨a, b⟩ := p
    simp at h h1
    subst h h1
    exact h2
theorem look_of_mem (hn : (m.map Prod.fst).Nodup) (h : (x, v) ∈ m) : look m x = some v := by
  unfold look
  induction m with
  | nil => simp at h
  | cons p m ih =>
    rw [List.map_cons, List.nodup_cons] at hn
    rcases List.mem_cons.1 h with h | h
    · subst h; simp
    · have hne : p.1 ≠ x := fun e => hn.1 (by rw [e]; exact List.mem_map.2 ⟨_, h, rfl⟩)
      rw [List.find?_cons_of_neg (by simpa using hne)]
      exact ih hn.2 h
theorem look_put : look (put m x v) y = if y = x then some v else look m y := by
  unfold put
  by_cases hany : m.any (fun p => decide (p.1 = x)) = true
  · rw [if_pos hany]
    induction m with
    | nil => simp at hany
    | cons p m ih =>
      by_cases hp : p.1 = x
      · by_cases hy : y = x
        · subst hy; simp [look, hp]
        · rw [if_neg hy]
          by_cases hm : m.any (fun p => decide (p.1 = x)) = true
          · have := ih hm
            rw [if_neg hy] at this
            unfold look at this ⊢
            rw [List.map_cons, if_pos hp, List.find?_cons_of_neg (by simpa using fun e => hy e.symm), List.find?_cons_of_neg (by rw [hp]; simpa using fun e => hy e.symm)]
            exact this
          · have hid : m.map (fun p => if p.1 = x then (x, v) else p) = m := by
              have h1 : m.map (fun p => if p.1 = x then (x, v) else p) = m.map id := List.map_congr_left fun q hq => by
                have : q.1 ≠ x := fun e => hm (List.any_eq_true.2 ⟨q, hq, by simpa using e⟩)
                simp [this]
              simpa using h1
            unfold look
            rw [List.map_cons, if_pos hp, hid, List.find?_cons_of_neg (by simpa using fun e => hy e.symm), List.find?_cons_of_neg (by rw [hp]; simpa using fun e => hy e.symm)]
      · have hm : m.any (fun p => decide (p.1 = x)) = true := by simpa [hp] using hany
        have := ih hm
        unfold look at this ⊢
        rw [List.map_cons, if_neg hp]
        by_cases hpy : p.1 = y
        · rw [List.find?_cons_of_pos (by simpa using hpy), List.find?_cons_of_pos (by simpa using hpy), if_neg (fun e => hp (hpy.trans e))]
        · rw [List.find?_cons_of_neg (by simpa using hpy), List.find?_cons_of_neg (by simpa using hpy)]
          exact this
  · rw [if_neg hany]
    have hno : ∀ p ∈ m, p.1 ≠ x := fun p hp e => hany (List.any_eq_true.2 ⟨p, hp, by simpa using e⟩)
    by_cases hy : y = x
    · subst hy
      have hf : m.find? (fun p => decide (p.1 = y)) = none := by rw [List.find?_eq_none]; simpa using hno
      unfold look
      rw [List.find?_append, hf]
      simp
    · rw [if_neg hy]
      unfold look
      rw [List.find?_append]
      have hxy : ¬ x = y := fun e => hy e.symm
      have hl : [(x, v)].find? (fun p => decide (p.1 = y)) = none := by simp [hxy]
      rw [hl]
      simp
theorem mem_cut {p : α × β} : p ∈ cut m x ↔ p ∈ m ∧ p.1 ≠ x := by unfold cut; simp
theorem look_cut : look (cut m x) y = if y = x then none else look m y := by
  by_cases hy : y = x
  · rw [if_pos hy, look_none]
    intro p hp e
    exact (mem_cut.1 hp).2 (e.trans hy)
  · rw [if_neg hy]
    unfold look cut
    rw [List.find?_filter]
    congr 2
    funext p
    by_cases hp : p.1 = y
    · simp [hp, hy]
    · simp [hp]
theorem mem_put {p : α × β} (h : p ∈ put m x v) : p = (x, v) ∨ (p ∈ m ∧ p.1 ≠ x) := by
  unfold put at h
  split at h
  · obtain ⟨q, hq, rfl⟩ := List.mem_map.1 h
    by_cases e : q.1 = x
    · simp [e]
    · simp [e]; exact .inr hq
  · rename_i hany
    rcases List.mem_append.1 h with h | h
    · exact .inr ⟨h, fun e => hany (List.any_eq_true.2 ⟨p, h, by simpa using e⟩)⟩
    · left; simpa using h
end

section
variable {P : Program} {t k e : TypeId} {α β : Type} [DecidableEq α] {encK : α → Value} {encV : β → Value} {okK : α → Prop} {zero : Value}
variable {w w' : World} {r : Nat} {m : List (α × β)}

theorem MapIs.lt (h : MapIs encK encV okK w r m) : r < w.heap.size := by
  obtain ⟨es, clock, hb, _⟩ := h
  exact (Array.getElem?_eq_some_iff.1 hb).1
theorem MapIs.ok (h : MapIs encK encV okK w r m) : ∀ p ∈ m, okK p.1 := by
  obtain ⟨_, _, _, _, _, h⟩ := h
  exact h
theorem MapIs.keep (h : MapIs encK encV okK w r m) (hb : w'.heap[r]? = w.heap[r]?) : MapIs encK encV okK w' r m := by
  obtain ⟨es, clock, h1, h2⟩ := h
  exact ⟨es, clock, hb.trans h1, h2⟩
theorem MapIs.below {B : Nat} (h : MapIs encK encV okK w r m) (hb : Below B w w') (hr : r < B) : MapIs encK encV okK w' r m := h.keep (hb.block r hr)
theorem MapIs.alloc (h : MapIs encK encV okK w r m) (o : Obj) : MapIs encK encV okK (w.alloc o) r m := h.keep (Below.heap_alloc w o r h.lt)
theorem MapIs.grown {row : Option Nat} (h : MapIs encK encV okK w r m) (hg : w.grownBy w' row) (hne : some r ≠ row) : MapIs encK encV okK w' r m := h.keep (hg.block r h.lt hne)
theorem MapIs.drewN (h : MapIs encK encV okK w r m) (n : Nat) : MapIs encK encV okK (w.drewN n) r m := h
theorem MapIs.made (w : World) : MapIs (β := β) encK encV okK (w.alloc (.map #[] 0)) w.heap.size [] :=
  ⟨#[], 0, heap_alloc_new w _, rfl, stamped_empty 0, by simp⟩
theorem MapIs.nodup (T : MapTy P t k e α β encK encV okK zero) (h : MapIs encK encV okK w r m) : (m.map Prod.fst).Nodup := by
  obtain ⟨es, clock, hb, hm, hs, hk⟩ := h
  have hp := ((stamped_iff es clock).1 hs).2.2
  have h1 : (es.toList.map (fun e => (e.key, e.val))).Pairwise (fun p q => p.1 ≠ q.1) := by
    rw [List.pairwise_map]; exact hp
  rw [hm, List.pairwise_map] at h1
  rw [List.Nodup, List.pairwise_map]
  exact h1.imp fun {a b} hne e => hne (by simp [e])

theorem MapIs.find (T : MapTy P t k e α β encK encV okK zero) {es : Array MapEntry} (hm : es.toList.map (fun e => (e.key, e.val)) = m.map (fun p => (encK p.1, encV p.2))) (hk : ∀ p ∈ m, okK p.1) {x : α} (hx : okK x) :
    ((Instr.findKey k (encK x) es.toList).run P w = .ok none w ∧ look m x = none ∧ ∀ y ∈ es.toList, y.key ≠ encK x) ∨
    ∃ (j : Nat) (y : MapEntry) (v : β), (Instr.findKey k (encK x) es.toList).run P w = .ok (some (j, encV v)) w ∧ es.toList[j]? = some y ∧ y.key = encK x ∧ m[j]? = some (x, v) := by
  obtain ⟨l, hl⟩ := T.reads x hx
  have hkeys : ∀ y ∈ es.toList, ∃ l, keyOf P k y.key = some l := by
    intro y hy
    have : (y.key, y.val) ∈ m.map (fun p => (encK p.1, encV p.2)) := by rw [← hm]; exact List.mem_map.2 ⟨y, hy, rfl⟩
    obtain ⟨p, hp, he⟩ := List.mem_map.1 this
    simp at he
    rw [← he.1]
    exact T.reads _ (hk p hp)
  rcases T.keyed.find w hl es.toList hkeys with ⟨h1, h2⟩ | ⟨j, y, h1, h2, h3⟩
  · refine .inl ⟨h1, look_none.2 fun p hp e => ?_, h2⟩
    have : (encK p.1, encV p.2) ∈ es.toList.map (fun e => (e.key, e.val)) := by rw [hm]; exact List.mem_map.2 ⟨p, hp, rfl⟩
    obtain ⟨y, hy, he⟩ := List.mem_map.1 this
    simp at he
    exact h2 y hy (by rw [he.1, e])
  · have hj : (es.toList.map (fun e => (e.key, e.val)))[j]? = some (y.key, y.val) := by rw [List.getElem?_map, h2]; rfl
    rw [hm, List.getElem?_map] at hj
    cases hmj : m[j]? with
    | none => rw [hmj] at hj; cases hj
    | some p =>
      rw [hmj] at hj
      simp at hj
      have hpx : p.1 = x := T.inj _ _ (hj.1.trans h3)
      refine .inr ⟨j, y, p.2, ?_, h2, h3, ?_⟩
      · rw [h1, hj.2]
      · rw [hmj, ← hpx]

/-- m[x], v, is := m[x] -/
theorem MapIs.lookup (T : MapTy P t k e α β encK encV okK zero) (h : MapIs encK encV okK w r m) {x : α} (hx : okK x) (co : Bool) :
    (Instr.lookup t (.map (some r)) (encK x) co).run P w = .ok (match look m x with | some v => if co then .tuple #[encV v, .bool true] else encV v | none => if co then .tuple #[zero, .bool false] else zero) w := by
  obtain ⟨l, hl⟩ := T.reads x hx
  have hn := MapIs.nodup T h
  obtain ⟨es, clock, hb, hm, hs, hk⟩ := h
  rcases MapIs.find (w := w) T hm hk hx with ⟨h1, h2, _⟩ | ⟨j, y, v, h1, h2, h3, h4⟩
  · rw [h2]
    cases co <;> simp [Instr.lookup, run_underlying T.und, MapKept.run_getObj_map hb, T.keyed.check w _ hl, h1, T.zero, Result.andThen]
  · have hm' : look m x = some v := look_of_mem hn (List.mem_of_getElem? h4)
    rw [hm']
    cases co <;> simp [Instr.lookup, run_underlying T.und, MapKept.run_getObj_map hb, T.keyed.check w _ hl, h1, Result.andThen]

theorem grown_setBlock {es : Array MapEntry} {clock : Nat} (hb : w.heap[r]? = some (.map es clock)) (o : Obj) : w.grownBy (setBlock w r o) (some r) ∧ (setBlock w r o).heap.size = w.heap.size :=
  ⟨⟨rfl, rfl, rfl, by simp [setBlock], fun i _ hi => heap_setBlock_other hb o (fun e => hi (by rw [e]))⟩, by simp [setBlock]⟩

theorem map_snd_set {γ : Type} {l : List γ} {m : List (α × β)} {f : γ → Value × Value} (h : l.map f = m.map (fun p => (encK p.1, encV p.2))) : l.length = m.length := by
  have := congrArg List.length h; simpa using this

/-- m[x] = v -/
theorem MapIs.update (T : MapTy P t k e α β encK encV okK zero) (h : MapIs encK encV okK w r m) {x : α} (hx : okK x) (v : β) :
    ∃ w', (Instr.mapUpdate t (.map (some r)) (encK x) (encV v)).run P w = .ok () w' ∧ MapIs encK encV okK w' r (put m x v) ∧ w.grownBy w' (some r) ∧ w'.heap.size = w.heap.size := by
  obtain ⟨l, hl⟩ := T.reads x hx
  have hn := MapIs.nodup T h
  obtain ⟨es, clock, hb, hm, hs, hk⟩ := h
  rcases MapIs.find (w := w) T hm hk hx with ⟨h1, h2, h3⟩ | ⟨j, y, v0, h1, h2, h3, h4⟩
  · refine ⟨setBlock w r (.map (es.push ⟨encK x, encV v, clock⟩) (clock + 1)), ?_, ⟨_, _, heap_setBlock_same hb _, ?_, stamped_push hs h3, ?_⟩, (grown_setBlock hb _).1, (grown_setBlock hb _).2⟩
    · simp [Instr.mapUpdate, run_underlying T.und, MapKept.run_getObj_map hb, T.keyed.check w false hl, h1, MapKept.run_setObj_map _ hb, Result.andThen, setBlock]
    · have hany : ¬ m.any (fun p => decide (p.1 = x)) = true := by
        intro ha
        obtain ⟨p, hp, he⟩ := List.any_eq_true.1 ha
        exact look_none.1 h2 p hp (by simpa using he)
      unfold put
      rw [if_neg hany, Array.toList_push, List.map_append, hm, List.map_append]
      rfl
    · intro p hp
      rcases mem_put hp with rfl | ⟨hp, _⟩
      · exact hx
      · exact hk p hp
  · have hjl : j < es.toList.length := (List.getElem?_eq_some_iff.1 h2).1
    have hjs : j < es.size := by simpa using hjl
    have hes : es[j]? = some y := by rw [← Array.getElem?_toList]; exact h2
    have hany : m.any (fun p => decide (p.1 = x)) = true := List.any_eq_true.2 ⟨(x, v0), List.mem_of_getElem? h4, by simp⟩
    refine ⟨setBlock w r (.map (es.modify j fun e => { e with key := encK x, val := encV v }) clock), ?_, ⟨_, _, heap_setBlock_same hb _, ?_, ?_, ?_⟩, (grown_setBlock hb _).1, (grown_setBlock hb _).2⟩
    · simp [Instr.mapUpdate, run_underlying T.und, MapKept.run_getObj_map hb, T.keyed.check w false hl, h1, MapKept.run_setObj_map _ hb, Result.andThen, setBlock, hes, h3, T.keyed.stays w hl]
    · unfold put
      rw [if_pos hany]
      apply List.ext_getElem?
      intro i
      have hi : ((es.toList.map (fun e => (e.key, e.val)))[i]?) = (m.map (fun p => (encK p.1, encV p.2)))[i]? := by rw [hm]
      rw [List.getElem?_map, List.getElem?_map] at hi
      rw [List.getElem?_map, List.getElem?_map, List.getElem?_map, Array.getElem?_toList, Array.getElem?_modify]
      rw [Array.getElem?_toList] at hi
      by_cases hij : j = i
      · subst hij
        rw [if_pos rfl, hes, h4]
        simp
      · rw [if_neg hij, hi]
        cases hmi : m[i]? with
        | none => rfl
        | some p =>
          have hpx : p.1 ≠ x := by
            intro e1
            apply hij
            have h5 : (m.map Prod.fst)[j]? = some x := by rw [List.getElem?_map, h4]; rfl
            have h6 : (m.map Prod.fst)[i]? = some x := by rw [List.getElem?_map, hmi, ← e1]; rfl
            have h7 : j < (m.map Prod.fst).length := (List.getElem?_eq_some_iff.1 h5).1
            exact (List.getElem?_inj h7 hn).1 (h5.trans h6.symm)
          simp [hpx]
    · exact stamped_modify hs j _ (fun _ _ => rfl) (fun e' he' hj' => by
        have : e' = y := Option.some.inj (hj'.symm.trans hes)
        rw [this]; exact h3.symm)
    · intro p hp
      rcases mem_put hp with rfl | ⟨hp, _⟩
      · exact hx
      · exact hk p hp

/-- delete(m, x) -/
theorem MapIs.delete_ (T : MapTy P t k e α β encK encV okK zero) (h : MapIs encK encV okK w r m) {x : α} (hx : okK x) (ty : TypeId) :
    ∃ w', (Builtin.delete_ #[t, k] ty #[.map (some r), encK x]).run P w = .ok (.tuple #[]) w' ∧ MapIs encK encV okK w' r (cut m x) ∧ w.grownBy w' (some r) ∧ w'.heap.size = w.heap.size := by
  obtain ⟨l, hl⟩ := T.reads x hx
  have hn := MapIs.nodup T h
  obtain ⟨es, clock, hb, hm, hs, hk⟩ := h
  rcases MapIs.find (w := w) T hm hk hx with ⟨h1, h2, h3⟩ | ⟨j, y, v0, h1, h2, h3, h4⟩
  · refine ⟨setBlock w r (.map es clock), ?_, ⟨_, _, heap_setBlock_same hb _, ?_, hs, fun p hp => hk p (mem_cut.1 hp).1⟩, (grown_setBlock hb _).1, (grown_setBlock hb _).2⟩
    · simp [Builtin.delete_, run_underlying T.und, MapKept.run_getObj_map hb, T.keyed.check w _ hl, h1, MapKept.run_setObj_map _ hb, Result.andThen, setBlock]
    · rw [hm]
      congr 1
      unfold cut
      refine (List.filter_eq_self.2 fun p hp => ?_).symm
      simpa using look_none.1 h2 p hp
  · have hjl : j < es.toList.length := (List.getElem?_eq_some_iff.1 h2).1
    have hjs : j < es.size := by simpa using hjl
    have hsub : (es.eraseIdxIfInBounds j).toList = es.toList.eraseIdx j := by
      unfold Array.eraseIdxIfInBounds
      rw [dif_pos hjs]
      simp
    refine ⟨setBlock w r (.map (es.eraseIdxIfInBounds j) clock), ?_, ⟨_, _, heap_setBlock_same hb _, ?_, stamped_erase hs j, fun p hp => hk p (mem_cut.1 hp).1⟩, (grown_setBlock hb _).1, (grown_setBlock hb _).2⟩
    · simp [Builtin.delete_, run_underlying T.und, MapKept.run_getObj_map hb, T.keyed.check w _ hl, h1, MapKept.run_setObj_map _ hb, Result.andThen, setBlock]
    · rw [hsub, Go.ChangeMaps.map_eraseIdx, hm, ← Go.ChangeMaps.map_eraseIdx]
      congr 1
      unfold cut
      exact (erase_cut hn h4).symm
 where
  erase_cut {m : List (α × β)} {x : α} {v0 : β} {j : Nat} (hn : (m.map Prod.fst).Nodup) (h4 : m[j]? = some (x, v0)) : (m.filter fun p => !decide (p.1 = x)) = m.eraseIdx j := by
    induction m generalizing j with
    | nil => simp at h4
    | cons p m ih =>
      rw [List.map_cons, List.nodup_cons] at hn
      cases j with
      | zero =>
        simp at h4
        subst h4
        have : (m.filter fun p => !decide (p.1 = x)) = m := List.filter_eq_self.2 fun q hq => by
          have : q.1 ≠ x := fun e => hn.1 (List.mem_map.2 ⟨q, hq, e⟩)
          simpa using this
        simp [this]
      | succ j =>
        have hne : p.1 ≠ x := fun e => hn.1 (List.mem_map.2 ⟨(x, v0), List.mem_of_getElem? (by simpa using h4), e.symm⟩)
        rw [List.filter_cons_of_pos (by simpa using hne), ih hn.2 (by simpa using h4)]
        rfl
end
end Go.Proofs.YtahkjagjcogeiaaDoor
/- Ranging over a map that does not turn: the entries come in an order that the tape says. -/
namespace Go.Proofs.YtahkjagjcogeiaaDoor
open Go.RowKit Go.MapKept
open Go.ChangeMaps (setBlock heap_setBlock_other heap_setBlock_same)
open Go.Maps (Keyed)
set_option linter.unusedVariables false
set_option linter.unusedSectionVars false

/-- Block 'it' is an iterator over map r, which holds m; 'left' is to come. -/
def IterIs {α β : Type} (encK : α → Value) (encV : β → Value) (okK : α → Prop) (w : World) (it r : Nat) (m left : List (α × β)) : Prop :=
  ∃ es clock since seen c0, w.heap[r]? = some (.map es clock) ∧ es.toList.map (fun e => (e.key, e.val)) = m.map (fun p => (encK p.1, encV p.2)) ∧ Stamped es clock ∧ (∀ p ∈ m, okK p.1) ∧
    w.heap[it]? = some (.mapIter (some r) since seen c0) ∧ (∀ x ∈ es.toList, x.born < since) ∧ since ≤ c0 ∧ since ≤ clock ∧ (leftOf es seen).toList.map (fun e => (e.key, e.val)) = left.map (fun p => (encK p.1, encV p.2))

theorem filter_erase {γ : Type} (f : γ → Nat) {l : List γ} {i : Nat} {e : γ} (hn : (l.map f).Nodup) (h : l[i]? = some e) : (l.filter fun y => !(f y == f e)) = l.eraseIdx i := by
  induction l generalizing i with
  | nil => simp at h
  | cons p l ih =>
    rw [List.map_cons, List.nodup_cons] at hn
    cases i with
    | zero =>
      simp at h
      subst h
      have : (l.filter fun y => !(f y == f p)) = l := List.filter_eq_self.2 fun q hq => by
        have : f q ≠ f p := fun e => hn.1 (List.mem_map.2 ⟨q, hq, e⟩)
        simpa using this
      simp [this]
    | succ i =>
      have hne : f p ≠ f e := fun e' => hn.1 (List.mem_map.2 ⟨e, List.mem_of_getElem? (by simpa using h), e'.symm⟩)
      rw [List.filter_cons_of_pos (by simpa using hne), ih hn.2 (by simpa using h)]
      rfl

theorem left_push (es : Array MapEntry) (seen : Array Nat) (b : Nat) : (leftOf es (seen.push b)).toList = (leftOf es seen).toList.filter fun y => !(y.born == b) := by
  unfold leftOf
  simp only [Array.toList_filter, List.filter_filter]
  congr 1
  funext y
  simp only [Array.contains_push]
  cases seen.contains y.born <;> cases hb : (y.born == b) <;> simp_all

section
variable {P : Program} {t k e : TypeId} {α β : Type} [DecidableEq α] {encK : α → Value} {encV : β → Value} {okK : α → Prop} {zero : Value}
variable {w w' : World} {r it : Nat} {m left : List (α × β)}

theorem IterIs.map (h : IterIs encK encV okK w it r m left) : MapIs encK encV okK w r m := by
  obtain ⟨es, clock, since, seen, c0, h1, h2, h3, h4, _⟩ := h
  exact ⟨es, clock, h1, h2, h3, h4⟩
theorem IterIs.lt (h : IterIs encK encV okK w it r m left) : it < w.heap.size := by
  obtain ⟨es, clock, since, seen, c0, _, _, _, _, h5, _⟩ := h
  exact (Array.getElem?_eq_some_iff.1 h5).1
theorem IterIs.ne (h : IterIs encK encV okK w it r m left) : it ≠ r := by
  obtain ⟨es, clock, since, seen, c0, h1, _, _, _, h5, _⟩ := h
  intro e
  rw [e, h1] at h5
  cases h5
theorem IterIs.keep (h : IterIs encK encV okK w it r m left) (hb : w'.heap[r]? = w.heap[r]?) (hi : w'.heap[it]? = w.heap[it]?) : IterIs encK encV okK w' it r m left := by
  obtain ⟨es, clock, since, seen, c0, h1, h2, h3, h4, h5, h6⟩ := h
  exact ⟨es, clock, since, seen, c0, hb.trans h1, h2, h3, h4, hi.trans h5, h6⟩
theorem IterIs.below {B : Nat} (h : IterIs encK encV okK w it r m left) (hb : Below B w w') (hr : r < B) (hi : it < B) : IterIs encK encV okK w' it r m left := h.keep (hb.block r hr) (hb.block it hi)
theorem IterIs.grown {row : Option Nat} (h : IterIs encK encV okK w it r m left) (hg : w.grownBy w' row) (hr : some r ≠ row) (hi : some it ≠ row) : IterIs encK encV okK w' it r m left := h.keep (hg.block r h.map.lt hr) (hg.block it h.lt hi)

/-- range m -/
theorem MapIs.range {t k e : TypeId} (ht : P.underlying t = some (.map k e)) (h : MapIs encK encV okK w r m) :
    ∃ w', (Instr.range t (.map (some r))).run P w = .ok (.pointer (some ⟨w.heap.size, 0, none⟩)) w' ∧ IterIs encK encV okK w' w.heap.size r m m ∧ w.grownBy w' none ∧ w'.heap.size = w.heap.size + 1 := by
  have hlt := h.lt
  obtain ⟨es, clock, hb, hm, hs, hk⟩ := h
  refine ⟨_, run_range_map w t k e r es clock ht hb, ⟨es, clock, clock, #[], clock, (Below.heap_alloc w _ r hlt).trans hb, hm, hs, hk, heap_alloc_new w _, ((stamped_iff es clock).1 hs).1, Nat.le_refl _, Nat.le_refl _, ?_⟩, World.grownBy_alloc w _ none, by simp⟩
  have : (leftOf es #[]).toList = es.toList := by
    unfold leftOf
    rw [Array.toList_filter]
    exact List.filter_eq_self.2 fun _ _ => by simp
  rw [this]
  exact hm

/-- the step -/
theorem IterIs.next (h : IterIs encK encV okK w it r m left) (ty : TypeId) :
    (left = [] ∧ (Instr.next (.pointer (some ⟨it, 0, none⟩)) false ty).run P w = .ok (.tuple #[.bool false]) w) ∨
    ∃ i p w', left[i]? = some p ∧ (Instr.next (.pointer (some ⟨it, 0, none⟩)) false ty).run P w = .ok (.tuple #[.bool true, encK p.1, encV p.2]) w' ∧ IterIs encK encV okK w' it r m (left.eraseIdx i) ∧ w.grownBy w' (some it) ∧ w'.heap.size = w.heap.size ∧
      (Instr.entry (.pointer (some ⟨it, 0, none⟩))).run P w' = .ok (.tuple #[encK p.1, encV p.2]) w' := by
  have hne := h.ne
  obtain ⟨es, clock, since, seen, c0, hb, hm, hs, hk, hi, hold, hsc, hsk, hl⟩ := h
  have hst := (stamped_iff es clock).1 hs
  rcases run_next_at (P := P) w ty it r since c0 seen es clock hi hb hold hsc with ⟨h0, hrun⟩ | ⟨e0, he, w1, hal, hrun⟩
  · refine .inl ⟨?_, hrun⟩
    have : (leftOf es seen).toList = [] := List.eq_nil_of_length_eq_zero (by simpa using h0)
    rw [this] at hl
    simpa using hl.symm
  · obtain ⟨i, hj⟩ := List.getElem?_of_mem he
    have hli : (left.map (fun p => (encK p.1, encV p.2)))[i]? = some (e0.key, e0.val) := by rw [← hl, List.getElem?_map, hj]; rfl
    rw [List.getElem?_map] at hli
    cases hlp : left[i]? with
    | none => rw [hlp] at hli; cases hli
    | some p =>
      rw [hlp] at hli
      simp at hli
      have hem : e0 ∈ es.toList := by
        unfold leftOf at he
        simp at he
        simpa using he.1
      have hi1 : w1.heap[it]? = some (.mapIter (some r) since seen c0) := by rcases hal with rfl | rfl <;> exact hi
      have hb1 : w1.heap[r]? = some (.map es clock) := by rcases hal with rfl | rfl <;> exact hb
      have hset := heap_set (o' := .mapIter (some r) since (seen.push e0.born) clock) hi1
      have hb' : (setBlock w1 it (.mapIter (some r) since (seen.push e0.born) clock)).heap[r]? = some (.map es clock) := (hset.2 r (fun e1 => hne e1.symm)).trans hb1
      have hsub : ((leftOf es seen).toList.map (·.born)).Nodup := by
        unfold leftOf
        rw [Array.toList_filter]
        exact hst.2.1.sublist (List.filter_sublist.map _)
      refine .inr ⟨i, p, _, hlp, by rw [hrun, hli.1, hli.2], ⟨es, clock, since, seen.push e0.born, clock, hb', hm, hs, hk, hset.1, hold, hsk, hsk, ?_⟩, ?_, ?_, ?_⟩
      · rw [left_push, filter_erase (·.born) hsub hj, Go.ChangeMaps.map_eraseIdx, hl, ← Go.ChangeMaps.map_eraseIdx]
      · rcases hal with rfl | rfl <;> exact ⟨rfl, rfl, rfl, by simp [setBlock], fun i _ hi => hset.2 i (fun e1 => hi (by rw [e1]))⟩
      · rcases hal with rfl | rfl <;> simp [setBlock]
      · rw [run_entry_at _ it r since seen es clock e0 hset.1 hb' hem hst.2.1, hli.1, hli.2]
end
end Go.Proofs.YtahkjagjcogeiaaDoor
/- How many entries are to come: read off the world. A map, and a walk over it, abide whatever keeps walks. -/
namespace Go.Proofs.YtahkjagjcogeiaaDoor
open Go.RowKit Go.MapKept Go.Shelf
open Go.Maps (Keyed)
set_option linter.unusedVariables false
set_option linter.unusedSectionVars false

def iterLeft (w : World) (it : Nat) : Nat := match w.heap[it]? with
  | some (.mapIter (some r) _ seen _) => match w.heap[r]? with
    | some (.map es _) => (leftOf es seen).size
    | _ => 0
  | _ => 0
section
variable {α β : Type} [DecidableEq α] {encK : α → Value} {encV : β → Value} {okK : α → Prop} {w w' : World} {r it : Nat} {m left : List (α × β)}
theorem IterIs.left_eq (h : IterIs encK encV okK w it r m left) : iterLeft w it = left.length := by
  obtain ⟨es, clock, since, seen, c0, hb, hm, hs, hk, hi, hold, hsc, hsk, hl⟩ := h
  unfold iterLeft
  simp only [hi, hb]
  have := congrArg List.length hl
  simpa using this
theorem IterIs.walks (h : IterIs encK encV okK w it r m left) (hk : KeepsWalks w w') : IterIs encK encV okK w' it r m left := by
  obtain ⟨es, clock, since, seen, c0, hb, hm, hs, hkk, hi, rest⟩ := h
  exact ⟨es, clock, since, seen, c0, hk.same r _ hb rfl, hm, hs, hkk, hk.same it _ hi rfl, rest⟩
theorem IterIs.iter_walk (h : IterIs encK encV okK w it r m left) : ∃ o : Obj, w.heap[it]? = some o ∧ o.isWalk = true := by
  obtain ⟨es, clock, since, seen, c0, hb, hm, hs, hkk, hi, rest⟩ := h
  exact ⟨_, hi, rfl⟩
theorem MapIs.walks (h : MapIs encK encV okK w r m) (hk : KeepsWalks w w') : MapIs encK encV okK w' r m := by
  obtain ⟨es, clock, hb, rest⟩ := h
  exact ⟨es, clock, hk.same r _ hb rfl, rest⟩
theorem IterIs.alloc (h : IterIs encK encV okK w it r m left) (o : Obj) : IterIs encK encV okK (w.alloc o) it r m left := h.walks (KeepsWalks.alloc w o)
end
/-- One entry less to come. -/
theorem perm_erase {α : Type} : ∀ {l : List α} {i : Nat} {x : α}, l[i]? = some x → (x :: l.eraseIdx i).Perm l
  | [], i, x, h => by simp at h
  | y :: l, 0, x, h => by simp at h; subst h; simp
  | y :: l, i + 1, x, h => by
    have := perm_erase (l := l) (i := i) (x := x) (by simpa using h)
    rw [List.eraseIdx_cons_succ]
    exact (List.Perm.swap y x _).trans (this.cons y)
end Go.Proofs.YtahkjagjcogeiaaDoor
/- All walks of a map, one by one: the function handed to climb.first in climb.chart.all. -/
namespace Go.Proofs.YtahkjagjcogeiaaDoor
open Go.RowKit Go.Shelf
attribute [local go_sem] Oper.semAt_some
set_option linter.unusedVariables false

def okI (x : Int) : Prop := (Lit.int .i64 x).wf = true
theorem okI_of {x : Int} (h1 : -1000000000000 ≤ x) (h2 : x ≤ 1000000000000) : okI x := by
  have e1 : IntKind.i64.min = -9223372036854775808 := by decide
  have e2 : IntKind.i64.max = 9223372036854775807 := by decide
  show (decide (IntKind.i64.min ≤ x) && decide (x ≤ IntKind.i64.max)) = true
  rw [e1, e2]
  simp only [Bool.and_eq_true, decide_eq_true_eq]
  omega
abbrev WkMap (w : World) (r : Nat) (m : List (Int × Wk)) : Prop := MapIs (Value.int .i64) Wk.val okI w r m
abbrev zeroWk : Value := .agg #[.int .i64 0, .int .i64 0, .int .i64 0, .int .i64 0, .int .i64 0, .slice none 0 0]
theorem wkTy : MapTy Tryd.prog 113 3 111 Int Wk (Value.int .i64) Wk.val okI zeroWk where
  und := Tryd.underlying113
  keyed := Maps.int_keyed Tryd.underlying3
  reads := fun x hx => ⟨_, Maps.keyOf_int_mk Tryd.underlying3 hx⟩
  inj := fun x y h => by cases h; rfl
  zero := fun w => by kernel_rfl

abbrev WkOf (vs : List Wk) := { y : Wk // y ∈ vs }
def WkOf.enc {vs : List Wk} (y : WkOf vs) : Array Value := #[y.1.val]

set_option maxRecDepth 100000 in
set_option maxHeartbeats 4000000 in
theorem all1_stops (n : Nat) (hn : 2 ≤ n) (g r : Nat) (m : List (Int × Wk)) (w : World) (hg : Blk w g 113 #[.map (some r)]) (hm : WkMap w r m) :
    SeqStopsK Fence.wide n Tryd.prog 115 #[.pointer (some ⟨g, 0, none⟩)] (WkOf.enc (vs := m.map Prod.snd)) KeepsWalks
      (fun xs => (xs.map Subtype.val).Perm (m.map Prod.snd)) (fun pre => True) m.length w := by
  intro l J Jx W0 hW hJ hJx hY h0
  have hm0 := hm.below hW hm.lt
  have q0 : W0.cell? ⟨g, 0, none⟩ = some (.map (some r)) := (hg.below hW hg.lt).cell 0
  obtain ⟨w1, hr1, hi1, hg1, hs1⟩ := MapIs.range (P := Tryd.prog) (t := 113) Tryd.underlying113 hm0
  have HJ := Lib.hid hJ
  have HJx := Lib.hid hJx
  have HY := Lib.hid hY
  have H0 := Lib.hid (hJ [] W0 w1 none h0 hg1 (fun r e => by cases e))
  have HI := Lib.hid hi1
  clear hg hm hJ hJx hY h0 hW hm0 hi1 hg1
  refine callsIn_of_wp Tryd.func115 rfl trivial ?_ rfl
  simp only [Tryd.ntmps115, List.size_toArray, List.length_cons, List.length_nil, Nat.reduceAdd, Nat.reduceSub, Array.replicate_succ, Array.replicate_zero, List.push_toArray, List.append_toArray, List.nil_append, List.cons_append]
  gi_wp2
  clear q0 hr1
  refine wpIn_loop (fun a W => ∃ (left : List (Int × Wk)) (pre : List (WkOf (m.map Prod.snd))) (u4 u7 u8 u9 u10 u11 u12 u13 u14 : Value), Hid (IterIs (Value.int .i64) Wk.val okI W W0.heap.size r m left ∧ J pre W ∧ (pre.map Subtype.val ++ left.map Prod.snd).Perm (m.map Prod.snd) ∧ (∀ p ∈ left, p ∈ m)) ∧
      a = { tmps := #[.func (.yield l) #[] #[], .pointer (some ⟨g, 0, none⟩), undef, undef, u4, .map (some r), .pointer (some ⟨W0.heap.size, 0, none⟩), u7, u8, u9, u10, u11, u12, u13, u14], defers := [] })
    (fun _ W => iterLeft W W0.heap.size) ?_ ?_
  · exact ⟨m, [], undef, undef, undef, undef, undef, undef, undef, undef, undef, Lib.hid ⟨HI.out, H0.out, by simp, fun p hp => hp⟩, rfl⟩
  · rintro a W ⟨left, pre, u4, u7, u8, u9, u10, u11, u12, u13, u14, HS, rfl⟩
    rcases HS.out.1.next (P := Tryd.prog) 0 with ⟨hl, hr⟩ | ⟨i, p, w', hp, hr, hi2, hg2, hs2, he2⟩
    · gi_wp2
      go_end0
      subst hl
      exact ⟨⟨_, rfl⟩, .inl ⟨pre, by simpa using HS.out.2.2.1, HS.out.2.1⟩⟩
    · obtain ⟨kk, x⟩ := p
      have hx : x ∈ m.map Prod.snd := List.mem_map.2 ⟨(kk, x), HS.out.2.2.2 _ (List.mem_of_getElem? hp), rfl⟩
      have hlen : pre.length < m.length := by
        have h1 := HS.out.2.2.1.length_eq
        have h2 := (List.getElem?_eq_some_iff.1 hp).1
        simp at h1
        omega
      have hj2 := HJ.out pre W w' _ HS.out.2.1 hg2 (fun r e => by cases e; exact ⟨Nat.le_refl _, HS.out.1.iter_walk⟩)
      have hj3 := HJ.out pre w' (w'.alloc (.cells #[.int .i64 x.to, .int .i64 x.cost.a, .int .i64 x.cost.b, .int .i64 x.cost.c, .int .i64 x.cost.d, .slice x.A x.n x.cap] 111)) none hj2 (World.grownBy_alloc _ _ none) (fun r e => by cases e)
      obtain ⟨fn, tmps, assign, body, hy, hR⟩ := HY.out pre ⟨x, hx⟩ _ hj3 hlen
      unfold WkOf.enc at hy
      dsimp only at hy
      have HP := Lib.hid hp
      have HR := Lib.hid hR
      have HI2 := Lib.hid (hi2.alloc (.cells #[.int .i64 x.to, .int .i64 x.cost.a, .int .i64 x.cost.b, .int .i64 x.cost.c, .int .i64 x.cost.d, .slice x.A x.n x.cap] 111))
      clear hp hR hj2 hj3 hi2 hg2
      gi_wp2
      refine ⟨fun _ => by omega, HR.out.mono ?_⟩
      rintro e W3 (⟨rfl, hJ3, hk3⟩ | ⟨rfl, hJx3⟩)
      · have HJ3 := Lib.hid hJ3
        have HK3 := Lib.hid hk3
        clear hJ3 hk3 hr he2
        gi_wp2
        have hi3 := HI2.out.walks HK3.out
        refine ⟨⟨left.eraseIdx i, pre ++ [⟨x, hx⟩], _, _, _, _, _, _, _, _, _, Lib.hid ⟨hi3, HJ3.out, ?_, fun p hp => HS.out.2.2.2 p (List.mem_of_mem_eraseIdx hp)⟩, rfl⟩, ?_⟩
        · have h1 := (perm_erase HP.out).map Prod.snd
          rw [List.map_append, List.append_assoc]
          exact (h1.append_left _).trans HS.out.2.2.1
        · have h2 := (List.getElem?_eq_some_iff.1 HP.out).1
          rw [hi3.left_eq, HS.out.1.left_eq, List.length_eraseIdx_of_lt h2]
          omega
      · have HJ3 := Lib.hid hJx3
        clear hJx3 hr he2
        gi_wp2
        refine bodyPost_ret (results_none rfl _ _ _) rfl ?_
        exact ⟨⟨_, rfl⟩, .inr ⟨_, trivial, HJ3.out⟩⟩
end Go.Proofs.YtahkjagjcogeiaaDoor
/- climb.first over the walks of a map: the first one by climb.before. -/
namespace Go.Proofs.YtahkjagjcogeiaaDoor
open Go.RowKit Go.Shelf
attribute [local go_sem] Oper.semAt_some
set_option linter.unusedVariables false

/-- The first one so far. -/
def BestOf (pre : List Wk) (v : Value) (f : Bool) : Prop := (pre = [] ∧ v = zeroWk ∧ f = false) ∨ ∃ x ∈ pre, v = x.val ∧ f = true ∧ ∀ y ∈ pre, cmpW x.cost x.links y.cost y.links ≤ 0
def FirstOut (w : World) (vs : List Wk) (e : Ending) (w' : World) : Prop := ∃ v f, e = .returned (.tuple #[v, .bool f]) ∧ BestOf vs v f ∧ Below w.heap.size w w'

theorem eqC_iff (x y : Cost) : eqC x y = true ↔ x = y := by
  obtain ⟨a, b, c, d⟩ := x
  obtain ⟨a', b', c', d'⟩ := y
  simp [eqC, and_assoc]
theorem cmpW_key (x : Cost) (l : List Int) (y : Cost) (m : List Int) : cmpW x l y m = cmpL (key x l) (key y m) := by
  unfold cmpW
  rw [cmp_key]
  by_cases h : eqC x y = true
  · rw [if_pos h]
    have := (eqC_iff x y).1 h
    subst this
    rw [if_pos (cmpL_refl _)]
  · rw [if_neg h, if_neg (fun h0 => h ((eqC_iff x y).2 (list_eq h0)))]
    rfl
theorem BestOf.perm {vs ws : List Wk} {v : Value} {f : Bool} (h : BestOf vs v f) (hp : vs.Perm ws) : BestOf ws v f := by
  rcases h with ⟨rfl, h⟩ | ⟨x, hx, h1, h2, h3⟩
  · exact .inl ⟨hp.symm.eq_nil, h⟩
  · exact .inr ⟨x, hp.mem_iff.1 hx, h1, h2, fun y hy => h3 y (hp.mem_iff.2 hy)⟩
theorem BestOf.keep {pre : List Wk} {x y : Wk} (hx : x ∈ pre) (h : ∀ z ∈ pre, cmpW x.cost x.links z.cost z.links ≤ 0) (hy : ¬ cmpW y.cost y.links x.cost x.links < 0) : BestOf (pre ++ [y]) x.val true := by
  refine .inr ⟨x, by simp [hx], rfl, rfl, fun z hz => ?_⟩
  rcases List.mem_append.1 hz with hz | hz
  · exact h z hz
  · rw [List.mem_singleton.1 hz]
    rw [cmpW_key] at hy ⊢
    have := cmpL_swap (key y.cost y.links) (key x.cost x.links)
    omega
theorem BestOf.take {pre : List Wk} {x y : Wk} (h : ∀ z ∈ pre, cmpW x.cost x.links z.cost z.links ≤ 0) (hy : cmpW y.cost y.links x.cost x.links < 0) : BestOf (pre ++ [y]) y.val true := by
  refine .inr ⟨y, by simp, rfl, rfl, fun z hz => ?_⟩
  rcases List.mem_append.1 hz with hz | hz
  · have h1 := h z hz
    rw [cmpW_key] at h1 hy ⊢
    exact cmpL_trans (by omega) h1
  · rw [List.mem_singleton.1 hz, cmpW_key, cmpL_refl]; omega
theorem BestOf.one (y : Wk) : BestOf [y] y.val true := .inr ⟨y, by simp, rfl, rfl, fun z hz => by rw [List.mem_singleton.1 hz, cmpW_key, cmpL_refl]; omega⟩

theorem walks_below {W W' : World} (h : Below W.heap.size W W') : KeepsWalks W W' := ⟨h.size, fun k o hk _ => (h.block k (Array.getElem?_eq_some_iff.1 hk).1).trans hk⟩
theorem Wk.at_.below {w w' : World} {B : Nat} {x : Wk} (h : x.at_ w B) (hb : Below B w w') (hB : B ≤ w'.heap.size) : x.at_ w' w'.heap.size := (IntsAt.below h hb).more hB

theorem Marks.drew {B : Nat} {w : World} {ds : List Deferred} (h : Marks B w ds) : Marks B w.drew ds := h.keep fun _ _ _ _ h0 => h0

structure FirstSt (w : World) (v : Value) (f : Bool) (S : Nat) (W : World) : Prop where
  bel : Below w.heap.size w W
  ord : Blk W w.heap.size 188 #[.func (.func 116) #[] #[]]
  res : Blk W (w.heap.size + 1) 111 #[.int .i64 0, .int .i64 0, .int .i64 0, .int .i64 0, .int .i64 0, .slice none 0 0]
  best : ∃ x : Wk, v = x.val ∧ Blk W (w.heap.size + 1 + 1) 111 #[.int .i64 x.to, .int .i64 x.cost.a, .int .i64 x.cost.b, .int .i64 x.cost.c, .int .i64 x.cost.d, .slice x.A x.n x.cap]
  fnd : Blk W (w.heap.size + 1 + 1 + 1) 4 #[.bool f]
  sz : S ≤ W.heap.size
section
variable {w W W' : World} {v : Value} {f : Bool} {S : Nat}
theorem FirstSt.below (h : FirstSt w v f S W) (hb : Below W.heap.size W W') : FirstSt w v f S W' :=
  ⟨h.bel.trans (hb.mono h.bel.size), h.ord.below hb h.ord.lt, h.res.below hb h.res.lt, by obtain ⟨x, e, hx⟩ := h.best; exact ⟨x, e, hx.below hb hx.lt⟩, h.fnd.below hb h.fnd.lt, Nat.le_trans h.sz hb.size⟩
theorem FirstSt.shut (h : FirstSt w v f S W) (hs : Shut S W W') (hS : w.heap.size ≤ S) : FirstSt w v f S W' :=
  ⟨h.bel.trans (hs.below.mono hS), hs.blk h.ord, hs.blk h.res, by obtain ⟨x, e, hx⟩ := h.best; exact ⟨x, e, hs.blk hx⟩, hs.blk h.fnd, Nat.le_trans h.sz hs.below.size⟩
theorem FirstSt.put (h : FirstSt w v f S W) (y : Wk) : FirstSt w y.val true S (((((((W.setCell ⟨w.heap.size + 1 + 1, 0, none⟩ (.int .i64 y.to)).setCell ⟨w.heap.size + 1 + 1, 1, none⟩ (.int .i64 y.cost.a)).setCell ⟨w.heap.size + 1 + 1, 2, none⟩ (.int .i64 y.cost.b)).setCell ⟨w.heap.size + 1 + 1, 3, none⟩ (.int .i64 y.cost.c)).setCell ⟨w.heap.size + 1 + 1, 4, none⟩ (.int .i64 y.cost.d)).setCell ⟨w.heap.size + 1 + 1, 5, none⟩ (.slice y.A y.n y.cap)).setCell ⟨w.heap.size + 1 + 1 + 1, 0, none⟩ (.bool true)) ∧ KeepsFrom S W (((((((W.setCell ⟨w.heap.size + 1 + 1, 0, none⟩ (.int .i64 y.to)).setCell ⟨w.heap.size + 1 + 1, 1, none⟩ (.int .i64 y.cost.a)).setCell ⟨w.heap.size + 1 + 1, 2, none⟩ (.int .i64 y.cost.b)).setCell ⟨w.heap.size + 1 + 1, 3, none⟩ (.int .i64 y.cost.c)).setCell ⟨w.heap.size + 1 + 1, 4, none⟩ (.int .i64 y.cost.d)).setCell ⟨w.heap.size + 1 + 1, 5, none⟩ (.slice y.A y.n y.cap)).setCell ⟨w.heap.size + 1 + 1 + 1, 0, none⟩ (.bool true)) ∧ KeepsWalks W (((((((W.setCell ⟨w.heap.size + 1 + 1, 0, none⟩ (.int .i64 y.to)).setCell ⟨w.heap.size + 1 + 1, 1, none⟩ (.int .i64 y.cost.a)).setCell ⟨w.heap.size + 1 + 1, 2, none⟩ (.int .i64 y.cost.b)).setCell ⟨w.heap.size + 1 + 1, 3, none⟩ (.int .i64 y.cost.c)).setCell ⟨w.heap.size + 1 + 1, 4, none⟩ (.int .i64 y.cost.d)).setCell ⟨w.heap.size + 1 + 1, 5, none⟩ (.slice y.A y.n y.cap)).setCell ⟨w.heap.size + 1 + 1 + 1, 0, none⟩ (.bool true)) := by
  obtain ⟨x, e, hx⟩ := h.best
  have fr : ∀ {g : Nat} {ty : TypeId} {cs : Array Value}, Blk W g ty cs → g ≠ w.heap.size + 1 + 1 → Blk ((((((W.setCell ⟨w.heap.size + 1 + 1, 0, none⟩ (.int .i64 y.to)).setCell ⟨w.heap.size + 1 + 1, 1, none⟩ (.int .i64 y.cost.a)).setCell ⟨w.heap.size + 1 + 1, 2, none⟩ (.int .i64 y.cost.b)).setCell ⟨w.heap.size + 1 + 1, 3, none⟩ (.int .i64 y.cost.c)).setCell ⟨w.heap.size + 1 + 1, 4, none⟩ (.int .i64 y.cost.d)).setCell ⟨w.heap.size + 1 + 1, 5, none⟩ (.slice y.A y.n y.cap)) g ty cs :=
    fun b hne => (((((b.far (p := ⟨w.heap.size + 1 + 1, 0, none⟩) hne _).far (p := ⟨w.heap.size + 1 + 1, 1, none⟩) hne _).far (p := ⟨w.heap.size + 1 + 1, 2, none⟩) hne _).far (p := ⟨w.heap.size + 1 + 1, 3, none⟩) hne _).far (p := ⟨w.heap.size + 1 + 1, 4, none⟩) hne _).far (p := ⟨w.heap.size + 1 + 1, 5, none⟩) hne _
  have far : ∀ {g : Nat} {ty : TypeId} {cs : Array Value}, Blk ((((((W.setCell ⟨w.heap.size + 1 + 1, 0, none⟩ (.int .i64 y.to)).setCell ⟨w.heap.size + 1 + 1, 1, none⟩ (.int .i64 y.cost.a)).setCell ⟨w.heap.size + 1 + 1, 2, none⟩ (.int .i64 y.cost.b)).setCell ⟨w.heap.size + 1 + 1, 3, none⟩ (.int .i64 y.cost.c)).setCell ⟨w.heap.size + 1 + 1, 4, none⟩ (.int .i64 y.cost.d)).setCell ⟨w.heap.size + 1 + 1, 5, none⟩ (.slice y.A y.n y.cap)) g ty cs → g ≠ w.heap.size + 1 + 1 + 1 → Blk (((((((W.setCell ⟨w.heap.size + 1 + 1, 0, none⟩ (.int .i64 y.to)).setCell ⟨w.heap.size + 1 + 1, 1, none⟩ (.int .i64 y.cost.a)).setCell ⟨w.heap.size + 1 + 1, 2, none⟩ (.int .i64 y.cost.b)).setCell ⟨w.heap.size + 1 + 1, 3, none⟩ (.int .i64 y.cost.c)).setCell ⟨w.heap.size + 1 + 1, 4, none⟩ (.int .i64 y.cost.d)).setCell ⟨w.heap.size + 1 + 1, 5, none⟩ (.slice y.A y.n y.cap)).setCell ⟨w.heap.size + 1 + 1 + 1, 0, none⟩ (.bool true)) g ty cs := fun b hne => b.far (p := ⟨w.heap.size + 1 + 1 + 1, 0, none⟩) hne _
  have ko : KeepsOthers W (((((((W.setCell ⟨w.heap.size + 1 + 1, 0, none⟩ (.int .i64 y.to)).setCell ⟨w.heap.size + 1 + 1, 1, none⟩ (.int .i64 y.cost.a)).setCell ⟨w.heap.size + 1 + 1, 2, none⟩ (.int .i64 y.cost.b)).setCell ⟨w.heap.size + 1 + 1, 3, none⟩ (.int .i64 y.cost.c)).setCell ⟨w.heap.size + 1 + 1, 4, none⟩ (.int .i64 y.cost.d)).setCell ⟨w.heap.size + 1 + 1, 5, none⟩ (.slice y.A y.n y.cap)).setCell ⟨w.heap.size + 1 + 1 + 1, 0, none⟩ (.bool true)) := (((((((KeepsOthers.setCell W _ _).trans (KeepsOthers.setCell _ _ _)).trans (KeepsOthers.setCell _ _ _)).trans (KeepsOthers.setCell _ _ _)).trans (KeepsOthers.setCell _ _ _)).trans (KeepsOthers.setCell _ _ _)).trans (KeepsOthers.setCell _ _ _))
  refine ⟨⟨((((((h.bel.setCell (p := ⟨w.heap.size + 1 + 1, 0, none⟩) (by simp; omega) _).setCell (p := ⟨w.heap.size + 1 + 1, 1, none⟩) (by simp; omega) _).setCell (p := ⟨w.heap.size + 1 + 1, 2, none⟩) (by simp; omega) _).setCell (p := ⟨w.heap.size + 1 + 1, 3, none⟩) (by simp; omega) _).setCell (p := ⟨w.heap.size + 1 + 1, 4, none⟩) (by simp; omega) _).setCell (p := ⟨w.heap.size + 1 + 1, 5, none⟩) (by simp; omega) _).setCell (p := ⟨w.heap.size + 1 + 1 + 1, 0, none⟩) (by simp; omega) _,
    far (fr h.ord (by omega)) (by omega), far (fr h.res (by omega)) (by omega), ⟨y, rfl, far ((((((hx.set_ 0 _).set_ 1 _).set_ 2 _).set_ 3 _).set_ 4 _).set_ 5 _) (by omega)⟩, (fr h.fnd (by omega)).set_ 0 _, Nat.le_trans h.sz ko.size⟩, ko.from S, ko.walks⟩
end

set_option maxRecDepth 100000 in
set_option maxHeartbeats 8000000 in
theorem first_in (g r : Nat) (m : List (Int × Wk)) (w : World) (hg : Blk w g 113 #[.map (some r)]) (hm : WkMap w r m) (hl : ∀ y ∈ m.map Prod.snd, y.at_ w w.heap.size ∧ y.n ≤ 1000) :
    CallsIn Fence.wide 9 Tryd.prog 114 #[.func (.func 115) #[] #[.pointer (some ⟨g, 0, none⟩)], .func (.func 116) #[] #[]] w (FirstOut w (m.map Prod.snd)) := by
  have HG := Lib.hid hg
  have HM := Lib.hid hm
  have HL := Lib.hid hl
  clear hg hm hl
  refine callsIn_of_wp_marks Tryd.func114 rfl trivial ?_ rfl
  simp only [Tryd.ntmps114, List.size_toArray, List.length_cons, List.length_nil, Nat.reduceAdd, Nat.reduceSub, Array.replicate_succ, Array.replicate_zero, List.push_toArray, List.append_toArray, List.nil_append, List.cons_append]
  gi_wp2
  have F0 : FirstSt w zeroWk false ((((w.alloc (.cells #[.func (.func 116) #[] #[]] 188)).alloc (.cells #[.int .i64 0, .int .i64 0, .int .i64 0, .int .i64 0, .int .i64 0, .slice none 0 0] 111)).alloc (.cells #[.int .i64 0, .int .i64 0, .int .i64 0, .int .i64 0, .int .i64 0, .slice none 0 0] 111)).alloc (.cells #[.bool false] 4)).heap.size ((((w.alloc (.cells #[.func (.func 116) #[] #[]] 188)).alloc (.cells #[.int .i64 0, .int .i64 0, .int .i64 0, .int .i64 0, .int .i64 0, .slice none 0 0] 111)).alloc (.cells #[.int .i64 0, .int .i64 0, .int .i64 0, .int .i64 0, .int .i64 0, .slice none 0 0] 111)).alloc (.cells #[.bool false] 4)) := by
    have Y := ((Blk.new (w.alloc (.cells #[.func (.func 116) #[] #[]] 188)) 111 #[.int .i64 0, .int .i64 0, .int .i64 0, .int .i64 0, .int .i64 0, .slice none 0 0]).alloc (.cells #[.int .i64 0, .int .i64 0, .int .i64 0, .int .i64 0, .int .i64 0, .slice none 0 0] 111)).alloc (.cells #[.bool false] 4)
    have V := (Blk.new ((w.alloc (.cells #[.func (.func 116) #[] #[]] 188)).alloc (.cells #[.int .i64 0, .int .i64 0, .int .i64 0, .int .i64 0, .int .i64 0, .slice none 0 0] 111)) 111 #[.int .i64 0, .int .i64 0, .int .i64 0, .int .i64 0, .int .i64 0, .slice none 0 0]).alloc (.cells #[.bool false] 4)
    have U := Blk.new (((w.alloc (.cells #[.func (.func 116) #[] #[]] 188)).alloc (.cells #[.int .i64 0, .int .i64 0, .int .i64 0, .int .i64 0, .int .i64 0, .slice none 0 0] 111)).alloc (.cells #[.int .i64 0, .int .i64 0, .int .i64 0, .int .i64 0, .int .i64 0, .slice none 0 0] 111)) 4 #[.bool false]
    rw [World.size_alloc] at Y
    rw [World.size_alloc, World.size_alloc] at V
    rw [World.size_alloc, World.size_alloc, World.size_alloc] at U
    exact ⟨((((Below.refl _ _).alloc (Nat.le_refl _) _).alloc (by simp) _).alloc (by simp; omega) _).alloc (by simp; omega) _, (((Blk.new w _ _).alloc _).alloc _).alloc _, Y, ⟨⟨0, ⟨0, 0, 0, 0⟩, [], none, 0, 0⟩, rfl, V⟩, U, Nat.le_refl _⟩
  generalize ((((w.alloc (.cells #[.func (.func 116) #[] #[]] 188)).alloc (.cells #[.int .i64 0, .int .i64 0, .int .i64 0, .int .i64 0, .int .i64 0, .slice none 0 0] 111)).alloc (.cells #[.int .i64 0, .int .i64 0, .int .i64 0, .int .i64 0, .int .i64 0, .slice none 0 0] 111)).alloc (.cells #[.bool false] 4)) = w0 at *
  have hws : w.heap.size ≤ w0.heap.size := F0.bel.size
  have hG := HG.out.below F0.bel HG.out.lt
  have hM := HM.out.below F0.bel HM.out.lt
  refine wpIn_rangeFunc_ownH rfl (by omega) (gf := 115) (lb := #[.pointer (some ⟨g, 0, none⟩)]) rfl trivial (enters_of Tryd.func115 (by kernel_rfl) rfl)
    (all1_stops 8 (by omega) g r m w0 hG hM) (fun h k => walksK_t h k) walksK_b (Below.refl _ _) (fun _ => rfl)
    (fun pre Wr => ∃ v f, FirstSt w v f w0.heap.size Wr ∧ BestOf (pre.map Subtype.val) v f)
    (fun cd pre Wr => False)
    (ownFrom_shut (fun s Wr h => by obtain ⟨v, f, h, _⟩ := h; exact h.sz) (fun s Wr Wr' h hs => by obtain ⟨v, f, h, h2⟩ := h; exact ⟨v, f, h.shut hs hws, h2⟩))
    (fun cd => ownFrom_shut (fun s Wr h => h.elim) (fun s Wr Wr' h hs => h))
    ⟨_, _, F0, .inl ⟨rfl, rfl, rfl⟩⟩
    (fun y a' Wr => ∃ Bx, w0.heap.size ≤ Bx ∧ Blk Wr Bx 111 #[.int .i64 y.1.to, .int .i64 y.1.cost.a, .int .i64 y.1.cost.b, .int .i64 y.1.cost.c, .int .i64 y.1.cost.d, .slice y.1.A y.1.n y.1.cap] ∧
      a' = { tmps := #[.func (.func 115) #[] #[.pointer (some ⟨g, 0, none⟩)], .func (.func 116) #[] #[], undef, .pointer (some ⟨w.heap.size, 0, none⟩), .pointer (some ⟨w.heap.size + 1, 0, none⟩), .bool false, .pointer (some ⟨w.heap.size + 1 + 1, 0, none⟩), .pointer (some ⟨w.heap.size + 1 + 1 + 1, 0, none⟩), .pointer (some ⟨Bx, 0, none⟩), .func (.func 115) #[] #[.pointer (some ⟨g, 0, none⟩)], y.1.val, undef, undef, undef, undef, undef, undef, undef, undef, undef, undef, undef, undef], defers := [] })
    (fun y a' => ownFrom_shut (fun _ Wr h => by obtain ⟨Bx, h1, h2, _⟩ := h; exact Nat.le_trans h1 (Nat.le_of_lt h2.lt)) (fun _ Wr Wr' h hs => by obtain ⟨Bx, h1, h2, h4⟩ := h; exact ⟨Bx, h1, hs.blk h2, h4⟩)) ?assign ?body ?done ?stop
  case assign =>
    rintro l' pre ⟨y, hy⟩ Wr K hI hK
    unfold WkOf.enc
    dsimp only
    gi_wp2
    obtain ⟨v, f, hI, hB⟩ := hI
    have hb : Below Wr.heap.size Wr (Wr.alloc (.cells #[.int .i64 y.to, .int .i64 y.cost.a, .int .i64 y.cost.b, .int .i64 y.cost.c, .int .i64 y.cost.d, .slice y.A y.n y.cap] 111)) := (Below.refl _ _).alloc (Nat.le_refl _) _
    exact hK _ _ (keepsFrom_below hb) (walks_below hb) ⟨v, f, hI.below hb, hB⟩ ⟨Wr.heap.size, hI.sz, Blk.new Wr _ _, rfl⟩
  case body =>
    rintro l' pre ⟨y, hy⟩ a' Wr hl ⟨rr, hrr⟩ ⟨v, f, hI, hB⟩ ⟨Bx, hBx, bX, rfl⟩ hlen
    dsimp only at bX ⊢
    have i0 := bX.cell 0
    have i1 := bX.cell 1
    have i2 := bX.cell 2
    have i3 := bX.cell 3
    have i4 := bX.cell 4
    have i5 := bX.cell 5
    have o0 := hI.ord.cell 0
    have f0 := hI.fnd.cell 0
    have f1 := hI.fnd.frozen 0
    obtain ⟨x, rfl, hbx⟩ := hI.best
    have x0 := hbx.cell 0
    have x1 := hbx.cell 1
    have x2 := hbx.cell 2
    have x3 := hbx.cell 3
    have x4 := hbx.cell 4
    have x5 := hbx.cell 5
    have z0 := hbx.frozen 0
    have z1 := hbx.frozen 1
    have z2 := hbx.frozen 2
    have z3 := hbx.frozen 3
    have z4 := hbx.frozen 4
    have z5 := hbx.frozen 5
    have HI := Lib.hid hI
    have HB := Lib.hid hB
    have HX := Lib.hid bX
    have HBX := Lib.hid hbx
    clear hI hB bX hbx hrr
    cases f
    · gi_wp2
      refine ⟨fun _ h => (by cases h), ?_⟩
      gi_wp2
      have hp := HI.out.put y
      refine ⟨hp.2.1, hp.2.2, _, _, hp.1, ?_⟩
      rcases HB.out with ⟨h0, _, _⟩ | ⟨_, _, _, h1, _⟩
      · rw [List.map_append, h0]; exact BestOf.one y
      · cases h1
    · have hxy : ∃ z ∈ pre.map Subtype.val, x.val = z.val ∧ ∀ u ∈ pre.map Subtype.val, cmpW z.cost z.links u.cost u.links ≤ 0 := by
        rcases HB.out with ⟨_, _, h1⟩ | ⟨z, hz, h0, _, h2⟩
        · cases h1
        · exact ⟨z, hz, h0, h2⟩
      obtain ⟨z, hz, hzx, hzb⟩ := hxy
      have hmz : z ∈ m.map Prod.snd := by obtain ⟨q, _, rfl⟩ := List.mem_map.1 hz; exact q.2
      have hbel : Below w.heap.size w Wr := HI.out.bel
      have hcall := before_any y z Wr ((HL.out y hy).1.below hbel hbel.size) ((HL.out z hmz).1.below hbel hbel.size) (Nat.le_trans (HL.out y hy).2 (by unfold maxLen; omega)) (Nat.le_trans (HL.out z hmz).2 (by unfold maxLen; omega))
      rw [← hzx] at hcall
      obtain ⟨cv, hcv⟩ : ∃ cv, cmpW y.cost y.links z.cost z.links = cv := ⟨_, rfl⟩
      rw [hcv] at hcall
      have HC := Lib.hid hcall
      have HCV := Lib.hid hcv
      have HZ := Lib.hid (And.intro hz (And.intro hzx hzb))
      clear hcall hcv hz hzx hzb hmz hbel
      gi_wp2
      refine ⟨trivial, (CallsIn.inRound l' (callsIn_wide.2 HC.out)).mono ?_⟩
      rintro e w1 ⟨rfl, hb1⟩
      have HI1 := Lib.hid (HI.out.below hb1)
      have HX1 := Lib.hid (HX.out.below hb1 HX.out.lt)
      have HB1 := Lib.hid hb1
      clear i0 i1 i2 i3 i4 i5 o0 f0 f1 x0 x1 x2 x3 x4 x5 z0 z1 z2 z3 z4 z5 hb1
      have i0 := HX1.out.cell 0
      have i1 := HX1.out.cell 1
      have i2 := HX1.out.cell 2
      have i3 := HX1.out.cell 3
      have i4 := HX1.out.cell 4
      have i5 := HX1.out.cell 5
      have f0 := HI1.out.fnd.cell 0
      have f1 := HI1.out.fnd.frozen 0
      obtain ⟨x', hx', hbx⟩ := HI1.out.best
      have x0 := hbx.cell 0
      have x1 := hbx.cell 1
      have x2 := hbx.cell 2
      have x3 := hbx.cell 3
      have x4 := hbx.cell 4
      have x5 := hbx.cell 5
      have z0 := hbx.frozen 0
      have z1 := hbx.frozen 1
      have z2 := hbx.frozen 2
      have z3 := hbx.frozen 3
      have z4 := hbx.frozen 4
      have z5 := hbx.frozen 5
      clear hbx hx'
      by_cases hlt : cv < 0
      · gi_wp2
        have hp := HI1.out.put y
        refine ⟨(keepsFrom_below HB1.out).trans hp.2.1, (walks_below HB1.out).trans hp.2.2, _, _, hp.1, ?_⟩
        rw [List.map_append]
        exact BestOf.take HZ.out.2.2 (by rw [HCV.out]; exact hlt)
      · gi_wp2
        refine ⟨keepsFrom_below HB1.out, walks_below HB1.out, _, _, HI1.out, ?_⟩
        rw [List.map_append, HZ.out.2.1]
        exact BestOf.keep HZ.out.1 HZ.out.2.2 (by rw [HCV.out]; omega)
  case done =>
    rintro D ys Wr hD hys ⟨v, f, hI, hB⟩ hK
    have f0 := hI.fnd.cell 0
    obtain ⟨x, rfl, hbx⟩ := hI.best
    have x0 := hbx.cell 0
    have x1 := hbx.cell 1
    have x2 := hbx.cell 2
    have x3 := hbx.cell 3
    have x4 := hbx.cell 4
    have x5 := hbx.cell 5
    have R := hI.res
    have z0 := R.frozen 0
    have z1 := R.frozen 1
    have z2 := R.frozen 2
    have z3 := R.frozen 3
    have z4 := R.frozen 4
    have z5 := R.frozen 5
    have r0 := R.cell 0
    have r1 := R.cell 1
    have r2 := R.cell 2
    have r3 := R.cell 3
    have r4 := R.cell 4
    have r5 := R.cell 5
    have hmk : Marks w.heap.size Wr [{ target := .collected D, args := #[] }] := ⟨⟨D, Nat.le_trans hws hD, rfl, hK, by simp⟩, trivial⟩
    have HR6 := Lib.hid (ret6 R hmk hI.bel (by omega) (.int .i64 x.to) (.int .i64 x.cost.a) (.int .i64 x.cost.b) (.int .i64 x.cost.c) (.int .i64 x.cost.d) (.slice x.A x.n x.cap))
    have HBB := Lib.hid (hB.perm hys)
    clear hI hbx R hK hmk hB hys
    gi_wp2
    gi_region
    all_goals
      gi_wp2
      refine leaves_marks _ _ (Marks.drew HR6.out.2.1) ?_
      intro w' hs
      have RW := hs.blk (Blk.drew HR6.out.1)
      have y0 := RW.cell 0
      have y1 := RW.cell 1
      have y2 := RW.cell 2
      have y3 := RW.cell 3
      have y4 := RW.cell 4
      have y5 := RW.cell 5
      refine ⟨.tuple #[x.val, .bool f], ?_, ⟨x.val, f, rfl, HBB.out, (below_drewN HR6.out.2.2 1).trans hs.below⟩⟩
      simp [results, Tryd.results114, go_sem, y0, y1, y2, y3, y4, y5]
  case stop =>
    rintro D cd pre Wr _ _ h _
    exact h.elim
end Go.Proofs.YtahkjagjcogeiaaDoor
/- A round of the search, by the links that have come out: plain Lean. -/
namespace Go.Proofs.YtahkjagjcogeiaaDoor
set_option linter.unusedVariables false

/-- What a map of walks tells of a place. -/
def fnOf (m : List (Int × Wk)) (v : Int) : Option (Cost × List Int) := (look m v).map fun x => (x.cost, x.links)
theorem fnOf_nil : fnOf [] = fun _ => none := rfl
theorem fnOf_put (m : List (Int × Wk)) (k : Int) (x : Wk) : fnOf (put m k x) = setF (fnOf m) k (some (x.cost, x.links)) := by
  funext v
  unfold fnOf setF
  rw [look_put]
  split <;> rfl
theorem fnOf_cut (m : List (Int × Wk)) (k : Int) : fnOf (cut m k) = setF (fnOf m) k none := by
  funext v
  unfold fnOf setF
  rw [look_cut]
  split <;> rfl
theorem fnOf_mem {m : List (Int × Wk)} (hn : (m.map Prod.fst).Nodup) {v : Int} {x : Wk} (h : (v, x) ∈ m) : fnOf m v = some (x.cost, x.links) := by
  unfold fnOf
  rw [look_of_mem hn h]
  rfl
theorem fnOf_some {m : List (Int × Wk)} {v : Int} {c : Cost} {l : List Int} (h : fnOf m v = some (c, l)) : ∃ x, (v, x) ∈ m ∧ x.cost = c ∧ x.links = l := by
  unfold fnOf at h
  cases hx : look m v with
  | none => rw [hx] at h; cases h
  | some x =>
    rw [hx] at h
    cases h
    exact ⟨x, look_mem hx, rfl, rfl⟩

/-- Within the round of place a: the links D are done. -/
structure DRound (t : Town) (dk : Bool) (p : Price) (s a : Int) (cw : Cost) (lw : List Int) (D : List (Link × Int × Cost)) (S O : Int → Option (Cost × List Int)) : Prop where
  disj : ∀ v, O v ≠ none → S v = none
  sFirst : ∀ v r, S v = some r → First t dk p s v (some r)
  oWalk : ∀ v c l, O v = some (c, l) → Walk t dk p s v c l
  cross : ∀ u c l, S u = some (c, l) → u ≠ a → ∀ x ∈ t.links, ∀ n d, leads dk p x u = some (n, d) → S n ≠ none ∨ ∃ c' l', O n = some (c', l') ∧ cmpL (key c' l') (key (addC c d) (l ++ [x.id])) ≤ 0
  now : ∀ y ∈ D, S y.2.1 ≠ none ∨ ∃ c' l', O y.2.1 = some (c', l') ∧ cmpL (key c' l') (key (addC cw y.2.2) (lw ++ [y.1.id])) ≤ 0
  start : S s ≠ none
  here : S a = some (cw, lw)

section
variable {t : Town} {dk : Bool} {p : Price} {s a : Int} {cw : Cost} {lw : List Int} {D : List (Link × Int × Cost)} {S O : Int → Option (Cost × List Int)}
theorem DInv.enter' (h : DInv t dk p s S O) (ht : Fine t) (hp : Fair p) {c : Cost} {l : List Int} (ho : O a = some (c, l)) (hmin : ∀ v' c' l', O v' = some (c', l') → cmpL (key c l) (key c' l') ≤ 0) : DRound t dk p s a c l [] (setF S a (some (c, l))) (setF O a none) := by
  have h1 := h.enter ht hp ho hmin
  exact ⟨h1.disj, h1.sFirst, h1.oWalk, h1.cross, (fun y hy => by cases hy), h1.start, h1.here⟩
theorem DRound.leave (h : DRound t dk p s a cw lw D S O) (hD : ∀ y ∈ outs dk p a t.links, y ∈ D) : DInv t dk p s S O := by
  refine ⟨h.disj, h.sFirst, h.oWalk, ?_, .inl h.start⟩
  intro u c l hu x hx n d hl
  by_cases e : u = a
  · subst e
    rw [h.here] at hu
    cases hu
    exact h.now (x, n, d) (hD _ (by unfold outs; rw [List.mem_filterMap]; exact ⟨x, hx, by rw [hl]; rfl⟩))
  · exact h.cross u c l hu e x hx n d hl
theorem DRound.skip (h : DRound t dk p s a cw lw D S O) {y : Link × Int × Cost} (hno : S y.2.1 ≠ none ∨ ∃ c' l', O y.2.1 = some (c', l') ∧ cmpL (key c' l') (key (addC cw y.2.2) (lw ++ [y.1.id])) ≤ 0) : DRound t dk p s a cw lw (D ++ [y]) S O := by
  refine ⟨h.disj, h.sFirst, h.oWalk, h.cross, fun z hz => ?_, h.start, h.here⟩
  rcases List.mem_append.1 hz with hz | hz
  · exact h.now z hz
  · rw [List.mem_singleton.1 hz]; exact hno
theorem DRound.take (h : DRound t dk p s a cw lw D S O) {y : Link × Int × Cost} (hy : y ∈ outs dk p a t.links) (hn : S y.2.1 = none) (hbe : ∀ c' l', O y.2.1 = some (c', l') → cmpL (key (addC cw y.2.2) (lw ++ [y.1.id])) (key c' l') ≤ 0) :
    DRound t dk p s a cw lw (D ++ [y]) S (setF O y.2.1 (some (addC cw y.2.2, lw ++ [y.1.id]))) := by
  obtain ⟨hxm, hl⟩ := outs_leads hy
  have hw : Walk t dk p s y.2.1 (addC cw y.2.2) (lw ++ [y.1.id]) := (h.sFirst a _ h.here).1.snoc hxm hl
  have old : ∀ {m : Int} {K : List Int}, (S m ≠ none ∨ ∃ c' l', O m = some (c', l') ∧ cmpL (key c' l') K ≤ 0) → S m ≠ none ∨ ∃ c' l', setF O y.2.1 (some (addC cw y.2.2, lw ++ [y.1.id])) m = some (c', l') ∧ cmpL (key c' l') K ≤ 0 := by
    intro m K h1
    rcases h1 with h1 | ⟨c', l', h1, h2⟩
    · exact .inl h1
    · by_cases e : m = y.2.1
      · subst e
        exact .inr ⟨_, _, setF_same _ _ _, cmpL_trans (hbe _ _ h1) h2⟩
      · exact .inr ⟨c', l', by rw [setF_other _ _ e]; exact h1, h2⟩
  refine ⟨?_, h.sFirst, ?_, ?_, ?_, h.start, h.here⟩
  · intro v hv
    by_cases e : v = y.2.1
    · subst e; exact hn
    · rw [setF_other _ _ e] at hv; exact h.disj v hv
  · intro v c' l' hr
    by_cases e : v = y.2.1
    · subst e; rw [setF_same] at hr; cases hr; exact hw
    · rw [setF_other _ _ e] at hr; exact h.oWalk v _ _ hr
  · intro u c' l' hu hne z hz m d hl'
    exact old (h.cross u c' l' hu hne z hz m d hl')
  · intro z hz
    rcases List.mem_append.1 hz with hz | hz
    · exact old (h.now z hz)
    · rw [List.mem_singleton.1 hz]
      exact .inr ⟨_, _, setF_same _ _ _, by rw [cmpL_refl]; omega⟩
end
end Go.Proofs.YtahkjagjcogeiaaDoor
