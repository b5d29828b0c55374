/- Part 5 of the texts of this claim, joined. -/
import Derived.Sort.LoopGhostIn
import Derived.ChangeKeysEq
import Derived.Scope
import Derived.Test.YtahkjagjcogeiaaDoorWa4
/- The answer's costs: Bellman and Ford. -/
namespace Go.Proofs.YtahkjagjcogeiaaDoor
open Go.RowKit Go.Shelf
set_option linter.unusedVariables false

theorem wpListIn_make_all {F : Fence} {nn : Nat} {P : Program} {w : World} {ops : Array Oper} {rest : List Oper} {o : Oper} {a : Act} {Q : Exit → Act → World → Prop} (hgd : o.guard = none) (l c : Operand) (t : TypeId) (ho : o.op = .makeSlice t l c)
    (e : TypeId) (i : TypeInfo) (z : Value) (h1 : P.underlying t = some (.slice e)) (h2 : P.info? e = some i) (h3 : i.zero = some z) (n : Nat) (hl : a.eval l = .int .i64 n) (hc : a.eval c = .int .i64 n) (hb : i.bytes * n ≤ 140737488355328) (hn : n ≤ maxLen)
    (h : wpListIn F nn P ops Q rest (a.put o.dst (.slice (some ⟨w.heap.size, 0, none⟩) n n)) (w.alloc (.cells (madeCells z.cells (n * i.size)) e))) :
    wpListIn F nn P ops Q (o :: rest) a w := by
  have h63' : (n : Int) ≤ 9223372036854775807 := by
    have h := hn
    simp [maxLen] at h
    omega
  have hb' : (i.bytes : Int) * (n : Int) ≤ 281474976710656 := by
    rw [← Int.natCast_mul]
    omega
  refine wpListIn_plain hgd fun K hK => ?_
  have hr := run_make (P := P) w t e i z h1 h2 h3 .i64 .i64 n n (by omega) (Int.le_refl _) hb' h63'
  simp only [Int.toNat_natCast] at hr
  unfold Oper.wpIn
  refine ⟨?_, ?_⟩
  · simp [Oper.about, ho]
  · rw [Oper.semAt_plain F _ _ (by rw [ho]; intro c hc'; cases hc')]
    simp [execOp, ho, hl, hc, hr, Result.andThen]
    exact hK _ _ h

theorem info_rcost : (Tryd.prog.info? 103).map (fun i => (i.zero, i.size, i.bytes)) = some (some (.agg #[.int .i64 0, .int .i64 0, .int .i64 0, .int .i64 0]), 4, 32) := by kernel_rfl

structure RCSt (w : World) (T : Array Value) (p : Price) (E : List (Option Cost)) (W : World) : Prop where
  bel : Below w.heap.size w W
  tb : Blk W w.heap.size 25 T
  pb : Blk W (w.heap.size + 1) 107 #[.int .i64 p.pace, .int .i64 p.up, .int .i64 p.step]
  eb : Blk W (w.heap.size + 1 + 1) 103 (eVals E).toArray
section
variable {w W W' : World} {T : Array Value} {p : Price} {E : List (Option Cost)}
theorem RCSt.below (h : RCSt w T p E W) (hb : Below W.heap.size W W') : RCSt w T p E W' :=
  ⟨h.bel.trans (hb.mono h.bel.size), h.tb.below hb h.tb.lt, h.pb.below hb h.pb.lt, h.eb.below hb h.eb.lt⟩
theorem RCSt.cell (h : RCSt w T p E W) {k : Nat} {r : Option Cost} (hk : E[k]? = some r) : W.cell? ⟨w.heap.size + 1 + 1, k * 4, none⟩ = some (.int .i64 (entC r).a) ∧ W.cell? ⟨w.heap.size + 1 + 1, k * 4 + 1, none⟩ = some (.int .i64 (entC r).b) ∧
    W.cell? ⟨w.heap.size + 1 + 1, k * 4 + 2, none⟩ = some (.int .i64 (entC r).c) ∧ W.cell? ⟨w.heap.size + 1 + 1, k * 4 + 3, none⟩ = some (.int .i64 (entC r).d) := by
  refine ⟨?_, ?_, ?_, ?_⟩
  · rw [h.eb.cell, List.getElem?_toArray]; exact eVals_at (j := 0) hk (by omega)
  · rw [h.eb.cell, List.getElem?_toArray]; exact eVals_at (j := 1) hk (by omega)
  · rw [h.eb.cell, List.getElem?_toArray]; exact eVals_at (j := 2) hk (by omega)
  · rw [h.eb.cell, List.getElem?_toArray]; exact eVals_at (j := 3) hk (by omega)
theorem RCSt.put (h : RCSt w T p E W) {k : Nat} (hk : k < E.length) (d : Cost) :
    RCSt w T p (E.set k (some d)) ((((W.setCell ⟨w.heap.size + 1 + 1, k * 4, none⟩ (.int .i64 d.a)).setCell ⟨w.heap.size + 1 + 1, k * 4 + 1, none⟩ (.int .i64 d.b)).setCell ⟨w.heap.size + 1 + 1, k * 4 + 2, none⟩ (.int .i64 d.c)).setCell ⟨w.heap.size + 1 + 1, k * 4 + 3, none⟩ (.int .i64 d.d)) := by
  have b := fun {B : Nat} {V : World} (L : Below B V W) (hB : B ≤ w.heap.size + 1 + 1) => (((L.setCell (p := ⟨w.heap.size + 1 + 1, k * 4, none⟩) hB (.int .i64 d.a)).setCell (p := ⟨w.heap.size + 1 + 1, k * 4 + 1, none⟩) hB (.int .i64 d.b)).setCell (p := ⟨w.heap.size + 1 + 1, k * 4 + 2, none⟩) hB (.int .i64 d.c)).setCell (p := ⟨w.heap.size + 1 + 1, k * 4 + 3, none⟩) hB (.int .i64 d.d)
  have l := b (Below.refl (w.heap.size + 1 + 1) W) (Nat.le_refl _)
  refine ⟨b h.bel (by omega), h.tb.below l (by omega), h.pb.below l (by omega), ?_⟩
  have e := (((h.eb.set_ (k * 4) (.int .i64 d.a)).set_ (k * 4 + 1) (.int .i64 d.b)).set_ (k * 4 + 2) (.int .i64 d.c)).set_ (k * 4 + 3) (.int .i64 d.d)
  rw [← eVals_set hk]
  simpa [entC] using e
theorem RCSt.inf (h : RCSt w T p E W) {k : Nat} (hk : E[k]? = some (some zeroC)) : RCSt w T p (E.set k none) (W.setCell ⟨w.heap.size + 1 + 1, k * 4, none⟩ (.int .i64 1000000000)) := by
  have l := (Below.refl (w.heap.size + 1 + 1) W).setCell (p := ⟨w.heap.size + 1 + 1, k * 4, none⟩) (Nat.le_refl _) (.int .i64 1000000000)
  refine ⟨h.bel.setCell (by simp; omega) _, h.tb.below l (by omega), h.pb.below l (by omega), ?_⟩
  have e := h.eb.set_ (k * 4) (.int .i64 1000000000)
  rw [← eVals_inf hk]
  simpa using e
end

theorem dleads_none {W : World} {n : Nat} (x : Link) (v : Int) (dk : Bool) (p : Price) (hr : leads dk p x v = none) (hx : Fit x) (hp : Cheap p) {σ : Type} {of : σ → World} (h1 : ∀ z, Below W.heap.size W (of z)) (h2 : ∀ z W', Below (of z).heap.size (of z) W' → Cls of W') (z : σ) :
    CallsIn Fence.wide n Tryd.prog 112 #[.agg #[.int .i64 x.id, .int .i64 x.fr, .int .i64 x.to, .int .i64 x.steps, .int .i64 x.paces], .int .i64 v, .bool dk, .agg #[.int .i64 p.pace, .int .i64 p.up, .int .i64 p.step]] (of z) fun e w'' => e = .returned (.tuple #[.int .i64 0, .agg #[.int .i64 0, .int .i64 0, .int .i64 0, .int .i64 0], .bool false]) ∧ Cls of w'' :=
  (callsIn_wide.2 (leads_any x v dk p (of z) hx hp)).mono fun e w'' ⟨he, hb⟩ => ⟨by rw [he, hr]; rfl, h2 z _ hb⟩
theorem dleads_some {W : World} {n : Nat} (x : Link) (v : Int) (dk : Bool) (p : Price) (v' : Int) (cx : Cost) (hr : leads dk p x v = some (v', cx)) (hx : Fit x) (hp : Cheap p) {σ : Type} {of : σ → World} (h1 : ∀ z, Below W.heap.size W (of z)) (h2 : ∀ z W', Below (of z).heap.size (of z) W' → Cls of W') (z : σ) :
    CallsIn Fence.wide n Tryd.prog 112 #[.agg #[.int .i64 x.id, .int .i64 x.fr, .int .i64 x.to, .int .i64 x.steps, .int .i64 x.paces], .int .i64 v, .bool dk, .agg #[.int .i64 p.pace, .int .i64 p.up, .int .i64 p.step]] (of z) fun e w'' => e = .returned (.tuple #[.int .i64 v', .agg #[.int .i64 cx.a, .int .i64 cx.b, .int .i64 cx.c, .int .i64 cx.d], .bool true]) ∧ Cls of w'' :=
  (callsIn_wide.2 (leads_any x v dk p (of z) hx hp)).mono fun e w'' ⟨he, hb⟩ => ⟨by rw [he, hr]; rfl, h2 z _ hb⟩

theorem placeI_at {l : List Int} {v : Int} (h : v ∈ l) : ∃ i : Nat, placeI l v = i ∧ l[i]? = some v ∧ i < l.length := by
  have hany : l.any (fun y => y == v) = true := List.any_eq_true.2 ⟨v, h, by simp⟩
  unfold placeI idx
  rw [if_pos hany]
  have hlt : l.findIdx (fun y => y == v) < l.length := List.findIdx_lt_length.2 (by simpa using hany)
  have e : l[l.findIdx (fun y => y == v)] = v := by simpa using List.findIdx_getElem (w := hlt)
  exact ⟨_, rfl, by rw [List.getElem?_eq_getElem hlt, e], hlt⟩
theorem place_cls {W : World} {n' : Nat} (A : Option Addr) (n c : Nat) (A' : Option Addr) (m d : Nat) (t : Town) (id : Int) (i : Nat) (hi : placeI t.places id = i) (hn : n ≤ maxLen) (B : Nat) (hB : B ≤ W.heap.size) (ht : IntsAt W B A n t.places) {σ : Type} {of : σ → World} (h1 : ∀ z, Below W.heap.size W (of z)) (h2 : ∀ z W', Below (of z).heap.size (of z) W' → Cls of W') (z : σ) :
    CallsIn Fence.wide n' Tryd.prog 109 #[.agg #[.slice A n c, .slice A' m d], .int .i64 id] (of z) fun e w'' => e = .returned (.int .i64 (i : Int)) ∧ Cls of w'' :=
  (callsIn_wide.2 (place_any A n c A' m d t id (of z) hn (((ht.more hB).below (h1 z)).more (h1 z).size))).mono fun e w'' ⟨he, hb⟩ => ⟨by rw [he, hi], h2 z _ hb⟩
theorem rplus_cls {W : World} {n : Nat} (x y : Cost) (hx : Small x) (hy : Small y) {σ : Type} {of : σ → World} (h1 : ∀ z, Below W.heap.size W (of z)) (h2 : ∀ z W', Below (of z).heap.size (of z) W' → Cls of W') (z : σ) :
    CallsIn Fence.wide n Tryd.prog 113 #[.agg #[.int .i64 x.a, .int .i64 x.b, .int .i64 x.c, .int .i64 x.d], .agg #[.int .i64 y.a, .int .i64 y.b, .int .i64 y.c, .int .i64 y.d]] (of z) fun e w'' => e = .returned (.agg #[.int .i64 (addC x y).a, .int .i64 (addC x y).b, .int .i64 (addC x y).c, .int .i64 (addC x y).d]) ∧ Cls of w'' :=
  (callsIn_wide.2 (rplus_any x y (of z) hx hy)).mono fun e w'' ⟨he, hb⟩ => ⟨he, h2 z _ hb⟩
theorem rless_cls {W : World} {n : Nat} (x y : Cost) (b : Bool) (hl : lessC x y = b) {σ : Type} {of : σ → World} (h1 : ∀ z, Below W.heap.size W (of z)) (h2 : ∀ z W', Below (of z).heap.size (of z) W' → Cls of W') (z : σ) :
    CallsIn Fence.wide n Tryd.prog 142 #[.agg #[.int .i64 x.a, .int .i64 x.b, .int .i64 x.c, .int .i64 x.d], .agg #[.int .i64 y.a, .int .i64 y.b, .int .i64 y.c, .int .i64 y.d]] (of z) fun e w'' => e = .returned (.bool b) ∧ Cls of w'' :=
  (callsIn_wide.2 (rless_any x y (of z))).mono fun e w'' ⟨he, hb⟩ => ⟨by rw [he, hl], h2 z _ hb⟩
theorem Small.ent {r : Option Cost} (h : ∀ d, r = some d → Little d) : Small (entC r) := by
  cases r with
  | none => exact ⟨by simp [entC, infC], by simp [entC, infC], by simp [entC, infC], by simp [entC, infC]⟩
  | some d =>
    obtain ⟨h1, h2, h3, h4⟩ := h d rfl
    exact ⟨by simp only [entC, Option.getD_some]; omega, by simp only [entC, Option.getD_some]; omega, by simp only [entC, Option.getD_some]; omega, by simp only [entC, Option.getD_some]; omega⟩

def RCostsOut (w : World) (t : Town) (dk : Bool) (p : Price) (to : Int) (n : Nat) (e : Ending) (w' : World) : Prop :=
  ∃ (A : Option Addr) (E : List (Option Cost)), e = .returned (.slice A n n) ∧ EAt w' w'.heap.size A n E ∧ Costs t dk p to E ∧ (∀ (i : Nat) d, E[i]? = some (some d) → Little d) ∧ Below w.heap.size w w'

set_option maxRecDepth 100000 in
set_option maxHeartbeats 16000000 in
theorem rcosts_in (A : Option Addr) (n c : Nat) (A' : Option Addr) (m d : Nat) (p : Price) (t : Town) (dk : Bool) (to : Int) (w : World)
    (hm : m ≤ 20) (ha : IntsAt w w.heap.size A n t.places) (ht : LinksAt w w.heap.size A' m t.links) (hp : Cheap p) (hfine : Fine t) (hfair : Fair p) (hnd : t.places.Nodup) :
    CallsIn Fence.wide 9 Tryd.prog 119 #[.agg #[.slice A n c, .slice A' m d], .int .i64 to, .bool dk, .agg #[.int .i64 p.pace, .int .i64 p.up, .int .i64 p.step]] w (RCostsOut w t dk p to n) := by
  have HT := Lib.hid ht
  have HP := Lib.hid hp
  have HA := Lib.hid ha
  have HFI := Lib.hid hfine
  have HFA := Lib.hid hfair
  have HND := Lib.hid hnd
  have HLm := Lib.hid ht.len
  have HLn := Lib.hid ha.len
  have hn9 : n ≤ 9 := by have := hfine.size; have := ha.len; omega
  obtain ⟨i0, hi, hz0, hz1, hz2⟩ := info_parts info_rcost
  clear ha ht hp hfine hfair hnd
  refine callsIn_of_wp Tryd.func119 rfl trivial ?_ rfl
  simp only [Tryd.ntmps119, List.size_toArray, List.length_cons, List.length_nil, Nat.reduceAdd, Nat.reduceSub, Array.replicate_succ, Array.replicate_zero, List.push_toArray, List.append_toArray, List.nil_append, List.cons_append]
  gi_wp2_with (first | (gi_at_make; refine wpListIn_make_all rfl _ _ 193 rfl 103 i0 _ rfl hi hz0 n rfl rfl (by rw [hz2]; omega) (by unfold maxLen; omega) ?_) | fail)
  have S0 : RCSt w #[.slice A n c, .slice A' m d] p (List.replicate n (some zeroC)) (((w.alloc (.cells #[.slice A n c, .slice A' m d] 25)).alloc (.cells #[.int .i64 p.pace, .int .i64 p.up, .int .i64 p.step] 107)).alloc (.cells (madeCells #[.int .i64 0, .int .i64 0, .int .i64 0, .int .i64 0] (n * 4)) 103)) := by
    have b := (((Below.refl w.heap.size w).alloc (Nat.le_refl _) (.cells #[.slice A n c, .slice A' m d] 25)).alloc (by simp) (.cells #[.int .i64 p.pace, .int .i64 p.up, .int .i64 p.step] 107)).alloc (by simp; omega) (.cells (madeCells #[.int .i64 0, .int .i64 0, .int .i64 0, .int .i64 0] (n * 4)) 103)
    have X := ((Blk.new w 25 #[.slice A n c, .slice A' m d]).alloc (.cells #[.int .i64 p.pace, .int .i64 p.up, .int .i64 p.step] 107)).alloc (.cells (madeCells #[.int .i64 0, .int .i64 0, .int .i64 0, .int .i64 0] (n * 4)) 103)
    have Y := (Blk.new (w.alloc (.cells #[.slice A n c, .slice A' m d] 25)) 107 #[.int .i64 p.pace, .int .i64 p.up, .int .i64 p.step]).alloc (.cells (madeCells #[.int .i64 0, .int .i64 0, .int .i64 0, .int .i64 0] (n * 4)) 103)
    have U := Blk.new ((w.alloc (.cells #[.slice A n c, .slice A' m d] 25)).alloc (.cells #[.int .i64 p.pace, .int .i64 p.up, .int .i64 p.step] 107)) 103 (madeCells #[.int .i64 0, .int .i64 0, .int .i64 0, .int .i64 0] (n * 4))
    rw [World.size_alloc] at Y
    rw [World.size_alloc, World.size_alloc, made_zero] at U
    rw [made_zero] at b X Y ⊢
    exact ⟨b, X, Y, U⟩
  have HS0 := Lib.hid S0
  clear S0
  generalize (((w.alloc (.cells #[.slice A n c, .slice A' m d] 25)).alloc (.cells #[.int .i64 p.pace, .int .i64 p.up, .int .i64 p.step] 107)).alloc (.cells (madeCells #[.int .i64 0, .int .i64 0, .int .i64 0, .int .i64 0] (n * 4)) 103)) = w0 at *
  gi_loopw [10] (fun vi wr => ∃ (k : Nat) (E : List (Option Cost)), k ≤ n ∧ vi = .int .i64 k ∧ Hid (RCSt w #[.slice A n c, .slice A' m d] p E wr ∧ E.length = n ∧ ∀ (i : Nat) v, t.places[i]? = some v → E[i]? = some (if i < k ∧ v ≠ to then none else some zeroC))) (fun vi _ => n - (intOf vi).toNat)
  case atStart =>
    refine ⟨0, _, Nat.zero_le _, rfl, Lib.hid ⟨HS0.out, List.length_replicate, fun i v hv => ?_⟩⟩
    rw [if_neg (by omega), List.getElem?_replicate, if_pos (by have := (List.getElem?_eq_some_iff.1 hv).1; have := HLn.out; omega)]
  case round =>
    obtain ⟨k, E, hk, rfl, HS⟩ := hrel
    have t0 := HS.out.1.tb.cell 0
    have t1 := HS.out.1.tb.cell 1
    by_cases hlt : k < n
    · obtain ⟨b, off, x, rfl, hb, hx, hcell⟩ := (HA.out.below HS.out.1.bel).cell hlt
      have hbl : b < wr.heap.size := Nat.lt_of_lt_of_le hb HS.out.1.bel.size
      have HX := Lib.hid hx
      have HE : Hid (E[k]? = some (some zeroC)) := Lib.hid (by rw [HS.out.2.2 k x hx, if_neg (by omega)])
      have e1 : ((k + 1 : Nat) : Int) = (k : Int) + 1 := by omega
      clear hx hb
      have c0 := (HS.out.1.cell HE.out).1
      have f0 := HS.out.1.eb.frozen (k * 4)
      by_cases hne : x = to
      · have HNE := Lib.hid hne
        subst hne
        gi_wp2
        refine ⟨⟨k + 1, E, by omega, by rw [e1], Lib.hid ⟨HS.out.1, HS.out.2.1, fun i v hv => ?_⟩⟩, by simp [intOf]; omega⟩
        rw [HS.out.2.2 i v hv]
        by_cases hik : i = k
        · subst hik
          rw [HX.out] at hv
          cases hv
          rw [if_neg (by omega), if_neg (fun h => h.2 rfl)]
        · by_cases hik2 : i < k
          · simp [hik2, show i < k + 1 by omega]
          · simp [hik2, show ¬ i < k + 1 by omega]
      · have HNE := Lib.hid hne
        have HSP := Lib.hid (HS.out.1.inf HE.out)
        gi_wp2
        refine ⟨⟨k + 1, E.set k none, by omega, by rw [e1], Lib.hid ⟨HSP.out, by rw [List.length_set]; exact HS.out.2.1, fun i v hv => ?_⟩⟩, by simp [intOf]; omega⟩
        by_cases hik : i = k
        · subst hik
          rw [HX.out] at hv
          cases hv
          rw [if_pos ⟨by omega, HNE.out⟩, List.getElem?_set_self (by rw [HS.out.2.1]; exact hlt)]
        · rw [List.getElem?_set_ne (Ne.symm hik), HS.out.2.2 i v hv]
          by_cases hik2 : i < k
          · simp [hik2, show i < k + 1 by omega]
          · simp [hik2, show ¬ i < k + 1 by omega]
    · obtain rfl : k = n := by omega
      have HE : Hid (BSt t dk p to 0 0 0 0 E) := Lib.hid (BSt.start (by rw [HS.out.2.1, HLn.out]) fun i v hv => by
        have hi' : i < k := by rw [← HLn.out]; exact (List.getElem?_eq_some_iff.1 hv).1
        rw [HS.out.2.2 i v hv]
        by_cases e : v = to
        · rw [if_neg (fun h => h.2 e), if_pos e]
        · rw [if_pos ⟨hi', e⟩, if_neg e])
      have HS1 := Lib.hid HS.out.1
      clear HS
      gi_wp2
      gi_loopg [11] 9 (fun g vc wr => ∃ (ch : Bool) (q M : Nat) (E : List (Option Cost)), vc = .bool ch ∧ (g = if ch then 9 - q else 0) ∧ (ch = true → q ≤ 8) ∧ Hid (RCSt w #[.slice A k c, .slice A' m d] p E wr ∧ BSt t dk p to q 0 0 M E ∧ M ≤ q * 180 ∧ q ≤ 9 ∧ (ch = false → Stable t dk p E k 0)))
      case atStart => exact ⟨true, 0, 0, E, rfl, rfl, fun _ => Nat.zero_le _, Lib.hid ⟨HS1.out, HE.out, Nat.zero_le _, Nat.zero_le _, fun h => by cases h⟩⟩
      case round =>
        obtain ⟨ch, q, M, E1, rfl, hg, hq8, HV⟩ := hrel
        clear HS1 HE
        cases ch with
        | false =>
          gi_wp2
          refine bodyPost_ret (v := .slice (some ⟨w.heap.size + 1 + 1, 0, none⟩) k k) (by simp [results, Tryd.results119, go_sem]) rfl ?_
          have hB := HV.out.2.1
          have hlen : E1.length = k := by rw [hB.len, HLn.out]
          refine ⟨_, E1, rfl, ⟨by rw [eVals_len, hlen], fun h0 => ⟨_, rfl, HV.out.1.eb.lt, fun j u hu => ?_⟩⟩, hB.costs (by rw [HLn.out]; exact HV.out.2.2.2.2 trivial) HFI.out, fun i d hd => hB.little HFI.out HFA.out (by have := HV.out.2.2.1; have := HV.out.2.2.2.1; omega) hd, HV.out.1.bel⟩
          have ha : ((⟨w.heap.size + 1 + 1, 0, none⟩ : Addr).add j) = ⟨w.heap.size + 1 + 1, j, none⟩ := by
            unfold Addr.add
            by_cases hj : j = 0
            · simp [hj]
            · simp [hj]
          rw [ha, HV.out.1.eb.cell, List.getElem?_toArray]
          exact hu
        | true =>
          have hq : q ≤ 8 := hq8 rfl
          have hg' : gk = 9 - q := by simpa using hg
          clear hg hq8
          gi_wp2
          gi_loopw [11, 12] (fun vc vi wr => ∃ (ch : Bool) (i M : Nat) (E : List (Option Cost)), vc = .bool ch ∧ vi = .int .i64 i ∧ i ≤ k ∧ Hid (RCSt w #[.slice A k c, .slice A' m d] p E wr ∧ BSt t dk p to q i 0 M E ∧ M ≤ q * 180 + i * 20 ∧ (ch = false → Stable t dk p E i 0) ∧ (ch = true → q ≤ 7))) (fun _ vi _ => k - (intOf vi).toNat)
          case atStart => exact ⟨false, 0, M, E1, rfl, rfl, Nat.zero_le _, Lib.hid ⟨HV.out.1, HV.out.2.1, by have := HV.out.2.2.1; omega, fun _ i' v hv j' x hx hor => by omega, fun h => by cases h⟩⟩
          case round =>
            obtain ⟨ch, i, M2, E2, rfl, rfl, hik, HW⟩ := hrel
            clear HV
            have t0 := HW.out.1.tb.cell 0
            have t1 := HW.out.1.tb.cell 1
            by_cases hlt : i < k
            · gi_wp2
              gi_loopw [11, 50] (fun vc vj wr => ∃ (ch : Bool) (j M : Nat) (E : List (Option Cost)), vc = .bool ch ∧ vj = .int .i64 j ∧ j ≤ m ∧ Hid (RCSt w #[.slice A k c, .slice A' m d] p E wr ∧ BSt t dk p to q i j M E ∧ M ≤ q * 180 + i * 20 + j ∧ (ch = false → Stable t dk p E i j) ∧ (ch = true → q ≤ 7))) (fun _ vj _ => m - (intOf vj).toNat)
              case atStart => exact ⟨ch, 0, M2, E2, rfl, rfl, Nat.zero_le _, HW⟩
              case round =>
                obtain ⟨ch, j, M3, E3, rfl, rfl, hjm, HU⟩ := hrel
                clear HW
                by_cases hjl : j < m
                · obtain ⟨b, off, x, rfl, hb, hx, l0, l1, l2, l3, l4⟩ := (HT.out.below HU.out.1.bel).cell hjl
                  have hbl : b < wr.heap.size := Nat.lt_of_lt_of_le hb HU.out.1.bel.size
                  have HX := Lib.hid hx
                  clear hx hb t0 t1
                  gi_wp2
                  have HS1 : Hid (RCSt w #[.slice A k c, .slice (some ⟨b, off, none⟩) m d] p E3 (wr.alloc (.cells #[.int .i64 x.id, .int .i64 x.fr, .int .i64 x.to, .int .i64 x.steps, .int .i64 x.paces] 45))) := Lib.hid (HU.out.1.below ((Below.refl _ _).alloc (Nat.le_refl _) _))
                  have HLB : Hid (Blk (wr.alloc (.cells #[.int .i64 x.id, .int .i64 x.fr, .int .i64 x.to, .int .i64 x.steps, .int .i64 x.paces] 45)) wr.heap.size 45 #[.int .i64 x.id, .int .i64 x.fr, .int .i64 x.to, .int .i64 x.steps, .int .i64 x.paces]) := Lib.hid (Blk.new _ _ _)
                  clear l0 l1 l2 l3 l4
                  generalize (wr.alloc (.cells #[.int .i64 x.id, .int .i64 x.fr, .int .i64 x.to, .int .i64 x.steps, .int .i64 x.paces] 45)) = w1 at *
                  have HXM : Hid (x ∈ t.links) := Lib.hid (List.mem_of_getElem? HX.out)
                  have HFit : Hid (Fit x) := Lib.hid ⟨HFI.out.steps x HXM.out, HFI.out.paces x HXM.out⟩
                  obtain ⟨b3, off3, v, rfl, hb3, hv3, _⟩ := (HA.out.below HS1.out.bel).cell hlt
                  have HV3 := Lib.hid hv3
                  have hb3l : b3 < w1.heap.size := Nat.lt_of_lt_of_le hb3 HS1.out.bel.size
                  have hlbl : wr.heap.size < w1.heap.size := HLB.out.lt
                  have htl : w.heap.size < w1.heap.size := HS1.out.tb.lt
                  have hpl : w.heap.size + 1 < w1.heap.size := HS1.out.pb.lt
                  have hel : w.heap.size + 1 + 1 < w1.heap.size := HS1.out.eb.lt
                  have HPC : Hid (∀ W, Below w1.heap.size w1 W → W.cell? ⟨b3, off3 + i, none⟩ = some (.int .i64 v)) := Lib.hid (fun W hb => by
                    obtain ⟨b4, o4, y, e, _, hy, h⟩ := ((HA.out.below HS1.out.bel).more HS1.out.bel.size |>.below hb).cell hlt
                    cases e
                    obtain rfl : y = v := Option.some.inj (hy.symm.trans HV3.out)
                    exact h)
                  have hiI : (0 : Int) ≤ (i : Int) ∧ (i : Int) < (k : Int) := by omega
                  clear hb3 hv3
                  rcases hld : leads dk p x v with _ | ⟨v', cx⟩
                  · have HLD := Lib.hid hld
                    clear hld
                    refine wpIn_region_new (AF := ?AF1) (fun b => .pointer (some ⟨b, 0, none⟩)) 103 #[.int .i64 0, .int .i64 0, .int .i64 0, .int .i64 0] [0, 1, 2, 3, 4, 5, 6, 7, 8, 9, 10, 11, 12, 14, 16] [15] 13 [true, true, true, true, true, true, true, true, true, true, true, true, true, false, true, false, true] [false, false, false, false, false, false, false, false, false, false, false, false, false, false, false, true, false] (by kernel_rfl) (by kernel_rfl) (by kernel_rfl) (by kernel_rfl) (by kernel_rfl) (below_drewN (Below.refl _ _) 1) rfl rfl rfl ?hq1 ?hf1 ?ht1
                    case hq1 =>
                      rintro σ hσ of hof hcl
                      have HOF := Lib.hid hof
                      have HCL := Lib.hid hcl
                      clear hof hcl
                      have l0 : ∀ z, (of z).cell? ⟨wr.heap.size, 0, none⟩ = some (.int .i64 x.id) := fun z => (HLB.out.below (HOF.out z) HLB.out.lt).cell 0
                      have l1 : ∀ z, (of z).cell? ⟨wr.heap.size, 1, none⟩ = some (.int .i64 x.fr) := fun z => (HLB.out.below (HOF.out z) HLB.out.lt).cell 1
                      have l2 : ∀ z, (of z).cell? ⟨wr.heap.size, 2, none⟩ = some (.int .i64 x.to) := fun z => (HLB.out.below (HOF.out z) HLB.out.lt).cell 2
                      have l3 : ∀ z, (of z).cell? ⟨wr.heap.size, 3, none⟩ = some (.int .i64 x.steps) := fun z => (HLB.out.below (HOF.out z) HLB.out.lt).cell 3
                      have l4 : ∀ z, (of z).cell? ⟨wr.heap.size, 4, none⟩ = some (.int .i64 x.paces) := fun z => (HLB.out.below (HOF.out z) HLB.out.lt).cell 4
                      have t0 : ∀ z, (of z).cell? ⟨w.heap.size, 0, none⟩ = some (.slice (some ⟨b3, off3, none⟩) k c) := fun z => (HS1.out.tb.below (HOF.out z) HS1.out.tb.lt).cell 0
                      have t1 : ∀ z, (of z).cell? ⟨w.heap.size, 1, none⟩ = some (.slice (some ⟨b, off, none⟩) m d) := fun z => (HS1.out.tb.below (HOF.out z) HS1.out.tb.lt).cell 1
                      have p0 : ∀ z, (of z).cell? ⟨w.heap.size + 1, 0, none⟩ = some (.int .i64 p.pace) := fun z => (HS1.out.pb.below (HOF.out z) HS1.out.pb.lt).cell 0
                      have p1 : ∀ z, (of z).cell? ⟨w.heap.size + 1, 1, none⟩ = some (.int .i64 p.up) := fun z => (HS1.out.pb.below (HOF.out z) HS1.out.pb.lt).cell 1
                      have p2 : ∀ z, (of z).cell? ⟨w.heap.size + 1, 2, none⟩ = some (.int .i64 p.step) := fun z => (HS1.out.pb.below (HOF.out z) HS1.out.pb.lt).cell 2
                      have v0 : ∀ z, (of z).cell? ⟨b3, off3 + i, none⟩ = some (.int .i64 v) := fun z => HPC.out _ (HOF.out z)
                      have hfw : ∀ f, Fence.wide.fn f := fun _ => trivial
                      simp only [pickB]
                      repeat (gi_big_quiet_step (exact dleads_none x v dk p HLD.out HFit.out HP.out HOF.out HCL.out _))
                      refine wpQuietIn_nil ?_
                      exact rfl
                    case hf1 =>
                      intro W hb
                      exact ⟨fun f hf => trivial, rfl⟩
                    case ht1 =>
                      intro cb W hb hbb hR
                      have HB := Lib.hid hb
                      have HBB := Lib.hid hbb
                      have HR4 := Lib.hid hR
                      have hbl1 := hR.lt
                      have c0 := hR.cell 0
                      have c1 := hR.cell 1
                      have c2 := hR.cell 2
                      have c3 := hR.cell 3
                      have d0 := hR.frozen 0
                      have d1 := hR.frozen 1
                      have d2 := hR.frozen 2
                      have d3 := hR.frozen 3
                      clear hb hbb hR
                      simp only [pickB]
                      refine wpE_cons ?_
                      gi_wp2
                      have R5 := Lib.hid (ret4 HR4.out HB.out HBB.out (.int .i64 0) (.int .i64 0) (.int .i64 0) (.int .i64 0))
                      refine ⟨R5.out.2, wpE_nil ?_⟩
                      have HW5 := Lib.hid (HS1.out.below R5.out.2)
                      generalize (((W.setCell ⟨cb, 0, none⟩ (.int .i64 0)).setCell ⟨cb, 1, none⟩ (.int .i64 0)).setCell ⟨cb, 2, none⟩ (.int .i64 0)).setCell ⟨cb, 3, none⟩ (.int .i64 0) = W5 at *
                      clear c0 c1 c2 c3 d0 d1 d2 d3
                      have hbl5 := R5.out.1.lt
                      gi_wp2
                      have e1 : ((j + 1 : Nat) : Int) = (j : Int) + 1 := by omega
                      have hno : ∀ n cx, leads dk p x v = some (n, cx) → ∀ (i2 : Nat) d, t.places[i2]? = some n → E3[i2]? = some (some d) → leE E3 i (addC cx d) := fun n cx h => by
                        rw [HLD.out] at h
                        cases h
                      exact ⟨⟨ch, j + 1, M3, E3, rfl, by rw [e1], by omega, Lib.hid ⟨HW5.out, HU.out.2.1.skip HX.out HV3.out hno HFI.out, by have := HU.out.2.2.1; omega, fun h => (HU.out.2.2.2.1 h).step HX.out HV3.out hno, HU.out.2.2.2.2⟩⟩, by simp [intOf]; omega⟩
                  · have HLD := Lib.hid hld
                    clear hld
                    refine wpIn_region_new (AF := ?AF2) (fun b => .pointer (some ⟨b, 0, none⟩)) 103 #[.int .i64 0, .int .i64 0, .int .i64 0, .int .i64 0] [0, 1, 2, 3, 4, 5, 6, 7, 8, 9, 10, 11, 12, 14, 16] [15] 13 [true, true, true, true, true, true, true, true, true, true, true, true, true, false, true, false, true] [false, false, false, false, false, false, false, false, false, false, false, false, false, false, false, true, false] (by kernel_rfl) (by kernel_rfl) (by kernel_rfl) (by kernel_rfl) (by kernel_rfl) (below_drewN (Below.refl _ _) 1) rfl rfl rfl ?hq2 ?hf2 ?ht2
                    case hq2 =>
                      rintro σ hσ of hof hcl
                      have HOF := Lib.hid hof
                      have HCL := Lib.hid hcl
                      clear hof hcl
                      have l0 : ∀ z, (of z).cell? ⟨wr.heap.size, 0, none⟩ = some (.int .i64 x.id) := fun z => (HLB.out.below (HOF.out z) HLB.out.lt).cell 0
                      have l1 : ∀ z, (of z).cell? ⟨wr.heap.size, 1, none⟩ = some (.int .i64 x.fr) := fun z => (HLB.out.below (HOF.out z) HLB.out.lt).cell 1
                      have l2 : ∀ z, (of z).cell? ⟨wr.heap.size, 2, none⟩ = some (.int .i64 x.to) := fun z => (HLB.out.below (HOF.out z) HLB.out.lt).cell 2
                      have l3 : ∀ z, (of z).cell? ⟨wr.heap.size, 3, none⟩ = some (.int .i64 x.steps) := fun z => (HLB.out.below (HOF.out z) HLB.out.lt).cell 3
                      have l4 : ∀ z, (of z).cell? ⟨wr.heap.size, 4, none⟩ = some (.int .i64 x.paces) := fun z => (HLB.out.below (HOF.out z) HLB.out.lt).cell 4
                      have t0 : ∀ z, (of z).cell? ⟨w.heap.size, 0, none⟩ = some (.slice (some ⟨b3, off3, none⟩) k c) := fun z => (HS1.out.tb.below (HOF.out z) HS1.out.tb.lt).cell 0
                      have t1 : ∀ z, (of z).cell? ⟨w.heap.size, 1, none⟩ = some (.slice (some ⟨b, off, none⟩) m d) := fun z => (HS1.out.tb.below (HOF.out z) HS1.out.tb.lt).cell 1
                      have p0 : ∀ z, (of z).cell? ⟨w.heap.size + 1, 0, none⟩ = some (.int .i64 p.pace) := fun z => (HS1.out.pb.below (HOF.out z) HS1.out.pb.lt).cell 0
                      have p1 : ∀ z, (of z).cell? ⟨w.heap.size + 1, 1, none⟩ = some (.int .i64 p.up) := fun z => (HS1.out.pb.below (HOF.out z) HS1.out.pb.lt).cell 1
                      have p2 : ∀ z, (of z).cell? ⟨w.heap.size + 1, 2, none⟩ = some (.int .i64 p.step) := fun z => (HS1.out.pb.below (HOF.out z) HS1.out.pb.lt).cell 2
                      have v0 : ∀ z, (of z).cell? ⟨b3, off3 + i, none⟩ = some (.int .i64 v) := fun z => HPC.out _ (HOF.out z)
                      have hfw : ∀ f, Fence.wide.fn f := fun _ => trivial
                      simp only [pickB]
                      repeat (gi_big_quiet_step (exact dleads_some x v dk p v' cx HLD.out HFit.out HP.out HOF.out HCL.out _))
                      refine wpQuietIn_nil ?_
                      exact rfl
                    case hf2 =>
                      intro W hb
                      exact ⟨fun f hf => trivial, rfl⟩
                    case ht2 =>
                      intro cb W hb hbb hR
                      have HB := Lib.hid hb
                      have HBB := Lib.hid hbb
                      have HR4 := Lib.hid hR
                      have hbl1 := hR.lt
                      have c0 := hR.cell 0
                      have c1 := hR.cell 1
                      have c2 := hR.cell 2
                      have c3 := hR.cell 3
                      have d0 := hR.frozen 0
                      have d1 := hR.frozen 1
                      have d2 := hR.frozen 2
                      have d3 := hR.frozen 3
                      clear hb hbb hR
                      simp only [pickB]
                      refine wpE_cons ?_
                      gi_wp2
                      have R5 := Lib.hid (ret4 HR4.out HB.out HBB.out (.int .i64 cx.a) (.int .i64 cx.b) (.int .i64 cx.c) (.int .i64 cx.d))
                      refine ⟨R5.out.2, wpE_nil ?_⟩
                      have HW5 := Lib.hid (HS1.out.below R5.out.2)
                      generalize (((W.setCell ⟨cb, 0, none⟩ (.int .i64 cx.a)).setCell ⟨cb, 1, none⟩ (.int .i64 cx.b)).setCell ⟨cb, 2, none⟩ (.int .i64 cx.c)).setCell ⟨cb, 3, none⟩ (.int .i64 cx.d) = W5 at *
                      clear c0 c1 c2 c3 d0 d1 d2 d3
                      have hbl5 := R5.out.1.lt
                      obtain ⟨i2, hpi, hi2, hi2l⟩ := placeI_at (leads_ends HXM.out HFI.out HLD.out).2
                      have HPI := Lib.hid hpi
                      have HI2 := Lib.hid hi2
                      have hi2k : i2 < k := by have := HLn.out; omega
                      obtain ⟨r, hr⟩ : ∃ r, E3[i2]? = some r := ⟨_, List.getElem?_eq_getElem (by rw [HU.out.2.1.len]; exact hi2l)⟩
                      have HR := Lib.hid hr
                      have HCX := Lib.hid (leads_cost HXM.out HFI.out HFA.out HLD.out)
                      have HLT : Hid (∀ (q : Nat) d, E3[q]? = some (some d) → Little d) := Lib.hid (fun q d hd => HU.out.2.1.little HFI.out HFA.out (by have := HU.out.2.2.1; omega) hd)
                      have HSM : Hid (Small cx ∧ Small (entC r)) := Lib.hid ⟨by
                        have h1 := HCX.out
                        exact ⟨by omega, by omega, by omega, by omega⟩, Small.ent fun d hd => HLT.out i2 d (by rw [HR.out, hd])⟩
                      have hi2I : (0 : Int) ≤ (i2 : Int) ∧ (i2 : Int) < (k : Int) := by omega
                      clear hpi hi2 hi2l hr
                      gi_wp2
                      have hcb5 : cb < W5.heap.size := hbl5
                      have htl5 : w.heap.size < W5.heap.size := HW5.out.tb.lt
                      have hpl5 : w.heap.size + 1 < W5.heap.size := HW5.out.pb.lt
                      have hel5 : w.heap.size + 1 + 1 < W5.heap.size := HW5.out.eb.lt
                      refine wpIn_region_new (AF := ?AF3) (fun b => .pointer (some ⟨b, 0, none⟩)) 103 #[.int .i64 0, .int .i64 0, .int .i64 0, .int .i64 0] [0, 1, 2, 3, 4, 5, 6, 7] [9] 8 [true, true, true, true, true, true, true, true, false, false] [false, false, false, false, false, false, false, false, false, true] (by kernel_rfl) (by kernel_rfl) (by kernel_rfl) (by kernel_rfl) (by kernel_rfl) (below_drewN (Below.refl _ _) 1) rfl rfl rfl ?hq3 ?hf3 ?ht3
                      case hq3 =>
                        rintro σ hσ of hof hcl
                        have HOF := Lib.hid hof
                        have HCL := Lib.hid hcl
                        clear hof hcl
                        have q0 : ∀ z, (of z).cell? ⟨cb, 0, none⟩ = some (.int .i64 cx.a) := fun z => (R5.out.1.below (HOF.out z) hbl5).cell 0
                        have q1 : ∀ z, (of z).cell? ⟨cb, 1, none⟩ = some (.int .i64 cx.b) := fun z => (R5.out.1.below (HOF.out z) hbl5).cell 1
                        have q2 : ∀ z, (of z).cell? ⟨cb, 2, none⟩ = some (.int .i64 cx.c) := fun z => (R5.out.1.below (HOF.out z) hbl5).cell 2
                        have q3 : ∀ z, (of z).cell? ⟨cb, 3, none⟩ = some (.int .i64 cx.d) := fun z => (R5.out.1.below (HOF.out z) hbl5).cell 3
                        have t0 : ∀ z, (of z).cell? ⟨w.heap.size, 0, none⟩ = some (.slice (some ⟨b3, off3, none⟩) k c) := fun z => (HW5.out.tb.below (HOF.out z) HW5.out.tb.lt).cell 0
                        have t1 : ∀ z, (of z).cell? ⟨w.heap.size, 1, none⟩ = some (.slice (some ⟨b, off, none⟩) m d) := fun z => (HW5.out.tb.below (HOF.out z) HW5.out.tb.lt).cell 1
                        have v0 : ∀ z, (of z).cell? ⟨w.heap.size + 1 + 1, i2 * 4, none⟩ = some (.int .i64 (entC r).a) := fun z => ((HW5.out.below (HOF.out z)).cell HR.out).1
                        have v1 : ∀ z, (of z).cell? ⟨w.heap.size + 1 + 1, i2 * 4 + 1, none⟩ = some (.int .i64 (entC r).b) := fun z => ((HW5.out.below (HOF.out z)).cell HR.out).2.1
                        have v2 : ∀ z, (of z).cell? ⟨w.heap.size + 1 + 1, i2 * 4 + 2, none⟩ = some (.int .i64 (entC r).c) := fun z => ((HW5.out.below (HOF.out z)).cell HR.out).2.2.1
                        have v3 : ∀ z, (of z).cell? ⟨w.heap.size + 1 + 1, i2 * 4 + 3, none⟩ = some (.int .i64 (entC r).d) := fun z => ((HW5.out.below (HOF.out z)).cell HR.out).2.2.2
                        have hfw : ∀ f, Fence.wide.fn f := fun _ => trivial
                        simp only [pickB]
                        repeat (gi_big_quiet_step (first | exact place_cls (some ⟨b3, off3, none⟩) k c (some ⟨b, off, none⟩) m d t v' i2 HPI.out (by unfold maxLen; omega) w.heap.size HW5.out.bel.size (HA.out.below HW5.out.bel) HOF.out HCL.out _ | exact rplus_cls cx (entC r) HSM.out.1 HSM.out.2 HOF.out HCL.out _))
                        refine wpQuietIn_nil ?_
                        exact rfl
                      case hf3 =>
                        intro W hb
                        exact ⟨fun f hf => trivial, rfl⟩
                      case ht3 =>
                        intro sb W hb hbb hR
                        have HB3 := Lib.hid hb
                        have HBB3 := Lib.hid hbb
                        have HR43 := Lib.hid hR
                        have hbl1 := hR.lt
                        have c0 := hR.cell 0
                        have c1 := hR.cell 1
                        have c2 := hR.cell 2
                        have c3 := hR.cell 3
                        have d0 := hR.frozen 0
                        have d1 := hR.frozen 1
                        have d2 := hR.frozen 2
                        have d3 := hR.frozen 3
                        clear hb hbb hR
                        simp only [pickB]
                        refine wpE_cons ?_
                        gi_wp2
                        have R6 := Lib.hid (ret4 HR43.out HB3.out HBB3.out (.int .i64 (addC cx (entC r)).a) (.int .i64 (addC cx (entC r)).b) (.int .i64 (addC cx (entC r)).c) (.int .i64 (addC cx (entC r)).d))
                        refine ⟨R6.out.2, wpE_nil ?_⟩
                        have HW6 := Lib.hid (HW5.out.below R6.out.2)
                        generalize (((W.setCell ⟨sb, 0, none⟩ (.int .i64 (addC cx (entC r)).a)).setCell ⟨sb, 1, none⟩ (.int .i64 (addC cx (entC r)).b)).setCell ⟨sb, 2, none⟩ (.int .i64 (addC cx (entC r)).c)).setCell ⟨sb, 3, none⟩ (.int .i64 (addC cx (entC r)).d) = W6 at *
                        clear c0 c1 c2 c3 d0 d1 d2 d3
                        have hbl6 := R6.out.1.lt
                        obtain ⟨s, hs⟩ : ∃ s, addC cx (entC r) = s := ⟨_, rfl⟩
                        rw [hs] at R6 ⊢
                        have HSS := Lib.hid hs
                        clear hs
                        have e1 : ((j + 1 : Nat) : Int) = (j : Int) + 1 := by omega
                        obtain ⟨r2, hr2⟩ : ∃ r2, E3[i]? = some r2 := ⟨_, List.getElem?_eq_getElem (by rw [HU.out.2.1.len, HLn.out]; exact hlt)⟩
                        have HR2 := Lib.hid hr2
                        clear hr2
                        have HUQ : Hid (∀ (i' : Nat), t.places[i']? = some v' → i' = i2) := Lib.hid (fun i' h => by
                          have hl := (List.getElem?_eq_some_iff.1 h).1
                          exact (List.getElem?_inj hl HND.out).1 (h.trans HI2.out.symm))
                        have hsbl : sb < W6.heap.size := hbl6
                        have hel6 : w.heap.size + 1 + 1 < W6.heap.size := HW6.out.eb.lt
                        cases r with
                        | none =>
                          have hsa : decide (s.a < 1000000000) = false := by
                            have h1 := HCX.out
                            have h2 : s.a = cx.a + 1000000000 := by rw [← HSS.out]; rfl
                            simp
                            omega
                          have HNO : Hid (∀ n cx, leads dk p x v = some (n, cx) → ∀ (i2 : Nat) d, t.places[i2]? = some n → E3[i2]? = some (some d) → leE E3 i (addC cx d)) := Lib.hid (fun n' cx' h i' d' hp' he' => by
                            rw [HLD.out] at h
                            cases h
                            obtain rfl := HUQ.out i' hp'
                            rw [HR.out] at he'
                            cases he')
                          gi_wp2
                          refine wpIn_region_old (AF := ?AF4) [0, 1, 2, 3, 4, 5, 6, 7, 8, 9, 10] [] [true, true, true, true, true, true, true, true, true, true, true] [false, false, false, false, false, false, false, false, false, false, false] (by kernel_rfl) (by kernel_rfl) (by kernel_rfl) (by kernel_rfl) (by kernel_rfl) (below_drewN (Below.refl _ _) 1) ?hq4 ?ht4
                          case hq4 =>
                            rintro σ hσ of hof hcl
                            have HOF := Lib.hid hof
                            have HCL := Lib.hid hcl
                            clear hof hcl
                            have q0 : ∀ z, (of z).cell? ⟨sb, 0, none⟩ = some (.int .i64 s.a) := fun z => (R6.out.1.below (HOF.out z) hbl6).cell 0
                            have hfw : ∀ f, Fence.wide.fn f := fun _ => trivial
                            simp only [pickB]
                            repeat (gi_big_quiet_step (fail))
                            refine wpQuietIn_nil ?_
                            exact rfl
                          case ht4 =>
                            intro W hb
                            have HW7 := Lib.hid (HW6.out.below hb)
                            have HS7 := Lib.hid (R6.out.1.below hb hbl6)
                            have hbl7 : sb < W.heap.size := HS7.out.lt
                            clear hb
                            simp only [pickB]
                            refine wpE_nil ?_
                            gi_wp2
                            exact ⟨⟨ch, j + 1, M3, E3, rfl, by rw [e1], by omega, Lib.hid ⟨HW7.out, HU.out.2.1.skip HX.out HV3.out HNO.out HFI.out, by have := HU.out.2.2.1; omega, fun h => (HU.out.2.2.2.1 h).step HX.out HV3.out HNO.out, HU.out.2.2.2.2⟩⟩, by simp [intOf]; omega⟩
                        | some d1 =>
                          have hsb : s.a < 1000000000 := by
                            have h1 := HCX.out
                            have h2 : s.a = cx.a + d1.a := by rw [← HSS.out]; rfl
                            have h3 := (HLT.out i2 d1 HR.out).a
                            omega
                          have hsa : decide (s.a < 1000000000) = true := by simpa using hsb
                          have HSB := Lib.hid hsb
                          clear hsb
                          cases hls : lessC s (entC r2) with
                          | false =>
                            have HLS := Lib.hid hls
                            clear hls
                            have HNO : Hid (∀ n cx, leads dk p x v = some (n, cx) → ∀ (i2 : Nat) d, t.places[i2]? = some n → E3[i2]? = some (some d) → leE E3 i (addC cx d)) := Lib.hid (fun n' cx' h i' d' hp' he' => by
                              rw [HLD.out] at h
                              cases h
                              obtain rfl := HUQ.out i' hp'
                              rw [HR.out] at he'
                              cases he'
                              have h1 := HLS.out
                              rw [lessC_cmp] at h1
                              have h2 := of_decide_eq_false h1
                              have hss : addC cx d1 = s := HSS.out
                              rw [hss]
                              cases hr2 : r2 with
                              | none =>
                                rw [hr2] at h2
                                have h3 := HSB.out
                                simp [entC, infC, cmpL, Cost.list, h3] at h2
                              | some e2 =>
                                rw [hr2] at h2
                                refine ⟨e2, by rw [HR2.out, hr2], ?_⟩
                                have h3 := cmpL_swap s.list e2.list
                                simp only [entC, Option.getD_some] at h2
                                omega)
                            gi_wp2
                            refine wpIn_region_old (AF := ?AF5) [0, 1, 2, 3, 4, 5, 6, 7, 8, 9, 10] [] [true, true, true, true, true, true, true, true, true, true, true] [false, false, false, false, false, false, false, false, false, false, false] (by kernel_rfl) (by kernel_rfl) (by kernel_rfl) (by kernel_rfl) (by kernel_rfl) (below_drewN (Below.refl _ _) 1) ?hq5 ?ht5
                            case hq5 =>
                              rintro σ hσ of hof hcl
                              have HOF := Lib.hid hof
                              have HCL := Lib.hid hcl
                              clear hof hcl
                              have q0 : ∀ z, (of z).cell? ⟨sb, 0, none⟩ = some (.int .i64 s.a) := fun z => (R6.out.1.below (HOF.out z) hbl6).cell 0
                              have q1 : ∀ z, (of z).cell? ⟨sb, 1, none⟩ = some (.int .i64 s.b) := fun z => (R6.out.1.below (HOF.out z) hbl6).cell 1
                              have q2 : ∀ z, (of z).cell? ⟨sb, 2, none⟩ = some (.int .i64 s.c) := fun z => (R6.out.1.below (HOF.out z) hbl6).cell 2
                              have q3 : ∀ z, (of z).cell? ⟨sb, 3, none⟩ = some (.int .i64 s.d) := fun z => (R6.out.1.below (HOF.out z) hbl6).cell 3
                              have v0 : ∀ z, (of z).cell? ⟨w.heap.size + 1 + 1, i * 4, none⟩ = some (.int .i64 (entC r2).a) := fun z => ((HW6.out.below (HOF.out z)).cell HR2.out).1
                              have v1 : ∀ z, (of z).cell? ⟨w.heap.size + 1 + 1, i * 4 + 1, none⟩ = some (.int .i64 (entC r2).b) := fun z => ((HW6.out.below (HOF.out z)).cell HR2.out).2.1
                              have v2 : ∀ z, (of z).cell? ⟨w.heap.size + 1 + 1, i * 4 + 2, none⟩ = some (.int .i64 (entC r2).c) := fun z => ((HW6.out.below (HOF.out z)).cell HR2.out).2.2.1
                              have v3 : ∀ z, (of z).cell? ⟨w.heap.size + 1 + 1, i * 4 + 3, none⟩ = some (.int .i64 (entC r2).d) := fun z => ((HW6.out.below (HOF.out z)).cell HR2.out).2.2.2
                              have hfw : ∀ f, Fence.wide.fn f := fun _ => trivial
                              simp only [pickB]
                              repeat (gi_big_quiet_step (exact rless_cls s (entC r2) _ HLS.out HOF.out HCL.out _))
                              refine wpQuietIn_nil ?_
                              exact rfl
                            case ht5 =>
                              intro W hb
                              have HW7 := Lib.hid (HW6.out.below hb)
                              have HS7 := Lib.hid (R6.out.1.below hb hbl6)
                              have hbl7 : sb < W.heap.size := HS7.out.lt
                              clear hb
                              simp only [pickB]
                              refine wpE_nil ?_
                              gi_wp2
                              exact ⟨⟨ch, j + 1, M3, E3, rfl, by rw [e1], by omega, Lib.hid ⟨HW7.out, HU.out.2.1.skip HX.out HV3.out HNO.out HFI.out, by have := HU.out.2.2.1; omega, fun h => (HU.out.2.2.2.1 h).step HX.out HV3.out HNO.out, HU.out.2.2.2.2⟩⟩, by simp [intOf]; omega⟩
                          | true =>
                            have HLS := Lib.hid hls
                            clear hls
                            have HLE : Hid (∀ e2, r2 = some e2 → cmpL s.list e2.list < 0) := Lib.hid (fun e2 he => by
                              have h1 := HLS.out
                              rw [lessC_cmp, he] at h1
                              exact of_decide_eq_true h1)
                            have HTK : Hid (BSt t dk p to q i (j + 1) (M3 + 1) (E3.set i (some s))) := Lib.hid (by
                              have h := HU.out.2.1.take HX.out HV3.out HLD.out HI2.out HR.out (fun e he => by
                                rw [HR2.out] at he
                                have h1 := HLE.out e (Option.some.inj he)
                                have hss : addC cx d1 = s := HSS.out
                                rw [hss]
                                omega) HND.out
                              have hss : addC cx d1 = s := HSS.out
                              rw [hss] at h
                              exact h)
                            have HQ7 : Hid (q ≤ 7) := Lib.hid (by
                              apply Decidable.byContradiction
                              intro hc
                              obtain ⟨l, hw, _⟩ := HU.out.2.1.sound i2 v' d1 HI2.out HR.out
                              have hw2 : Walk t dk p v to s (x.id :: l) := by
                                have hss : addC cx d1 = s := HSS.out
                                rw [← hss]
                                exact .cons HXM.out HLD.out hw
                              obtain ⟨e2, h1, h2⟩ := HU.out.2.1.settled (by omega) HFI.out HFA.out HV3.out hw2
                              rw [HR2.out] at h1
                              have h3 := HLE.out e2 (Option.some.inj h1)
                              have h4 := cmpL_swap s.list e2.list
                              omega)
                            gi_wp2
                            refine wpIn_region_old (AF := ?AF6) [0, 1, 2, 3, 4, 5, 6, 7, 8, 9, 10] [] [true, true, true, true, true, true, true, true, true, true, true] [false, false, false, false, false, false, false, false, false, false, false] (by kernel_rfl) (by kernel_rfl) (by kernel_rfl) (by kernel_rfl) (by kernel_rfl) (below_drewN (Below.refl _ _) 1) ?hq6 ?ht6
                            case hq6 =>
                              rintro σ hσ of hof hcl
                              have HOF := Lib.hid hof
                              have HCL := Lib.hid hcl
                              clear hof hcl
                              have q0 : ∀ z, (of z).cell? ⟨sb, 0, none⟩ = some (.int .i64 s.a) := fun z => (R6.out.1.below (HOF.out z) hbl6).cell 0
                              have q1 : ∀ z, (of z).cell? ⟨sb, 1, none⟩ = some (.int .i64 s.b) := fun z => (R6.out.1.below (HOF.out z) hbl6).cell 1
                              have q2 : ∀ z, (of z).cell? ⟨sb, 2, none⟩ = some (.int .i64 s.c) := fun z => (R6.out.1.below (HOF.out z) hbl6).cell 2
                              have q3 : ∀ z, (of z).cell? ⟨sb, 3, none⟩ = some (.int .i64 s.d) := fun z => (R6.out.1.below (HOF.out z) hbl6).cell 3
                              have v0 : ∀ z, (of z).cell? ⟨w.heap.size + 1 + 1, i * 4, none⟩ = some (.int .i64 (entC r2).a) := fun z => ((HW6.out.below (HOF.out z)).cell HR2.out).1
                              have v1 : ∀ z, (of z).cell? ⟨w.heap.size + 1 + 1, i * 4 + 1, none⟩ = some (.int .i64 (entC r2).b) := fun z => ((HW6.out.below (HOF.out z)).cell HR2.out).2.1
                              have v2 : ∀ z, (of z).cell? ⟨w.heap.size + 1 + 1, i * 4 + 2, none⟩ = some (.int .i64 (entC r2).c) := fun z => ((HW6.out.below (HOF.out z)).cell HR2.out).2.2.1
                              have v3 : ∀ z, (of z).cell? ⟨w.heap.size + 1 + 1, i * 4 + 3, none⟩ = some (.int .i64 (entC r2).d) := fun z => ((HW6.out.below (HOF.out z)).cell HR2.out).2.2.2
                              have hfw : ∀ f, Fence.wide.fn f := fun _ => trivial
                              simp only [pickB]
                              repeat (gi_big_quiet_step (exact rless_cls s (entC r2) _ HLS.out HOF.out HCL.out _))
                              refine wpQuietIn_nil ?_
                              exact rfl
                            case ht6 =>
                              intro W hb
                              have HW7 := Lib.hid (HW6.out.below hb)
                              have HS7 := Lib.hid (R6.out.1.below hb hbl6)
                              have hbl7 : sb < W.heap.size := HS7.out.lt
                              clear hb
                              simp only [pickB]
                              refine wpE_nil ?_
                              have c0 := HS7.out.cell 0
                              have c1 := HS7.out.cell 1
                              have c2 := HS7.out.cell 2
                              have c3 := HS7.out.cell 3
                              have f0 := HW7.out.eb.frozen (i * 4)
                              have f1 := HW7.out.eb.frozen (i * 4 + 1)
                              have f2 := HW7.out.eb.frozen (i * 4 + 2)
                              have f3 := HW7.out.eb.frozen (i * 4 + 3)
                              have o0 := (HW7.out.cell HR2.out).1
                              have o1 := (HW7.out.cell HR2.out).2.1
                              have o2 := (HW7.out.cell HR2.out).2.2.1
                              have o3 := (HW7.out.cell HR2.out).2.2.2
                              have HP8 := Lib.hid (HW7.out.put (k := i) (by rw [HU.out.2.1.len, HLn.out]; exact hlt) s)
                              gi_wp2
                              exact ⟨⟨true, j + 1, M3 + 1, E3.set i (some s), rfl, by rw [e1], by omega, Lib.hid ⟨HP8.out, HTK.out, by have := HU.out.2.2.1; omega, fun h => (by cases h), fun _ => HQ7.out⟩⟩, by simp [intOf]; omega⟩
                · obtain rfl : j = m := by omega
                  have e1 : ((i + 1 : Nat) : Int) = (i : Int) + 1 := by omega
                  gi_wp2
                  refine ⟨⟨ch, i + 1, M3, E3, rfl, by rw [e1], by omega, Lib.hid ⟨HU.out.1, HU.out.2.1.next (by rw [HLm.out]; exact Nat.le_refl _), by have := HU.out.2.2.1; omega, fun h => (HU.out.2.2.2.1 h).keep (by rw [HLm.out]; exact Nat.le_refl _), HU.out.2.2.2.2⟩⟩, by simp [intOf]; omega⟩
            · obtain rfl : i = k := by omega
              gi_wp2
              gi_roundg (if ch then 8 - q else 0)
              case rel => exact ⟨ch, q + 1, M2, E2, rfl, by cases ch <;> simp <;> omega, fun h => by have := HW.out.2.2.2.2 h; omega, Lib.hid ⟨HW.out.1, HW.out.2.1.round (by rw [HLn.out]; exact Nat.le_refl _), by have := HW.out.2.2.1; omega, by omega, fun h => HW.out.2.2.2.1 h⟩⟩
              case measure => rw [hg']; split <;> omega

theorem rcosts_any (A : Option Addr) (n c : Nat) (A' : Option Addr) (m d : Nat) (p : Price) (t : Town) (dk : Bool) (to : Int) (w : World)
    (hm : m ≤ 20) (ha : IntsAt w w.heap.size A n t.places) (ht : LinksAt w w.heap.size A' m t.links) (hp : Cheap p) (hfine : Fine t) (hfair : Fair p) (hnd : t.places.Nodup) :
    Calls Tryd.prog 119 #[.agg #[.slice A n c, .slice A' m d], .int .i64 to, .bool dk, .agg #[.int .i64 p.pace, .int .i64 p.up, .int .i64 p.step]] w (RCostsOut w t dk p to n) :=
  callsIn_wide.1 (rcosts_in A n c A' m d p t dk to w hm ha ht hp hfine hfair hnd)
end Go.Proofs.YtahkjagjcogeiaaDoor
/- Two costs of the answer compared. -/
namespace Go.Proofs.YtahkjagjcogeiaaDoor
open Go.RowKit Go.Shelf
theorem eql_cost (x y : Cost) (W : World) : (binOp .eql 103 (.agg #[.int .i64 x.a, .int .i64 x.b, .int .i64 x.c, .int .i64 x.d]) (.agg #[.int .i64 y.a, .int .i64 y.b, .int .i64 y.c, .int .i64 y.d])).run Tryd.prog W = .ok (.bool (decide (x = y))) W := by
  obtain ⟨i0, hi, hz0, hz1, hz2⟩ := info_parts info_int
  have hc : Tryd.prog.cellsOf 3 = 1 := by simp [Program.cellsOf, hi, hz1]
  rw [run_eql_struct, show (10000 : Nat) = 9998 + 1 + 1 from rfl, run_equalIn_array W (9998 + 1) (n := 4) (e := 3) _ _ Tryd.underlying103 hi, hc]
  have hp : ∀ (k : Nat) (a : Array Value) (z : Int), a[k]? = some (.int .i64 z) → (part 3 a k).run Tryd.prog W = .ok (.int .i64 z) W := by
    intro k a z h
    simp [part, go_sem]
    rw [h]
    rfl
  have he : ∀ (a b : Int), (Op.equalIn (9998 + 1) 3 (.int .i64 a) (.int .i64 b)).run Tryd.prog W = .ok (a == b) W := fun a b => run_equalIn_int W 9998 3 .i64 .i64 a b Tryd.underlying3
  simp only [List.range, List.range.loop, Op.eqItems, Sem.run_bind, Nat.mul_one]
  rw [hp 0 _ x.a rfl, Result.andThen_ok, hp 0 _ y.a rfl, Result.andThen_ok, he, Result.andThen_ok]
  have hxy : x = y ↔ x.a = y.a ∧ x.b = y.b ∧ x.c = y.c ∧ x.d = y.d := by
    cases x; cases y; simp
  by_cases h1 : x.a = y.a
  · rw [if_neg (by simp [h1]), Sem.run_bind, hp 1 _ x.b rfl, Result.andThen_ok, Sem.run_bind, hp 1 _ y.b rfl, Result.andThen_ok, Sem.run_bind, he, Result.andThen_ok]
    by_cases h2 : x.b = y.b
    · rw [if_neg (by simp [h2]), Sem.run_bind, hp 2 _ x.c rfl, Result.andThen_ok, Sem.run_bind, hp 2 _ y.c rfl, Result.andThen_ok, Sem.run_bind, he, Result.andThen_ok]
      by_cases h3 : x.c = y.c
      · rw [if_neg (by simp [h3]), Sem.run_bind, hp 3 _ x.d rfl, Result.andThen_ok, Sem.run_bind, hp 3 _ y.d rfl, Result.andThen_ok, Sem.run_bind, he, Result.andThen_ok]
        by_cases h4 : x.d = y.d
        · rw [if_neg (by simp [h4])]
          simp [hxy, h1, h2, h3, h4, Result.andThen]
        · rw [if_pos (by simp [h4])]
          simp [hxy, h4, Result.andThen]
      · rw [if_pos (by simp [h3])]
        simp [hxy, h3, Result.andThen]
    · rw [if_pos (by simp [h2])]
      simp [hxy, h2, Result.andThen]
  · rw [if_pos (by simp [h1])]
    simp [hxy, h1, Result.andThen]
theorem quietIn_eql_cost {F : Fence} {n : Nat} {C : World → Prop} {a : Act} {o : Oper} {K : Act → Prop} (x y : Cost) (b : Bool) (hb : decide (x = y) = b) (xo yo : Operand) {t' : TypeId} (h : o.op = .binOp .eql 103 xo yo t')
    (hx : a.eval xo = .agg #[.int .i64 x.a, .int .i64 x.b, .int .i64 x.c, .int .i64 x.d]) (hy : a.eval yo = .agg #[.int .i64 y.a, .int .i64 y.b, .int .i64 y.c, .int .i64 y.d]) (hk : K (a.put o.dst (.bool b))) : o.quietIn F n Tryd.prog a C K :=
  ⟨.bool b, fun w _ => by
    have hg := run_eqGuard_agg (P := Tryd.prog) w .eql 103 xo yo #[.int .i64 x.a, .int .i64 x.b, .int .i64 x.c, .int .i64 x.d] #[.int .i64 y.a, .int .i64 y.b, .int .i64 y.c, .int .i64 y.d] Tryd.eqGuardType103
    have he := eql_cost x y w
    unfold Oper.quietAtIn
    rw [hb] at he
    have e : (execOp a.eval o).run Tryd.prog w = .ok (.value (.bool b)) w := by
      unfold execOp
      rw [h]
      simp only [hx, hy, Sem.run_bind, hg, Result.andThen_ok, he]
      rfl
    rw [e]
    exact ⟨rfl, rfl⟩, hk⟩
end Go.Proofs.YtahkjagjcogeiaaDoor
/- append inside a fence, whatever its source; the marks of a function shut: maps lie as they lay. -/
namespace Go.Proofs.YtahkjagjcogeiaaDoor
open Go.RowKit
set_option linter.unusedVariables false

theorem wpListIn_append_any {F : Fence} {nn : Nat} {P : Program} {w : World} {ops : Array Oper} {rest : List Oper} {o : Oper} {a : Act} {Q : Exit → Act → World → Prop} (hgd : o.guard = none) (s x : Operand) {t e : TypeId}
    (ho : o.op = .call { callee := .builtin .append, args := #[s, x], argTypes := #[t, t] })
    {z : Value} {size bytes : Nat} (EE : ElemAt P t e z size bytes) {base : Nat} {A : Option Addr} {n cap : Nat} {xs : List Value} (hs : a.eval s = .slice A n cap) (hown : Own w base e size A n cap xs)
    {A2 : Option Addr} {m c B : Nat} {news : List Value} (hx : a.eval x = .slice A2 m c) (hR : Reads w B size A2 m news) (h1 : ∀ u ∈ news, u.oneCell' = true) (h63 : n + m ≤ maxLen) (hbytes : (n + m) * bytes ≤ 140737488355328) (hbase : base ≤ w.heap.size)
    (h : ∀ A' cap' w', Own w' base e size A' (n + m) cap' (xs ++ news) → w.grownBy w' (A.map (·.block)) → (A' = A ∨ A' = some ⟨w.heap.size, 0, none⟩) → wpListIn F nn P ops Q rest (a.put o.dst (.slice A' (n + m) cap')) w') :
    wpListIn F nn P ops Q (o :: rest) a w := by
  refine wpListIn_plain hgd fun K hK => ?_
  obtain ⟨A', cap', w', hr, h2, h3, h4⟩ := run_append_any (P := P) w o.type EE hown hR (c := c) h1 h63 hbytes hbase
  unfold Oper.wpIn
  refine ⟨?_, ?_⟩
  · simp [Oper.about, ho, resolve, Target.leads, Sem.run_pure]
  · rw [Oper.semAt_plain F _ _ (by rw [ho]; intro c hc'; cases hc')]
    unfold execOp
    simp only [ho, resolve, invoke, builtin, Sem.run_bind, Sem.run_pure, Result.andThen_ok, List.map_toArray, List.map_cons, List.map_nil, hs, hx, hr]
    exact hK _ _ (h A' cap' w' h2 h3 h4)

/-- What shutting the marks leaves: all that is no block of deferred calls. -/
structure ShutD (B : Nat) (w w' : World) : Prop where
  below : Below B w w'
  others : ∀ (b : Nat) o, w.heap[b]? = some o → (∀ x, o ≠ .deferred x) → w'.heap[b]? = some o
theorem ShutD.refl (B : Nat) (w : World) : ShutD B w w := ⟨Below.refl _ _, fun _ _ h _ => h⟩
theorem ShutD.trans {B : Nat} {w w' w'' : World} (h : ShutD B w w') (k : ShutD B w' w'') : ShutD B w w'' := ⟨h.below.trans k.below, fun b o e hn => k.others b o (h.others b o e hn) hn⟩
theorem ShutD.blk {B g : Nat} {w w' : World} {t : TypeId} {cs : Array Value} (h : ShutD B w w') (b : Blk w g t cs) : Blk w' g t cs := h.others _ _ b (fun x e => by cases e)
theorem ShutD.own {B base n cap size : Nat} {w w' : World} {e : TypeId} {A : Option Addr} {xs : List Value} (h : ShutD B w w') (o : Own w base e size A n cap xs) : Own w' base e size A n cap xs := by
  refine ⟨o.1, ?_⟩
  rcases o.2 with h' | ⟨g, cap', cur, hv, hb, hg, hr⟩
  · exact .inl h'
  · exact .inr ⟨g, cap', cur, hv, hb, h.others g _ hg (fun x e => by cases e), hr⟩
theorem ShutD.reads {B B' size n : Nat} {w w' : World} {A : Option Addr} {xs : List Value} (h : ShutD B w w') (r : Reads w B' size A n xs) : Reads w' B' size A n xs := by
  rcases Nat.eq_zero_or_pos size with h0 | h0
  · refine ⟨r.1, fun hn => ?_⟩
    obtain ⟨ad, e, hb, hc⟩ := r.2 hn
    refine ⟨ad, e, hb, fun j u hu => ?_⟩
    have := (List.getElem?_eq_some_iff.1 hu).1
    rw [r.1, h0] at this
    omega
  · refine ⟨r.1, fun hn => ?_⟩
    obtain ⟨ad, e, hb, hc⟩ := r.2 hn
    refine ⟨ad, e, hb, fun j u hu => ?_⟩
    have h1 := hc j u hu
    obtain ⟨o, ho, hcell⟩ := cells_of_cell h1
    rw [← h1]
    refine World.cell?_of_block ?_
    rw [ho]
    exact h.others _ _ ho (fun x e => by subst e; simp [Obj.isCells] at hcell)

theorem shutD_put {B r : Nat} {w : World} (hB : B ≤ r) (h : w.heap[r]? = some (.deferred (some []))) : ShutD B w (w.putObj r (.deferred none)) := by
  have hlt := (Array.getElem?_eq_some_iff.1 h).1
  refine ⟨(Below.refl B w).grown (grownBy_putObj' w r (.deferred none)) (by omega) (fun k e => by cases e; exact hB), fun b o e hn => ?_⟩
  have hne : b ≠ r := by
    intro e'
    subst e'
    rw [h] at e
    cases e
    exact hn _ rfl
  exact (World.putObj_heap_other hne).trans e

theorem leaves_marksD {F : Fence} {n : Nat} {P : Program} {fn : Func} {tmps : Array Value} {R : Ending → World → Prop} {B : Nat} : ∀ (ds : List Deferred) (w : World), Marks B w ds →
    (∀ w', ShutD B w w' → LeavesIn F n P fn tmps R [] .returning w') → LeavesInM F n P fn tmps R ds .returning w
  | [], w, _, h => h w (ShutD.refl _ _)
  | d :: ds, w, ⟨⟨r, h1, h2, h3, h4⟩, h5⟩, h => by
    refine ⟨by simp, .inl ⟨r, _, h2, run_takeDeferred h3, ?_⟩⟩
    refine leaves_marksD ds _ (h5.keep fun d' hd r' hr h0 => ?_) (fun w' hs => h w' ((shutD_put h1 h3).trans hs))
    have hne : r' ≠ r := by
      intro e
      subst e
      exact h4 d' hd hr
    exact (World.putObj_heap_other hne).trans h0
end Go.Proofs.YtahkjagjcogeiaaDoor
/- A scope within a fence: where no jump to a label is made. -/
namespace Go.Proofs.YtahkjagjcogeiaaDoor
open Go.RowKit
set_option linter.unusedVariables false

section
variable {F : Fence} {n : Nat} {P : Program} {b : Frame} {a : Act} {k : List Item} {cs : List Frame} {w : World} {Q : Exit → Act → World → Prop}
theorem stepR_scope {c : Code} : step P (lone (b.atR a (.code (.scope c) :: k)) cs w) = .next (lone (b.atR a (.code c :: .inScope c :: k)) cs w) :=
  step_lone_go (by simp [stepG, stepG.exec, Frame.atR])
theorem stepR_inScope {c : Code} : step P (lone (b.atR a (.inScope c :: k)) cs w) = .next (lone (b.atR a k) cs w) :=
  step_lone_go (by simp [stepG, stepG.exec, Frame.atR])
theorem wpIn_scope_straight {c : Code} (h : c.wpIn F n P (Exit.noGoto Q) a w) : (Code.scope c).wpIn F n P Q a w := by
  intro b k cs hro hb hr
  have h0 : (lone (b.atR a (.code (.scope c) :: k)) cs w).fenced P F := fenced_calm hb hr rfl
  obtain ⟨e, a₁, w₁, hq, harr⟩ := h b (.inScope c :: k) cs hro hb hr
  cases e with
  | normal => exact ⟨.normal, a₁, w₁, hq, .head h0 stepR_scope (StepsIn.trans harr (.one (fenced_calm hb hr rfl) stepR_inScope))⟩
  | exit id =>
    have hx : exitTo id (.inScope c :: k) = exitTo id k := by simp [exitTo]
    exact ⟨.exit id, a₁, w₁, hq, fun k' hk => .head h0 stepR_scope (harr.1 k' (by rw [hx]; exact hk)),
      fun hr' hk => let ⟨k₁, h1, h2⟩ := harr.2 hr' (by rw [hx]; exact hk); ⟨k₁, h1, .head h0 stepR_scope h2⟩⟩
  | goto l => exact hq.elim
  | ret => exact ⟨_, a₁, w₁, hq, .of_steps (.one h0 stepR_scope) harr⟩
  | panic ch => exact ⟨_, a₁, w₁, hq, .of_steps (.one h0 stepR_scope) harr⟩
  | outgrown => exact ⟨_, a₁, w₁, hq, .of_steps (.one h0 stepR_scope) harr⟩
end
end Go.Proofs.YtahkjagjcogeiaaDoor
